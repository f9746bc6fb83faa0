/- Texts of this claim laid together: Awake10, Rf10b, Rf10c, Rf4c, Rf4d, Rf4e, Rf4f, Rf4g, Rf4h, Do, Rf10d, Ref03b, Ref03c, Rf10a, Image, Awake08, Awk08, Jk5. -/
import Derived.Test.YtbpdbgcndfcilaaBReplayTells4
import Derived.Test.YtbpdbgcndfcilaaBReplayTells2
import Derived.Test.YtbpdbgcndfcilaaBReplayTells3
import Derived.Test.YtbpdbgcndfcilaaBReplayTells1
namespace Go.Proofs.Ytbpdbgcndfcilaa
open Go.RowKit Go.Sl
set_option maxRecDepth 20000

theorem law_made (n seed : Int) (I : Imm) : Tri Try.prog 49 #[.int .i64 n, .int .i64 seed] I [] fun v J _ => ∃ a, v = .agg #[.int .i64 n, .slice a 4096 4096] ∧ Rds J a 4096 (bts (madeL seed 4096)) := by
  refine Tri.of (args := [.int .i64 n, .int .i64 seed]) tabOk Try.func49 rfl (by kernel_rfl) (by kernel_rfl) ?_
  conv => whnf
  intro b
  repeat (first
    | refine LoadD.own 0 rfl _ rfl rfl ?_
    | refine LoadP.at 0 rfl _ rfl rfl ?_
    | refine StoreD.st 0 rfl rfl rfl ?_
    | refine CmpD.yes rfl ?_
    | refine CmpD.yes (by decide) ?_
    | refine CmpD.no (by decide) ?_
    | refine Chk.mk ⟨rfl, trivial⟩ ?_
    | refine Chk.mk ⟨rfl, rfl, trivial⟩ ?_
    | refine Chk.mk ⟨rfl, rfl, rfl, trivial⟩ ?_
    | refine Chk.mk ⟨rfl, rfl, rfl, rfl, trivial⟩ ?_
    | refine Chk.mk ⟨rfl, rfl, rfl, rfl, rfl, trivial⟩ ?_
    | refine Chk.mk ⟨rfl, rfl, rfl, rfl, rfl, rfl, trivial⟩ ?_)
  refine Tri.free (made seed 4096 (by omega) I) ?_
  rintro v J _ hJ ⟨a, rfl, hr⟩
  repeat (first
    | refine LoadD.own 0 rfl _ rfl rfl ?_
    | refine LoadP.at 0 rfl _ rfl rfl ?_
    | refine StoreD.st 0 rfl rfl rfl ?_
    | refine CmpD.yes rfl ?_
    | refine CmpD.yes (by decide) ?_
    | refine CmpD.no (by decide) ?_
    | refine Chk.mk ⟨rfl, trivial⟩ ?_
    | refine Chk.mk ⟨rfl, rfl, trivial⟩ ?_
    | refine Chk.mk ⟨rfl, rfl, rfl, trivial⟩ ?_
    | refine Chk.mk ⟨rfl, rfl, rfl, rfl, trivial⟩ ?_
    | refine Chk.mk ⟨rfl, rfl, rfl, rfl, rfl, trivial⟩ ?_
    | refine Chk.mk ⟨rfl, rfl, rfl, rfl, rfl, rfl, trivial⟩ ?_)
  exact Done.mk ⟨a, rfl, hr⟩
theorem sup_cmp {o : Oper} {ρ : Env} {yt : TypeId} {x y : Operand} {K : Value → Prop} {op : BinOp} (p q : Sup) (ho : o.op = .binOp op 56 x y yt) (hop : op = .eql ∨ op = .neq)
    (hx : ρ.ev x = p.v) (hy : ρ.ev y = q.v) (h : CmpD ([p.blocks, p.epoch, p.seq, p.tail] = [q.blocks, q.epoch, q.seq, q.tail]) fun t => boolF (xor (op == .neq) t) fun t => K (.bool t)) : PureD Try.prog o ρ K :=
  eq_ints (k := .i64) tabOk [p.blocks, p.epoch, p.seq, p.tail] [q.blocks, q.epoch, q.seq, q.tail] ho hop rfl hx hy (by kernel_rfl) (by kernel_rfl) (by kernel_rfl) rfl rfl h
theorem right_of (e s : Int) (he : 1 ≤ e ∧ e ≤ 8388608) (hs : 1 ≤ s ∧ s ≤ 549755813888) : RightS (superOf e s) := ⟨by show (64 : Int) ≤ 64; decide, by show (64 : Int) ≤ 512; decide, he.1, he.2, hs.1, hs.2, by show (0 : Int) ≤ 0; decide, by show (0 : Int) ≤ 511; decide⟩
theorem get_supL {s : Sup} (h : RightS s) : getS (supL s) = some s := getS_some.2 ⟨h, rfl⟩
theorem sortI_of {l m : List Int} (h : l.Perm m) (hm : m.Pairwise (fun a b => a ≤ b)) : sortI l = m :=
  List.Perm.eq_of_pairwise (le := fun a b => a ≤ b) (fun _ _ _ _ h1 h2 => Int.le_antisymm h1 h2) (sortI_le l) hm ((sortI_perm l).trans h)
theorem home_ex (x y z : Dat) : homeP [(40, x), (30, y), (40, z)] = [(30, y), (40, z)] := by
  have h : lastP [(40, x), (30, y), (40, z)] = [(40, z), (30, y)] := by simp [lastP, pput]
  unfold homeP
  rw [h, show List.map Prod.fst [((40 : Int), z), (30, y)] = [40, 30] from rfl, sortI_of (m := [30, 40]) (List.Perm.swap _ _ _) (by decide)]
  rfl
set_option maxHeartbeats 4000000 in
theorem awake10 (I : Imm) (S : St) : Tri Try.prog 54 #[] I S fun v _ _ => v = .bool true := by
  refine Tri.free (Q := fun v _ _ => v = .bool true) ?_ (fun v J _ _ h => h)
  refine Tri.of (args := []) tabOk Try.func54 rfl (by kernel_rfl) (by kernel_rfl) ?_
  refine Tri.free (law_bytes 1 5 (right_of _ _ (by decide) (by decide)) I) ?_
  rintro v J _ hJ ⟨a1, c1, rfl, h1⟩
  refine Tri.free (law_bytes 2 1 (right_of _ _ (by decide) (by decide)) J) ?_
  rintro v J2 _ hJ2 ⟨a2, c2, rfl, h2⟩
  refine Tri.free (replay_Choose (h1.mono hJ2) h2 (by decide) (by decide)) ?_
  rintro v J3 _ hJ3 ⟨rfl, rfl⟩
  rw [get_supL (right_of _ _ (by decide) (by decide)), get_supL (right_of _ _ (by decide) (by decide))]
  rw [show chooseP (some (superOf 1 5)) (some (superOf 2 1)) = (superOf 2 1, 1, true) from by rw [chooseP, if_neg (by decide)]]
  conv => whnf
  intro b5
  repeat (first
    | refine LoadD.own 0 rfl _ rfl rfl ?_
    | refine LoadD.own 1 rfl _ rfl rfl ?_
    | refine LoadP.at 0 rfl _ rfl rfl ?_
    | refine LoadP.at 1 rfl _ rfl rfl ?_
    | refine StoreD.st 0 rfl rfl rfl ?_
    | refine StoreD.st 1 rfl rfl rfl ?_
    | refine CmpD.yes rfl ?_
    | refine CmpD.yes (by decide) ?_
    | refine CmpD.no (by decide) ?_
    | refine Chk.mk ⟨rfl, trivial⟩ ?_
    | refine Chk.mk ⟨rfl, rfl, trivial⟩ ?_
    | refine Chk.mk ⟨rfl, rfl, rfl, trivial⟩ ?_
    | refine Chk.mk ⟨rfl, rfl, rfl, rfl, trivial⟩ ?_
    | refine Chk.mk ⟨rfl, rfl, rfl, rfl, rfl, trivial⟩ ?_
    | refine Chk.mk ⟨rfl, rfl, rfl, rfl, rfl, rfl, trivial⟩ ?_)
  refine Tri.free (law_layout64 _) ?_
  rintro v J4 _ hJ4 ⟨rfl, rfl⟩
  refine Tri.free (law_made 40 1 _) ?_
  rintro v J5 _ hJ5 ⟨aM1, rfl, m1⟩
  refine Tri.free (law_made 30 2 _) ?_
  rintro v J6 _ hJ6 ⟨aM2, rfl, m2⟩
  conv => whnf
  intro b17
  repeat (first
    | refine LoadD.own 0 rfl _ rfl rfl ?_
    | refine LoadD.own 1 rfl _ rfl rfl ?_
    | refine LoadP.at 0 rfl _ rfl rfl ?_
    | refine LoadP.at 1 rfl _ rfl rfl ?_
    | refine StoreD.st 0 rfl rfl rfl ?_
    | refine StoreD.st 1 rfl rfl rfl ?_
    | refine CmpD.yes rfl ?_
    | refine CmpD.yes (by decide) ?_
    | refine CmpD.no (by decide) ?_
    | refine Chk.mk ⟨rfl, trivial⟩ ?_
    | refine Chk.mk ⟨rfl, rfl, trivial⟩ ?_
    | refine Chk.mk ⟨rfl, rfl, rfl, trivial⟩ ?_
    | refine Chk.mk ⟨rfl, rfl, rfl, rfl, trivial⟩ ?_
    | refine Chk.mk ⟨rfl, rfl, rfl, rfl, rfl, trivial⟩ ?_
    | refine Chk.mk ⟨rfl, rfl, rfl, rfl, rfl, rfl, trivial⟩ ?_)
  refine Tri.free (law_made 40 3 _) ?_
  rintro v J7 _ hJ7 ⟨aM3, rfl, m3⟩
  conv => whnf
  intro b20
  repeat (first
    | refine LoadD.own 0 rfl _ rfl rfl ?_
    | refine LoadD.own 1 rfl _ rfl rfl ?_
    | refine LoadP.at 0 rfl _ rfl rfl ?_
    | refine LoadP.at 1 rfl _ rfl rfl ?_
    | refine StoreD.st 0 rfl rfl rfl ?_
    | refine StoreD.st 1 rfl rfl rfl ?_
    | refine CmpD.yes rfl ?_
    | refine CmpD.yes (by decide) ?_
    | refine CmpD.no (by decide) ?_
    | refine Chk.mk ⟨rfl, trivial⟩ ?_
    | refine Chk.mk ⟨rfl, rfl, trivial⟩ ?_
    | refine Chk.mk ⟨rfl, rfl, rfl, trivial⟩ ?_
    | refine Chk.mk ⟨rfl, rfl, rfl, rfl, trivial⟩ ?_
    | refine Chk.mk ⟨rfl, rfl, rfl, rfl, rfl, trivial⟩ ?_
    | refine Chk.mk ⟨rfl, rfl, rfl, rfl, rfl, rfl, trivial⟩ ?_)
  conv => whnf
  intro b22
  have im1 : ImgR J7 [] ⟨40, aM1, 4096, 4096, madeL 1 4096⟩ := ⟨(m1.mono (Imm.le_trans hJ6 hJ7)).slC⟩
  have im2 : ImgR J7 [] ⟨30, aM2, 4096, 4096, madeL 2 4096⟩ := ⟨(m2.mono hJ7).slC⟩
  have im3 : ImgR J7 [] ⟨40, aM3, 4096, 4096, madeL 3 4096⟩ := ⟨m3.slC⟩
  refine Tri.mono (home_any (l := [⟨0, 0, some ⟨b17, 0, none⟩, 2, [⟨40, aM1, 4096, 4096, madeL 1 4096⟩, ⟨30, aM2, 4096, 4096, madeL 2 4096⟩]⟩, ⟨0, 0, some ⟨b20, 0, none⟩, 1, [⟨40, aM3, 4096, 4096, madeL 3 4096⟩]⟩]) ?_ (by simp) (by simp [allI]) (by intro g hg; simp [allI] at hg; rcases hg with rfl | rfl | rfl <;> simp) (layOf 64)) ?_
  · refine ⟨⟨rfl, .inr ⟨b22, 0, rfl, _, _, _, .own 3 List.mem_cons_self, rfl, rfl⟩⟩, ?_⟩
    intro g hg
    simp only [List.mem_cons, List.not_mem_nil, or_false] at hg
    rcases hg with rfl | rfl
    · refine ⟨⟨⟨rfl, .inr ⟨b17, 0, rfl, _, _, _, .own 1 List.mem_cons_self, rfl, rfl⟩⟩, ?_⟩, by simp⟩
      intro g hg
      simp only [List.mem_cons, List.not_mem_nil, or_false] at hg
      rcases hg with rfl | rfl
      · exact im1.mores _
      · exact im2.mores _
    · refine ⟨⟨⟨rfl, .inr ⟨b20, 0, rfl, _, _, _, .own 2 List.mem_cons_self, rfl, rfl⟩⟩, ?_⟩, by simp⟩
      intro g hg
      simp only [List.mem_cons, List.not_mem_nil, or_false] at hg
      subst hg
      exact im3.mores _
  have hX : 64 ≤ (layOf 64).b ∧ (layOf 64).b ≤ 512 ∧ layOf 64 = layOf (layOf 64).b.toNat := ⟨by decide, by decide, rfl⟩
  have hP : allP [⟨0, 0, some ⟨b17, 0, none⟩, 2, [⟨40, aM1, 4096, 4096, madeL 1 4096⟩, ⟨30, aM2, 4096, 4096, madeL 2 4096⟩]⟩, ⟨0, 0, some ⟨b20, 0, none⟩, 1, [⟨40, aM3, 4096, 4096, madeL 3 4096⟩]⟩] = [(40, madeL 1 4096), (30, madeL 2 4096), (40, madeL 3 4096)] := rfl
  have hL : layL ((64 : Nat) : Int) = 16 := layL_64'
  have hok : HomeOk (layOf 64) [(40, madeL 1 4096), (30, madeL 2 4096), (40, madeL 3 4096)] := by
    intro g hg
    have e1 : (layOf 64).bi = 18 := by show 2 + layL ((64 : Nat) : Int) = 18; rw [hL]; rfl
    have e2 : (layOf 64).b = 64 := rfl
    rw [e1, e2]
    simp only [List.mem_cons, List.not_mem_nil, or_false] at hg
    rcases hg with rfl | rfl | rfl <;> exact ⟨by decide, by decide⟩
  rw [hP]
  rintro v J8 S8 hJ8 (⟨h, _⟩ | ⟨_, h, _⟩ | ⟨_, _, aO, capO, chO, chs, outs, rfl, hO, hcs, hpr, rfl⟩)
  · exact absurd hX h
  · exact absurd hok h
  rw [home_ex] at hpr
  refine CodeF.sched [[], [], [0, 1], [0, 1, 2], [0, 1, 2, 3], [0, 1, 2, 3, 4], [0, 1, 2, 3, 4, 5], [0, 1, 2, 3, 4, 5, 6], [0, 1, 2, 3, 4, 5, 6, 7], [0, 1, 2, 3, 4, 5, 6, 7, 8], [0, 1, 2, 3, 4, 5, 6, 7, 8, 9], [0, 1, 2, 3, 4, 5, 6, 7, 8, 9, 10], [0, 1, 2, 3, 4, 5, 6, 7, 8, 9, 10, 11], [0, 1, 2, 3, 4, 5, 6, 7, 8, 9, 10, 11, 12], [0, 1, 2, 3, 4, 5, 6, 7, 8, 9, 10, 11, 12, 13], [0, 1, 2, 3, 4, 5, 6, 7, 8, 9, 10, 11, 12, 13, 14], [0, 1, 2, 3, 4, 5, 6, 7, 8, 9, 10, 11, 12, 13, 14], [0, 1, 2, 3, 4, 5, 6, 7, 8, 9, 10, 11, 12, 13, 14, 16], [0, 1, 2, 3, 4, 5, 6, 7, 8, 9, 10, 11, 12, 13, 14, 16, 17], [0, 1, 2, 3, 4, 5, 6, 7, 8, 9, 10, 11, 12, 13, 14, 15, 16, 17, 18], [0, 1, 2, 3, 4, 5, 6, 7, 8, 9, 10, 11, 12, 13, 14, 15, 16, 17, 18, 19], [0, 1, 2, 3, 4, 5, 6, 7, 8, 9, 10, 11, 12, 13, 14, 15, 16, 17, 18, 19, 20]] [0, 1, 2, 3, 4, 5, 6, 7, 8, 9, 10, 11, 12, 13, 14, 15, 16, 17, 18, 19, 20, 21] (by kernel_rfl) ?_
  repeat (first
    | refine LoadD.own 0 rfl _ rfl rfl ?_
    | refine LoadD.own 1 rfl _ rfl rfl ?_
    | refine LoadP.at 0 rfl _ rfl rfl ?_
    | refine LoadP.at 1 rfl _ rfl rfl ?_
    | refine StoreD.st 0 rfl rfl rfl ?_
    | refine StoreD.st 1 rfl rfl rfl ?_
    | refine CmpD.yes rfl ?_
    | refine CmpD.yes (by decide) ?_
    | refine CmpD.no (by decide) ?_
    | refine Chk.mk ⟨rfl, trivial⟩ ?_
    | refine Chk.mk ⟨rfl, rfl, trivial⟩ ?_
    | refine Chk.mk ⟨rfl, rfl, rfl, trivial⟩ ?_
    | refine Chk.mk ⟨rfl, rfl, rfl, rfl, trivial⟩ ?_
    | refine Chk.mk ⟨rfl, rfl, rfl, rfl, rfl, trivial⟩ ?_
    | refine Chk.mk ⟨rfl, rfl, rfl, rfl, rfl, rfl, trivial⟩ ?_)
  refine Tri.free (law_of 2 1 J8) ?_
  rintro v J9 _ hJ9 ⟨rfl, rfl⟩
  repeat (first
    | refine LoadD.own 0 rfl _ rfl rfl ?_
    | refine LoadD.own 1 rfl _ rfl rfl ?_
    | refine LoadP.at 0 rfl _ rfl rfl ?_
    | refine LoadP.at 1 rfl _ rfl rfl ?_
    | refine StoreD.st 0 rfl rfl rfl ?_
    | refine StoreD.st 1 rfl rfl rfl ?_
    | refine CmpD.yes rfl ?_
    | refine CmpD.yes (by decide) ?_
    | refine CmpD.no (by decide) ?_
    | refine Chk.mk ⟨rfl, trivial⟩ ?_
    | refine Chk.mk ⟨rfl, rfl, trivial⟩ ?_
    | refine Chk.mk ⟨rfl, rfl, rfl, trivial⟩ ?_
    | refine Chk.mk ⟨rfl, rfl, rfl, rfl, trivial⟩ ?_
    | refine Chk.mk ⟨rfl, rfl, rfl, rfl, rfl, trivial⟩ ?_
    | refine Chk.mk ⟨rfl, rfl, rfl, rfl, rfl, rfl, trivial⟩ ?_)
  refine sup_cmp (superOf 2 1) (superOf 2 1) rfl (.inl rfl) rfl rfl ?_
  repeat (first
    | refine LoadD.own 0 rfl _ rfl rfl ?_
    | refine LoadD.own 1 rfl _ rfl rfl ?_
    | refine LoadP.at 0 rfl _ rfl rfl ?_
    | refine LoadP.at 1 rfl _ rfl rfl ?_
    | refine StoreD.st 0 rfl rfl rfl ?_
    | refine StoreD.st 1 rfl rfl rfl ?_
    | refine CmpD.yes rfl ?_
    | refine CmpD.yes (by decide) ?_
    | refine CmpD.no (by decide) ?_
    | refine Chk.mk ⟨rfl, trivial⟩ ?_
    | refine Chk.mk ⟨rfl, rfl, trivial⟩ ?_
    | refine Chk.mk ⟨rfl, rfl, rfl, trivial⟩ ?_
    | refine Chk.mk ⟨rfl, rfl, rfl, rfl, trivial⟩ ?_
    | refine Chk.mk ⟨rfl, rfl, rfl, rfl, rfl, trivial⟩ ?_
    | refine Chk.mk ⟨rfl, rfl, rfl, rfl, rfl, rfl, trivial⟩ ?_)
  refine Tri.free (law_made 30 2 _) ?_
  rintro v J10 _ hJ10 ⟨aN2, rfl, n2⟩
  repeat (first
    | refine LoadD.own 0 rfl _ rfl rfl ?_
    | refine LoadD.own 1 rfl _ rfl rfl ?_
    | refine LoadP.at 0 rfl _ rfl rfl ?_
    | refine LoadP.at 1 rfl _ rfl rfl ?_
    | refine StoreD.st 0 rfl rfl rfl ?_
    | refine StoreD.st 1 rfl rfl rfl ?_
    | refine CmpD.yes rfl ?_
    | refine CmpD.yes (by decide) ?_
    | refine CmpD.no (by decide) ?_
    | refine Chk.mk ⟨rfl, trivial⟩ ?_
    | refine Chk.mk ⟨rfl, rfl, trivial⟩ ?_
    | refine Chk.mk ⟨rfl, rfl, rfl, trivial⟩ ?_
    | refine Chk.mk ⟨rfl, rfl, rfl, rfl, trivial⟩ ?_
    | refine Chk.mk ⟨rfl, rfl, rfl, rfl, rfl, trivial⟩ ?_
    | refine Chk.mk ⟨rfl, rfl, rfl, rfl, rfl, rfl, trivial⟩ ?_)
  refine Tri.free (law_made 40 3 _) ?_
  rintro v J11 _ hJ11 ⟨aN3, rfl, n3⟩
  repeat (first
    | refine LoadD.own 0 rfl _ rfl rfl ?_
    | refine LoadD.own 1 rfl _ rfl rfl ?_
    | refine LoadP.at 0 rfl _ rfl rfl ?_
    | refine LoadP.at 1 rfl _ rfl rfl ?_
    | refine StoreD.st 0 rfl rfl rfl ?_
    | refine StoreD.st 1 rfl rfl rfl ?_
    | refine CmpD.yes rfl ?_
    | refine CmpD.yes (by decide) ?_
    | refine CmpD.no (by decide) ?_
    | refine Chk.mk ⟨rfl, trivial⟩ ?_
    | refine Chk.mk ⟨rfl, rfl, trivial⟩ ?_
    | refine Chk.mk ⟨rfl, rfl, rfl, trivial⟩ ?_
    | refine Chk.mk ⟨rfl, rfl, rfl, rfl, trivial⟩ ?_
    | refine Chk.mk ⟨rfl, rfl, rfl, rfl, rfl, trivial⟩ ?_
    | refine Chk.mk ⟨rfl, rfl, rfl, rfl, rfl, rfl, trivial⟩ ?_)
  conv => whnf
  intro b44
  repeat (first
    | refine LoadD.own 0 rfl _ rfl rfl ?_
    | refine LoadD.own 1 rfl _ rfl rfl ?_
    | refine LoadP.at 0 rfl _ rfl rfl ?_
    | refine LoadP.at 1 rfl _ rfl rfl ?_
    | refine StoreD.st 0 rfl rfl rfl ?_
    | refine StoreD.st 1 rfl rfl rfl ?_
    | refine CmpD.yes rfl ?_
    | refine CmpD.yes (by decide) ?_
    | refine CmpD.no (by decide) ?_
    | refine Chk.mk ⟨rfl, trivial⟩ ?_
    | refine Chk.mk ⟨rfl, rfl, trivial⟩ ?_
    | refine Chk.mk ⟨rfl, rfl, rfl, trivial⟩ ?_
    | refine Chk.mk ⟨rfl, rfl, rfl, rfl, trivial⟩ ?_
    | refine Chk.mk ⟨rfl, rfl, rfl, rfl, rfl, trivial⟩ ?_
    | refine Chk.mk ⟨rfl, rfl, rfl, rfl, rfl, rfl, trivial⟩ ?_)
  refine Tri.mono (same_imgs (g1 := outs) (g2 := [⟨30, aN2, 4096, 4096, madeL 2 4096⟩, ⟨40, aN3, 4096, 4096, madeL 3 4096⟩]) ?_ ?_ ?_) ?_
  · exact imgsR_own [_, _, _, _] hO hcs [_]
  · refine ⟨⟨rfl, .inr ⟨b44, 0, rfl, _, _, _, .own _ (mem_getD (last_get ([_, _, _, _] ++ (chO :: chs)) _) (List.mem_singleton.2 rfl)), rfl, rfl⟩⟩, ?_⟩
    intro g hg
    simp only [List.mem_cons, List.not_mem_nil, or_false] at hg
    rcases hg with rfl | rfl
    · exact ⟨(n2.mono hJ11).slC⟩
    · exact ⟨n3.slC⟩
  · have := congrArg List.length hpr
    simp at this; omega
  rintro v J12 S12 hJ12 ⟨rfl, rfl, rfl⟩
  rw [decide_eq_true (show outs.map Img.pr = List.map Img.pr [⟨30, aN2, 4096, 4096, madeL 2 4096⟩, ⟨40, aN3, 4096, 4096, madeL 3 4096⟩] from hpr)]
  exact Done.mk rfl
end Go.Proofs.Ytbpdbgcndfcilaa
namespace Go.Proofs.Ytbpdbgcndfcilaa
open Go.RowKit Go.Sl
set_option maxRecDepth 20000

def LayOk (x : Lay) : Prop := 64 ≤ x.b ∧ x.b ≤ 512 ∧ x = layOf x.b.toNat
theorem r5_Right (x : Lay) (I : Imm) : Tri Try.prog 116 #[x.v] I [] fun v J _ => I = J ∧ ∃ b, v = .bool b ∧ (b = true ↔ LayOk x) := by
  refine Tri.of (args := [x.v]) tabOk Try.func116 rfl (by kernel_rfl) (by kernel_rfl) ?_
  conv => whnf
  intro b1
  repeat (first
    | refine LoadD.own 0 rfl _ rfl rfl ?_
    | refine LoadD.own 1 rfl _ rfl rfl ?_
    | refine LoadP.at 0 rfl _ rfl rfl ?_
    | refine LoadP.at 1 rfl _ rfl rfl ?_
    | refine StoreD.st 0 rfl rfl rfl ?_
    | refine StoreD.st 1 rfl rfl rfl ?_
    | refine CmpD.yes rfl ?_
    | refine CmpD.yes (by decide) ?_
    | refine CmpD.no (by decide) ?_
    | refine Chk.mk ⟨rfl, trivial⟩ ?_
    | refine Chk.mk ⟨rfl, rfl, trivial⟩ ?_
    | refine Chk.mk ⟨rfl, rfl, rfl, trivial⟩ ?_
    | refine Chk.mk ⟨rfl, rfl, rfl, rfl, trivial⟩ ?_
    | refine Chk.mk ⟨rfl, rfl, rfl, rfl, rfl, trivial⟩ ?_
    | refine Chk.mk ⟨rfl, rfl, rfl, rfl, rfl, rfl, trivial⟩ ?_)
  refine Tri.free (ref_Of x.b I) ?_
  rintro v J _ hJ ⟨rfl, rfl⟩
  by_cases hb : x.b < 64 ∨ 512 < x.b
  · rw [layA, if_pos hb]
    conv => whnf
    intro b3
    repeat (first
      | refine LoadD.own 0 rfl _ rfl rfl ?_
      | refine LoadD.own 1 rfl _ rfl rfl ?_
      | refine LoadD.own 2 rfl _ rfl rfl ?_
      | refine LoadP.at 0 rfl _ rfl rfl ?_
      | refine LoadP.at 1 rfl _ rfl rfl ?_
      | refine LoadP.at 2 rfl _ rfl rfl ?_
      | refine StoreD.st 0 rfl rfl rfl ?_
      | refine StoreD.st 1 rfl rfl rfl ?_
      | refine StoreD.st 2 rfl rfl rfl ?_
      | refine CmpD.yes rfl ?_
      | refine CmpD.yes (by decide) ?_
      | refine CmpD.no (by decide) ?_
      | refine Chk.mk ⟨rfl, trivial⟩ ?_
      | refine Chk.mk ⟨rfl, rfl, trivial⟩ ?_
      | refine Chk.mk ⟨rfl, rfl, rfl, trivial⟩ ?_
      | refine Chk.mk ⟨rfl, rfl, rfl, rfl, trivial⟩ ?_
      | refine Chk.mk ⟨rfl, rfl, rfl, rfl, rfl, trivial⟩ ?_
      | refine Chk.mk ⟨rfl, rfl, rfl, rfl, rfl, rfl, trivial⟩ ?_)
    exact Done.mk ⟨rfl, false, rfl, by simp [LayOk]; omega⟩
  rw [layA, if_neg hb]
  conv => whnf
  intro b3
  repeat (first
    | refine LoadD.own 0 rfl _ rfl rfl ?_
    | refine LoadD.own 1 rfl _ rfl rfl ?_
    | refine LoadD.own 2 rfl _ rfl rfl ?_
    | refine LoadP.at 0 rfl _ rfl rfl ?_
    | refine LoadP.at 1 rfl _ rfl rfl ?_
    | refine LoadP.at 2 rfl _ rfl rfl ?_
    | refine StoreD.st 0 rfl rfl rfl ?_
    | refine StoreD.st 1 rfl rfl rfl ?_
    | refine StoreD.st 2 rfl rfl rfl ?_
    | refine CmpD.yes rfl ?_
    | refine CmpD.yes (by decide) ?_
    | refine CmpD.no (by decide) ?_
    | refine Chk.mk ⟨rfl, trivial⟩ ?_
    | refine Chk.mk ⟨rfl, rfl, trivial⟩ ?_
    | refine Chk.mk ⟨rfl, rfl, rfl, trivial⟩ ?_
    | refine Chk.mk ⟨rfl, rfl, rfl, rfl, trivial⟩ ?_
    | refine Chk.mk ⟨rfl, rfl, rfl, rfl, rfl, trivial⟩ ?_
    | refine Chk.mk ⟨rfl, rfl, rfl, rfl, rfl, rfl, trivial⟩ ?_)
  have hx : ((x.b.toNat : Nat) : Int) = x.b := by omega
  refine lay_cmp (layOf x.b.toNat) x rfl (.inl rfl) ?_ rfl ?_
  · show Value.agg _ = _
    unfold layOf
    rw [hx]; rfl
  refine CmpD.split (fun c1 => ?_) (fun c1 => ?_)
  · repeat (first
      | refine LoadD.own 0 rfl _ rfl rfl ?_
      | refine LoadD.own 1 rfl _ rfl rfl ?_
      | refine LoadD.own 2 rfl _ rfl rfl ?_
      | refine LoadP.at 0 rfl _ rfl rfl ?_
      | refine LoadP.at 1 rfl _ rfl rfl ?_
      | refine LoadP.at 2 rfl _ rfl rfl ?_
      | refine StoreD.st 0 rfl rfl rfl ?_
      | refine StoreD.st 1 rfl rfl rfl ?_
      | refine StoreD.st 2 rfl rfl rfl ?_
      | refine CmpD.yes rfl ?_
      | refine CmpD.yes (by decide) ?_
      | refine CmpD.no (by decide) ?_
      | refine Chk.mk ⟨rfl, trivial⟩ ?_
      | refine Chk.mk ⟨rfl, rfl, trivial⟩ ?_
      | refine Chk.mk ⟨rfl, rfl, rfl, trivial⟩ ?_
      | refine Chk.mk ⟨rfl, rfl, rfl, rfl, trivial⟩ ?_
      | refine Chk.mk ⟨rfl, rfl, rfl, rfl, rfl, trivial⟩ ?_
      | refine Chk.mk ⟨rfl, rfl, rfl, rfl, rfl, rfl, trivial⟩ ?_)
    refine Done.mk ⟨rfl, true, rfl, ?_⟩
    simp only [true_iff]
    refine ⟨by omega, by omega, ?_⟩
    simp only [List.cons.injEq, and_true] at c1
    obtain ⟨q1, q2, q3, q4, q5, q6, q7⟩ := c1
    obtain ⟨x1, x2, x3, x4, x5, x6, x7⟩ := x
    dsimp only at q1 q2 q3 q4 q5 q6 q7 ⊢
    rw [Lay.mk.injEq]
    exact ⟨q1.symm, q2.symm, q3.symm, q4.symm, q5.symm, q6.symm, q7.symm⟩
  · repeat (first
      | refine LoadD.own 0 rfl _ rfl rfl ?_
      | refine LoadD.own 1 rfl _ rfl rfl ?_
      | refine LoadD.own 2 rfl _ rfl rfl ?_
      | refine LoadP.at 0 rfl _ rfl rfl ?_
      | refine LoadP.at 1 rfl _ rfl rfl ?_
      | refine LoadP.at 2 rfl _ rfl rfl ?_
      | refine StoreD.st 0 rfl rfl rfl ?_
      | refine StoreD.st 1 rfl rfl rfl ?_
      | refine StoreD.st 2 rfl rfl rfl ?_
      | refine CmpD.yes rfl ?_
      | refine CmpD.yes (by decide) ?_
      | refine CmpD.no (by decide) ?_
      | refine Chk.mk ⟨rfl, trivial⟩ ?_
      | refine Chk.mk ⟨rfl, rfl, trivial⟩ ?_
      | refine Chk.mk ⟨rfl, rfl, rfl, trivial⟩ ?_
      | refine Chk.mk ⟨rfl, rfl, rfl, rfl, trivial⟩ ?_
      | refine Chk.mk ⟨rfl, rfl, rfl, rfl, rfl, trivial⟩ ?_
      | refine Chk.mk ⟨rfl, rfl, rfl, rfl, rfl, rfl, trivial⟩ ?_)
    refine Done.mk ⟨rfl, false, rfl, ?_⟩
    simp only [Bool.false_eq_true, false_iff]
    intro h
    apply c1
    rw [← h.2.2]
/-! ### the last image of a block -/
def lastD (l : List PImg) (n : Int) : Option Dat := l.foldl (fun x g => if g.1 = n then some g.2 else x) none
theorem lastD_snoc (l : List PImg) (g : PImg) (n : Int) : lastD (l ++ [g]) n = if g.1 = n then some g.2 else lastD l n := by simp [lastD]
theorem lookup_pput (ms : List PImg) (g : PImg) (n : Int) : (pput ms g).lookup n = if g.1 = n then some g.2 else ms.lookup n := by
  unfold pput
  split
  · rename_i h
    induction ms with
    | nil => simp at h
    | cons x ms ih =>
      rw [List.map_cons]
      by_cases hx : x.1 = g.1
      · rw [if_pos hx]
        by_cases hn : g.1 = n
        · rw [if_pos hn, List.lookup_cons, show (n == g.1) = true by simp [hn]]
        · rw [if_neg hn, List.lookup_cons, show (n == g.1) = false by simpa using fun h' => hn h'.symm, List.lookup_cons, hx, show (n == g.1) = false by simpa using fun h' => hn h'.symm]
          by_cases hm : g.1 ∈ ms.map Prod.fst
          · have := ih hm; rw [if_neg hn] at this; exact this
          · have : ms.map (fun x => if x.1 = g.1 then g else x) = ms := by
              rw [List.map_congr_left (g := id)]
              · simp
              · intro y hy
                rw [if_neg (fun (h' : y.1 = g.1) => hm (h' ▸ List.mem_map_of_mem hy))]; rfl
            rw [this]
      · rw [if_neg hx, List.lookup_cons, List.lookup_cons]
        have hm : g.1 ∈ ms.map Prod.fst := by
          rw [List.map_cons] at h
          rcases List.mem_cons.1 h with h | h
          · exact absurd h.symm hx
          · exact h
        by_cases hn : n = x.1
        · rw [show (n == x.1) = true by simpa using hn]
          rw [if_neg (fun h' => hx (by rw [h', hn]))]
        · rw [show (n == x.1) = false by simpa using hn]
          exact ih hm
  · rename_i h
    rw [List.lookup_append]
    by_cases hn : g.1 = n
    · rw [if_pos hn]
      have : ms.lookup n = none := by
        rw [List.lookup_eq_none_iff]
        intro y hy
        simp only [bne_iff_ne, ne_eq]
        intro h'
        exact h (by rw [hn, h']; exact List.mem_map_of_mem hy)
      rw [this, List.lookup_cons, show (n == g.1) = true by simp [hn]]; rfl
    · rw [if_neg hn, List.lookup_cons, show (n == g.1) = false by simpa using fun h' => hn h'.symm]
      simp
theorem lookup_lastP (l : List PImg) (n : Int) : (lastP l).lookup n = lastD l n := by
  suffices h : ∀ (l ms : List PImg) (o : Option Dat), ms.lookup n = o → (l.foldl pput ms).lookup n = l.foldl (fun x g => if g.1 = n then some g.2 else x) o from h l [] none rfl
  intro l
  induction l with
  | nil => intro ms o h; exact h
  | cons g l ih =>
    intro ms o h
    rw [List.foldl_cons, List.foldl_cons]
    refine ih _ _ ?_
    rw [lookup_pput, h]
theorem pput_keys (ms : List PImg) (g : PImg) : (pput ms g).map Prod.fst = if g.1 ∈ ms.map Prod.fst then ms.map Prod.fst else ms.map Prod.fst ++ [g.1] := by
  unfold pput
  split
  · rw [List.map_map]
    refine List.map_congr_left fun x _ => ?_
    show (if x.1 = g.1 then g else x).1 = x.1
    split
    · rename_i h; exact h.symm
    · rfl
  · simp
theorem lastP_nodup (l : List PImg) : ((lastP l).map Prod.fst).Nodup := by
  suffices h : ∀ (l ms : List PImg), (ms.map Prod.fst).Nodup → ((l.foldl pput ms).map Prod.fst).Nodup from h l [] (by simp)
  intro l
  induction l with
  | nil => intro ms h; exact h
  | cons g l ih =>
    intro ms h
    rw [List.foldl_cons]
    refine ih _ ?_
    rw [pput_keys]
    split
    · exact h
    · rename_i hn
      rw [List.nodup_append]
      refine ⟨h, by simp, ?_⟩
      rintro a ha b hb rfl
      simp only [List.mem_singleton] at hb
      exact hn (hb ▸ ha)
theorem mem_lastP (l : List PImg) (n : Int) : n ∈ (lastP l).map Prod.fst ↔ (lastD l n).isSome = true := by
  rw [← lookup_lastP, List.lookup_isSome_iff]
  constructor
  · intro h
    obtain ⟨x, hx, rfl⟩ := List.mem_map.1 h
    exact ⟨x, hx, by simp⟩
  · rintro ⟨x, hx, he⟩
    have : n = x.1 := by simpa using he
    rw [this]; exact List.mem_map_of_mem hx
/-- block by block, the last image -/
def homeK (lo : Int) (l : List PImg) : Nat → List PImg
  | 0 => []
  | k + 1 => homeK lo l k ++ (match lastD l (lo + k) with | some d => [(lo + k, d)] | none => [])
theorem homeK_keys (lo : Int) (l : List PImg) (k : Nat) : ∀ n, n ∈ (homeK lo l k).map Prod.fst ↔ lo ≤ n ∧ n < lo + k ∧ (lastD l n).isSome = true := by
  induction k with
  | zero => intro n; show n ∈ ([] : List Int) ↔ _; simp only [List.not_mem_nil, false_iff]; omega
  | succ k ih =>
    intro n
    rw [homeK, List.map_append, List.mem_append, ih n]
    cases hd : lastD l (lo + k) with
    | none =>
      simp only [List.map_nil, List.not_mem_nil, or_false]
      constructor
      · rintro ⟨h1, h2, h3⟩; exact ⟨h1, by omega, h3⟩
      · rintro ⟨h1, h2, h3⟩
        refine ⟨h1, ?_, h3⟩
        by_cases he : n = lo + k
        · subst he; rw [hd] at h3; cases h3
        · omega
    | some d =>
      simp only [List.map_cons, List.map_nil, List.mem_singleton]
      constructor
      · rintro (⟨h1, h2, h3⟩ | rfl)
        · exact ⟨h1, by omega, h3⟩
        · exact ⟨by omega, by omega, by rw [hd]; rfl⟩
      · rintro ⟨h1, h2, h3⟩
        by_cases he : n = lo + k
        · exact .inr he
        · exact .inl ⟨h1, by omega, h3⟩
theorem homeK_lt (lo : Int) (l : List PImg) (k : Nat) : ((homeK lo l k).map Prod.fst).Pairwise (fun a b => a < b) := by
  induction k with
  | zero => exact List.Pairwise.nil
  | succ k ih =>
    rw [homeK, List.map_append, List.pairwise_append]
    refine ⟨ih, ?_, ?_⟩
    · cases lastD l (lo + k) <;> simp
    · intro a ha b hb
      have := (homeK_keys lo l k a).1 ha
      cases hd : lastD l (lo + k) with
      | none => rw [hd] at hb; simp at hb
      | some d =>
        rw [hd] at hb
        simp only [List.map_cons, List.map_nil, List.mem_singleton] at hb
        omega
theorem homeK_snd (lo : Int) (l : List PImg) (k : Nat) : homeK lo l k = ((homeK lo l k).map Prod.fst).map fun n => (n, (lastD l n).getD []) := by
  induction k with
  | zero => rfl
  | succ k ih =>
    rw [homeK, List.map_append, List.map_append, ← ih]
    congr 1
    cases hd : lastD l (lo + k) with
    | none => rfl
    | some d => simp [hd]
theorem homeK_homeP (lo : Int) (l : List PImg) (k : Nat) (h : ∀ g ∈ l, lo ≤ g.1 ∧ g.1 < lo + k) : homeK lo l k = homeP l := by
  have hmem : ∀ n, (lastD l n).isSome = true → lo ≤ n ∧ n < lo + k := by
    intro n hn
    suffices hs : ∀ (l : List PImg) (o : Option Dat), (o.isSome = true → lo ≤ n ∧ n < lo + k) → (∀ g ∈ l, lo ≤ g.1 ∧ g.1 < lo + k) → (l.foldl (fun x g => if g.1 = n then some g.2 else x) o).isSome = true → lo ≤ n ∧ n < lo + k from hs l none (by simp) h hn
    intro l
    induction l with
    | nil => intro o ho _ h; exact ho h
    | cons g l ih =>
      intro o ho hl hs
      refine ih _ ?_ (fun x hx => hl x (by simp [hx])) hs
      show (if g.1 = n then some g.2 else o).isSome = true → _
      split
      · rename_i e; intro _; rw [← e]; exact hl g (by simp)
      · exact ho
  have hk : (homeK lo l k).map Prod.fst = sortI ((lastP l).map Prod.fst) := by
    have hp : ((lastP l).map Prod.fst).Perm ((homeK lo l k).map Prod.fst) := by
      refine (List.perm_ext_iff_of_nodup (lastP_nodup l) ?_).2 ?_
      · exact (homeK_lt lo l k).imp (fun {a b} h => by omega)
      · intro n
        rw [mem_lastP, homeK_keys]
        exact ⟨fun h => ⟨(hmem n h).1, (hmem n h).2, h⟩, fun h => h.2.2⟩
    exact (sortI_of hp ((homeK_lt lo l k).imp (fun {a b} h => by omega))).symm
  rw [homeK_snd, hk]
  unfold homeP
  refine List.map_congr_left fun n _ => ?_
  rw [lookup_lastP]
/-- as a descending search finds it -/
theorem lastD_take (l : List PImg) (n : Int) : ∀ k, k ≤ l.length → (∀ i, k ≤ i → (h : i < l.length) → l[i].1 ≠ n) → lastD l n = lastD (l.take k) n := by
  intro k hk hno
  suffices h : ∀ m, k + m ≤ l.length → lastD (l.take (k + m)) n = lastD (l.take k) n by
    have := h (l.length - k) (by omega)
    rw [show k + (l.length - k) = l.length by omega, List.take_length] at this
    exact this
  intro m
  induction m with
  | zero => intro _; rfl
  | succ m ih =>
    intro hm
    have hlt : k + m < l.length := by omega
    have e : l.take (k + (m + 1)) = l.take (k + m) ++ [l[k + m]] := by
      rw [show k + (m + 1) = (k + m) + 1 by omega, List.take_add_one, List.getElem?_eq_getElem hlt]; rfl
    rw [e, lastD_snoc, if_neg (hno _ (by omega) hlt), ih (by omega)]
theorem allP_take (l : List Grp) (i : Nat) (h : i < l.length) : allP (l.take (i + 1)) = allP (l.take i) ++ l[i].gs.map Img.pr := by
  unfold allP
  rw [List.take_add_one, List.getElem?_eq_getElem h, List.flatMap_append]; simp
theorem allI_take (l : List Grp) (i : Nat) (h : i < l.length) : allI (l.take (i + 1)) = allI (l.take i) ++ l[i].gs := by
  unfold allI
  rw [List.take_add_one, List.getElem?_eq_getElem h, List.flatMap_append]; simp
end Go.Proofs.Ytbpdbgcndfcilaa
namespace Go.Proofs.Ytbpdbgcndfcilaa
open Go.RowKit Go.Sl
set_option maxRecDepth 20000

set_option maxHeartbeats 4000000 in
theorem r10_Home {I : Imm} {aG : Option Addr} {capG : Nat} {l : List Grp} (hG : GrpsR I [] aG l) (hl : l.length ≤ 1000000) (hall : (allI l).length ≤ 1000000) (hfew : ∀ g ∈ allI l, g.len ≤ 100000000) (x : Lay) :
    Tri Try.prog 66 #[x.v, .slice aG l.length capG] I [] fun v J _ =>
      ((¬ LayOk x ∧ v = .tuple #[.slice none 0 0, .int .i64 2]) ∨
       (LayOk x ∧ ¬ HomeOk x (allP l) ∧ v = .tuple #[.slice none 0 0, .int .i64 90]) ∨
       (LayOk x ∧ HomeOk x (allP l) ∧ ∃ (aO : Option Addr) (capO : Nat) (outs : List Img), v = .tuple #[.slice aO outs.length capO, .int .i64 0] ∧ ImgsOk J aO outs ∧ outs.map Img.pr = homeP (allP l))) := by
  refine Tri.fixed (Q := fun v J S' => ∃ chO, S' = [chO] ∧
      ((¬ LayOk x ∧ v = .tuple #[.slice none 0 0, .int .i64 2]) ∨
       (LayOk x ∧ ¬ HomeOk x (allP l) ∧ v = .tuple #[.slice none 0 0, .int .i64 90]) ∨
       (LayOk x ∧ HomeOk x (allP l) ∧ ∃ (aO : Option Addr) (capO : Nat) (outs : List Img), v = .tuple #[.slice aO outs.length capO, .int .i64 0] ∧ OwnC chO 2 aO outs.length capO (imgCells outs) ∧ (∀ g ∈ outs, ImgOk J g) ∧ outs.map Img.pr = homeP (allP l)))) ?_ ?_
  rotate_left
  · rintro v J S' hJ ⟨chO, rfl, h⟩
    refine ⟨0, chO, rfl, fun J' hJ' hm => ?_⟩
    rcases h with ⟨h1, rfl⟩ | ⟨h1, h2, rfl⟩ | ⟨h1, h2, aO, capO, outs, rfl, hO, hok, hpr⟩
    · exact .inl ⟨h1, rfl⟩
    · exact .inr (.inl ⟨h1, h2, rfl⟩)
    · exact .inr (.inr ⟨h1, h2, aO, capO, outs, rfl, ⟨Rds.of_ownS hO hm, fun g hg => (hok g hg).mono hJ'⟩, hpr⟩)
  refine Tri.lay (S2 := [[]]) (by simp) ?_
  refine Tri.drop ?_ (fun _ _ _ _ h => h)
  have hsl := hG.sl.rds
  refine Tri.of (args := [x.v, .slice aG l.length capG]) tabOk Try.func66 rfl (by kernel_rfl) (by kernel_rfl) ?_
  conv => whnf
  intro b2
  repeat (first
    | refine LoadD.own 0 rfl _ rfl rfl ?_
    | refine LoadD.own 1 rfl _ rfl rfl ?_
    | refine LoadP.at 0 rfl _ rfl rfl ?_
    | refine LoadP.at 1 rfl _ rfl rfl ?_
    | refine StoreD.st 0 rfl rfl rfl ?_
    | refine StoreD.st 1 rfl rfl rfl ?_
    | refine CmpD.yes rfl ?_
    | refine CmpD.yes (by decide) ?_
    | refine CmpD.no (by decide) ?_
    | refine Chk.mk ⟨rfl, trivial⟩ ?_
    | refine Chk.mk ⟨rfl, rfl, trivial⟩ ?_
    | refine Chk.mk ⟨rfl, rfl, rfl, trivial⟩ ?_
    | refine Chk.mk ⟨rfl, rfl, rfl, rfl, trivial⟩ ?_
    | refine Chk.mk ⟨rfl, rfl, rfl, rfl, rfl, trivial⟩ ?_
    | refine Chk.mk ⟨rfl, rfl, rfl, rfl, rfl, rfl, trivial⟩ ?_)
  refine Tri.free (r5_Right x I) ?_
  rintro v J _ hJ ⟨rfl, br, rfl, hbr⟩
  cases br
  · repeat (first
      | refine LoadD.own 0 rfl _ rfl rfl ?_
      | refine LoadD.own 1 rfl _ rfl rfl ?_
      | refine LoadP.at 0 rfl _ rfl rfl ?_
      | refine LoadP.at 1 rfl _ rfl rfl ?_
      | refine StoreD.st 0 rfl rfl rfl ?_
      | refine StoreD.st 1 rfl rfl rfl ?_
      | refine CmpD.yes rfl ?_
      | refine CmpD.yes (by decide) ?_
      | refine CmpD.no (by decide) ?_
      | refine Chk.mk ⟨rfl, trivial⟩ ?_
      | refine Chk.mk ⟨rfl, rfl, trivial⟩ ?_
      | refine Chk.mk ⟨rfl, rfl, rfl, trivial⟩ ?_
      | refine Chk.mk ⟨rfl, rfl, rfl, rfl, trivial⟩ ?_
      | refine Chk.mk ⟨rfl, rfl, rfl, rfl, rfl, trivial⟩ ?_
      | refine Chk.mk ⟨rfl, rfl, rfl, rfl, rfl, rfl, trivial⟩ ?_)
    exact Done.mk ⟨[[]], Drop.pick [0] _ rfl, [], rfl, .inl ⟨fun h => by simpa using hbr.2 h, rfl⟩⟩
  have hX := hbr.1 rfl
  have hXb : (64 ≤ x.b ∧ x.b ≤ 512) ∧ x.bi = 2 + layL x.b := by
    refine ⟨⟨hX.1, hX.2.1⟩, ?_⟩
    have hq := hX.2.2
    have hxb : ((x.b.toNat : Nat) : Int) = x.b := by have := hX.1; omega
    have hq2 := congrArg Lay.bi hq
    rw [hq2]; show 2 + layL ((x.b.toNat : Nat) : Int) = _; rw [hxb]
  have hL := layL_range hXb.1
  repeat (first
    | refine LoadD.own 0 rfl _ rfl rfl ?_
    | refine LoadD.own 1 rfl _ rfl rfl ?_
    | refine LoadP.at 0 rfl _ rfl rfl ?_
    | refine LoadP.at 1 rfl _ rfl rfl ?_
    | refine StoreD.st 0 rfl rfl rfl ?_
    | refine StoreD.st 1 rfl rfl rfl ?_
    | refine CmpD.yes rfl ?_
    | refine CmpD.yes (by decide) ?_
    | refine CmpD.no (by decide) ?_
    | refine Chk.mk ⟨rfl, trivial⟩ ?_
    | refine Chk.mk ⟨rfl, rfl, trivial⟩ ?_
    | refine Chk.mk ⟨rfl, rfl, rfl, trivial⟩ ?_
    | refine Chk.mk ⟨rfl, rfl, rfl, rfl, trivial⟩ ?_
    | refine Chk.mk ⟨rfl, rfl, rfl, rfl, rfl, trivial⟩ ?_
    | refine Chk.mk ⟨rfl, rfl, rfl, rfl, rfl, rfl, trivial⟩ ?_)
  refine CodeF.loopD [1, 2, 6, 7] (fun vs J' S' => ∃ (i : Nat) (aA : Option Addr) (capA : Nat) (chA : List Blk), i ≤ l.length ∧ OwnC chA 2 aA (allI (l.take i)).length capA (imgCells (allI (l.take i))) ∧ vs = [.slice aG l.length capG, .pointer (some ⟨b2, 0, none⟩), .slice aA (allI (l.take i)).length capA, .int .i64 i] ∧ I = J' ∧ S' = [chA, layBox b2 x])
    (fun vs _ _ => match vs with | [_, _, _, .int _ i] => ((l.length : Int) - i).toNat | _ => 0) ?_ ?_
  · exact ⟨_, Drop.pick [0, 1] _ rfl, 0, none, 0, [], by omega, OwnC.nil 2 none, rfl, rfl, rfl⟩
  rintro vs gE J' S' hJ' ⟨i, aA, capA, chA, hi, hA, rfl, rfl, rfl⟩
  have hpl : ∀ gs : List Img, ∀ u ∈ imgCells gs, Plain u = true := by
    intro gs u hu
    unfold imgCells at hu
    obtain ⟨g, _, h⟩ := List.mem_flatMap.1 hu
    simp only [List.mem_cons, List.not_mem_nil, or_false] at h
    rcases h with rfl | rfl <;> rfl
  refine CmpD.split (fun c1 => ?_) (fun c1 => ?_)
  · have hlt : i < l.length := by omega
    have hg := hG.each _ (List.getElem_mem hlt)
    have htk := allI_take l i hlt
    have hlen : (allI (l.take (i + 1))).length ≤ (allI l).length := by
      have e : allI l = allI (l.take (i + 1)) ++ allI (l.drop (i + 1)) := by unfold allI; rw [← List.flatMap_append, List.take_append_drop]
      rw [e, List.length_append]; omega
    rcases hsl.mem with q0 | ⟨bg, off, cg, Tg, fg, rfl, hIg, hcg⟩
    · omega
    have hcell := take_part hcg (i := i * 3) (m := 3) (by omega)
    rw [grpCells_at hlt] at hcell
    have hcell2 : (cg.drop (off + i * 3 + 2)).take 1 = [.slice l[i].a l[i].gs.length l[i].cap] := take_part hcell (i := 2) (m := 1) (by omega)
    generalize hgi : l[i] = gi at *
    rw [htk, List.length_append] at hlen
    refine Chk.mk (by omega) ?_
    refine LoadD.imm hIg [.slice gi.a gi.gs.length gi.cap] hcell2 rfl ?_
    refine appendD tabOk rfl rfl rfl rfl rfl rfl rfl 0 rfl hA (SrcOk.slice (n := gi.gs.length) (news := imgCells gi.gs) tabOk rfl (hg.1.sl.rds.slC) (hpl _)) rfl (by show ((allI (l.take i)).length + gi.gs.length) * 32 ≤ _; omega) (by omega) ?_
    intro a2 cap2 ch2 hO2
    refine ToD.i64 (by omega) (by omega) ?_
    refine ⟨_, Drop.pick [0, 1] _ rfl, ⟨i + 1, a2, cap2, ch2, by omega, ?_, ?_, rfl, rfl⟩, ?_⟩
    · rw [htk, List.length_append]; unfold imgCells; rw [List.flatMap_append]; exact hO2
    · rw [htk, List.length_append]; rfl
    · show ((l.length : Int) - ((i : Int) + 1)).toNat < ((l.length : Int) - i).toNat; omega
  obtain rfl : i = l.length := by omega
  rw [List.take_length] at hA ⊢
  obtain ⟨A, hAe⟩ : ∃ A, A = allI l := ⟨_, rfl⟩
  rw [← hAe] at hA hall hfew ⊢
  have hAp : allP l = A.map Img.pr := by rw [allP_eq, hAe]
  have hAr : ∀ g ∈ A, Rds I g.a g.len (bts g.data) := by
    intro g hg
    rw [hAe] at hg
    unfold allI at hg
    obtain ⟨gr, hgr, hgg⟩ := List.mem_flatMap.1 hg
    exact ((hG.each gr hgr).1.each g hgg).rd.rds
  rw [hAp]
  clear hAe
  refine CodeF.loopD [2, 6, 8] (fun vs J' S' => ∃ i : Nat, i ≤ A.length ∧ HomeOk x ((A.take i).map Img.pr) ∧ vs = [.pointer (some ⟨b2, 0, none⟩), .slice aA A.length capA, .int .i64 i] ∧ I = J' ∧ S' = [chA, layBox b2 x])
    (fun vs _ _ => match vs with | [_, _, .int _ i] => ((A.length : Int) - i).toNat | _ => 0) ?_ ?_
  · exact ⟨_, Drop.pick [0, 1] _ rfl, 0, by omega, by intro g hg; simp at hg, rfl, rfl, rfl⟩
  · rintro vs gE2 J2 S2 hJ2 ⟨i, hi2, hok, rfl, rfl, rfl⟩
    refine CmpD.split (fun c2 => ?_) (fun c2 => ?_)
    · have hlt : i < A.length := by omega
      have htk : A.take (i + 1) = A.take i ++ [A[i]] := by rw [List.take_add_one, List.getElem?_eq_getElem hlt]; rfl
      have hmem : A[i] ∈ A := List.getElem_mem hlt
      have hcell := imgCells_0 hlt
      obtain ⟨bA, oA, rfl, hcA⟩ := hA.cellsP (I := I) (S := [chA, layBox b2 x]) 0 rfl (by omega)
      generalize A[i] = g at *
      refine CodeF.sched [[], [], [0, 1], [0, 1, 2], [0, 1, 2, 3], [], [5], [0, 1, 2, 3, 4, 5, 6], [0, 1, 2, 3, 4, 5, 6, 7], [0, 1, 2, 3, 4, 5, 6, 7, 8], [0, 1, 2, 3, 4, 5, 6, 7, 8], [0, 1, 2, 3, 4, 5, 6, 7, 8, 9, 10], [0, 1, 2, 3, 4, 5, 6, 7, 8, 9, 10, 11], [0, 1, 2, 3, 4, 5, 6, 7, 8, 9, 10, 11, 12], [0, 1, 2, 3, 4, 5, 6, 7, 8], [0, 1, 2, 3, 4, 5, 6, 7, 8, 14], [0, 1, 2, 3, 4, 5, 6, 7, 8, 9, 10, 11, 12, 13, 14, 15], [0, 1, 2, 3, 4, 5, 6, 7, 8, 9, 10, 11, 12, 13, 14, 15, 16]] [0, 1, 2, 3, 4, 5, 6, 7, 8, 9, 10, 11, 12, 13, 14, 15, 16, 17] (by kernel_rfl) ?_
      refine Chk.mk (by omega) ?_
      refine LoadP.own 0 _ (hcA.at hcell) ?_
      refine LoadP.at 1 rfl _ rfl rfl ?_
      have bad : ¬ (x.bi ≤ g.blk ∧ g.blk < x.b) → ∃ S'', Drop [chA, layBox b2 x] S'' ∧ ∃ chO, S'' = [chO] ∧
          ((¬ LayOk x ∧ Value.tuple #[.slice none 0 0, .int .i64 90] = .tuple #[.slice none 0 0, .int .i64 2]) ∨
           (LayOk x ∧ ¬ HomeOk x (A.map Img.pr) ∧ Value.tuple #[.slice none 0 0, .int .i64 90] = .tuple #[.slice none 0 0, .int .i64 90]) ∨
           (LayOk x ∧ HomeOk x (A.map Img.pr) ∧ ∃ (aO : Option Addr) (capO : Nat) (outs : List Img), Value.tuple #[.slice none 0 0, .int .i64 90] = .tuple #[.slice aO outs.length capO, .int .i64 0] ∧ OwnC chO 2 aO outs.length capO (imgCells outs) ∧ (∀ g ∈ outs, ImgOk I g) ∧ outs.map Img.pr = homeP (A.map Img.pr))) :=
        fun h => ⟨[chA], Drop.pick [0] _ rfl, chA, rfl, .inr (.inl ⟨hX, fun h' => h (h' g.pr (List.mem_map_of_mem hmem)), rfl⟩)⟩
      refine CmpD.split (fun c3 => ?_) (fun c3 => ?_)
      · repeat (first
          | refine LoadD.own 0 rfl _ rfl rfl ?_
          | refine LoadD.own 1 rfl _ rfl rfl ?_
          | refine LoadP.at 0 rfl _ rfl rfl ?_
          | refine LoadP.at 1 rfl _ rfl rfl ?_
          | refine StoreD.st 0 rfl rfl rfl ?_
          | refine StoreD.st 1 rfl rfl rfl ?_
          | refine CmpD.yes rfl ?_
          | refine CmpD.yes (by decide) ?_
          | refine CmpD.no (by decide) ?_
          | refine Chk.mk ⟨rfl, trivial⟩ ?_
          | refine Chk.mk ⟨rfl, rfl, trivial⟩ ?_
          | refine Chk.mk ⟨rfl, rfl, rfl, trivial⟩ ?_
          | refine Chk.mk ⟨rfl, rfl, rfl, rfl, trivial⟩ ?_
          | refine Chk.mk ⟨rfl, rfl, rfl, rfl, rfl, trivial⟩ ?_
          | refine Chk.mk ⟨rfl, rfl, rfl, rfl, rfl, rfl, trivial⟩ ?_)
        exact Done.mk (bad (by omega))
      refine Chk.mk (by omega) ?_
      refine LoadP.own 0 _ (hcA.at hcell) ?_
      refine LoadP.at 1 rfl _ rfl rfl ?_
      refine CmpD.split (fun c4 => ?_) (fun c4 => ?_)
      · repeat (first
          | refine LoadD.own 0 rfl _ rfl rfl ?_
          | refine LoadD.own 1 rfl _ rfl rfl ?_
          | refine LoadP.at 0 rfl _ rfl rfl ?_
          | refine LoadP.at 1 rfl _ rfl rfl ?_
          | refine StoreD.st 0 rfl rfl rfl ?_
          | refine StoreD.st 1 rfl rfl rfl ?_
          | refine CmpD.yes rfl ?_
          | refine CmpD.yes (by decide) ?_
          | refine CmpD.no (by decide) ?_
          | refine Chk.mk ⟨rfl, trivial⟩ ?_
          | refine Chk.mk ⟨rfl, rfl, trivial⟩ ?_
          | refine Chk.mk ⟨rfl, rfl, rfl, trivial⟩ ?_
          | refine Chk.mk ⟨rfl, rfl, rfl, rfl, trivial⟩ ?_
          | refine Chk.mk ⟨rfl, rfl, rfl, rfl, rfl, trivial⟩ ?_
          | refine Chk.mk ⟨rfl, rfl, rfl, rfl, rfl, rfl, trivial⟩ ?_)
        exact Done.mk (bad (by omega))
      repeat (first
        | refine LoadD.own 0 rfl _ rfl rfl ?_
        | refine LoadD.own 1 rfl _ rfl rfl ?_
        | refine LoadP.at 0 rfl _ rfl rfl ?_
        | refine LoadP.at 1 rfl _ rfl rfl ?_
        | refine StoreD.st 0 rfl rfl rfl ?_
        | refine StoreD.st 1 rfl rfl rfl ?_
        | refine CmpD.yes rfl ?_
        | refine CmpD.yes (by decide) ?_
        | refine CmpD.no (by decide) ?_
        | refine Chk.mk ⟨rfl, trivial⟩ ?_
        | refine Chk.mk ⟨rfl, rfl, trivial⟩ ?_
        | refine Chk.mk ⟨rfl, rfl, rfl, trivial⟩ ?_
        | refine Chk.mk ⟨rfl, rfl, rfl, rfl, trivial⟩ ?_
        | refine Chk.mk ⟨rfl, rfl, rfl, rfl, rfl, trivial⟩ ?_
        | refine Chk.mk ⟨rfl, rfl, rfl, rfl, rfl, rfl, trivial⟩ ?_)
      refine ToD.i64 (by omega) (by omega) ?_
      refine ⟨_, Drop.pick [0, 1] _ rfl, ⟨i + 1, by omega, ?_, rfl, rfl, rfl⟩, ?_⟩
      · rw [htk, List.map_append]
        intro q hq
        rcases List.mem_append.1 hq with hq | hq
        · exact hok q hq
        · simp only [List.map_cons, List.map_nil, List.mem_singleton] at hq
          subst hq
          exact ⟨by show x.bi ≤ g.blk; omega, by show g.blk < x.b; omega⟩
      · show ((A.length : Int) - ((i : Int) + 1)).toNat < ((A.length : Int) - i).toNat; omega
    obtain rfl : i = A.length := by omega
    rw [List.take_length] at hok
    repeat (first
      | refine LoadD.own 0 rfl _ rfl rfl ?_
      | refine LoadD.own 1 rfl _ rfl rfl ?_
      | refine LoadP.at 0 rfl _ rfl rfl ?_
      | refine LoadP.at 1 rfl _ rfl rfl ?_
      | refine StoreD.st 0 rfl rfl rfl ?_
      | refine StoreD.st 1 rfl rfl rfl ?_
      | refine CmpD.yes rfl ?_
      | refine CmpD.yes (by decide) ?_
      | refine CmpD.no (by decide) ?_
      | refine Chk.mk ⟨rfl, trivial⟩ ?_
      | refine Chk.mk ⟨rfl, rfl, trivial⟩ ?_
      | refine Chk.mk ⟨rfl, rfl, rfl, trivial⟩ ?_
      | refine Chk.mk ⟨rfl, rfl, rfl, rfl, trivial⟩ ?_
      | refine Chk.mk ⟨rfl, rfl, rfl, rfl, rfl, trivial⟩ ?_
      | refine Chk.mk ⟨rfl, rfl, rfl, rfl, rfl, rfl, trivial⟩ ?_)
    have hin : ∀ g ∈ A, x.bi ≤ g.blk ∧ g.blk < x.b := fun g hg => hok g.pr (List.mem_map_of_mem hg)
    obtain ⟨hXb1, hXb2⟩ := hXb
    have hbb : x.bi ≤ x.b := by rw [hXb2]; unfold layL; split <;> omega
    obtain ⟨P, hP⟩ : ∃ P, P = A.map Img.pr := ⟨_, rfl⟩
    rw [← hP] at hok ⊢
    have hPl : P.length = A.length := by rw [hP, List.length_map]
    refine CodeF.loopD [2, 6, 9, 10] (fun vs J' S' => ∃ (k : Nat) (aO : Option Addr) (capO : Nat) (chO : List Blk) (outs : List Img), x.bi + k ≤ x.b ∧ outs.length ≤ k ∧ OwnC chO 2 aO outs.length capO (imgCells outs) ∧ (∀ g ∈ outs, ImgOk J' g) ∧ outs.map Img.pr = homeK x.bi P k ∧ I.le J' ∧
        vs = [.pointer (some ⟨b2, 0, none⟩), .slice aA A.length capA, .slice aO outs.length capO, .int .i64 (x.bi + k)] ∧ S' = [chA, layBox b2 x, chO])
      (fun vs _ _ => match vs with | [_, _, _, .int _ n] => (x.b - n).toNat | _ => 0) ?_ ?_
    · exact ⟨_, Drop.and (Drop.pick [0, 1] _ rfl), 0, none, 0, [], [], by omega, by simp, OwnC.nil 2 none, by simp, rfl, Imm.le_refl _, congrArg (fun z => [Value.pointer (some ⟨b2, 0, none⟩), .slice aA A.length capA, .slice none 0 0, .int .i64 z]) (by omega : x.bi = x.bi + ((0 : Nat) : Int)), rfl⟩
    rintro vs gE3 J3 S3 hJ3 ⟨k, aO, capO, chO, outs, hk, hol, hO, hoks, hpr, hle, rfl, rfl⟩
    refine LoadD.own 1 rfl _ rfl rfl ?_
    refine CmpD.split (fun c5 => ?_) (fun c5 => ?_)
    rotate_left
    · have hbk : x.b = x.bi + k := by omega
      repeat (first
        | refine LoadD.own 0 rfl _ rfl rfl ?_
        | refine LoadD.own 1 rfl _ rfl rfl ?_
        | refine LoadD.own 2 rfl _ rfl rfl ?_
        | refine LoadP.at 0 rfl _ rfl rfl ?_
        | refine LoadP.at 1 rfl _ rfl rfl ?_
        | refine LoadP.at 2 rfl _ rfl rfl ?_
        | refine StoreD.st 0 rfl rfl rfl ?_
        | refine StoreD.st 1 rfl rfl rfl ?_
        | refine StoreD.st 2 rfl rfl rfl ?_
        | refine CmpD.yes rfl ?_
        | refine CmpD.yes (by decide) ?_
        | refine CmpD.no (by decide) ?_
        | refine Chk.mk ⟨rfl, trivial⟩ ?_
        | refine Chk.mk ⟨rfl, rfl, trivial⟩ ?_
        | refine Chk.mk ⟨rfl, rfl, rfl, trivial⟩ ?_
        | refine Chk.mk ⟨rfl, rfl, rfl, rfl, trivial⟩ ?_
        | refine Chk.mk ⟨rfl, rfl, rfl, rfl, rfl, trivial⟩ ?_
        | refine Chk.mk ⟨rfl, rfl, rfl, rfl, rfl, rfl, trivial⟩ ?_)
      refine Done.mk ⟨[chO], Drop.pick [2] _ rfl, chO, rfl, .inr (.inr ⟨hX, hok, aO, capO, outs, rfl, hO, hoks, ?_⟩)⟩
      rw [hpr]
      exact homeK_homeP _ _ _ (fun g hg => by have := hok g hg; omega)
    have hkb : k ≤ 512 := by omega
    repeat (first
      | refine LoadD.own 0 rfl _ rfl rfl ?_
      | refine LoadD.own 1 rfl _ rfl rfl ?_
      | refine LoadD.own 2 rfl _ rfl rfl ?_
      | refine LoadP.at 0 rfl _ rfl rfl ?_
      | refine LoadP.at 1 rfl _ rfl rfl ?_
      | refine LoadP.at 2 rfl _ rfl rfl ?_
      | refine StoreD.st 0 rfl rfl rfl ?_
      | refine StoreD.st 1 rfl rfl rfl ?_
      | refine StoreD.st 2 rfl rfl rfl ?_
      | refine CmpD.yes rfl ?_
      | refine CmpD.yes (by decide) ?_
      | refine CmpD.no (by decide) ?_
      | refine Chk.mk ⟨rfl, trivial⟩ ?_
      | refine Chk.mk ⟨rfl, rfl, trivial⟩ ?_
      | refine Chk.mk ⟨rfl, rfl, rfl, trivial⟩ ?_
      | refine Chk.mk ⟨rfl, rfl, rfl, rfl, trivial⟩ ?_
      | refine Chk.mk ⟨rfl, rfl, rfl, rfl, rfl, trivial⟩ ?_
      | refine Chk.mk ⟨rfl, rfl, rfl, rfl, rfl, rfl, trivial⟩ ?_)
    refine ToD.i64 (by omega) (by omega) ?_
    have next : ∀ (S4 : St) (J4 : Imm) (aO2 : Option Addr) (capO2 : Nat) (chO2 : List Blk) (outs2 : List Img), Drop S4 [chA, layBox b2 x, chO2] → J3.le J4 → outs2.length ≤ k + 1 → OwnC chO2 2 aO2 outs2.length capO2 (imgCells outs2) → (∀ g ∈ outs2, ImgOk J4 g) → outs2.map Img.pr = homeK x.bi P (k + 1) →
        ToD (IntKind.i64.wrap (x.bi + (k : Int) + 1)) fun m => ∃ S0, Drop S4 S0 ∧ (∃ (k : Nat) (aO : Option Addr) (capO : Nat) (chO : List Blk) (outs : List Img), x.bi + k ≤ x.b ∧ outs.length ≤ k ∧ OwnC chO 2 aO outs.length capO (imgCells outs) ∧ (∀ g ∈ outs, ImgOk J4 g) ∧ outs.map Img.pr = homeK x.bi P k ∧ I.le J4 ∧
          [Value.pointer (some ⟨b2, 0, none⟩), .slice aA A.length capA, .slice aO2 outs2.length capO2, .int .i64 m] = [.pointer (some ⟨b2, 0, none⟩), .slice aA A.length capA, .slice aO outs.length capO, .int .i64 (x.bi + k)] ∧ S0 = [chA, layBox b2 x, chO]) ∧ (x.b - m).toNat < (x.b - (x.bi + (k : Int))).toNat := by
      intro S4 J4 aO2 capO2 chO2 outs2 hd hJ4 h1 h2 h3 h4
      refine ToD.i64 (by omega) (by omega) ?_
      refine ⟨_, hd, ⟨k + 1, aO2, capO2, chO2, outs2, by omega, h1, h2, h3, h4, Imm.le_trans hle hJ4, ?_, rfl⟩, by omega⟩
      rw [show x.bi + (k : Int) + 1 = x.bi + ((k + 1 : Nat) : Int) by omega]
    refine CodeF.loopD [2, 6, 9, 10, 11] (fun vs J' S' => ∃ j : Nat, j ≤ A.length ∧ (∀ i, j ≤ i → (h : i < A.length) → A[i].blk ≠ x.bi + k) ∧ vs = [.pointer (some ⟨b2, 0, none⟩), .slice aA A.length capA, .slice aO outs.length capO, .int .i64 (x.bi + k), .int .i64 ((j : Int) - 1)] ∧ J3 = J' ∧ S' = [chA, layBox b2 x, chO])
      (fun vs _ _ => match vs with | [_, _, _, _, .int _ j] => (j + 1).toNat | _ => 0) ?_ ?_
    · exact ⟨_, Drop.pick [0, 1, 2] _ rfl, A.length, Nat.le_refl _, fun i h1 h2 => by omega, rfl, rfl, rfl⟩
    rintro vs gE4 J4 S4 hJ4 ⟨j, hj, hno, rfl, rfl, rfl⟩
    have lastE : lastD P (x.bi + k) = lastD (P.take j) (x.bi + k) := by
      refine lastD_take P _ j (by omega) ?_
      intro i h1 h2
      have h2' : i < A.length := by omega
      have := hno i h1 h2'
      have e : P[i] = A[i].pr := by simp only [hP, List.getElem_map]
      rw [e]; exact this
    refine CmpD.split (fun c6 => ?_) (fun c6 => ?_)
    rotate_left
    · obtain rfl : j = 0 := by omega
      have hnone : lastD P (x.bi + k) = none := by rw [lastE]; rfl
      exact next _ J3 aO capO chO outs (Drop.refl _) (Imm.le_refl _) (by omega) hO hoks (by rw [homeK, hnone, hpr, List.append_nil])
    have hj1 : 1 ≤ j := by omega
    have hlt : j - 1 < A.length := by omega
    have htk : P.take j = P.take (j - 1) ++ [A[j - 1].pr] := by
      have e : P[j - 1]'(by omega) = A[j - 1].pr := by simp only [hP, List.getElem_map]
      have : P.take (j - 1 + 1) = P.take (j - 1) ++ [P[j - 1]'(by omega)] := by rw [List.take_add_one, List.getElem?_eq_getElem (by omega)]; rfl
      rw [← e, ← this, Nat.sub_add_cancel hj1]
    rw [htk, lastD_snoc] at lastE
    have hmem : A[j - 1] ∈ A := List.getElem_mem hlt
    have hcell0 := imgCells_0 hlt
    have hcell1 := imgCells_1 hlt
    have hno2 : A[j - 1].blk ≠ x.bi + k → ∀ i, j - 1 ≤ i → (h : i < A.length) → A[i].blk ≠ x.bi + k := by
      intro h i h1 h2
      rcases Nat.lt_or_ge (j - 1) i with h3 | h3
      · exact hno i (by omega) h2
      · obtain rfl : i = j - 1 := by omega
        exact h
    obtain ⟨bA, oA, rfl, hcA⟩ := SlC.split (hA.slC (I := J3) (S := [chA, layBox b2 x, chO]) 0 rfl) (by omega)
    generalize A[j - 1] = g at *
    have ej : (((j : Int) - 1)).toNat = j - 1 := by omega
    refine Chk.mk (by omega) ?_
    refine LoadD.mk [.int .i64 g.blk] (by show Cells _ _ _ (oA + (((j : Int) - 1)).toNat * 2) 1 _; rw [ej]; exact hcA.at hcell0) ?_
    refine CmpD.split (fun c7 => ?_) (fun c7 => ?_)
    rotate_left
    · refine ToD.i64 (by omega) (by omega) ?_
      refine ⟨_, Drop.pick [0, 1, 2] _ rfl, ⟨j - 1, by omega, hno2 c7, ?_, rfl, rfl⟩, ?_⟩
      · rw [show ((j : Int) - 1 - 1) = (((j - 1 : Nat) : Int) - 1) by omega]; rfl
      · show ((j : Int) - 1 - 1 + 1).toNat < ((j : Int) - 1 + 1).toNat; omega
    have hlast : lastD P (x.bi + k) = some g.data := by rw [lastE, if_pos c7]
    refine Chk.mk (by omega) ?_
    refine LoadD.mk [.slice g.a g.len g.cap] (by show Cells _ _ _ (oA + (((j : Int) - 1)).toNat * 2 + 1) 1 _; rw [ej]; exact hcA.at hcell1) ?_
    refine Tri.free (copy_fix J3 g.a g.len g.cap g.data ((hAr g hmem).mono hle) (by have := hfew g hmem; omega)) ?_
    rintro v J5 _ hJ5 ⟨aC, capC, rfl, hC⟩
    conv => whnf
    intro b83
    refine appendD tabOk rfl rfl rfl rfl rfl rfl rfl 2 rfl hO (SrcOk.slice (n := 1) (news := imgCells [⟨x.bi + k, aC, g.len, capC, g.data⟩]) tabOk rfl ((OwnC.whole (len := 1) (size := 2) rfl).slC 3 rfl) (by intro v hv; simp [imgCells] at hv; rcases hv with rfl | rfl <;> rfl)) rfl (by show (outs.length + 1) * 32 ≤ _; omega) (by omega) ?_
    intro aM capM chM hM
    have e : (outs ++ [⟨x.bi + k, aC, g.len, capC, g.data⟩] : List Img).length = outs.length + 1 := by simp
    have hn := fun b => next [chA, layBox b2 x, chM, b] J5 aM capM chM (outs ++ [⟨x.bi + k, aC, g.len, capC, g.data⟩]) (Drop.pick [0, 1, 2] _ rfl) hJ5 (by rw [e]; omega) (by rw [e, imgCells_snoc]; exact hM) (by
      intro y hy
      rcases List.mem_append.1 hy with hy | hy
      · exact (hoks y hy).mono hJ5
      · simp only [List.mem_singleton] at hy
        subst hy
        exact ⟨by show In64 (x.bi + k); unfold In64; omega, hC⟩) (by rw [homeK, hlast, List.map_append, hpr]; rfl)
    simp only [e] at hn
    exact hn _
end Go.Proofs.Ytbpdbgcndfcilaa
namespace Go.Proofs.Ytbpdbgcndfcilaa
open Go.RowKit Go.Sl
set_option maxRecDepth 20000

theorem stop_r4 (d : DSt) (hA : d.arm.Ok) (hF : d.fault.Ok) : opE d.down (gv d.arm) (gv d.fault) = d.stop.2 ∧ (d.down || decide (gv d.arm = 0)) = d.stop.1.down ∧ (if d.down then gv d.arm else dec (gv d.arm)) = gv d.stop.1.arm ∧ (if d.down then gv d.fault else dec (gv d.fault)) = gv d.stop.1.fault := by
  obtain ⟨sf, nw, ws, ct, dn, ⟨ao, al⟩, ⟨fo, fl⟩⟩ := d
  unfold Gate.Ok at hA hF
  dsimp only at hA hF
  unfold DSt.stop opE gv dec Gate.step
  cases dn
  · cases ao <;> cases fo
    · simp
    · have := hF rfl
      rcases Int.lt_or_le 0 fl with h | h
      · have e : 1 ≤ fl := by omega
        simp [e]; omega
      · obtain rfl : fl = 0 := by omega
        simp
    · have := hA rfl
      rcases Int.lt_or_le 0 al with h | h
      · have e : 1 ≤ al := by omega
        simp [e]; omega
      · obtain rfl : al = 0 := by omega
        simp
    · have := hA rfl
      have := hF rfl
      rcases Int.lt_or_le 0 al with h | h <;> rcases Int.lt_or_le 0 fl with h' | h'
      · have e : 1 ≤ al := by omega
        have e' : 1 ≤ fl := by omega
        simp [e, e']; omega
      · have e : 1 ≤ al := by omega
        obtain rfl : fl = 0 := by omega
        simp [e]; omega
      · have e' : 1 ≤ fl := by omega
        obtain rfl : al = 0 := by omega
        simp [e']; omega
      · obtain rfl : fl = 0 := by omega
        obtain rfl : al = 0 := by omega
        simp
  · simp
theorem gv_in {g : Gate} (h : g.Ok) : In64 (gv g) := by
  unfold gv In64
  unfold Gate.Ok at h
  split
  · rename_i e; have := h e; omega
  · omega
structure RDk (I : Imm) (v : Value) (d : DSt) : Prop where
  wf : d.Wf
  snd : ∀ i, i < d.safe.length → d.now[i]? = some (atP (d.safe.getD i []) d.writes i)
  ex : ∃ (s w : Hd) (bS : List Bk) (gs : List Img), v = rV s w d.count d.down (gv d.arm) (gv d.fault) ∧ Rds I s.a s.len (bS.map Bk.cell) ∧ (∀ b ∈ bS, BkOk I b) ∧ bS.map Bk.data = d.safe ∧ ImgsOk I w.a gs ∧ w.len = gs.length ∧ gs.map Img.pr = d.writes
theorem RDk.mono {I J : Imm} {v : Value} {d : DSt} (h : RDk I v d) (hJ : I.le J) : RDk J v d := by
  obtain ⟨s, w, bS, gs, e, h1, h2, h3, h4, h5, h6⟩ := h.ex
  exact ⟨h.wf, h.snd, s, w, bS, gs, e, h1.mono hJ, fun b hb => (h2 b hb).mono hJ, h3, h4.mono hJ, h5, h6⟩
theorem snd_write {d : DSt} (h : d.Wf) (hs : ∀ i, i < d.safe.length → d.now[i]? = some (atP (d.safe.getD i []) d.writes i)) (n : Nat) (b : Dat) :
    ∀ i, i < d.safe.length → (d.now.set n b)[i]? = some (atP (d.safe.getD i []) (d.writes ++ [((n : Int), b)]) i) := by
  intro i hi
  have := h.len
  rw [atP_snoc]
  dsimp only
  by_cases e : n = i
  · subst e
    rw [if_pos rfl, List.getElem?_set_self (by omega)]
  · rw [if_neg (by omega), List.getElem?_set_ne e]
    exact hs i hi
theorem RDk.stop {I : Imm} {s w : Hd} {d : DSt} {bS : List Bk} {gs : List Img} (h : d.Wf) (hs : ∀ i, i < d.safe.length → d.now[i]? = some (atP (d.safe.getD i []) d.writes i)) (h1 : Rds I s.a s.len (bS.map Bk.cell)) (h2 : ∀ b ∈ bS, BkOk I b) (h3 : bS.map Bk.data = d.safe) (h4 : ImgsOk I w.a gs) (h5 : w.len = gs.length) (h6 : gs.map Img.pr = d.writes) :
    RDk I (rV s w d.count d.stop.1.down (gv d.stop.1.arm) (gv d.stop.1.fault)) d.stop.1 := by
  obtain ⟨e1, e2, e3, e4⟩ := d.stop_same
  exact ⟨h.stop, by rw [e1, e2, e3]; exact hs, s, w, bS, gs, by rw [e4], h1, h2, by rw [e1]; exact h3, h4, h5, by rw [e3]; exact h6⟩
end Go.Proofs.Ytbpdbgcndfcilaa
namespace Go.Proofs.Ytbpdbgcndfcilaa
open Go.RowKit Go.Sl
set_option maxRecDepth 20000

set_option maxHeartbeats 1000000 in
theorem r4_Write {I : Imm} {v : Value} {d : DSt} (hD : RDk I v d) (hf : d.Few 1000000) (n : Int) (aB : Option Addr) (len capB : Nat) (data : Dat) (hB : Rds I aB len (bts data)) (hlen : len ≤ 1000000000) (hn : In64 n) :
    Tri Try.prog 117 #[v, .int .i64 n, .slice aB len capB] I [] fun r J _ => ∃ v', r = .tuple #[v', .int .i64 (d.write n data).2] ∧ RDk J v' (d.write n data).1 := by
  refine Tri.fixed (Q := fun r J S' => ∃ v' ch, r = .tuple #[v', .int .i64 (d.write n data).2] ∧ S' = [ch] ∧ ∀ J', J.le J' → (∀ x ∈ ch, J' x.1 = some x.2) → RDk J' v' (d.write n data).1) ?_ ?_
  rotate_left
  · rintro r J S' hJ ⟨v', ch, rfl, rfl, h⟩
    exact ⟨0, ch, rfl, fun J' hJ' hm => ⟨v', rfl, h J' hJ' hm⟩⟩
  have hwf := hD.wf
  have hsnd := hD.snd
  have hwr := hD.wf.write n data
  have hdl : data.length = len := by have := hB.len; rwa [bts_length] at this
  obtain ⟨s, w, bS, gs, rfl, hS, hBk, hbd, hW, hwl, hwp⟩ := hD.ex
  obtain ⟨q1, q2, q3, q4⟩ := stop_r4 d hwf.arm hwf.fault
  have hsl : s.len = d.safe.length := by rw [← hbd, List.length_map]; have := hS.len; rw [List.length_map] at this; exact this.symm
  have hgl : gs.length = d.writes.length := by rw [← hwp, List.length_map]
  obtain ⟨f1, f2, f3⟩ := hf
  have hr := hwf.range
  have hll := hwf.len
  have hst := d.stop_same
  refine Tri.lay (S2 := [[]]) (by simp) ?_
  refine Tri.drop ?_ (fun _ _ _ _ h => h)
  have hop := r4_operation s w d.count d.down (gv d.arm) (gv d.fault) (gv_in hwf.arm) (gv_in hwf.fault)
  rw [q1, q2, q3, q4] at hop
  obtain ⟨sa, sl, sc⟩ := s
  obtain ⟨wa, wl, wc⟩ := w
  dsimp only at hS hW hwl hsl
  subst hwl
  refine Tri.of (args := [rV ⟨sa, sl, sc⟩ ⟨wa, gs.length, wc⟩ d.count d.down (gv d.arm) (gv d.fault), .int .i64 n, .slice aB len capB]) tabOk Try.func117 rfl (by kernel_rfl) (by kernel_rfl) ?_
  conv => whnf
  intro b1
  conv => whnf
  intro b2
  have same : ∀ (e : Int) (J : Imm), I.le J → d.write n data = (d, e) → ∃ v' ch, Value.tuple #[rV ⟨sa, sl, sc⟩ ⟨wa, gs.length, wc⟩ d.count d.down (gv d.arm) (gv d.fault), .int .i64 e] = .tuple #[v', .int .i64 (d.write n data).2] ∧ [([] : List Blk)] = [ch] ∧ ∀ J', J.le J' → (∀ x ∈ ch, J' x.1 = some x.2) → RDk J' v' (d.write n data).1 := by
    intro e J hJ he
    rw [he]
    exact ⟨_, [], rfl, rfl, fun J' hJ' _ => hD.mono (Imm.le_trans hJ hJ')⟩
  refine CmpD.split (fun c1 => ?_) (fun c1 => ?_)
  · repeat (first
      | refine LoadD.own 0 rfl _ rfl rfl ?_
      | refine LoadD.own 1 rfl _ rfl rfl ?_
      | refine LoadD.own 2 rfl _ rfl rfl ?_
      | refine LoadP.at 0 rfl _ rfl rfl ?_
      | refine LoadP.at 1 rfl _ rfl rfl ?_
      | refine LoadP.at 2 rfl _ rfl rfl ?_
      | refine StoreD.st 0 rfl rfl rfl ?_
      | refine StoreD.st 1 rfl rfl rfl ?_
      | refine StoreD.st 2 rfl rfl rfl ?_
      | refine CmpD.yes rfl ?_
      | refine CmpD.yes (by decide) ?_
      | refine CmpD.no (by decide) ?_
      | refine Chk.mk ⟨rfl, trivial⟩ ?_
      | refine Chk.mk ⟨rfl, rfl, trivial⟩ ?_
      | refine Chk.mk ⟨rfl, rfl, rfl, trivial⟩ ?_
      | refine Chk.mk ⟨rfl, rfl, rfl, rfl, trivial⟩ ?_
      | refine Chk.mk ⟨rfl, rfl, rfl, rfl, rfl, trivial⟩ ?_
      | refine Chk.mk ⟨rfl, rfl, rfl, rfl, rfl, rfl, trivial⟩ ?_)
    refine Done.mk ⟨[[]], Drop.pick [0] _ rfl, same 70 _ (Imm.le_refl _) ?_⟩
    have hw : wrongE d.now.length n = 70 := by unfold wrongE; rw [if_neg (show ¬ d.now.length = 0 by omega), if_pos (by omega)]
    unfold DSt.write
    rw [hw]; rfl
  repeat (first
    | refine LoadD.own 0 rfl _ rfl rfl ?_
    | refine LoadD.own 1 rfl _ rfl rfl ?_
    | refine LoadD.own 2 rfl _ rfl rfl ?_
    | refine LoadP.at 0 rfl _ rfl rfl ?_
    | refine LoadP.at 1 rfl _ rfl rfl ?_
    | refine LoadP.at 2 rfl _ rfl rfl ?_
    | refine StoreD.st 0 rfl rfl rfl ?_
    | refine StoreD.st 1 rfl rfl rfl ?_
    | refine StoreD.st 2 rfl rfl rfl ?_
    | refine CmpD.yes rfl ?_
    | refine CmpD.yes (by decide) ?_
    | refine CmpD.no (by decide) ?_
    | refine Chk.mk ⟨rfl, trivial⟩ ?_
    | refine Chk.mk ⟨rfl, rfl, trivial⟩ ?_
    | refine Chk.mk ⟨rfl, rfl, rfl, trivial⟩ ?_
    | refine Chk.mk ⟨rfl, rfl, rfl, rfl, trivial⟩ ?_
    | refine Chk.mk ⟨rfl, rfl, rfl, rfl, rfl, trivial⟩ ?_
    | refine Chk.mk ⟨rfl, rfl, rfl, rfl, rfl, rfl, trivial⟩ ?_)
  refine CmpD.split (fun c2 => ?_) (fun c2 => ?_)
  · repeat (first
      | refine LoadD.own 0 rfl _ rfl rfl ?_
      | refine LoadD.own 1 rfl _ rfl rfl ?_
      | refine LoadD.own 2 rfl _ rfl rfl ?_
      | refine LoadP.at 0 rfl _ rfl rfl ?_
      | refine LoadP.at 1 rfl _ rfl rfl ?_
      | refine LoadP.at 2 rfl _ rfl rfl ?_
      | refine StoreD.st 0 rfl rfl rfl ?_
      | refine StoreD.st 1 rfl rfl rfl ?_
      | refine StoreD.st 2 rfl rfl rfl ?_
      | refine CmpD.yes rfl ?_
      | refine CmpD.yes (by decide) ?_
      | refine CmpD.no (by decide) ?_
      | refine Chk.mk ⟨rfl, trivial⟩ ?_
      | refine Chk.mk ⟨rfl, rfl, trivial⟩ ?_
      | refine Chk.mk ⟨rfl, rfl, rfl, trivial⟩ ?_
      | refine Chk.mk ⟨rfl, rfl, rfl, rfl, trivial⟩ ?_
      | refine Chk.mk ⟨rfl, rfl, rfl, rfl, rfl, trivial⟩ ?_
      | refine Chk.mk ⟨rfl, rfl, rfl, rfl, rfl, rfl, trivial⟩ ?_)
    refine Done.mk ⟨[[]], Drop.pick [0] _ rfl, same 70 _ (Imm.le_refl _) ?_⟩
    have c2' : (sl : Int) ≤ n := c2
    have hw : wrongE d.now.length n = 70 := by unfold wrongE; rw [if_neg (show ¬ d.now.length = 0 by omega), if_pos (by omega)]
    unfold DSt.write
    rw [hw]; rfl
  repeat (first
    | refine LoadD.own 0 rfl _ rfl rfl ?_
    | refine LoadD.own 1 rfl _ rfl rfl ?_
    | refine LoadD.own 2 rfl _ rfl rfl ?_
    | refine LoadP.at 0 rfl _ rfl rfl ?_
    | refine LoadP.at 1 rfl _ rfl rfl ?_
    | refine LoadP.at 2 rfl _ rfl rfl ?_
    | refine StoreD.st 0 rfl rfl rfl ?_
    | refine StoreD.st 1 rfl rfl rfl ?_
    | refine StoreD.st 2 rfl rfl rfl ?_
    | refine CmpD.yes rfl ?_
    | refine CmpD.yes (by decide) ?_
    | refine CmpD.no (by decide) ?_
    | refine Chk.mk ⟨rfl, trivial⟩ ?_
    | refine Chk.mk ⟨rfl, rfl, trivial⟩ ?_
    | refine Chk.mk ⟨rfl, rfl, rfl, trivial⟩ ?_
    | refine Chk.mk ⟨rfl, rfl, rfl, rfl, trivial⟩ ?_
    | refine Chk.mk ⟨rfl, rfl, rfl, rfl, rfl, trivial⟩ ?_
    | refine Chk.mk ⟨rfl, rfl, rfl, rfl, rfl, rfl, trivial⟩ ?_)
  have c2' : ¬ (sl : Int) ≤ n := c2
  have hw0 : wrongE d.now.length n = 0 := by unfold wrongE; rw [if_neg (show ¬ d.now.length = 0 by omega), if_neg (by omega)]
  refine CmpD.split (fun c3 => ?_) (fun c3 => ?_)
  rotate_left
  · repeat (first
      | refine LoadD.own 0 rfl _ rfl rfl ?_
      | refine LoadD.own 1 rfl _ rfl rfl ?_
      | refine LoadD.own 2 rfl _ rfl rfl ?_
      | refine LoadP.at 0 rfl _ rfl rfl ?_
      | refine LoadP.at 1 rfl _ rfl rfl ?_
      | refine LoadP.at 2 rfl _ rfl rfl ?_
      | refine StoreD.st 0 rfl rfl rfl ?_
      | refine StoreD.st 1 rfl rfl rfl ?_
      | refine StoreD.st 2 rfl rfl rfl ?_
      | refine CmpD.yes rfl ?_
      | refine CmpD.yes (by decide) ?_
      | refine CmpD.no (by decide) ?_
      | refine Chk.mk ⟨rfl, trivial⟩ ?_
      | refine Chk.mk ⟨rfl, rfl, trivial⟩ ?_
      | refine Chk.mk ⟨rfl, rfl, rfl, trivial⟩ ?_
      | refine Chk.mk ⟨rfl, rfl, rfl, rfl, trivial⟩ ?_
      | refine Chk.mk ⟨rfl, rfl, rfl, rfl, rfl, trivial⟩ ?_
      | refine Chk.mk ⟨rfl, rfl, rfl, rfl, rfl, rfl, trivial⟩ ?_)
    refine Done.mk ⟨[[]], Drop.pick [0] _ rfl, same 2 _ (Imm.le_refl _) ?_⟩
    unfold DSt.write
    rw [hw0, if_neg (by simp), if_pos (by omega)]
  repeat (first
    | refine LoadD.own 0 rfl _ rfl rfl ?_
    | refine LoadD.own 1 rfl _ rfl rfl ?_
    | refine LoadD.own 2 rfl _ rfl rfl ?_
    | refine LoadP.at 0 rfl _ rfl rfl ?_
    | refine LoadP.at 1 rfl _ rfl rfl ?_
    | refine LoadP.at 2 rfl _ rfl rfl ?_
    | refine StoreD.st 0 rfl rfl rfl ?_
    | refine StoreD.st 1 rfl rfl rfl ?_
    | refine StoreD.st 2 rfl rfl rfl ?_
    | refine CmpD.yes rfl ?_
    | refine CmpD.yes (by decide) ?_
    | refine CmpD.no (by decide) ?_
    | refine Chk.mk ⟨rfl, trivial⟩ ?_
    | refine Chk.mk ⟨rfl, rfl, trivial⟩ ?_
    | refine Chk.mk ⟨rfl, rfl, rfl, trivial⟩ ?_
    | refine Chk.mk ⟨rfl, rfl, rfl, rfl, trivial⟩ ?_
    | refine Chk.mk ⟨rfl, rfl, rfl, rfl, rfl, trivial⟩ ?_
    | refine Chk.mk ⟨rfl, rfl, rfl, rfl, rfl, rfl, trivial⟩ ?_)
  refine Tri.free (hop _) ?_
  rintro v J0 _ hJ0 ⟨rfl, rfl⟩
  conv => whnf
  intro b3
  repeat (first
    | refine LoadD.own 0 rfl _ rfl rfl ?_
    | refine LoadD.own 1 rfl _ rfl rfl ?_
    | refine LoadD.own 2 rfl _ rfl rfl ?_
    | refine LoadD.own 3 rfl _ rfl rfl ?_
    | refine LoadP.at 0 rfl _ rfl rfl ?_
    | refine LoadP.at 1 rfl _ rfl rfl ?_
    | refine LoadP.at 2 rfl _ rfl rfl ?_
    | refine LoadP.at 3 rfl _ rfl rfl ?_
    | refine StoreD.st 0 rfl rfl rfl ?_
    | refine StoreD.st 1 rfl rfl rfl ?_
    | refine StoreD.st 2 rfl rfl rfl ?_
    | refine StoreD.st 3 rfl rfl rfl ?_
    | refine CmpD.yes rfl ?_
    | refine CmpD.yes (by decide) ?_
    | refine CmpD.no (by decide) ?_
    | refine Chk.mk ⟨rfl, trivial⟩ ?_
    | refine Chk.mk ⟨rfl, rfl, trivial⟩ ?_
    | refine Chk.mk ⟨rfl, rfl, rfl, trivial⟩ ?_
    | refine Chk.mk ⟨rfl, rfl, rfl, rfl, trivial⟩ ?_
    | refine Chk.mk ⟨rfl, rfl, rfl, rfl, rfl, trivial⟩ ?_
    | refine Chk.mk ⟨rfl, rfl, rfl, rfl, rfl, rfl, trivial⟩ ?_)
  refine CmpD.split (fun c4 => ?_) (fun c4 => ?_)
  rotate_left
  · repeat (first
      | refine LoadD.own 0 rfl _ rfl rfl ?_
      | refine LoadD.own 1 rfl _ rfl rfl ?_
      | refine LoadD.own 2 rfl _ rfl rfl ?_
      | refine LoadD.own 3 rfl _ rfl rfl ?_
      | refine LoadP.at 0 rfl _ rfl rfl ?_
      | refine LoadP.at 1 rfl _ rfl rfl ?_
      | refine LoadP.at 2 rfl _ rfl rfl ?_
      | refine LoadP.at 3 rfl _ rfl rfl ?_
      | refine StoreD.st 0 rfl rfl rfl ?_
      | refine StoreD.st 1 rfl rfl rfl ?_
      | refine StoreD.st 2 rfl rfl rfl ?_
      | refine StoreD.st 3 rfl rfl rfl ?_
      | refine CmpD.yes rfl ?_
      | refine CmpD.yes (by decide) ?_
      | refine CmpD.no (by decide) ?_
      | refine Chk.mk ⟨rfl, trivial⟩ ?_
      | refine Chk.mk ⟨rfl, rfl, trivial⟩ ?_
      | refine Chk.mk ⟨rfl, rfl, rfl, trivial⟩ ?_
      | refine Chk.mk ⟨rfl, rfl, rfl, rfl, trivial⟩ ?_
      | refine Chk.mk ⟨rfl, rfl, rfl, rfl, rfl, trivial⟩ ?_
      | refine Chk.mk ⟨rfl, rfl, rfl, rfl, rfl, rfl, trivial⟩ ?_)
    have hd : d.write n data = d.stop := by unfold DSt.write; rw [hw0, if_neg (by simp), if_neg (by omega), if_pos c4]
    refine Done.mk ⟨[[]], Drop.pick [0] _ rfl, ?_⟩
    rw [hd]
    exact ⟨_, [], rfl, rfl, fun J' hJ' _ => (RDk.stop hwf hsnd hS hBk hbd hW rfl hwp).mono hJ'⟩
  repeat (first
    | refine LoadD.own 0 rfl _ rfl rfl ?_
    | refine LoadD.own 1 rfl _ rfl rfl ?_
    | refine LoadD.own 2 rfl _ rfl rfl ?_
    | refine LoadD.own 3 rfl _ rfl rfl ?_
    | refine LoadP.at 0 rfl _ rfl rfl ?_
    | refine LoadP.at 1 rfl _ rfl rfl ?_
    | refine LoadP.at 2 rfl _ rfl rfl ?_
    | refine LoadP.at 3 rfl _ rfl rfl ?_
    | refine StoreD.st 0 rfl rfl rfl ?_
    | refine StoreD.st 1 rfl rfl rfl ?_
    | refine StoreD.st 2 rfl rfl rfl ?_
    | refine StoreD.st 3 rfl rfl rfl ?_
    | refine CmpD.yes rfl ?_
    | refine CmpD.yes (by decide) ?_
    | refine CmpD.no (by decide) ?_
    | refine Chk.mk ⟨rfl, trivial⟩ ?_
    | refine Chk.mk ⟨rfl, rfl, trivial⟩ ?_
    | refine Chk.mk ⟨rfl, rfl, rfl, trivial⟩ ?_
    | refine Chk.mk ⟨rfl, rfl, rfl, rfl, trivial⟩ ?_
    | refine Chk.mk ⟨rfl, rfl, rfl, rfl, rfl, trivial⟩ ?_
    | refine Chk.mk ⟨rfl, rfl, rfl, rfl, rfl, rfl, trivial⟩ ?_)
  have hplain : ∀ u ∈ imgCells gs, Plain u = true := by
    intro u hu
    unfold imgCells at hu
    obtain ⟨g, _, h⟩ := List.mem_flatMap.1 hu
    simp only [List.mem_cons, List.not_mem_nil, or_false] at h
    rcases h with rfl | rfl <;> rfl
  obtain ⟨k, rfl⟩ : ∃ k : Nat, n = k := ⟨n.toNat, by omega⟩
  refine appendD tabOk rfl rfl rfl rfl rfl rfl rfl 0 rfl (OwnC.nil 2 none) (SrcOk.slice (n := gs.length) (news := imgCells gs) tabOk rfl hW.1.slC hplain) rfl (by show (0 + gs.length) * 32 ≤ _; omega) (by omega) ?_
  intro aL capL chL hL
  refine Tri.free (copy_fix _ aB len capB data hB hlen) ?_
  rintro v J1 _ hJ1 ⟨aC, capC, rfl, hC⟩
  conv => whnf
  intro b43
  repeat (first
    | refine LoadD.own 0 rfl _ rfl rfl ?_
    | refine LoadD.own 1 rfl _ rfl rfl ?_
    | refine LoadD.own 2 rfl _ rfl rfl ?_
    | refine LoadD.own 3 rfl _ rfl rfl ?_
    | refine LoadD.own 4 rfl _ rfl rfl ?_
    | refine LoadP.at 0 rfl _ rfl rfl ?_
    | refine LoadP.at 1 rfl _ rfl rfl ?_
    | refine LoadP.at 2 rfl _ rfl rfl ?_
    | refine LoadP.at 3 rfl _ rfl rfl ?_
    | refine LoadP.at 4 rfl _ rfl rfl ?_
    | refine StoreD.st 0 rfl rfl rfl ?_
    | refine StoreD.st 1 rfl rfl rfl ?_
    | refine StoreD.st 2 rfl rfl rfl ?_
    | refine StoreD.st 3 rfl rfl rfl ?_
    | refine StoreD.st 4 rfl rfl rfl ?_
    | refine CmpD.yes rfl ?_
    | refine CmpD.yes (by decide) ?_
    | refine CmpD.no (by decide) ?_
    | refine Chk.mk ⟨rfl, trivial⟩ ?_
    | refine Chk.mk ⟨rfl, rfl, trivial⟩ ?_
    | refine Chk.mk ⟨rfl, rfl, rfl, trivial⟩ ?_
    | refine Chk.mk ⟨rfl, rfl, rfl, rfl, trivial⟩ ?_
    | refine Chk.mk ⟨rfl, rfl, rfl, rfl, rfl, trivial⟩ ?_
    | refine Chk.mk ⟨rfl, rfl, rfl, rfl, rfl, rfl, trivial⟩ ?_)
  refine appendD tabOk rfl rfl rfl rfl rfl rfl rfl 0 rfl hL (SrcOk.slice (n := 1) (news := imgCells [⟨k, aC, len, capC, data⟩]) tabOk rfl ((OwnC.whole (len := 1) (size := 2) rfl).slC 4 rfl) (by intro v hv; simp [imgCells] at hv; rcases hv with rfl | rfl <;> rfl)) rfl (by show (0 + gs.length + 1) * 32 ≤ _; omega) (by omega) ?_
  intro aM capM chM hM
  repeat (first
    | refine LoadD.own 0 rfl _ rfl rfl ?_
    | refine LoadD.own 1 rfl _ rfl rfl ?_
    | refine LoadD.own 2 rfl _ rfl rfl ?_
    | refine LoadD.own 3 rfl _ rfl rfl ?_
    | refine LoadD.own 4 rfl _ rfl rfl ?_
    | refine LoadP.at 0 rfl _ rfl rfl ?_
    | refine LoadP.at 1 rfl _ rfl rfl ?_
    | refine LoadP.at 2 rfl _ rfl rfl ?_
    | refine LoadP.at 3 rfl _ rfl rfl ?_
    | refine LoadP.at 4 rfl _ rfl rfl ?_
    | refine StoreD.st 0 rfl rfl rfl ?_
    | refine StoreD.st 1 rfl rfl rfl ?_
    | refine StoreD.st 2 rfl rfl rfl ?_
    | refine StoreD.st 3 rfl rfl rfl ?_
    | refine StoreD.st 4 rfl rfl rfl ?_
    | refine CmpD.yes rfl ?_
    | refine CmpD.yes (by decide) ?_
    | refine CmpD.no (by decide) ?_
    | refine Chk.mk ⟨rfl, trivial⟩ ?_
    | refine Chk.mk ⟨rfl, rfl, trivial⟩ ?_
    | refine Chk.mk ⟨rfl, rfl, rfl, trivial⟩ ?_
    | refine Chk.mk ⟨rfl, rfl, rfl, rfl, trivial⟩ ?_
    | refine Chk.mk ⟨rfl, rfl, rfl, rfl, rfl, trivial⟩ ?_
    | refine Chk.mk ⟨rfl, rfl, rfl, rfl, rfl, rfl, trivial⟩ ?_)
  refine ToD.i64 (by omega) (by omega) ?_
  repeat (first
    | refine LoadD.own 0 rfl _ rfl rfl ?_
    | refine LoadD.own 1 rfl _ rfl rfl ?_
    | refine LoadD.own 2 rfl _ rfl rfl ?_
    | refine LoadD.own 3 rfl _ rfl rfl ?_
    | refine LoadD.own 4 rfl _ rfl rfl ?_
    | refine LoadP.at 0 rfl _ rfl rfl ?_
    | refine LoadP.at 1 rfl _ rfl rfl ?_
    | refine LoadP.at 2 rfl _ rfl rfl ?_
    | refine LoadP.at 3 rfl _ rfl rfl ?_
    | refine LoadP.at 4 rfl _ rfl rfl ?_
    | refine StoreD.st 0 rfl rfl rfl ?_
    | refine StoreD.st 1 rfl rfl rfl ?_
    | refine StoreD.st 2 rfl rfl rfl ?_
    | refine StoreD.st 3 rfl rfl rfl ?_
    | refine StoreD.st 4 rfl rfl rfl ?_
    | refine CmpD.yes rfl ?_
    | refine CmpD.yes (by decide) ?_
    | refine CmpD.no (by decide) ?_
    | refine Chk.mk ⟨rfl, trivial⟩ ?_
    | refine Chk.mk ⟨rfl, rfl, trivial⟩ ?_
    | refine Chk.mk ⟨rfl, rfl, rfl, trivial⟩ ?_
    | refine Chk.mk ⟨rfl, rfl, rfl, rfl, trivial⟩ ?_
    | refine Chk.mk ⟨rfl, rfl, rfl, rfl, rfl, trivial⟩ ?_
    | refine Chk.mk ⟨rfl, rfl, rfl, rfl, rfl, rfl, trivial⟩ ?_)
  refine Done.mk ⟨[chM], Drop.pick [0] _ rfl, ?_⟩
  have hd : d.write k data = ({ d.stop.1 with now := d.now.set k data, writes := d.writes ++ [((k : Int), data)], count := d.count + 1 }, 0) := by
    unfold DSt.write; rw [hw0, if_neg (by simp), if_neg (by omega), if_neg (by omega)]; rfl
  rw [hd] at hwr ⊢
  refine ⟨rV ⟨sa, sl, sc⟩ ⟨aM, 0 + gs.length + 1, capM⟩ (d.count + 1) d.stop.1.down (gv d.stop.1.arm) (gv d.stop.1.fault), chM, rfl, rfl, fun J' hJ' hm => ⟨hwr, ?_, ⟨sa, sl, sc⟩, ⟨aM, 0 + gs.length + 1, capM⟩, bS, gs ++ [⟨k, aC, len, capC, data⟩], rfl, hS.mono (Imm.le_trans hJ1 hJ'), fun b hb => (hBk b hb).mono (Imm.le_trans hJ1 hJ'), by rw [hst.1]; exact hbd, ⟨?_, ?_⟩, by simp, by simp [hwp]⟩⟩
  · rw [hst.1]; exact snd_write hwf hsnd k data
  · rw [List.length_append, List.length_singleton]
    rw [imgCells_snoc]
    have := Rds.of_ownS hM hm
    rw [List.nil_append, Nat.zero_add] at this
    show Rds J' aM _ _
    exact this
  · intro g hg
    rcases List.mem_append.1 hg with hg | hg
    · exact (hW.2 g hg).mono (Imm.le_trans hJ1 hJ')
    · simp only [List.mem_singleton] at hg
      subst hg
      exact ⟨hn, hC.mono hJ'⟩
end Go.Proofs.Ytbpdbgcndfcilaa
namespace Go.Proofs.Ytbpdbgcndfcilaa
open Go.RowKit Go.Sl
set_option maxRecDepth 20000

set_option maxHeartbeats 1000000 in
theorem r4_Flush {I : Imm} {v : Value} {d : DSt} (hD : RDk I v d) (hf : d.Few 1000000) :
    Tri Try.prog 118 #[v] I [] fun r J _ => ∃ v', r = .tuple #[v', .int .i64 d.flush.2] ∧ RDk J v' d.flush.1 := by
  refine Tri.fixed (Q := fun r J S' => ∃ v' ch, r = .tuple #[v', .int .i64 d.flush.2] ∧ S' = [ch] ∧ ∀ J', J.le J' → (∀ x ∈ ch, J' x.1 = some x.2) → RDk J' v' d.flush.1) ?_ ?_
  rotate_left
  · rintro r J S' hJ ⟨v', ch, rfl, rfl, h⟩
    exact ⟨0, ch, rfl, fun J' hJ' hm => ⟨v', rfl, h J' hJ' hm⟩⟩
  have hwf := hD.wf
  have hsnd := hD.snd
  have hwr := hD.wf.flush
  obtain ⟨s, w, bS, gs, rfl, hS, hBk, hbd, hW, hwl, hwp⟩ := hD.ex
  obtain ⟨q1, q2, q3, q4⟩ := stop_r4 d hwf.arm hwf.fault
  have hsl : s.len = d.safe.length := by rw [← hbd, List.length_map]; have := hS.len; rw [List.length_map] at this; exact this.symm
  have hgl : gs.length = d.writes.length := by rw [← hwp, List.length_map]
  obtain ⟨f1, f2, f3⟩ := hf
  have hr := hwf.range
  have hll := hwf.len
  have hst := d.stop_same
  refine Tri.lay (S2 := [[]]) (by simp) ?_
  refine Tri.drop ?_ (fun _ _ _ _ h => h)
  have hop := r4_operation s w d.count d.down (gv d.arm) (gv d.fault) (gv_in hwf.arm) (gv_in hwf.fault)
  rw [q1, q2, q3, q4] at hop
  have hat := r4_At s w d.count d.down (gv d.arm) (gv d.fault) bS gs
  obtain ⟨sa, sl, sc⟩ := s
  obtain ⟨wa, wl, wc⟩ := w
  dsimp only at hS hW hwl hsl hat
  subst hwl
  refine Tri.of (args := [rV ⟨sa, sl, sc⟩ ⟨wa, gs.length, wc⟩ d.count d.down (gv d.arm) (gv d.fault)]) tabOk Try.func118 rfl (by kernel_rfl) (by kernel_rfl) ?_
  conv => whnf
  intro b1
  conv => whnf
  intro b2
  repeat (first
    | refine LoadD.own 0 rfl _ rfl rfl ?_
    | refine LoadD.own 1 rfl _ rfl rfl ?_
    | refine LoadD.own 2 rfl _ rfl rfl ?_
    | refine LoadP.at 0 rfl _ rfl rfl ?_
    | refine LoadP.at 1 rfl _ rfl rfl ?_
    | refine LoadP.at 2 rfl _ rfl rfl ?_
    | refine StoreD.st 0 rfl rfl rfl ?_
    | refine StoreD.st 1 rfl rfl rfl ?_
    | refine StoreD.st 2 rfl rfl rfl ?_
    | refine CmpD.yes rfl ?_
    | refine CmpD.yes (by decide) ?_
    | refine CmpD.no (by decide) ?_
    | refine Chk.mk ⟨rfl, trivial⟩ ?_
    | refine Chk.mk ⟨rfl, rfl, trivial⟩ ?_
    | refine Chk.mk ⟨rfl, rfl, rfl, trivial⟩ ?_
    | refine Chk.mk ⟨rfl, rfl, rfl, rfl, trivial⟩ ?_
    | refine Chk.mk ⟨rfl, rfl, rfl, rfl, rfl, trivial⟩ ?_
    | refine Chk.mk ⟨rfl, rfl, rfl, rfl, rfl, rfl, trivial⟩ ?_)
  refine Tri.free (hop _) ?_
  rintro v J0 _ hJ0 ⟨rfl, rfl⟩
  conv => whnf
  intro b3
  repeat (first
    | refine LoadD.own 0 rfl _ rfl rfl ?_
    | refine LoadD.own 1 rfl _ rfl rfl ?_
    | refine LoadD.own 2 rfl _ rfl rfl ?_
    | refine LoadD.own 3 rfl _ rfl rfl ?_
    | refine LoadP.at 0 rfl _ rfl rfl ?_
    | refine LoadP.at 1 rfl _ rfl rfl ?_
    | refine LoadP.at 2 rfl _ rfl rfl ?_
    | refine LoadP.at 3 rfl _ rfl rfl ?_
    | refine StoreD.st 0 rfl rfl rfl ?_
    | refine StoreD.st 1 rfl rfl rfl ?_
    | refine StoreD.st 2 rfl rfl rfl ?_
    | refine StoreD.st 3 rfl rfl rfl ?_
    | refine CmpD.yes rfl ?_
    | refine CmpD.yes (by decide) ?_
    | refine CmpD.no (by decide) ?_
    | refine Chk.mk ⟨rfl, trivial⟩ ?_
    | refine Chk.mk ⟨rfl, rfl, trivial⟩ ?_
    | refine Chk.mk ⟨rfl, rfl, rfl, trivial⟩ ?_
    | refine Chk.mk ⟨rfl, rfl, rfl, rfl, trivial⟩ ?_
    | refine Chk.mk ⟨rfl, rfl, rfl, rfl, rfl, trivial⟩ ?_
    | refine Chk.mk ⟨rfl, rfl, rfl, rfl, rfl, rfl, trivial⟩ ?_)
  refine CmpD.split (fun c4 => ?_) (fun c4 => ?_)
  rotate_left
  · repeat (first
      | refine LoadD.own 0 rfl _ rfl rfl ?_
      | refine LoadD.own 1 rfl _ rfl rfl ?_
      | refine LoadD.own 2 rfl _ rfl rfl ?_
      | refine LoadD.own 3 rfl _ rfl rfl ?_
      | refine LoadP.at 0 rfl _ rfl rfl ?_
      | refine LoadP.at 1 rfl _ rfl rfl ?_
      | refine LoadP.at 2 rfl _ rfl rfl ?_
      | refine LoadP.at 3 rfl _ rfl rfl ?_
      | refine StoreD.st 0 rfl rfl rfl ?_
      | refine StoreD.st 1 rfl rfl rfl ?_
      | refine StoreD.st 2 rfl rfl rfl ?_
      | refine StoreD.st 3 rfl rfl rfl ?_
      | refine CmpD.yes rfl ?_
      | refine CmpD.yes (by decide) ?_
      | refine CmpD.no (by decide) ?_
      | refine Chk.mk ⟨rfl, trivial⟩ ?_
      | refine Chk.mk ⟨rfl, rfl, trivial⟩ ?_
      | refine Chk.mk ⟨rfl, rfl, rfl, trivial⟩ ?_
      | refine Chk.mk ⟨rfl, rfl, rfl, rfl, trivial⟩ ?_
      | refine Chk.mk ⟨rfl, rfl, rfl, rfl, rfl, trivial⟩ ?_
      | refine Chk.mk ⟨rfl, rfl, rfl, rfl, rfl, rfl, trivial⟩ ?_)
    have hd : d.flush = d.stop := by unfold DSt.flush; rw [if_pos c4]
    refine Done.mk ⟨[[]], Drop.pick [0] _ rfl, ?_⟩
    rw [hd]
    exact ⟨_, [], rfl, rfl, fun J' hJ' _ => (RDk.stop hwf hsnd hS hBk hbd hW rfl hwp).mono hJ'⟩
  repeat (first
    | refine LoadD.own 0 rfl _ rfl rfl ?_
    | refine LoadD.own 1 rfl _ rfl rfl ?_
    | refine LoadD.own 2 rfl _ rfl rfl ?_
    | refine LoadD.own 3 rfl _ rfl rfl ?_
    | refine LoadP.at 0 rfl _ rfl rfl ?_
    | refine LoadP.at 1 rfl _ rfl rfl ?_
    | refine LoadP.at 2 rfl _ rfl rfl ?_
    | refine LoadP.at 3 rfl _ rfl rfl ?_
    | refine StoreD.st 0 rfl rfl rfl ?_
    | refine StoreD.st 1 rfl rfl rfl ?_
    | refine StoreD.st 2 rfl rfl rfl ?_
    | refine StoreD.st 3 rfl rfl rfl ?_
    | refine CmpD.yes rfl ?_
    | refine CmpD.yes (by decide) ?_
    | refine CmpD.no (by decide) ?_
    | refine Chk.mk ⟨rfl, trivial⟩ ?_
    | refine Chk.mk ⟨rfl, rfl, trivial⟩ ?_
    | refine Chk.mk ⟨rfl, rfl, rfl, trivial⟩ ?_
    | refine Chk.mk ⟨rfl, rfl, rfl, rfl, trivial⟩ ?_
    | refine Chk.mk ⟨rfl, rfl, rfl, rfl, rfl, trivial⟩ ?_
    | refine Chk.mk ⟨rfl, rfl, rfl, rfl, rfl, rfl, trivial⟩ ?_)
  have hst2 := hst.2.1
  refine CodeF.loopD [1, 2, 4, 6, 7] (fun vs J' S' => ∃ (i : Nat) (a : Option Addr) (cap : Nat) (ch : List Blk) (bks : List Bk), i ≤ sl ∧ OwnC ch 1 a i cap (bks.map Bk.cell) ∧ bks.map Bk.data = d.now.take i ∧ (∀ b ∈ bks, BkOk I b) ∧ vs = [.pointer (some ⟨b1, 0, none⟩), .pointer (some ⟨b2, 0, none⟩), .pointer (some ⟨b3, 0, none⟩), .slice a i cap, .int .i64 i] ∧ I = J' ∧
      S' = [ch, [(b1, row [.slice sa sl sc, .slice wa gs.length wc, .int .i64 d.count, .bool d.down, .int .i64 (gv d.arm), .int .i64 (gv d.fault)] 79)], [(b2, row [.slice none 0 0, .slice none 0 0, .int .i64 0, .bool false, .int .i64 0, .int .i64 0] 79)], [(b3, row [.slice sa sl sc, .slice wa gs.length wc, .int .i64 d.count, .bool d.stop.1.down, .int .i64 (gv d.stop.1.arm), .int .i64 (gv d.stop.1.fault)] 79)]])
    (fun vs _ _ => match vs with | [_, _, _, _, .int _ i] => ((sl : Int) - i).toNat | _ => 0) ?_ ?_
  · exact ⟨_, Drop.pick [0, 1, 2, 3] _ rfl, 0, none, 0, [], [], by omega, OwnC.nil 1 none, by simp, by simp, rfl, rfl, rfl⟩
  rintro vs gE J' S' hJ' ⟨i, a, cap, ch, bks, hi, hO, hdat, hok, rfl, rfl, rfl⟩
  refine LoadD.own 1 rfl _ rfl rfl ?_
  refine CmpD.split (fun c1 => ?_) (fun c1 => ?_)
  · have hlt : i < sl := by omega
    have hbi : i < bS.length := by have := congrArg List.length hbd; rw [List.length_map] at this; omega
    have hsafe : d.safe.getD i [] = bS[i].data := by rw [← hbd, List.getD_eq_getElem?_getD, List.getElem?_map, List.getElem?_eq_getElem hbi]; rfl
    have hn : d.now[i]? = some (atP bS[i].data d.writes i) := by have := hsnd i (by omega); rwa [hsafe] at this
    have hln : (atP bS[i].data d.writes i).length = 4096 := hwf.now _ (List.mem_of_getElem? hn)
    have hati := hat I hS (by omega) hW rfl (by omega) i (List.getElem?_eq_getElem hbi) (hBk _ (List.getElem_mem hbi))
    rw [hwp] at hati
    generalize atP bS[i].data d.writes i = dat at *
    repeat (first
      | refine LoadD.own 0 rfl _ rfl rfl ?_
      | refine LoadD.own 1 rfl _ rfl rfl ?_
      | refine LoadD.own 2 rfl _ rfl rfl ?_
      | refine LoadD.own 3 rfl _ rfl rfl ?_
      | refine LoadP.at 0 rfl _ rfl rfl ?_
      | refine LoadP.at 1 rfl _ rfl rfl ?_
      | refine LoadP.at 2 rfl _ rfl rfl ?_
      | refine LoadP.at 3 rfl _ rfl rfl ?_
      | refine StoreD.st 0 rfl rfl rfl ?_
      | refine StoreD.st 1 rfl rfl rfl ?_
      | refine StoreD.st 2 rfl rfl rfl ?_
      | refine StoreD.st 3 rfl rfl rfl ?_
      | refine CmpD.yes rfl ?_
      | refine CmpD.yes (by decide) ?_
      | refine CmpD.no (by decide) ?_
      | refine Chk.mk ⟨rfl, trivial⟩ ?_
      | refine Chk.mk ⟨rfl, rfl, trivial⟩ ?_
      | refine Chk.mk ⟨rfl, rfl, rfl, trivial⟩ ?_
      | refine Chk.mk ⟨rfl, rfl, rfl, rfl, trivial⟩ ?_
      | refine Chk.mk ⟨rfl, rfl, rfl, rfl, rfl, trivial⟩ ?_
      | refine Chk.mk ⟨rfl, rfl, rfl, rfl, rfl, rfl, trivial⟩ ?_)
    refine Tri.free hati ?_
    rintro v J1 _ hJ1 ⟨rfl, aN, len, capN, rfl, hN⟩
    obtain rfl : len = 4096 := by have := hN.len; rw [bts_length] at this; omega
    conv => whnf
    intro b4
    repeat (first
      | refine LoadD.own 0 rfl _ rfl rfl ?_
      | refine LoadD.own 1 rfl _ rfl rfl ?_
      | refine LoadD.own 2 rfl _ rfl rfl ?_
      | refine LoadD.own 3 rfl _ rfl rfl ?_
      | refine LoadD.own 4 rfl _ rfl rfl ?_
      | refine LoadP.at 0 rfl _ rfl rfl ?_
      | refine LoadP.at 1 rfl _ rfl rfl ?_
      | refine LoadP.at 2 rfl _ rfl rfl ?_
      | refine LoadP.at 3 rfl _ rfl rfl ?_
      | refine LoadP.at 4 rfl _ rfl rfl ?_
      | refine StoreD.st 0 rfl rfl rfl ?_
      | refine StoreD.st 1 rfl rfl rfl ?_
      | refine StoreD.st 2 rfl rfl rfl ?_
      | refine StoreD.st 3 rfl rfl rfl ?_
      | refine StoreD.st 4 rfl rfl rfl ?_
      | refine CmpD.yes rfl ?_
      | refine CmpD.yes (by decide) ?_
      | refine CmpD.no (by decide) ?_
      | refine Chk.mk ⟨rfl, trivial⟩ ?_
      | refine Chk.mk ⟨rfl, rfl, trivial⟩ ?_
      | refine Chk.mk ⟨rfl, rfl, rfl, trivial⟩ ?_
      | refine Chk.mk ⟨rfl, rfl, rfl, rfl, trivial⟩ ?_
      | refine Chk.mk ⟨rfl, rfl, rfl, rfl, rfl, trivial⟩ ?_
      | refine Chk.mk ⟨rfl, rfl, rfl, rfl, rfl, rfl, trivial⟩ ?_)
    refine appendD tabOk rfl rfl rfl rfl rfl rfl rfl 0 rfl hO (SrcOk.slice (n := 1) (news := [.slice aN 4096 capN]) tabOk rfl ((OwnC.whole (len := 1) (size := 1) rfl).slC 4 rfl) (by intro v hv; simp only [List.mem_singleton] at hv; subst hv; rfl)) rfl (by show (i + 1) * 24 ≤ _; omega) (by omega) ?_
    intro a2 cap2 ch2 hO2
    refine ToD.i64 (by omega) (by omega) ?_
    refine ⟨_, Drop.pick [0, 1, 2, 3] _ rfl, ⟨i + 1, a2, cap2, ch2, bks ++ [⟨aN, capN, dat⟩], by omega, by rw [List.map_append]; exact hO2, ?_, ?_, rfl, rfl, rfl⟩, ?_⟩
    · rw [List.map_append, hdat, List.take_add_one, hn]; rfl
    · intro b hb
      rcases List.mem_append.1 hb with hb | hb
      · exact hok b hb
      · simp only [List.mem_singleton] at hb
        subst hb
        exact hN
    · show ((sl : Int) - ((i : Int) + 1)).toNat < ((sl : Int) - i).toNat; omega
  · obtain rfl : i = sl := by omega
    repeat (first
      | refine LoadD.own 0 rfl _ rfl rfl ?_
      | refine LoadD.own 1 rfl _ rfl rfl ?_
      | refine LoadD.own 2 rfl _ rfl rfl ?_
      | refine LoadD.own 3 rfl _ rfl rfl ?_
      | refine LoadP.at 0 rfl _ rfl rfl ?_
      | refine LoadP.at 1 rfl _ rfl rfl ?_
      | refine LoadP.at 2 rfl _ rfl rfl ?_
      | refine LoadP.at 3 rfl _ rfl rfl ?_
      | refine StoreD.st 0 rfl rfl rfl ?_
      | refine StoreD.st 1 rfl rfl rfl ?_
      | refine StoreD.st 2 rfl rfl rfl ?_
      | refine StoreD.st 3 rfl rfl rfl ?_
      | refine CmpD.yes rfl ?_
      | refine CmpD.yes (by decide) ?_
      | refine CmpD.no (by decide) ?_
      | refine Chk.mk ⟨rfl, trivial⟩ ?_
      | refine Chk.mk ⟨rfl, rfl, trivial⟩ ?_
      | refine Chk.mk ⟨rfl, rfl, rfl, trivial⟩ ?_
      | refine Chk.mk ⟨rfl, rfl, rfl, rfl, trivial⟩ ?_
      | refine Chk.mk ⟨rfl, rfl, rfl, rfl, rfl, trivial⟩ ?_
      | refine Chk.mk ⟨rfl, rfl, rfl, rfl, rfl, rfl, trivial⟩ ?_)
    have hd : d.flush = ({ d.stop.1 with safe := d.now, writes := [] }, 0) := by unfold DSt.flush; rw [if_neg (by omega)]
    refine Done.mk ⟨[ch], Drop.pick [0] _ rfl, ?_⟩
    rw [hd] at hwr ⊢
    have htake : d.now.take i = d.now := List.take_of_length_le (by omega)
    rw [htake] at hdat
    refine ⟨rV ⟨a, i, cap⟩ ⟨none, 0, 0⟩ d.count d.stop.1.down (gv d.stop.1.arm) (gv d.stop.1.fault), ch, rfl, rfl, fun J' hJ' hm => ⟨hwr, ?_, ⟨a, i, cap⟩, ⟨none, 0, 0⟩, bks, [], ?_, Rds.of_own hO hm, fun b hb => (hok b hb).mono hJ', hdat, ⟨⟨rfl, .inl rfl⟩, by simp⟩, rfl, rfl⟩⟩
    · intro k hk
      dsimp only at hk ⊢
      rw [hst2]
      show d.now[k]? = some (d.now.getD k [])
      rw [List.getD_eq_getElem?_getD, List.getElem?_eq_getElem hk]; rfl
    · show _ = rV _ _ d.stop.1.count _ _ _
      rw [hst.2.2.2]
end Go.Proofs.Ytbpdbgcndfcilaa
namespace Go.Proofs.Ytbpdbgcndfcilaa
open Go.RowKit Go.Sl
set_option maxRecDepth 20000

theorem r4_Armed {I : Imm} {v : Value} {d : DSt} (hD : RDk I v d) (n : Int) (hn : In64 n) :
    Tri Try.prog 68 #[v, .int .i64 n] I [] fun r J _ => ∃ v', r = .tuple #[v', .int .i64 (d.armed n).2] ∧ RDk J v' (d.armed n).1 := by
  have hwf := hD.wf
  have hsnd := hD.snd
  obtain ⟨⟨sa, sl, sc⟩, ⟨wa, wl, wc⟩, bS, gs, rfl, hS, hBk, hbd, hW, hwl, hwp⟩ := hD.ex
  unfold In64 at hn
  refine Tri.of (args := [rV ⟨sa, sl, sc⟩ ⟨wa, wl, wc⟩ d.count d.down (gv d.arm) (gv d.fault), .int .i64 n]) tabOk Try.func68 rfl (by kernel_rfl) (by kernel_rfl) ?_
  conv => whnf
  intro b1
  conv => whnf
  intro b2
  unfold DSt.armed
  refine CmpD.split (fun c1 => ?_) (fun c1 => ?_)
  · repeat (first
      | refine LoadD.own 0 rfl _ rfl rfl ?_
      | refine LoadD.own 1 rfl _ rfl rfl ?_
      | refine LoadD.own 2 rfl _ rfl rfl ?_
      | refine LoadP.at 0 rfl _ rfl rfl ?_
      | refine LoadP.at 1 rfl _ rfl rfl ?_
      | refine LoadP.at 2 rfl _ rfl rfl ?_
      | refine StoreD.st 0 rfl rfl rfl ?_
      | refine StoreD.st 1 rfl rfl rfl ?_
      | refine StoreD.st 2 rfl rfl rfl ?_
      | refine CmpD.yes rfl ?_
      | refine CmpD.yes (by decide) ?_
      | refine CmpD.no (by decide) ?_
      | refine Chk.mk ⟨rfl, trivial⟩ ?_
      | refine Chk.mk ⟨rfl, rfl, trivial⟩ ?_
      | refine Chk.mk ⟨rfl, rfl, rfl, trivial⟩ ?_
      | refine Chk.mk ⟨rfl, rfl, rfl, rfl, trivial⟩ ?_
      | refine Chk.mk ⟨rfl, rfl, rfl, rfl, rfl, trivial⟩ ?_
      | refine Chk.mk ⟨rfl, rfl, rfl, rfl, rfl, rfl, trivial⟩ ?_)
    rw [if_pos c1]
    exact Done.mk ⟨_, rfl, hD⟩
  · repeat (first
      | refine LoadD.own 0 rfl _ rfl rfl ?_
      | refine LoadD.own 1 rfl _ rfl rfl ?_
      | refine LoadD.own 2 rfl _ rfl rfl ?_
      | refine LoadP.at 0 rfl _ rfl rfl ?_
      | refine LoadP.at 1 rfl _ rfl rfl ?_
      | refine LoadP.at 2 rfl _ rfl rfl ?_
      | refine StoreD.st 0 rfl rfl rfl ?_
      | refine StoreD.st 1 rfl rfl rfl ?_
      | refine StoreD.st 2 rfl rfl rfl ?_
      | refine CmpD.yes rfl ?_
      | refine CmpD.yes (by decide) ?_
      | refine CmpD.no (by decide) ?_
      | refine Chk.mk ⟨rfl, trivial⟩ ?_
      | refine Chk.mk ⟨rfl, rfl, trivial⟩ ?_
      | refine Chk.mk ⟨rfl, rfl, rfl, trivial⟩ ?_
      | refine Chk.mk ⟨rfl, rfl, rfl, rfl, trivial⟩ ?_
      | refine Chk.mk ⟨rfl, rfl, rfl, rfl, rfl, trivial⟩ ?_
      | refine Chk.mk ⟨rfl, rfl, rfl, rfl, rfl, rfl, trivial⟩ ?_)
    rw [if_neg c1]
    refine Done.mk ⟨_, rfl, ⟨⟨hwf.len, hwf.range, hwf.safe, hwf.now, hwf.writes, fun _ => ⟨by show 0 ≤ n; omega, by show n ≤ 9223372036854775807; omega⟩, hwf.fault⟩, hsnd, ⟨sa, sl, sc⟩, ⟨wa, wl, wc⟩, bS, gs, rfl, hS, hBk, hbd, hW, hwl, hwp⟩⟩
end Go.Proofs.Ytbpdbgcndfcilaa
namespace Go.Proofs.Ytbpdbgcndfcilaa
open Go.RowKit Go.Sl
set_option maxRecDepth 20000

set_option maxHeartbeats 1000000 in
theorem r4_Image {I : Imm} {v : Value} {d : DSt} (hD : RDk I v d) (hf : d.Few 1000000) :
    Tri Try.prog 71 #[v] I [] fun r J S' => ∃ a cap ch, r = .slice a (d.now.length * 4096) cap ∧ OwnB ch a (d.now.length * 4096) cap d.now.flatten ∧ I = J ∧ S' = [ch] := by
  have hwf := hD.wf
  have hsnd := hD.snd
  obtain ⟨s, w, bS, gs, rfl, hS, hBk, hbd, hW, hwl, hwp⟩ := hD.ex
  have hsl : s.len = d.safe.length := by rw [← hbd, List.length_map]; have := hS.len; rw [List.length_map] at this; exact this.symm
  have hgl : gs.length = d.writes.length := by rw [← hwp, List.length_map]
  obtain ⟨f1, f2, f3⟩ := hf
  have hr := hwf.range
  have hll := hwf.len
  refine Tri.lay (S2 := [[]]) (by simp) ?_
  refine Tri.drop ?_ (fun _ _ _ _ h => h)
  have hat := r4_At s w d.count d.down (gv d.arm) (gv d.fault) bS gs
  obtain ⟨sa, sl, sc⟩ := s
  obtain ⟨wa, wl, wc⟩ := w
  dsimp only at hS hW hwl hsl hat
  subst hwl
  refine Tri.of (args := [rV ⟨sa, sl, sc⟩ ⟨wa, gs.length, wc⟩ d.count d.down (gv d.arm) (gv d.fault)]) tabOk Try.func71 rfl (by kernel_rfl) (by kernel_rfl) ?_
  conv => whnf
  intro b1
  refine CodeF.loopD [1, 3, 4] (fun vs J' S' => ∃ (i : Nat) (a : Option Addr) (cap : Nat) (ch : List Blk), i ≤ sl ∧ OwnB ch a (i * 4096) cap (d.now.take i).flatten ∧ vs = [.pointer (some ⟨b1, 0, none⟩), .slice a (i * 4096 : Nat) cap, .int .i64 i] ∧ I = J' ∧
      S' = [ch, [(b1, row [.slice sa sl sc, .slice wa gs.length wc, .int .i64 d.count, .bool d.down, .int .i64 (gv d.arm), .int .i64 (gv d.fault)] 79)]])
    (fun vs _ _ => match vs with | [_, _, .int _ i] => ((sl : Int) - i).toNat | _ => 0) ?_ ?_
  · exact ⟨_, Drop.pick [0, 1] _ rfl, 0, none, 0, [], by omega, OwnC.nil 1 none, rfl, rfl, rfl⟩
  rintro vs gE J' S' hJ' ⟨i, a, cap, ch, hi, hO, rfl, rfl, rfl⟩
  refine LoadD.own 1 rfl _ rfl rfl ?_
  refine CmpD.split (fun c1 => ?_) (fun c1 => ?_)
  · have hlt : i < sl := by omega
    have hbi : i < bS.length := by have := congrArg List.length hbd; rw [List.length_map] at this; omega
    have hsafe : d.safe.getD i [] = bS[i].data := by rw [← hbd, List.getD_eq_getElem?_getD, List.getElem?_map, List.getElem?_eq_getElem hbi]; rfl
    have hn : d.now[i]? = some (atP bS[i].data d.writes i) := by have := hsnd i (by omega); rwa [hsafe] at this
    have hln : (atP bS[i].data d.writes i).length = 4096 := hwf.now _ (List.mem_of_getElem? hn)
    have hati := hat I hS (by omega) hW rfl (by omega) i (List.getElem?_eq_getElem hbi) (hBk _ (List.getElem_mem hbi))
    rw [hwp] at hati
    generalize atP bS[i].data d.writes i = dat at *
    repeat (first
      | refine LoadD.own 0 rfl _ rfl rfl ?_
      | refine LoadD.own 1 rfl _ rfl rfl ?_
      | refine LoadP.at 0 rfl _ rfl rfl ?_
      | refine LoadP.at 1 rfl _ rfl rfl ?_
      | refine StoreD.st 0 rfl rfl rfl ?_
      | refine StoreD.st 1 rfl rfl rfl ?_
      | refine CmpD.yes rfl ?_
      | refine CmpD.yes (by decide) ?_
      | refine CmpD.no (by decide) ?_
      | refine Chk.mk ⟨rfl, trivial⟩ ?_
      | refine Chk.mk ⟨rfl, rfl, trivial⟩ ?_
      | refine Chk.mk ⟨rfl, rfl, rfl, trivial⟩ ?_
      | refine Chk.mk ⟨rfl, rfl, rfl, rfl, trivial⟩ ?_
      | refine Chk.mk ⟨rfl, rfl, rfl, rfl, rfl, trivial⟩ ?_
      | refine Chk.mk ⟨rfl, rfl, rfl, rfl, rfl, rfl, trivial⟩ ?_)
    refine Tri.free hati ?_
    rintro v J1 _ hJ1 ⟨rfl, aN, len, capN, rfl, hN⟩
    obtain rfl : len = 4096 := by have := hN.len; rw [bts_length] at this; omega
    refine appendD tabOk rfl rfl rfl rfl rfl rfl rfl 0 rfl hO (SrcOk.slice (n := 4096) (news := bts dat) tabOk rfl (by show SlC _ _ _ (4096 * 1) _; exact hN.slC) (bts_plain _)) rfl (by show (i * 4096 + 4096) * 1 ≤ _; omega) (by omega) ?_
    intro a2 cap2 ch2 hO2
    refine ToD.i64 (by omega) (by omega) ?_
    have e : i * 4096 + 4096 = (i + 1) * 4096 := by omega
    refine ⟨_, Drop.pick [0, 1] _ rfl, ⟨i + 1, a2, cap2, ch2, by omega, ?_, by rw [← e]; rfl, rfl, rfl⟩, ?_⟩
    · have h3 : (d.now.take (i + 1)).flatten = (d.now.take i).flatten ++ dat := by rw [List.take_add_one, hn]; simp
      rw [h3, ← e, OwnB, bts_append]
      exact hO2
    · show ((sl : Int) - ((i : Int) + 1)).toNat < ((sl : Int) - i).toNat; omega
  · obtain rfl : i = sl := by omega
    have htake : d.now.take i = d.now := List.take_of_length_le (by omega)
    rw [htake] at hO
    have e : d.now.length = i := by omega
    rw [e]
    exact Done.mk ⟨[ch], Drop.pick [0] _ rfl, a, cap, ch, rfl, hO, rfl, rfl⟩
end Go.Proofs.Ytbpdbgcndfcilaa
namespace Go.Proofs.Ytbpdbgcndfcilaa
open Go.RowKit Go.Sl
set_option maxRecDepth 20000

theorem rdk_fresh {I : Imm} {l : List Dat} {bS : List Bk} {a : Option Addr} {n cap : Nat} (hn : 1 ≤ n ∧ n ≤ 512) (hR : Rds I a n (bS.map Bk.cell)) (hok : ∀ b ∈ bS, BkOk I b) (hd : bS.map Bk.data = l) (hl : l.length = n) (h4 : ∀ b ∈ l, b.length = 4096) :
    RDk I (rV ⟨a, n, cap⟩ ⟨none, 0, 0⟩ 0 false (-1) (-1)) (DSt.of l) := by
  refine ⟨⟨rfl, by show 1 ≤ l.length ∧ l.length ≤ 512; omega, h4, h4, fun w hw => (List.not_mem_nil hw).elim, fun h => (Bool.false_ne_true h).elim, fun h => (Bool.false_ne_true h).elim⟩, ?_, ⟨a, n, cap⟩, ⟨none, 0, 0⟩, bS, [], rfl, hR, hok, hd, ⟨⟨rfl, .inl rfl⟩, by simp⟩, rfl, rfl⟩
  intro i hi
  show l[i]? = some (l.getD i [])
  have hi : i < l.length := hi
  rw [List.getD_eq_getElem?_getD, List.getElem?_eq_getElem hi]; rfl
set_option maxHeartbeats 1000000 in
theorem r4_Load {I : Imm} (a : Option Addr) (n cap : Nat) (l : Dat) (hn : 1 ≤ n ∧ n ≤ 512) (h : Rds I a (n * 4096) (bts l)) (hcap : n * 4096 ≤ cap) :
    Tri Try.prog 45 #[.slice a (n * 4096 : Nat) cap] I [] fun r J _ => ∃ v', r = .tuple #[v', .int .i64 0] ∧ RDk J v' (DSt.of (blocksOf l n)) := by
  refine Tri.fixed (Q := fun r J S' => ∃ v' ch, r = .tuple #[v', .int .i64 0] ∧ S' = [ch] ∧ ∀ J', J.le J' → (∀ x ∈ ch, J' x.1 = some x.2) → RDk J' v' (DSt.of (blocksOf l n))) ?_ ?_
  rotate_left
  · rintro r J S' hJ ⟨v', ch, rfl, rfl, h⟩
    exact ⟨0, ch, rfl, fun J' hJ' hm => ⟨v', rfl, h J' hJ' hm⟩⟩
  have hll : l.length = n * 4096 := by rw [← bts_length, h.len]
  rcases h.mem with q0 | ⟨b, off, c, T, fr, rfl, hIb, hc⟩
  · omega
  refine Tri.lay (S2 := [[]]) (by simp) ?_
  refine Tri.drop ?_ (fun _ _ _ _ h => h)
  refine Tri.of (args := [.slice (some ⟨b, off, none⟩) (n * 4096 : Nat) cap]) tabOk Try.func45 rfl (by kernel_rfl) (by kernel_rfl) ?_
  conv => whnf
  intro b2
  conv => whnf
  intro b4
  repeat (first
    | refine LoadD.own 0 rfl _ rfl rfl ?_
    | refine LoadD.own 1 rfl _ rfl rfl ?_
    | refine LoadD.own 2 rfl _ rfl rfl ?_
    | refine LoadP.at 0 rfl _ rfl rfl ?_
    | refine LoadP.at 1 rfl _ rfl rfl ?_
    | refine LoadP.at 2 rfl _ rfl rfl ?_
    | refine StoreD.st 0 rfl rfl rfl ?_
    | refine StoreD.st 1 rfl rfl rfl ?_
    | refine StoreD.st 2 rfl rfl rfl ?_
    | refine CmpD.yes rfl ?_
    | refine CmpD.yes (by decide) ?_
    | refine CmpD.no (by decide) ?_
    | refine Chk.mk ⟨rfl, trivial⟩ ?_
    | refine Chk.mk ⟨rfl, rfl, trivial⟩ ?_
    | refine Chk.mk ⟨rfl, rfl, rfl, trivial⟩ ?_
    | refine Chk.mk ⟨rfl, rfl, rfl, rfl, trivial⟩ ?_
    | refine Chk.mk ⟨rfl, rfl, rfl, rfl, rfl, trivial⟩ ?_
    | refine Chk.mk ⟨rfl, rfl, rfl, rfl, rfl, rfl, trivial⟩ ?_)
  refine CmpD.no (by omega) ?_
  repeat (first
    | refine LoadD.own 0 rfl _ rfl rfl ?_
    | refine LoadD.own 1 rfl _ rfl rfl ?_
    | refine LoadD.own 2 rfl _ rfl rfl ?_
    | refine LoadP.at 0 rfl _ rfl rfl ?_
    | refine LoadP.at 1 rfl _ rfl rfl ?_
    | refine LoadP.at 2 rfl _ rfl rfl ?_
    | refine StoreD.st 0 rfl rfl rfl ?_
    | refine StoreD.st 1 rfl rfl rfl ?_
    | refine StoreD.st 2 rfl rfl rfl ?_
    | refine CmpD.yes rfl ?_
    | refine CmpD.yes (by decide) ?_
    | refine CmpD.no (by decide) ?_
    | refine Chk.mk ⟨rfl, trivial⟩ ?_
    | refine Chk.mk ⟨rfl, rfl, trivial⟩ ?_
    | refine Chk.mk ⟨rfl, rfl, rfl, trivial⟩ ?_
    | refine Chk.mk ⟨rfl, rfl, rfl, rfl, trivial⟩ ?_
    | refine Chk.mk ⟨rfl, rfl, rfl, rfl, rfl, trivial⟩ ?_
    | refine Chk.mk ⟨rfl, rfl, rfl, rfl, rfl, rfl, trivial⟩ ?_)
  refine CmpD.no (by omega) ?_
  repeat (first
    | refine LoadD.own 0 rfl _ rfl rfl ?_
    | refine LoadD.own 1 rfl _ rfl rfl ?_
    | refine LoadD.own 2 rfl _ rfl rfl ?_
    | refine LoadP.at 0 rfl _ rfl rfl ?_
    | refine LoadP.at 1 rfl _ rfl rfl ?_
    | refine LoadP.at 2 rfl _ rfl rfl ?_
    | refine StoreD.st 0 rfl rfl rfl ?_
    | refine StoreD.st 1 rfl rfl rfl ?_
    | refine StoreD.st 2 rfl rfl rfl ?_
    | refine CmpD.yes rfl ?_
    | refine CmpD.yes (by decide) ?_
    | refine CmpD.no (by decide) ?_
    | refine Chk.mk ⟨rfl, trivial⟩ ?_
    | refine Chk.mk ⟨rfl, rfl, trivial⟩ ?_
    | refine Chk.mk ⟨rfl, rfl, rfl, trivial⟩ ?_
    | refine Chk.mk ⟨rfl, rfl, rfl, rfl, trivial⟩ ?_
    | refine Chk.mk ⟨rfl, rfl, rfl, rfl, rfl, trivial⟩ ?_
    | refine Chk.mk ⟨rfl, rfl, rfl, rfl, rfl, rfl, trivial⟩ ?_)
  refine Chk.mk (by decide) ?_
  refine ToD.rem (by omega) ?_
  refine CmpD.yes (by omega) ?_
  repeat (first
    | refine LoadD.own 0 rfl _ rfl rfl ?_
    | refine LoadD.own 1 rfl _ rfl rfl ?_
    | refine LoadD.own 2 rfl _ rfl rfl ?_
    | refine LoadP.at 0 rfl _ rfl rfl ?_
    | refine LoadP.at 1 rfl _ rfl rfl ?_
    | refine LoadP.at 2 rfl _ rfl rfl ?_
    | refine StoreD.st 0 rfl rfl rfl ?_
    | refine StoreD.st 1 rfl rfl rfl ?_
    | refine StoreD.st 2 rfl rfl rfl ?_
    | refine CmpD.yes rfl ?_
    | refine CmpD.yes (by decide) ?_
    | refine CmpD.no (by decide) ?_
    | refine Chk.mk ⟨rfl, trivial⟩ ?_
    | refine Chk.mk ⟨rfl, rfl, trivial⟩ ?_
    | refine Chk.mk ⟨rfl, rfl, rfl, trivial⟩ ?_
    | refine Chk.mk ⟨rfl, rfl, rfl, rfl, trivial⟩ ?_
    | refine Chk.mk ⟨rfl, rfl, rfl, rfl, rfl, trivial⟩ ?_
    | refine Chk.mk ⟨rfl, rfl, rfl, rfl, rfl, rfl, trivial⟩ ?_)
  refine CodeF.loopD [0, 2, 4, 5] (fun vs J' S' => ∃ (i : Nat) (aS : Option Addr) (capS : Nat) (ch : List Blk) (bks : List Bk), i ≤ n ∧ OwnC ch 1 aS i capS (bks.map Bk.cell) ∧ bks.map Bk.data = blocksOf l i ∧ (∀ b ∈ bks, BkOk J' b) ∧ I.le J' ∧ vs = [.slice (some ⟨b, off, none⟩) (n * 4096 : Nat) cap, .pointer (some ⟨b2, 0, none⟩), .pointer (some ⟨b4, 0, none⟩), .int .i64 (i * 4096 : Nat)] ∧
      S' = [ch, [(b2, row [.slice none 0 0, .slice none 0 0, .int .i64 0, .bool false, .int .i64 0, .int .i64 0] 79)], [(b4, row [.slice aS i capS, .slice none 0 0, .int .i64 0, .bool false, .int .i64 (-1), .int .i64 (-1)] 79)]])
    (fun vs _ _ => match vs with | [_, _, _, .int _ i] => ((n * 4096 : Nat) - i).toNat | _ => 0) ?_ ?_
  · exact ⟨_, Drop.pick [0, 1, 2] _ rfl, 0, none, 0, [], [], by omega, OwnC.nil 1 none, by unfold blocksOf; rfl, by simp, Imm.le_refl _, rfl, rfl⟩
  rintro vs gE J' S' hJ' ⟨i, aS, capS, ch, bks, hi, hO, hdat, hok, hle, rfl, rfl⟩
  refine CmpD.split (fun c1 => ?_) (fun c1 => ?_)
  · have hlt : i < n := by omega
    refine CodeF.sched [[], [0], [], [], [], [4], [2, 3, 4, 5], [2, 3, 4, 5, 6], [2, 3, 4, 5, 6, 7], [0, 1, 2, 3, 4, 5, 6, 7, 8], [0, 1, 2, 3, 4, 5, 6, 7, 8, 9], [0, 1, 2, 3, 4, 5, 6, 7, 8, 9, 10]] [0, 1, 2, 3, 4, 5, 6, 7, 8, 9, 10, 11] (by kernel_rfl) ?_
    refine LoadP.at 2 rfl _ rfl rfl ?_
    refine ToD.to ((i * 4096 + 4096 : Nat) : Int) (by rw [wrap_i64 (by omega) (by omega)]; omega) ?_
    refine sliceD tabOk rfl rfl rfl rfl (i * 4096) (i * 4096 + 4096) cap ⟨_, rfl⟩ ⟨_, rfl⟩ rfl (.inl rfl) (by omega) ?_
    repeat (first
      | refine LoadD.own 0 rfl _ rfl rfl ?_
      | refine LoadD.own 1 rfl _ rfl rfl ?_
      | refine LoadD.own 2 rfl _ rfl rfl ?_
      | refine LoadP.at 0 rfl _ rfl rfl ?_
      | refine LoadP.at 1 rfl _ rfl rfl ?_
      | refine LoadP.at 2 rfl _ rfl rfl ?_
      | refine StoreD.st 0 rfl rfl rfl ?_
      | refine StoreD.st 1 rfl rfl rfl ?_
      | refine StoreD.st 2 rfl rfl rfl ?_
      | refine CmpD.yes rfl ?_
      | refine CmpD.yes (by decide) ?_
      | refine CmpD.no (by decide) ?_
      | refine Chk.mk ⟨rfl, trivial⟩ ?_
      | refine Chk.mk ⟨rfl, rfl, trivial⟩ ?_
      | refine Chk.mk ⟨rfl, rfl, rfl, trivial⟩ ?_
      | refine Chk.mk ⟨rfl, rfl, rfl, rfl, trivial⟩ ?_
      | refine Chk.mk ⟨rfl, rfl, rfl, rfl, rfl, trivial⟩ ?_
      | refine Chk.mk ⟨rfl, rfl, rfl, rfl, rfl, rfl, trivial⟩ ?_)
    have hp := (Rds_part h (i * 4096) 4096 (by omega)).mono hle
    have hx : Value.slice (slAddr (some ⟨b, off, none⟩) (i * 4096) cap 1) (i * 4096 + 4096 - i * 4096) (cap - i * 4096) = .slice (some ⟨b, off + i * 4096, none⟩) 4096 (cap - i * 4096) := by
      unfold slAddr
      rw [if_neg (by omega), Nat.add_sub_cancel_left]
      simp [add_none]
    have hcall := copy_fix J' _ 4096 (cap - i * 4096) _ hp (by omega)
    rw [← hx] at hcall
    refine Tri.free hcall ?_
    rintro v J1 _ hJ1 ⟨aC, capC, rfl, hC⟩
    repeat (first
      | refine LoadD.own 0 rfl _ rfl rfl ?_
      | refine LoadD.own 1 rfl _ rfl rfl ?_
      | refine LoadD.own 2 rfl _ rfl rfl ?_
      | refine LoadP.at 0 rfl _ rfl rfl ?_
      | refine LoadP.at 1 rfl _ rfl rfl ?_
      | refine LoadP.at 2 rfl _ rfl rfl ?_
      | refine StoreD.st 0 rfl rfl rfl ?_
      | refine StoreD.st 1 rfl rfl rfl ?_
      | refine StoreD.st 2 rfl rfl rfl ?_
      | refine CmpD.yes rfl ?_
      | refine CmpD.yes (by decide) ?_
      | refine CmpD.no (by decide) ?_
      | refine Chk.mk ⟨rfl, trivial⟩ ?_
      | refine Chk.mk ⟨rfl, rfl, trivial⟩ ?_
      | refine Chk.mk ⟨rfl, rfl, rfl, trivial⟩ ?_
      | refine Chk.mk ⟨rfl, rfl, rfl, rfl, trivial⟩ ?_
      | refine Chk.mk ⟨rfl, rfl, rfl, rfl, rfl, trivial⟩ ?_
      | refine Chk.mk ⟨rfl, rfl, rfl, rfl, rfl, rfl, trivial⟩ ?_)
    conv => whnf
    intro b36
    repeat (first
      | refine LoadD.own 0 rfl _ rfl rfl ?_
      | refine LoadD.own 1 rfl _ rfl rfl ?_
      | refine LoadD.own 2 rfl _ rfl rfl ?_
      | refine LoadP.at 0 rfl _ rfl rfl ?_
      | refine LoadP.at 1 rfl _ rfl rfl ?_
      | refine LoadP.at 2 rfl _ rfl rfl ?_
      | refine StoreD.st 0 rfl rfl rfl ?_
      | refine StoreD.st 1 rfl rfl rfl ?_
      | refine StoreD.st 2 rfl rfl rfl ?_
      | refine CmpD.yes rfl ?_
      | refine CmpD.yes (by decide) ?_
      | refine CmpD.no (by decide) ?_
      | refine Chk.mk ⟨rfl, trivial⟩ ?_
      | refine Chk.mk ⟨rfl, rfl, trivial⟩ ?_
      | refine Chk.mk ⟨rfl, rfl, rfl, trivial⟩ ?_
      | refine Chk.mk ⟨rfl, rfl, rfl, rfl, trivial⟩ ?_
      | refine Chk.mk ⟨rfl, rfl, rfl, rfl, rfl, trivial⟩ ?_
      | refine Chk.mk ⟨rfl, rfl, rfl, rfl, rfl, rfl, trivial⟩ ?_)
    refine appendD tabOk rfl rfl rfl rfl rfl rfl rfl 0 rfl hO (SrcOk.slice (n := 1) (news := [.slice aC 4096 capC]) tabOk rfl ((OwnC.whole (len := 1) (size := 1) rfl).slC 3 rfl) (by intro v hv; simp only [List.mem_singleton] at hv; subst hv; rfl)) rfl (by show (i + 1) * 24 ≤ _; omega) (by omega) ?_
    intro a2 cap2 ch2 hO2
    repeat (first
      | refine LoadD.own 0 rfl _ rfl rfl ?_
      | refine LoadD.own 1 rfl _ rfl rfl ?_
      | refine LoadD.own 2 rfl _ rfl rfl ?_
      | refine LoadP.at 0 rfl _ rfl rfl ?_
      | refine LoadP.at 1 rfl _ rfl rfl ?_
      | refine LoadP.at 2 rfl _ rfl rfl ?_
      | refine StoreD.st 0 rfl rfl rfl ?_
      | refine StoreD.st 1 rfl rfl rfl ?_
      | refine StoreD.st 2 rfl rfl rfl ?_
      | refine CmpD.yes rfl ?_
      | refine CmpD.yes (by decide) ?_
      | refine CmpD.no (by decide) ?_
      | refine Chk.mk ⟨rfl, trivial⟩ ?_
      | refine Chk.mk ⟨rfl, rfl, trivial⟩ ?_
      | refine Chk.mk ⟨rfl, rfl, rfl, trivial⟩ ?_
      | refine Chk.mk ⟨rfl, rfl, rfl, rfl, trivial⟩ ?_
      | refine Chk.mk ⟨rfl, rfl, rfl, rfl, rfl, trivial⟩ ?_
      | refine Chk.mk ⟨rfl, rfl, rfl, rfl, rfl, rfl, trivial⟩ ?_)
    refine ToD.to ((((i + 1) * 4096 : Nat)) : Int) (by rw [wrap_i64 (by omega) (by omega)]; omega) ?_
    refine ⟨_, Drop.pick [0, 1, 2] _ rfl, ⟨i + 1, a2, cap2, ch2, bks ++ [⟨aC, capC, (l.drop (i * 4096)).take 4096⟩], by omega, by rw [List.map_append]; exact hO2, ?_, ?_, Imm.le_trans hle hJ1, rfl, rfl⟩, ?_⟩
    · rw [List.map_append, hdat, blocksOf_succ]; rfl
    · intro x hx
      rcases List.mem_append.1 hx with hx | hx
      · exact (hok x hx).mono hJ1
      · simp only [List.mem_singleton] at hx
        subst hx
        exact hC
    · show ((n * 4096 : Nat) - ((((i + 1) * 4096 : Nat)) : Int)).toNat < ((n * 4096 : Nat) - (((i * 4096 : Nat)) : Int)).toNat
      omega
  · obtain rfl : i = n := by omega
    repeat (first
      | refine LoadD.own 0 rfl _ rfl rfl ?_
      | refine LoadD.own 1 rfl _ rfl rfl ?_
      | refine LoadD.own 2 rfl _ rfl rfl ?_
      | refine LoadP.at 0 rfl _ rfl rfl ?_
      | refine LoadP.at 1 rfl _ rfl rfl ?_
      | refine LoadP.at 2 rfl _ rfl rfl ?_
      | refine StoreD.st 0 rfl rfl rfl ?_
      | refine StoreD.st 1 rfl rfl rfl ?_
      | refine StoreD.st 2 rfl rfl rfl ?_
      | refine CmpD.yes rfl ?_
      | refine CmpD.yes (by decide) ?_
      | refine CmpD.no (by decide) ?_
      | refine Chk.mk ⟨rfl, trivial⟩ ?_
      | refine Chk.mk ⟨rfl, rfl, trivial⟩ ?_
      | refine Chk.mk ⟨rfl, rfl, rfl, trivial⟩ ?_
      | refine Chk.mk ⟨rfl, rfl, rfl, rfl, trivial⟩ ?_
      | refine Chk.mk ⟨rfl, rfl, rfl, rfl, rfl, trivial⟩ ?_
      | refine Chk.mk ⟨rfl, rfl, rfl, rfl, rfl, rfl, trivial⟩ ?_)
    refine Done.mk ⟨[ch], Drop.pick [0] _ rfl, _, ch, rfl, rfl, fun J2 hJ2 hm => ?_⟩
    refine rdk_fresh hn (Rds.of_own hO hm) (fun x hx => (hok x hx).mono hJ2) hdat (blocksOf_length l i) ?_
    intro x hx
    unfold blocksOf at hx
    obtain ⟨k, hk, rfl⟩ := List.mem_map.1 hx
    have := List.mem_range.1 hk
    rw [List.length_take, List.length_drop]
    omega
theorem blocks_noughts (n : Nat) : blocksOf (List.replicate (n * 4096) 0) n = List.replicate n noughts := by
  unfold blocksOf noughts
  apply List.ext_getElem
  · simp
  · intro i hi _
    simp only [List.length_map, List.length_range] at hi
    simp only [List.getElem_map, List.getElem_range, List.drop_replicate, List.take_replicate, List.getElem_replicate]
    congr 1
    omega
theorem r4_New (I : Imm) (n : Nat) (hn : 1 ≤ n ∧ n ≤ 512) :
    Tri Try.prog 67 #[.int .i64 n] I [] fun r J _ => ∃ v', r = .tuple #[v', .int .i64 0] ∧ RDk J v' (DSt.of (List.replicate n noughts)) := by
  refine Tri.of (args := [.int .i64 n]) tabOk Try.func67 rfl (by kernel_rfl) (by kernel_rfl) ?_
  conv => whnf
  intro b2
  refine CmpD.no (by omega) ?_
  repeat (first
    | refine LoadD.own 0 rfl _ rfl rfl ?_
    | refine LoadD.own 1 rfl _ rfl rfl ?_
    | refine LoadP.at 0 rfl _ rfl rfl ?_
    | refine LoadP.at 1 rfl _ rfl rfl ?_
    | refine StoreD.st 0 rfl rfl rfl ?_
    | refine StoreD.st 1 rfl rfl rfl ?_
    | refine CmpD.yes rfl ?_
    | refine CmpD.yes (by decide) ?_
    | refine CmpD.no (by decide) ?_
    | refine Chk.mk ⟨rfl, trivial⟩ ?_
    | refine Chk.mk ⟨rfl, rfl, trivial⟩ ?_
    | refine Chk.mk ⟨rfl, rfl, rfl, trivial⟩ ?_
    | refine Chk.mk ⟨rfl, rfl, rfl, rfl, trivial⟩ ?_
    | refine Chk.mk ⟨rfl, rfl, rfl, rfl, rfl, trivial⟩ ?_
    | refine Chk.mk ⟨rfl, rfl, rfl, rfl, rfl, rfl, trivial⟩ ?_)
  refine CmpD.no (by omega) ?_
  repeat (first
    | refine LoadD.own 0 rfl _ rfl rfl ?_
    | refine LoadD.own 1 rfl _ rfl rfl ?_
    | refine LoadP.at 0 rfl _ rfl rfl ?_
    | refine LoadP.at 1 rfl _ rfl rfl ?_
    | refine StoreD.st 0 rfl rfl rfl ?_
    | refine StoreD.st 1 rfl rfl rfl ?_
    | refine CmpD.yes rfl ?_
    | refine CmpD.yes (by decide) ?_
    | refine CmpD.no (by decide) ?_
    | refine Chk.mk ⟨rfl, trivial⟩ ?_
    | refine Chk.mk ⟨rfl, rfl, trivial⟩ ?_
    | refine Chk.mk ⟨rfl, rfl, rfl, trivial⟩ ?_
    | refine Chk.mk ⟨rfl, rfl, rfl, rfl, trivial⟩ ?_
    | refine Chk.mk ⟨rfl, rfl, rfl, rfl, rfl, trivial⟩ ?_
    | refine Chk.mk ⟨rfl, rfl, rfl, rfl, rfl, rfl, trivial⟩ ?_)
  refine ToD.to ((n * 4096 : Nat) : Int) (by rw [wrap_i64 (by omega) (by omega)]; omega) ?_
  refine makeD tabOk rfl rfl rfl (n * 4096) (n * 4096) rfl rfl (Nat.le_refl _) (by show 1 * (n * 4096) ≤ _; omega) (by omega) (by show n * 4096 * 1 ≤ _; omega) rfl (by decide) ?_
  intro bM
  refine Tri.fix 1 rfl fun I' hI' hm => ?_
  have hz := Rds.of_own (cap := n * 4096) (len := n * 4096) (a := some ⟨bM, 0, none⟩) (vs := bts (List.replicate (n * 4096) 0)) (by show OwnC _ 1 _ _ _ _; rw [show bts (List.replicate (n * 4096) 0) = rows (n * 4096) [Value.int .u8 0] from (zeros_bts _).symm]; exact OwnC.whole (by rw [rows_length]; rfl)) hm
  refine Tri.free (r4_Load _ n (n * 4096) _ hn hz (Nat.le_refl _)) ?_
  rintro v J _ hJ ⟨v', rfl, hD⟩
  obtain ⟨s, w, bS, gs, rfl, hex⟩ := id hD.ex
  repeat (first
    | refine LoadD.own 0 rfl _ rfl rfl ?_
    | refine LoadD.own 1 rfl _ rfl rfl ?_
    | refine LoadP.at 0 rfl _ rfl rfl ?_
    | refine LoadP.at 1 rfl _ rfl rfl ?_
    | refine StoreD.st 0 rfl rfl rfl ?_
    | refine StoreD.st 1 rfl rfl rfl ?_
    | refine CmpD.yes rfl ?_
    | refine CmpD.yes (by decide) ?_
    | refine CmpD.no (by decide) ?_
    | refine Chk.mk ⟨rfl, trivial⟩ ?_
    | refine Chk.mk ⟨rfl, rfl, trivial⟩ ?_
    | refine Chk.mk ⟨rfl, rfl, rfl, trivial⟩ ?_
    | refine Chk.mk ⟨rfl, rfl, rfl, rfl, trivial⟩ ?_
    | refine Chk.mk ⟨rfl, rfl, rfl, rfl, rfl, trivial⟩ ?_
    | refine Chk.mk ⟨rfl, rfl, rfl, rfl, rfl, rfl, trivial⟩ ?_)
  rw [blocks_noughts] at hD
  exact Done.mk ⟨_, rfl, hD⟩
end Go.Proofs.Ytbpdbgcndfcilaa
namespace Go.Proofs.Ytbpdbgcndfcilaa
open Go.RowKit Go.Sl
set_option maxRecDepth 20000

theorem super_PutF (s : Sup) (I : Imm) : Tri Try.prog 113 #[s.v] I [] fun v J _ =>
    (¬ RightS s ∧ v = .tuple #[.slice none 0 0, .int .i64 2]) ∨ (RightS s ∧ ∃ a cap, v = .tuple #[.slice a 4096 cap, .int .i64 0] ∧ Rds J a 4096 (bts (supL s))) := by
  by_cases hR : RightS s
  · refine Tri.fixed (super_Put s I) ?_
    rintro v J S' hJ ⟨rfl, ⟨h, _⟩ | ⟨_, a, cap, ch, rfl, hown, rfl⟩⟩
    · exact absurd hR h
    · exact ⟨0, ch, rfl, fun J' hJ' hm => .inr ⟨hR, a, cap, rfl, Rds.of_own hown hm⟩⟩
  · refine (super_Put s I).mono ?_
    rintro v J S' hJ ⟨rfl, ⟨_, rfl, rfl⟩ | ⟨h, _⟩⟩
    · exact .inl ⟨hR, rfl⟩
    · exact absurd h hR
def wrImgs : List PImg → DSt → DSt × Int
  | [], d => (d, 0)
  | g :: gs, d => if (d.write g.1 g.2).2 ≠ 0 then d.write g.1 g.2 else wrImgs gs (d.write g.1 g.2).1
def DoOk (d : DSt) (l : List PImg) : Prop := ∀ g ∈ l, 2 ≤ g.1 ∧ g.1 < d.now.length ∧ g.2.length = 4096
instance (d : DSt) (l : List PImg) : Decidable (DoOk d l) := by unfold DoOk; infer_instance
def lastWr (d : DSt) (slot : Int) (s : Sup) : DSt × Int := if (d.write slot (supL s)).2 ≠ 0 then d.write slot (supL s) else (d.write slot (supL s)).1.flush
def doP (d : DSt) (l : List PImg) (s : Sup) (slot : Int) : DSt × Int :=
  if ¬ RightS s ∨ slot < 0 ∨ 1 < slot ∨ ¬ DoOk d l then (d, 2) else if (wrImgs l d).2 ≠ 0 then wrImgs l d else if (wrImgs l d).1.flush.2 ≠ 0 then (wrImgs l d).1.flush else lastWr (wrImgs l d).1.flush.1 slot s
theorem wrImgs_few : ∀ (l : List PImg) (d : DSt) (k : Nat), d.Few k → (wrImgs l d).1.Few (k + l.length)
  | [], _, _, h => h
  | g :: l, d, k, h => by
    have h1 := h.write g.1 g.2
    rw [wrImgs]
    split
    · exact h1.mono (by simp)
    · have := wrImgs_few l _ _ h1
      rw [List.length_cons]
      exact this.mono (by omega)
set_option maxHeartbeats 4000000 in
theorem dk_Do {I : Imm} {bD : Nat} {d : DSt} {ch : List Blk} (hD : Dk I bD d ch) (k : Nat) (hf : d.Few k) (aL : Option Addr) (capL : Nat) (gs : List Img) (hi : ImgsOk I aL gs) (hk : k + gs.length ≤ 900000) (s : Sup) (slot : Int) :
    Tri Try.prog 60 #[.pointer (some ⟨bD, 0, none⟩), .slice aL gs.length capL, s.v, .int .i64 slot] I [ch] fun v J S' => v = .int .i64 (doP d (gs.map Img.pr) s slot).2 ∧ ∃ ch', Dk J bD (doP d (gs.map Img.pr) s slot).1 ch' ∧ S' = [ch'] := by
  have hr := hD.wf.range
  refine Tri.drop ?_ (fun _ _ _ _ h => h)
  refine Tri.of (args := [.pointer (some ⟨bD, 0, none⟩), .slice aL gs.length capL, s.v, .int .i64 slot]) tabOk Try.func60 rfl (by kernel_rfl) (by kernel_rfl) ?_
  conv => whnf
  intro b6
  refine Tri.frame1 0 rfl (dk_Size hD) ?_
  rintro v J S' hJ ⟨rfl, rfl, rfl⟩
  refine ⟨_, rfl, ?_⟩
  refine CmpD.no (by omega) ?_
  repeat (first
    | refine LoadD.own 0 rfl _ rfl rfl ?_
    | refine LoadD.own 1 rfl _ rfl rfl ?_
    | refine LoadP.at 0 rfl _ rfl rfl ?_
    | refine LoadP.at 1 rfl _ rfl rfl ?_
    | refine StoreD.st 0 rfl rfl rfl ?_
    | refine StoreD.st 1 rfl rfl rfl ?_
    | refine CmpD.yes rfl ?_
    | refine CmpD.yes (by decide) ?_
    | refine CmpD.no (by decide) ?_
    | refine Chk.mk ⟨rfl, trivial⟩ ?_
    | refine Chk.mk ⟨rfl, rfl, trivial⟩ ?_
    | refine Chk.mk ⟨rfl, rfl, rfl, trivial⟩ ?_
    | refine Chk.mk ⟨rfl, rfl, rfl, rfl, trivial⟩ ?_
    | refine Chk.mk ⟨rfl, rfl, rfl, rfl, rfl, trivial⟩ ?_
    | refine Chk.mk ⟨rfl, rfl, rfl, rfl, rfl, rfl, trivial⟩ ?_)
  unfold doP
  refine Tri.free (super_PutF s I) ?_
  rintro v J _ hJ (⟨hR, rfl⟩ | ⟨hR, aB, capB, rfl, hB⟩)
  · repeat (first
      | refine LoadD.own 0 rfl _ rfl rfl ?_
      | refine LoadD.own 1 rfl _ rfl rfl ?_
      | refine LoadP.at 0 rfl _ rfl rfl ?_
      | refine LoadP.at 1 rfl _ rfl rfl ?_
      | refine StoreD.st 0 rfl rfl rfl ?_
      | refine StoreD.st 1 rfl rfl rfl ?_
      | refine CmpD.yes rfl ?_
      | refine CmpD.yes (by decide) ?_
      | refine CmpD.no (by decide) ?_
      | refine Chk.mk ⟨rfl, trivial⟩ ?_
      | refine Chk.mk ⟨rfl, rfl, trivial⟩ ?_
      | refine Chk.mk ⟨rfl, rfl, rfl, trivial⟩ ?_
      | refine Chk.mk ⟨rfl, rfl, rfl, rfl, trivial⟩ ?_
      | refine Chk.mk ⟨rfl, rfl, rfl, rfl, rfl, trivial⟩ ?_
      | refine Chk.mk ⟨rfl, rfl, rfl, rfl, rfl, rfl, trivial⟩ ?_)
    refine Done.mk ⟨[ch], Drop.pick [0] _ rfl, ?_⟩
    rw [if_pos (.inl hR)]
    exact ⟨rfl, ch, hD.mono hJ, rfl⟩
  repeat (first
    | refine LoadD.own 0 rfl _ rfl rfl ?_
    | refine LoadD.own 1 rfl _ rfl rfl ?_
    | refine LoadP.at 0 rfl _ rfl rfl ?_
    | refine LoadP.at 1 rfl _ rfl rfl ?_
    | refine StoreD.st 0 rfl rfl rfl ?_
    | refine StoreD.st 1 rfl rfl rfl ?_
    | refine CmpD.yes rfl ?_
    | refine CmpD.yes (by decide) ?_
    | refine CmpD.no (by decide) ?_
    | refine Chk.mk ⟨rfl, trivial⟩ ?_
    | refine Chk.mk ⟨rfl, rfl, trivial⟩ ?_
    | refine Chk.mk ⟨rfl, rfl, rfl, trivial⟩ ?_
    | refine Chk.mk ⟨rfl, rfl, rfl, rfl, trivial⟩ ?_
    | refine Chk.mk ⟨rfl, rfl, rfl, rfl, rfl, trivial⟩ ?_
    | refine Chk.mk ⟨rfl, rfl, rfl, rfl, rfl, rfl, trivial⟩ ?_)
  refine CmpD.split (fun c1 => ?_) (fun c1 => ?_)
  · repeat (first
      | refine LoadD.own 0 rfl _ rfl rfl ?_
      | refine LoadD.own 1 rfl _ rfl rfl ?_
      | refine LoadP.at 0 rfl _ rfl rfl ?_
      | refine LoadP.at 1 rfl _ rfl rfl ?_
      | refine StoreD.st 0 rfl rfl rfl ?_
      | refine StoreD.st 1 rfl rfl rfl ?_
      | refine CmpD.yes rfl ?_
      | refine CmpD.yes (by decide) ?_
      | refine CmpD.no (by decide) ?_
      | refine Chk.mk ⟨rfl, trivial⟩ ?_
      | refine Chk.mk ⟨rfl, rfl, trivial⟩ ?_
      | refine Chk.mk ⟨rfl, rfl, rfl, trivial⟩ ?_
      | refine Chk.mk ⟨rfl, rfl, rfl, rfl, trivial⟩ ?_
      | refine Chk.mk ⟨rfl, rfl, rfl, rfl, rfl, trivial⟩ ?_
      | refine Chk.mk ⟨rfl, rfl, rfl, rfl, rfl, rfl, trivial⟩ ?_)
    refine Done.mk ⟨[ch], Drop.pick [0] _ rfl, ?_⟩
    rw [if_pos (.inr (.inl c1))]
    exact ⟨rfl, ch, hD.mono hJ, rfl⟩
  refine CmpD.split (fun c2 => ?_) (fun c2 => ?_)
  · repeat (first
      | refine LoadD.own 0 rfl _ rfl rfl ?_
      | refine LoadD.own 1 rfl _ rfl rfl ?_
      | refine LoadP.at 0 rfl _ rfl rfl ?_
      | refine LoadP.at 1 rfl _ rfl rfl ?_
      | refine StoreD.st 0 rfl rfl rfl ?_
      | refine StoreD.st 1 rfl rfl rfl ?_
      | refine CmpD.yes rfl ?_
      | refine CmpD.yes (by decide) ?_
      | refine CmpD.no (by decide) ?_
      | refine Chk.mk ⟨rfl, trivial⟩ ?_
      | refine Chk.mk ⟨rfl, rfl, trivial⟩ ?_
      | refine Chk.mk ⟨rfl, rfl, rfl, trivial⟩ ?_
      | refine Chk.mk ⟨rfl, rfl, rfl, rfl, trivial⟩ ?_
      | refine Chk.mk ⟨rfl, rfl, rfl, rfl, rfl, trivial⟩ ?_
      | refine Chk.mk ⟨rfl, rfl, rfl, rfl, rfl, rfl, trivial⟩ ?_)
    refine Done.mk ⟨[ch], Drop.pick [0] _ rfl, ?_⟩
    rw [if_pos (.inr (.inr (.inl c2)))]
    exact ⟨rfl, ch, hD.mono hJ, rfl⟩
  have hDJ := hD.mono hJ
  have hiJ := hi.mono hJ
  repeat (first
    | refine LoadD.own 0 rfl _ rfl rfl ?_
    | refine LoadD.own 1 rfl _ rfl rfl ?_
    | refine LoadP.at 0 rfl _ rfl rfl ?_
    | refine LoadP.at 1 rfl _ rfl rfl ?_
    | refine StoreD.st 0 rfl rfl rfl ?_
    | refine StoreD.st 1 rfl rfl rfl ?_
    | refine CmpD.yes rfl ?_
    | refine CmpD.yes (by decide) ?_
    | refine CmpD.no (by decide) ?_
    | refine Chk.mk ⟨rfl, trivial⟩ ?_
    | refine Chk.mk ⟨rfl, rfl, trivial⟩ ?_
    | refine Chk.mk ⟨rfl, rfl, rfl, trivial⟩ ?_
    | refine Chk.mk ⟨rfl, rfl, rfl, rfl, trivial⟩ ?_
    | refine Chk.mk ⟨rfl, rfl, rfl, rfl, rfl, trivial⟩ ?_
    | refine Chk.mk ⟨rfl, rfl, rfl, rfl, rfl, rfl, trivial⟩ ?_)
  refine CodeF.loopD [0, 1, 3, 9, 36, 37, 38] (fun vs J' S' => ∃ (i : Nat), i ≤ gs.length ∧ DoOk d ((gs.take i).map Img.pr) ∧ vs = [.pointer (some ⟨bD, 0, none⟩), .slice aL gs.length capL, .int .i64 slot, .slice aB 4096 capB, .slice aL gs.length capL, .int .i64 gs.length, .int .i64 i] ∧ J = J' ∧ S' = [ch])
    (fun vs _ _ => match vs with | [_, _, _, _, _, _, .int _ i] => ((gs.length : Int) - i).toNat | _ => 0) ?_ ?_
  · exact ⟨_, Drop.pick [0] _ rfl, 0, by omega, by intro g hg; simp at hg, rfl, rfl, rfl⟩
  rintro vs gE J' S' hJ' ⟨i, hil, hok, rfl, rfl, rfl⟩
  refine CmpD.split (fun c3 => ?_) (fun c3 => ?_)
  · have hlt : i < gs.length := by omega
    rcases hiJ.1.mem with q0 | ⟨bA, oA, cA, TA, fA, rfl, hIA, hcA⟩
    · omega
    have hcell := take_part hcA (i := i * 2) (m := 2) (by omega)
    rw [imgCells_at hlt] at hcell
    have hmem : gs[i] ∈ gs := List.getElem_mem hlt
    have htk : gs.take (i + 1) = gs.take i ++ [gs[i]] := by rw [List.take_add_one, List.getElem?_eq_getElem hlt]; rfl
    have hlen := hiJ.len hmem
    have bad : ¬ (2 ≤ gs[i].blk ∧ gs[i].blk < d.now.length ∧ gs[i].len = 4096) → ∃ S'', Drop [ch, [(b6, row [.int .i64 s.blocks, .int .i64 s.epoch, .int .i64 s.seq, .int .i64 s.tail] 56)]] S'' ∧ True := fun _ => ⟨[ch], Drop.pick [0] _ rfl, trivial⟩
    have no : ¬ (2 ≤ gs[i].blk ∧ gs[i].blk < d.now.length ∧ gs[i].len = 4096) → ¬ DoOk d (gs.map Img.pr) := by
      intro h h'
      have := h' gs[i].pr (List.mem_map_of_mem hmem)
      exact h ⟨this.1, this.2.1, by rw [← hlen]; exact this.2.2⟩
    clear bad
    generalize gs[i] = g at *
    refine Chk.mk (by omega) ?_
    refine LoadD.imm hIA _ hcell rfl ?_
    conv => whnf
    intro b12
    repeat (first
      | refine LoadD.own 0 rfl _ rfl rfl ?_
      | refine LoadD.own 1 rfl _ rfl rfl ?_
      | refine LoadP.at 0 rfl _ rfl rfl ?_
      | refine LoadP.at 1 rfl _ rfl rfl ?_
      | refine StoreD.st 0 rfl rfl rfl ?_
      | refine StoreD.st 1 rfl rfl rfl ?_
      | refine CmpD.yes rfl ?_
      | refine CmpD.yes (by decide) ?_
      | refine CmpD.no (by decide) ?_
      | refine Chk.mk ⟨rfl, trivial⟩ ?_
      | refine Chk.mk ⟨rfl, rfl, trivial⟩ ?_
      | refine Chk.mk ⟨rfl, rfl, rfl, trivial⟩ ?_
      | refine Chk.mk ⟨rfl, rfl, rfl, rfl, trivial⟩ ?_
      | refine Chk.mk ⟨rfl, rfl, rfl, rfl, rfl, trivial⟩ ?_
      | refine Chk.mk ⟨rfl, rfl, rfl, rfl, rfl, rfl, trivial⟩ ?_)
    refine CodeF.sched [[], [0], [0, 1], [0, 1, 2], [0, 1, 2, 3], [0, 1, 2, 3, 4], [0, 1, 2, 3], [0, 1, 2, 3, 6], [0, 1, 2, 3, 4, 5, 6, 7], [0, 1, 2, 3, 4, 5, 6, 7, 8], [0, 1, 2, 3, 4, 5, 6, 7, 8, 9], [0, 1, 2, 3, 4, 5, 6, 7, 8, 9, 10], [0, 1, 2, 3, 4, 5, 6, 7, 8, 9, 10, 11], [0, 1, 2, 3, 4, 5, 6, 7, 8, 9, 10, 11, 12], [0, 1, 2, 3, 4, 5, 6, 7, 8, 9, 10, 11, 12, 13], [0, 1, 2, 3, 4, 5, 6, 7, 8, 9, 10, 11, 12, 13, 14]] [0, 1, 2, 3, 4, 5, 6, 7, 8, 9, 10, 11, 12, 13, 14, 15] (by kernel_rfl) ?_
    repeat (first
      | refine LoadD.own 0 rfl _ rfl rfl ?_
      | refine LoadD.own 1 rfl _ rfl rfl ?_
      | refine LoadP.at 0 rfl _ rfl rfl ?_
      | refine LoadP.at 1 rfl _ rfl rfl ?_
      | refine StoreD.st 0 rfl rfl rfl ?_
      | refine StoreD.st 1 rfl rfl rfl ?_
      | refine CmpD.yes rfl ?_
      | refine CmpD.yes (by decide) ?_
      | refine CmpD.no (by decide) ?_
      | refine Chk.mk ⟨rfl, trivial⟩ ?_
      | refine Chk.mk ⟨rfl, rfl, trivial⟩ ?_
      | refine Chk.mk ⟨rfl, rfl, rfl, trivial⟩ ?_
      | refine Chk.mk ⟨rfl, rfl, rfl, rfl, trivial⟩ ?_
      | refine Chk.mk ⟨rfl, rfl, rfl, rfl, rfl, trivial⟩ ?_
      | refine Chk.mk ⟨rfl, rfl, rfl, rfl, rfl, rfl, trivial⟩ ?_)
    refine CmpD.split (fun c4 => ?_) (fun c4 => ?_)
    · repeat (first
        | refine LoadD.own 0 rfl _ rfl rfl ?_
        | refine LoadD.own 1 rfl _ rfl rfl ?_
        | refine LoadP.at 0 rfl _ rfl rfl ?_
        | refine LoadP.at 1 rfl _ rfl rfl ?_
        | refine StoreD.st 0 rfl rfl rfl ?_
        | refine StoreD.st 1 rfl rfl rfl ?_
        | refine CmpD.yes rfl ?_
        | refine CmpD.yes (by decide) ?_
        | refine CmpD.no (by decide) ?_
        | refine Chk.mk ⟨rfl, trivial⟩ ?_
        | refine Chk.mk ⟨rfl, rfl, trivial⟩ ?_
        | refine Chk.mk ⟨rfl, rfl, rfl, trivial⟩ ?_
        | refine Chk.mk ⟨rfl, rfl, rfl, rfl, trivial⟩ ?_
        | refine Chk.mk ⟨rfl, rfl, rfl, rfl, rfl, trivial⟩ ?_
        | refine Chk.mk ⟨rfl, rfl, rfl, rfl, rfl, rfl, trivial⟩ ?_)
      refine Done.mk ⟨[ch], Drop.pick [0] _ rfl, ?_⟩
      rw [if_pos (.inr (.inr (.inr (no (fun h => by omega)))))]
      exact ⟨rfl, ch, hDJ, rfl⟩
    repeat (first
      | refine LoadD.own 0 rfl _ rfl rfl ?_
      | refine LoadD.own 1 rfl _ rfl rfl ?_
      | refine LoadP.at 0 rfl _ rfl rfl ?_
      | refine LoadP.at 1 rfl _ rfl rfl ?_
      | refine StoreD.st 0 rfl rfl rfl ?_
      | refine StoreD.st 1 rfl rfl rfl ?_
      | refine CmpD.yes rfl ?_
      | refine CmpD.yes (by decide) ?_
      | refine CmpD.no (by decide) ?_
      | refine Chk.mk ⟨rfl, trivial⟩ ?_
      | refine Chk.mk ⟨rfl, rfl, trivial⟩ ?_
      | refine Chk.mk ⟨rfl, rfl, rfl, trivial⟩ ?_
      | refine Chk.mk ⟨rfl, rfl, rfl, rfl, trivial⟩ ?_
      | refine Chk.mk ⟨rfl, rfl, rfl, rfl, rfl, trivial⟩ ?_
      | refine Chk.mk ⟨rfl, rfl, rfl, rfl, rfl, rfl, trivial⟩ ?_)
    refine Tri.frame1 0 rfl (dk_Size hDJ) ?_
    rintro v J2 S' hJ2 ⟨rfl, rfl, rfl⟩
    refine ⟨_, rfl, ?_⟩
    repeat (first
      | refine LoadD.own 0 rfl _ rfl rfl ?_
      | refine LoadD.own 1 rfl _ rfl rfl ?_
      | refine LoadP.at 0 rfl _ rfl rfl ?_
      | refine LoadP.at 1 rfl _ rfl rfl ?_
      | refine StoreD.st 0 rfl rfl rfl ?_
      | refine StoreD.st 1 rfl rfl rfl ?_
      | refine CmpD.yes rfl ?_
      | refine CmpD.yes (by decide) ?_
      | refine CmpD.no (by decide) ?_
      | refine Chk.mk ⟨rfl, trivial⟩ ?_
      | refine Chk.mk ⟨rfl, rfl, trivial⟩ ?_
      | refine Chk.mk ⟨rfl, rfl, rfl, trivial⟩ ?_
      | refine Chk.mk ⟨rfl, rfl, rfl, rfl, trivial⟩ ?_
      | refine Chk.mk ⟨rfl, rfl, rfl, rfl, rfl, trivial⟩ ?_
      | refine Chk.mk ⟨rfl, rfl, rfl, rfl, rfl, rfl, trivial⟩ ?_)
    refine CmpD.split (fun c5 => ?_) (fun c5 => ?_)
    · repeat (first
        | refine LoadD.own 0 rfl _ rfl rfl ?_
        | refine LoadD.own 1 rfl _ rfl rfl ?_
        | refine LoadP.at 0 rfl _ rfl rfl ?_
        | refine LoadP.at 1 rfl _ rfl rfl ?_
        | refine StoreD.st 0 rfl rfl rfl ?_
        | refine StoreD.st 1 rfl rfl rfl ?_
        | refine CmpD.yes rfl ?_
        | refine CmpD.yes (by decide) ?_
        | refine CmpD.no (by decide) ?_
        | refine Chk.mk ⟨rfl, trivial⟩ ?_
        | refine Chk.mk ⟨rfl, rfl, trivial⟩ ?_
        | refine Chk.mk ⟨rfl, rfl, rfl, trivial⟩ ?_
        | refine Chk.mk ⟨rfl, rfl, rfl, rfl, trivial⟩ ?_
        | refine Chk.mk ⟨rfl, rfl, rfl, rfl, rfl, trivial⟩ ?_
        | refine Chk.mk ⟨rfl, rfl, rfl, rfl, rfl, rfl, trivial⟩ ?_)
      refine Done.mk ⟨[ch], Drop.pick [0] _ rfl, ?_⟩
      rw [if_pos (.inr (.inr (.inr (no (fun h => by omega)))))]
      exact ⟨rfl, ch, hDJ, rfl⟩
    repeat (first
      | refine LoadD.own 0 rfl _ rfl rfl ?_
      | refine LoadD.own 1 rfl _ rfl rfl ?_
      | refine LoadP.at 0 rfl _ rfl rfl ?_
      | refine LoadP.at 1 rfl _ rfl rfl ?_
      | refine StoreD.st 0 rfl rfl rfl ?_
      | refine StoreD.st 1 rfl rfl rfl ?_
      | refine CmpD.yes rfl ?_
      | refine CmpD.yes (by decide) ?_
      | refine CmpD.no (by decide) ?_
      | refine Chk.mk ⟨rfl, trivial⟩ ?_
      | refine Chk.mk ⟨rfl, rfl, trivial⟩ ?_
      | refine Chk.mk ⟨rfl, rfl, rfl, trivial⟩ ?_
      | refine Chk.mk ⟨rfl, rfl, rfl, rfl, trivial⟩ ?_
      | refine Chk.mk ⟨rfl, rfl, rfl, rfl, rfl, trivial⟩ ?_
      | refine Chk.mk ⟨rfl, rfl, rfl, rfl, rfl, rfl, trivial⟩ ?_)
    refine CmpD.split (fun c6 => ?_) (fun c6 => ?_)
    rotate_left
    · repeat (first
        | refine LoadD.own 0 rfl _ rfl rfl ?_
        | refine LoadD.own 1 rfl _ rfl rfl ?_
        | refine LoadP.at 0 rfl _ rfl rfl ?_
        | refine LoadP.at 1 rfl _ rfl rfl ?_
        | refine StoreD.st 0 rfl rfl rfl ?_
        | refine StoreD.st 1 rfl rfl rfl ?_
        | refine CmpD.yes rfl ?_
        | refine CmpD.yes (by decide) ?_
        | refine CmpD.no (by decide) ?_
        | refine Chk.mk ⟨rfl, trivial⟩ ?_
        | refine Chk.mk ⟨rfl, rfl, trivial⟩ ?_
        | refine Chk.mk ⟨rfl, rfl, rfl, trivial⟩ ?_
        | refine Chk.mk ⟨rfl, rfl, rfl, rfl, trivial⟩ ?_
        | refine Chk.mk ⟨rfl, rfl, rfl, rfl, rfl, trivial⟩ ?_
        | refine Chk.mk ⟨rfl, rfl, rfl, rfl, rfl, rfl, trivial⟩ ?_)
      refine Done.mk ⟨[ch], Drop.pick [0] _ rfl, ?_⟩
      rw [if_pos (.inr (.inr (.inr (no (fun h => by omega)))))]
      exact ⟨rfl, ch, hDJ, rfl⟩
    repeat (first
      | refine LoadD.own 0 rfl _ rfl rfl ?_
      | refine LoadD.own 1 rfl _ rfl rfl ?_
      | refine LoadP.at 0 rfl _ rfl rfl ?_
      | refine LoadP.at 1 rfl _ rfl rfl ?_
      | refine StoreD.st 0 rfl rfl rfl ?_
      | refine StoreD.st 1 rfl rfl rfl ?_
      | refine CmpD.yes rfl ?_
      | refine CmpD.yes (by decide) ?_
      | refine CmpD.no (by decide) ?_
      | refine Chk.mk ⟨rfl, trivial⟩ ?_
      | refine Chk.mk ⟨rfl, rfl, trivial⟩ ?_
      | refine Chk.mk ⟨rfl, rfl, rfl, trivial⟩ ?_
      | refine Chk.mk ⟨rfl, rfl, rfl, rfl, trivial⟩ ?_
      | refine Chk.mk ⟨rfl, rfl, rfl, rfl, rfl, trivial⟩ ?_
      | refine Chk.mk ⟨rfl, rfl, rfl, rfl, rfl, rfl, trivial⟩ ?_)
    refine ToD.i64 (by omega) (by omega) ?_
    refine ⟨[ch], Drop.pick [0] _ rfl, ⟨i + 1, by omega, ?_, rfl, rfl, rfl⟩, ?_⟩
    · rw [htk, List.map_append]
      intro q hq
      rcases List.mem_append.1 hq with hq | hq
      · exact hok q hq
      · simp only [List.map_cons, List.map_nil, List.mem_singleton] at hq
        subst hq
        exact ⟨by show 2 ≤ g.blk; omega, by show g.blk < _; omega, by show g.data.length = _; omega⟩
    · show ((gs.length : Int) - ((i : Int) + 1)).toNat < ((gs.length : Int) - (i : Int)).toNat
      omega
  · obtain rfl : i = gs.length := by omega
    rw [List.take_length] at hok
    rw [if_neg (by rintro (h | h | h | h); exact h hR; exact c1 h; exact c2 h; exact h hok)]
    obtain ⟨W, hW⟩ : ∃ W, W = wrImgs (gs.map Img.pr) d := ⟨_, rfl⟩
    have hWf : W.1.Few (k + gs.length) := by rw [hW]; have := wrImgs_few (gs.map Img.pr) d k hf; rwa [List.length_map] at this
    rw [← hW]
    refine CodeF.loopD [0, 3, 9, 59, 60, 61] (fun vs J' S' => ∃ (i : Nat) (d' : DSt) (ch' : List Blk), i ≤ gs.length ∧ W = wrImgs ((gs.drop i).map Img.pr) d' ∧ d'.Few (k + i) ∧ Dk J' bD d' ch' ∧ J.le J' ∧ vs = [.pointer (some ⟨bD, 0, none⟩), .int .i64 slot, .slice aB 4096 capB, .slice aL gs.length capL, .int .i64 gs.length, .int .i64 i] ∧ S' = [ch'])
      (fun vs _ _ => match vs with | [_, _, _, _, _, .int _ i] => ((gs.length : Int) - i).toNat | _ => 0) ?_ ?_
    · exact ⟨[ch], Drop.refl _, 0, d, ch, by omega, by rw [hW]; rfl, hf, hDJ, J.le_refl, rfl, rfl⟩
    rintro vs gE2 J2 S2 hJ2 ⟨i, d', ch', hil2, hWi, hfi, hDi, hle, rfl, rfl⟩
    refine CmpD.split (fun c4 => ?_) (fun c4 => ?_)
    · have hlt : i < gs.length := by omega
      rcases hiJ.1.mem with q0 | ⟨bA, oA, cA, TA, fA, rfl, hIA, hcA⟩
      · omega
      have hcell := take_part hcA (i := i * 2) (m := 2) (by omega)
      rw [imgCells_at hlt] at hcell
      have hmem : gs[i] ∈ gs := List.getElem_mem hlt
      have hlen := hiJ.len hmem
      have hok2 := hok gs[i].pr (List.mem_map_of_mem hmem)
      have hdata := (hiJ.2 _ hmem).2
      have hdr : gs.drop i = gs[i] :: gs.drop (i + 1) := List.drop_eq_getElem_cons hlt
      generalize gs[i] = g at *
      rw [hdr, List.map_cons, wrImgs] at hWi
      refine Chk.mk (by omega) ?_
      refine LoadD.imm (hle _ _ hIA) _ hcell rfl ?_
      conv => whnf
      intro b14
      repeat (first
        | refine LoadD.own 0 rfl _ rfl rfl ?_
        | refine LoadD.own 1 rfl _ rfl rfl ?_
        | refine LoadP.at 0 rfl _ rfl rfl ?_
        | refine LoadP.at 1 rfl _ rfl rfl ?_
        | refine StoreD.st 0 rfl rfl rfl ?_
        | refine StoreD.st 1 rfl rfl rfl ?_
        | refine CmpD.yes rfl ?_
        | refine CmpD.yes (by decide) ?_
        | refine CmpD.no (by decide) ?_
        | refine Chk.mk ⟨rfl, trivial⟩ ?_
        | refine Chk.mk ⟨rfl, rfl, trivial⟩ ?_
        | refine Chk.mk ⟨rfl, rfl, rfl, trivial⟩ ?_
        | refine Chk.mk ⟨rfl, rfl, rfl, rfl, trivial⟩ ?_
        | refine Chk.mk ⟨rfl, rfl, rfl, rfl, rfl, trivial⟩ ?_
        | refine Chk.mk ⟨rfl, rfl, rfl, rfl, rfl, rfl, trivial⟩ ?_)
      refine Tri.frame1 0 rfl (dk_Write hDi (hfi.mono (by omega)) g.blk g.a g.len g.cap g.data (hdata.mono hle)) ?_
      rintro v J3 S3 hJ3 ⟨rfl, ch3, hD3, rfl⟩
      refine ⟨_, rfl, ?_⟩
      refine CmpD.split (fun c5 => ?_) (fun c5 => ?_)
      · rw [if_neg (by simpa using c5)] at hWi
        repeat (first
          | refine LoadD.own 0 rfl _ rfl rfl ?_
          | refine LoadD.own 1 rfl _ rfl rfl ?_
          | refine LoadP.at 0 rfl _ rfl rfl ?_
          | refine LoadP.at 1 rfl _ rfl rfl ?_
          | refine StoreD.st 0 rfl rfl rfl ?_
          | refine StoreD.st 1 rfl rfl rfl ?_
          | refine CmpD.yes rfl ?_
          | refine CmpD.yes (by decide) ?_
          | refine CmpD.no (by decide) ?_
          | refine Chk.mk ⟨rfl, trivial⟩ ?_
          | refine Chk.mk ⟨rfl, rfl, trivial⟩ ?_
          | refine Chk.mk ⟨rfl, rfl, rfl, trivial⟩ ?_
          | refine Chk.mk ⟨rfl, rfl, rfl, rfl, trivial⟩ ?_
          | refine Chk.mk ⟨rfl, rfl, rfl, rfl, rfl, trivial⟩ ?_
          | refine Chk.mk ⟨rfl, rfl, rfl, rfl, rfl, rfl, trivial⟩ ?_)
        refine ToD.i64 (by omega) (by omega) ?_
        refine ⟨[ch3], Drop.pick [0] _ rfl, ⟨i + 1, _, ch3, by omega, hWi, hfi.write _ _, hD3, Imm.le_trans hle hJ3, rfl, rfl⟩, ?_⟩
        show ((gs.length : Int) - ((i : Int) + 1)).toNat < ((gs.length : Int) - (i : Int)).toNat
        omega
      · rw [if_pos c5] at hWi
        repeat (first
          | refine LoadD.own 0 rfl _ rfl rfl ?_
          | refine LoadD.own 1 rfl _ rfl rfl ?_
          | refine LoadP.at 0 rfl _ rfl rfl ?_
          | refine LoadP.at 1 rfl _ rfl rfl ?_
          | refine StoreD.st 0 rfl rfl rfl ?_
          | refine StoreD.st 1 rfl rfl rfl ?_
          | refine CmpD.yes rfl ?_
          | refine CmpD.yes (by decide) ?_
          | refine CmpD.no (by decide) ?_
          | refine Chk.mk ⟨rfl, trivial⟩ ?_
          | refine Chk.mk ⟨rfl, rfl, trivial⟩ ?_
          | refine Chk.mk ⟨rfl, rfl, rfl, trivial⟩ ?_
          | refine Chk.mk ⟨rfl, rfl, rfl, rfl, trivial⟩ ?_
          | refine Chk.mk ⟨rfl, rfl, rfl, rfl, rfl, trivial⟩ ?_
          | refine Chk.mk ⟨rfl, rfl, rfl, rfl, rfl, rfl, trivial⟩ ?_)
        refine Done.mk ⟨[ch3], Drop.pick [0] _ rfl, ?_⟩
        rw [hWi, if_pos c5]
        exact ⟨rfl, ch3, hD3, rfl⟩
    · obtain rfl : i = gs.length := by omega
      rw [List.drop_length, List.map_nil, wrImgs] at hWi
      subst hWi
      dsimp only at hWf ⊢
      rw [if_neg (by simp)]
      refine Tri.frame1 0 rfl (dk_Flush hDi) ?_
      rintro v J3 S3 hJ3 ⟨rfl, ch3, hD3, rfl⟩
      refine ⟨_, rfl, ?_⟩
      refine CmpD.split (fun c5 => ?_) (fun c5 => ?_)
      rotate_left
      · repeat (first
          | refine LoadD.own 0 rfl _ rfl rfl ?_
          | refine LoadD.own 1 rfl _ rfl rfl ?_
          | refine LoadP.at 0 rfl _ rfl rfl ?_
          | refine LoadP.at 1 rfl _ rfl rfl ?_
          | refine StoreD.st 0 rfl rfl rfl ?_
          | refine StoreD.st 1 rfl rfl rfl ?_
          | refine CmpD.yes rfl ?_
          | refine CmpD.yes (by decide) ?_
          | refine CmpD.no (by decide) ?_
          | refine Chk.mk ⟨rfl, trivial⟩ ?_
          | refine Chk.mk ⟨rfl, rfl, trivial⟩ ?_
          | refine Chk.mk ⟨rfl, rfl, rfl, trivial⟩ ?_
          | refine Chk.mk ⟨rfl, rfl, rfl, rfl, trivial⟩ ?_
          | refine Chk.mk ⟨rfl, rfl, rfl, rfl, rfl, trivial⟩ ?_
          | refine Chk.mk ⟨rfl, rfl, rfl, rfl, rfl, rfl, trivial⟩ ?_)
        refine Done.mk ⟨[ch3], Drop.refl _, ?_⟩
        rw [if_pos c5]
        exact ⟨rfl, ch3, hD3, rfl⟩
      rw [if_neg (by simpa using c5)]
      unfold lastWr
      refine Tri.frame1 0 rfl (dk_Write hD3 (hWf.flush.mono (by omega)) slot aB 4096 capB (supL s) (hB.mono (Imm.le_trans hle hJ3))) ?_
      rintro v J4 S4 hJ4 ⟨rfl, ch4, hD4, rfl⟩
      refine ⟨_, rfl, ?_⟩
      refine CmpD.split (fun c6 => ?_) (fun c6 => ?_)
      rotate_left
      · repeat (first
          | refine LoadD.own 0 rfl _ rfl rfl ?_
          | refine LoadD.own 1 rfl _ rfl rfl ?_
          | refine LoadP.at 0 rfl _ rfl rfl ?_
          | refine LoadP.at 1 rfl _ rfl rfl ?_
          | refine StoreD.st 0 rfl rfl rfl ?_
          | refine StoreD.st 1 rfl rfl rfl ?_
          | refine CmpD.yes rfl ?_
          | refine CmpD.yes (by decide) ?_
          | refine CmpD.no (by decide) ?_
          | refine Chk.mk ⟨rfl, trivial⟩ ?_
          | refine Chk.mk ⟨rfl, rfl, trivial⟩ ?_
          | refine Chk.mk ⟨rfl, rfl, rfl, trivial⟩ ?_
          | refine Chk.mk ⟨rfl, rfl, rfl, rfl, trivial⟩ ?_
          | refine Chk.mk ⟨rfl, rfl, rfl, rfl, rfl, trivial⟩ ?_
          | refine Chk.mk ⟨rfl, rfl, rfl, rfl, rfl, rfl, trivial⟩ ?_)
        refine Done.mk ⟨[ch4], Drop.refl _, ?_⟩
        rw [if_pos c6]
        exact ⟨rfl, ch4, hD4, rfl⟩
      rw [if_neg (by simpa using c6)]
      refine Tri.frame1 0 rfl (dk_Flush hD4) ?_
      rintro v J5 S5 hJ5 ⟨rfl, ch5, hD5, rfl⟩
      refine ⟨_, rfl, ?_⟩
      exact Done.mk ⟨[ch5], Drop.refl _, rfl, ch5, hD5, rfl⟩
end Go.Proofs.Ytbpdbgcndfcilaa
namespace Go.Proofs.Ytbpdbgcndfcilaa
open Go.RowKit Go.Sl
set_option maxRecDepth 20000

theorem ref_PutF (s : Sup) (I : Imm) : Tri Try.prog 112 #[s.v] I [] fun v J _ =>
    (¬ RightS s ∧ v = .tuple #[.slice none 0 0, .int .i64 2]) ∨ (RightS s ∧ ∃ a cap, v = .tuple #[.slice a 4096 cap, .int .i64 0] ∧ Rds J a 4096 (bts (supL s))) := by
  by_cases hR : RightS s
  · refine Tri.fixed (ref_PutSuper s I) ?_
    rintro v J S' hJ ⟨rfl, ⟨h, _⟩ | ⟨_, a, cap, ch, rfl, hown, rfl⟩⟩
    · exact absurd hR h
    · exact ⟨0, ch, rfl, fun J' hJ' hm => .inr ⟨hR, a, cap, rfl, Rds.of_own hown hm⟩⟩
  · refine (ref_PutSuper s I).mono ?_
    rintro v J S' hJ ⟨rfl, ⟨_, rfl, rfl⟩ | ⟨h, _⟩⟩
    · exact .inl ⟨hR, rfl⟩
    · exact absurd h hR
@[reducible] def rBox (b : Nat) (s w : Hd) (count : Int) (down : Bool) (arm fault : Int) : List Blk := [(b, row [s.v, w.v, .int .i64 count, .bool down, .int .i64 arm, .int .i64 fault] 79)]
@[reducible] def sBox (b : Nat) (s : Sup) : List Blk := [(b, row [.int .i64 s.blocks, .int .i64 s.epoch, .int .i64 s.seq, .int .i64 s.tail] 56)]
set_option maxHeartbeats 4000000 in
theorem r10_Do {I : Imm} {v : Value} {d : DSt} (hD : RDk I v d) (k : Nat) (hf : d.Few k) (aL : Option Addr) (capL : Nat) (gs : List Img) (hi : ImgsOk I aL gs) (hk : k + gs.length ≤ 900000) (s : Sup) (slot : Int) (hslot : In64 slot) :
    Tri Try.prog 70 #[v, .slice aL gs.length capL, s.v, .int .i64 slot] I [] fun r J _ => ∃ v', r = .tuple #[v', .int .i64 (doP d (gs.map Img.pr) s slot).2] ∧ RDk J v' (doP d (gs.map Img.pr) s slot).1 := by
  have hr := hD.wf.range
  have hll := hD.wf.len
  obtain ⟨⟨sa, sl, sc⟩, ⟨wa, wl, wc⟩, bS, gW, rfl, hS, hBk, hbd, hex⟩ := id hD.ex
  dsimp only at hS
  have hsl : sl = d.safe.length := by rw [← hbd, List.length_map]; have := hS.len; rw [List.length_map] at this; exact this.symm
  refine Tri.of (args := [rV ⟨sa, sl, sc⟩ ⟨wa, wl, wc⟩ d.count d.down (gv d.arm) (gv d.fault), .slice aL gs.length capL, s.v, .int .i64 slot]) tabOk Try.func70 rfl (by kernel_rfl) (by kernel_rfl) ?_
  conv => whnf
  intro b4
  conv => whnf
  intro b6
  conv => whnf
  intro b8
  repeat (first
    | refine LoadD.own 0 rfl _ rfl rfl ?_
    | refine LoadD.own 1 rfl _ rfl rfl ?_
    | refine LoadD.own 2 rfl _ rfl rfl ?_
    | refine LoadP.at 0 rfl _ rfl rfl ?_
    | refine LoadP.at 1 rfl _ rfl rfl ?_
    | refine LoadP.at 2 rfl _ rfl rfl ?_
    | refine StoreD.st 0 rfl rfl rfl ?_
    | refine StoreD.st 1 rfl rfl rfl ?_
    | refine StoreD.st 2 rfl rfl rfl ?_
    | refine CmpD.yes rfl ?_
    | refine CmpD.yes (by decide) ?_
    | refine CmpD.no (by decide) ?_
    | refine Chk.mk ⟨rfl, trivial⟩ ?_
    | refine Chk.mk ⟨rfl, rfl, trivial⟩ ?_
    | refine Chk.mk ⟨rfl, rfl, rfl, trivial⟩ ?_
    | refine Chk.mk ⟨rfl, rfl, rfl, rfl, trivial⟩ ?_
    | refine Chk.mk ⟨rfl, rfl, rfl, rfl, rfl, trivial⟩ ?_
    | refine Chk.mk ⟨rfl, rfl, rfl, rfl, rfl, rfl, trivial⟩ ?_)
  unfold doP
  refine Tri.free (ref_PutF s I) ?_
  rintro v J _ hJ (⟨hR, rfl⟩ | ⟨hR, aB, capB, rfl, hB⟩)
  · repeat (first
      | refine LoadD.own 0 rfl _ rfl rfl ?_
      | refine LoadD.own 1 rfl _ rfl rfl ?_
      | refine LoadD.own 2 rfl _ rfl rfl ?_
      | refine LoadP.at 0 rfl _ rfl rfl ?_
      | refine LoadP.at 1 rfl _ rfl rfl ?_
      | refine LoadP.at 2 rfl _ rfl rfl ?_
      | refine StoreD.st 0 rfl rfl rfl ?_
      | refine StoreD.st 1 rfl rfl rfl ?_
      | refine StoreD.st 2 rfl rfl rfl ?_
      | refine CmpD.yes rfl ?_
      | refine CmpD.yes (by decide) ?_
      | refine CmpD.no (by decide) ?_
      | refine Chk.mk ⟨rfl, trivial⟩ ?_
      | refine Chk.mk ⟨rfl, rfl, trivial⟩ ?_
      | refine Chk.mk ⟨rfl, rfl, rfl, trivial⟩ ?_
      | refine Chk.mk ⟨rfl, rfl, rfl, rfl, trivial⟩ ?_
      | refine Chk.mk ⟨rfl, rfl, rfl, rfl, rfl, trivial⟩ ?_
      | refine Chk.mk ⟨rfl, rfl, rfl, rfl, rfl, rfl, trivial⟩ ?_)
    rw [if_pos (.inl hR)]
    exact Done.mk ⟨_, rfl, hD.mono hJ⟩
  have hDJ := hD.mono hJ
  have hiJ := hi.mono hJ
  repeat (first
    | refine LoadD.own 0 rfl _ rfl rfl ?_
    | refine LoadD.own 1 rfl _ rfl rfl ?_
    | refine LoadD.own 2 rfl _ rfl rfl ?_
    | refine LoadP.at 0 rfl _ rfl rfl ?_
    | refine LoadP.at 1 rfl _ rfl rfl ?_
    | refine LoadP.at 2 rfl _ rfl rfl ?_
    | refine StoreD.st 0 rfl rfl rfl ?_
    | refine StoreD.st 1 rfl rfl rfl ?_
    | refine StoreD.st 2 rfl rfl rfl ?_
    | refine CmpD.yes rfl ?_
    | refine CmpD.yes (by decide) ?_
    | refine CmpD.no (by decide) ?_
    | refine Chk.mk ⟨rfl, trivial⟩ ?_
    | refine Chk.mk ⟨rfl, rfl, trivial⟩ ?_
    | refine Chk.mk ⟨rfl, rfl, rfl, trivial⟩ ?_
    | refine Chk.mk ⟨rfl, rfl, rfl, rfl, trivial⟩ ?_
    | refine Chk.mk ⟨rfl, rfl, rfl, rfl, rfl, trivial⟩ ?_
    | refine Chk.mk ⟨rfl, rfl, rfl, rfl, rfl, rfl, trivial⟩ ?_)
  by_cases hs01 : slot = 0 ∨ slot = 1
  rotate_left
  · refine CmpD.no (fun h => hs01 (.inl h)) ?_
    repeat (first
      | refine LoadD.own 0 rfl _ rfl rfl ?_
      | refine LoadD.own 1 rfl _ rfl rfl ?_
      | refine LoadD.own 2 rfl _ rfl rfl ?_
      | refine LoadP.at 0 rfl _ rfl rfl ?_
      | refine LoadP.at 1 rfl _ rfl rfl ?_
      | refine LoadP.at 2 rfl _ rfl rfl ?_
      | refine StoreD.st 0 rfl rfl rfl ?_
      | refine StoreD.st 1 rfl rfl rfl ?_
      | refine StoreD.st 2 rfl rfl rfl ?_
      | refine CmpD.yes rfl ?_
      | refine CmpD.yes (by decide) ?_
      | refine CmpD.no (by decide) ?_
      | refine Chk.mk ⟨rfl, trivial⟩ ?_
      | refine Chk.mk ⟨rfl, rfl, trivial⟩ ?_
      | refine Chk.mk ⟨rfl, rfl, rfl, trivial⟩ ?_
      | refine Chk.mk ⟨rfl, rfl, rfl, rfl, trivial⟩ ?_
      | refine Chk.mk ⟨rfl, rfl, rfl, rfl, rfl, trivial⟩ ?_
      | refine Chk.mk ⟨rfl, rfl, rfl, rfl, rfl, rfl, trivial⟩ ?_)
    refine CmpD.no (fun h => hs01 (.inr h)) ?_
    repeat (first
      | refine LoadD.own 0 rfl _ rfl rfl ?_
      | refine LoadD.own 1 rfl _ rfl rfl ?_
      | refine LoadD.own 2 rfl _ rfl rfl ?_
      | refine LoadP.at 0 rfl _ rfl rfl ?_
      | refine LoadP.at 1 rfl _ rfl rfl ?_
      | refine LoadP.at 2 rfl _ rfl rfl ?_
      | refine StoreD.st 0 rfl rfl rfl ?_
      | refine StoreD.st 1 rfl rfl rfl ?_
      | refine StoreD.st 2 rfl rfl rfl ?_
      | refine CmpD.yes rfl ?_
      | refine CmpD.yes (by decide) ?_
      | refine CmpD.no (by decide) ?_
      | refine Chk.mk ⟨rfl, trivial⟩ ?_
      | refine Chk.mk ⟨rfl, rfl, trivial⟩ ?_
      | refine Chk.mk ⟨rfl, rfl, rfl, trivial⟩ ?_
      | refine Chk.mk ⟨rfl, rfl, rfl, rfl, trivial⟩ ?_
      | refine Chk.mk ⟨rfl, rfl, rfl, rfl, rfl, trivial⟩ ?_
      | refine Chk.mk ⟨rfl, rfl, rfl, rfl, rfl, rfl, trivial⟩ ?_)
    rw [if_pos (by by_cases h : slot < 0; exact .inr (.inl h); exact .inr (.inr (.inl (by omega))))]
    exact Done.mk ⟨_, rfl, hDJ⟩
  rcases hs01 with h01 | h01
  all_goals
    repeat (first
      | refine LoadD.own 0 rfl _ rfl rfl ?_
      | refine LoadD.own 1 rfl _ rfl rfl ?_
      | refine LoadD.own 2 rfl _ rfl rfl ?_
      | refine LoadP.at 0 rfl _ rfl rfl ?_
      | refine LoadP.at 1 rfl _ rfl rfl ?_
      | refine LoadP.at 2 rfl _ rfl rfl ?_
      | refine StoreD.st 0 rfl rfl rfl ?_
      | refine StoreD.st 1 rfl rfl rfl ?_
      | refine StoreD.st 2 rfl rfl rfl ?_
      | refine CmpD.yes rfl ?_
      | refine CmpD.yes (by decide) ?_
      | refine CmpD.no (by decide) ?_
      | refine Chk.mk ⟨rfl, trivial⟩ ?_
      | refine Chk.mk ⟨rfl, rfl, trivial⟩ ?_
      | refine Chk.mk ⟨rfl, rfl, rfl, trivial⟩ ?_
      | refine Chk.mk ⟨rfl, rfl, rfl, rfl, trivial⟩ ?_
      | refine Chk.mk ⟨rfl, rfl, rfl, rfl, rfl, trivial⟩ ?_
      | refine Chk.mk ⟨rfl, rfl, rfl, rfl, rfl, rfl, trivial⟩ ?_
      | refine ToD.i64 (by omega) (by omega) ?_
      | refine Chk.mk (by omega) ?_
      | refine CmpD.yes (by omega) ?_
      | refine CmpD.no (by omega) ?_)
    refine CodeF.loopD [1, 3, 4, 8, 10, 12] (fun vs J' S' => ∃ i : Nat, i ≤ gs.length ∧ DoOk d ((gs.take i).map Img.pr) ∧ (∀ g ∈ gs.take i, g.len = 4096) ∧ vs = [.slice aL gs.length capL, .int .i64 slot, .pointer (some ⟨b4, 0, none⟩), .pointer (some ⟨b8, 0, none⟩), .slice aB 4096 capB, .int .i64 i] ∧ J = J' ∧
        S' = [rBox b4 ⟨sa, sl, sc⟩ ⟨wa, wl, wc⟩ d.count d.down (gv d.arm) (gv d.fault), rBox b8 ⟨none, 0, 0⟩ ⟨none, 0, 0⟩ 0 false 0 0])
      (fun vs _ _ => match vs with | [_, _, _, _, _, .int _ i] => ((gs.length : Int) - i).toNat | _ => 0) ?_ ?_
    · exact ⟨_, Drop.pick [0, 2] _ rfl, 0, by omega, by intro g hg; simp at hg, by simp, rfl, rfl, rfl⟩
    rintro vs gE J' S' hJ' ⟨i, hil, hok, hlen, rfl, rfl, rfl⟩
    refine CmpD.split (fun c3 => ?_) (fun c3 => ?_)
    · have hlt : i < gs.length := by omega
      rcases hiJ.1.mem with q0 | ⟨bA, oA, cA, TA, fA, rfl, hIA, hcA⟩
      · omega
      have hpair := take_part hcA (i := i * 2) (m := 2) (by omega)
      rw [imgCells_at hlt] at hpair
      have htk : gs.take (i + 1) = gs.take i ++ [gs[i]] := by rw [List.take_add_one, List.getElem?_eq_getElem hlt]; rfl
      have hmem : gs[i] ∈ gs := List.getElem_mem hlt
      have hdl := hiJ.len hmem
      have no : ¬ (2 ≤ gs[i].blk ∧ gs[i].blk < d.now.length ∧ gs[i].len = 4096) → ¬ DoOk d (gs.map Img.pr) := by
        intro h h'
        have := h' gs[i].pr (List.mem_map_of_mem hmem)
        exact h ⟨this.1, this.2.1, by rw [← hdl]; exact this.2.2⟩
      generalize gs[i] = g at *
      refine CodeF.sched [[], [], [0, 1], [0, 1, 2], [0, 1, 2, 3], [0, 1, 2, 3, 4], [0, 1, 2, 3, 4, 5], [0, 1, 2, 3, 4, 5, 6], [0, 1, 2, 3, 4, 5, 6], [0, 1, 2, 3, 4, 5, 6, 7, 8], [0, 1, 2, 3, 4, 5, 6, 7, 8, 9], [0, 1, 2, 3, 4, 5, 6, 7, 8, 9, 10], [0, 1, 2, 3, 4, 5, 6], [0, 1, 2, 3, 4, 5, 6, 12], [0, 1, 2, 3, 4, 5, 6, 12, 13], [0, 1, 2, 3, 4, 5, 6, 7, 8, 9, 10, 11, 12, 13, 14], [0, 1, 2, 3, 4, 5, 6, 7, 8, 9, 10, 11, 12, 13, 14, 15], [0, 1, 2, 3, 4, 5, 6, 7, 8, 9, 10, 11, 12, 13, 14, 15, 16], [0, 1, 2, 3, 4, 5, 6, 7, 8, 9, 10, 11, 12, 13, 14, 15, 16, 17], [0, 1, 2, 3, 4, 5, 6, 7, 8, 9, 10, 11, 12, 13, 14, 15, 16, 17], [0, 1, 2, 3, 4, 5, 6, 7, 8, 9, 10, 11, 12, 13, 14, 15, 16, 17, 18, 19], [0, 1, 2, 3, 4, 5, 6, 7, 8, 9, 10, 11, 12, 13, 14, 15, 16, 17, 18, 19, 20], [0, 1, 2, 3, 4, 5, 6, 7, 8, 9, 10, 11, 12, 13, 14, 15, 16, 17, 18, 19, 20, 21], [0, 1, 2, 3, 4, 5, 6, 7, 8, 9, 10, 11, 12, 13, 14, 15, 16, 17, 18, 19, 20, 21, 22], [0, 1, 2, 3, 4, 5, 6, 7, 8, 9, 10, 11, 12, 13, 14, 15, 16, 17, 18, 19, 20, 21, 22, 23], [0, 1, 2, 3, 4, 5, 6, 7, 8, 9, 10, 11, 12, 13, 14, 15, 16, 17, 18, 19, 20, 21, 22, 23, 24]] [0, 1, 2, 3, 4, 5, 6, 7, 8, 9, 10, 11, 12, 13, 14, 15, 16, 17, 18, 19, 20, 21, 22, 23, 24, 25] (by kernel_rfl) ?_
      refine Chk.mk (by omega) ?_
      refine LoadP.imm [.int .i64 g.blk] ⟨cA, TA, fA, .imm hIA, pair_fst hpair, rfl⟩ ?_
      refine CmpD.split (fun c4 => ?_) (fun c4 => ?_)
      · repeat (first
          | refine LoadD.own 0 rfl _ rfl rfl ?_
          | refine LoadD.own 1 rfl _ rfl rfl ?_
          | refine LoadD.own 2 rfl _ rfl rfl ?_
          | refine LoadP.at 0 rfl _ rfl rfl ?_
          | refine LoadP.at 1 rfl _ rfl rfl ?_
          | refine LoadP.at 2 rfl _ rfl rfl ?_
          | refine StoreD.st 0 rfl rfl rfl ?_
          | refine StoreD.st 1 rfl rfl rfl ?_
          | refine StoreD.st 2 rfl rfl rfl ?_
          | refine CmpD.yes rfl ?_
          | refine CmpD.yes (by decide) ?_
          | refine CmpD.no (by decide) ?_
          | refine Chk.mk ⟨rfl, trivial⟩ ?_
          | refine Chk.mk ⟨rfl, rfl, trivial⟩ ?_
          | refine Chk.mk ⟨rfl, rfl, rfl, trivial⟩ ?_
          | refine Chk.mk ⟨rfl, rfl, rfl, rfl, trivial⟩ ?_
          | refine Chk.mk ⟨rfl, rfl, rfl, rfl, rfl, trivial⟩ ?_
          | refine Chk.mk ⟨rfl, rfl, rfl, rfl, rfl, rfl, trivial⟩ ?_)
        rw [if_pos (.inr (.inr (.inr (no (fun h => by omega)))))]
        exact Done.mk ⟨_, rfl, hDJ⟩
      repeat (first
        | refine LoadD.own 0 rfl _ rfl rfl ?_
        | refine LoadD.own 1 rfl _ rfl rfl ?_
        | refine LoadD.own 2 rfl _ rfl rfl ?_
        | refine LoadP.at 0 rfl _ rfl rfl ?_
        | refine LoadP.at 1 rfl _ rfl rfl ?_
        | refine LoadP.at 2 rfl _ rfl rfl ?_
        | refine StoreD.st 0 rfl rfl rfl ?_
        | refine StoreD.st 1 rfl rfl rfl ?_
        | refine StoreD.st 2 rfl rfl rfl ?_
        | refine CmpD.yes rfl ?_
        | refine CmpD.yes (by decide) ?_
        | refine CmpD.no (by decide) ?_
        | refine Chk.mk ⟨rfl, trivial⟩ ?_
        | refine Chk.mk ⟨rfl, rfl, trivial⟩ ?_
        | refine Chk.mk ⟨rfl, rfl, rfl, trivial⟩ ?_
        | refine Chk.mk ⟨rfl, rfl, rfl, rfl, trivial⟩ ?_
        | refine Chk.mk ⟨rfl, rfl, rfl, rfl, rfl, trivial⟩ ?_
        | refine Chk.mk ⟨rfl, rfl, rfl, rfl, rfl, rfl, trivial⟩ ?_)
      refine Chk.mk (by omega) ?_
      refine LoadP.imm [.int .i64 g.blk] ⟨cA, TA, fA, .imm hIA, pair_fst hpair, rfl⟩ ?_
      repeat (first
        | refine LoadD.own 0 rfl _ rfl rfl ?_
        | refine LoadD.own 1 rfl _ rfl rfl ?_
        | refine LoadD.own 2 rfl _ rfl rfl ?_
        | refine LoadP.at 0 rfl _ rfl rfl ?_
        | refine LoadP.at 1 rfl _ rfl rfl ?_
        | refine LoadP.at 2 rfl _ rfl rfl ?_
        | refine StoreD.st 0 rfl rfl rfl ?_
        | refine StoreD.st 1 rfl rfl rfl ?_
        | refine StoreD.st 2 rfl rfl rfl ?_
        | refine CmpD.yes rfl ?_
        | refine CmpD.yes (by decide) ?_
        | refine CmpD.no (by decide) ?_
        | refine Chk.mk ⟨rfl, trivial⟩ ?_
        | refine Chk.mk ⟨rfl, rfl, trivial⟩ ?_
        | refine Chk.mk ⟨rfl, rfl, rfl, trivial⟩ ?_
        | refine Chk.mk ⟨rfl, rfl, rfl, rfl, trivial⟩ ?_
        | refine Chk.mk ⟨rfl, rfl, rfl, rfl, rfl, trivial⟩ ?_
        | refine Chk.mk ⟨rfl, rfl, rfl, rfl, rfl, rfl, trivial⟩ ?_)
      refine CmpD.split (fun c5 => ?_) (fun c5 => ?_)
      · have c5 : (sl : Int) ≤ g.blk := c5
        repeat (first
          | refine LoadD.own 0 rfl _ rfl rfl ?_
          | refine LoadD.own 1 rfl _ rfl rfl ?_
          | refine LoadD.own 2 rfl _ rfl rfl ?_
          | refine LoadP.at 0 rfl _ rfl rfl ?_
          | refine LoadP.at 1 rfl _ rfl rfl ?_
          | refine LoadP.at 2 rfl _ rfl rfl ?_
          | refine StoreD.st 0 rfl rfl rfl ?_
          | refine StoreD.st 1 rfl rfl rfl ?_
          | refine StoreD.st 2 rfl rfl rfl ?_
          | refine CmpD.yes rfl ?_
          | refine CmpD.yes (by decide) ?_
          | refine CmpD.no (by decide) ?_
          | refine Chk.mk ⟨rfl, trivial⟩ ?_
          | refine Chk.mk ⟨rfl, rfl, trivial⟩ ?_
          | refine Chk.mk ⟨rfl, rfl, rfl, trivial⟩ ?_
          | refine Chk.mk ⟨rfl, rfl, rfl, rfl, trivial⟩ ?_
          | refine Chk.mk ⟨rfl, rfl, rfl, rfl, rfl, trivial⟩ ?_
          | refine Chk.mk ⟨rfl, rfl, rfl, rfl, rfl, rfl, trivial⟩ ?_)
        rw [if_pos (.inr (.inr (.inr (no (fun h => by omega)))))]
        exact Done.mk ⟨_, rfl, hDJ⟩
      have c5 : ¬ (sl : Int) ≤ g.blk := c5
      repeat (first
        | refine LoadD.own 0 rfl _ rfl rfl ?_
        | refine LoadD.own 1 rfl _ rfl rfl ?_
        | refine LoadD.own 2 rfl _ rfl rfl ?_
        | refine LoadP.at 0 rfl _ rfl rfl ?_
        | refine LoadP.at 1 rfl _ rfl rfl ?_
        | refine LoadP.at 2 rfl _ rfl rfl ?_
        | refine StoreD.st 0 rfl rfl rfl ?_
        | refine StoreD.st 1 rfl rfl rfl ?_
        | refine StoreD.st 2 rfl rfl rfl ?_
        | refine CmpD.yes rfl ?_
        | refine CmpD.yes (by decide) ?_
        | refine CmpD.no (by decide) ?_
        | refine Chk.mk ⟨rfl, trivial⟩ ?_
        | refine Chk.mk ⟨rfl, rfl, trivial⟩ ?_
        | refine Chk.mk ⟨rfl, rfl, rfl, trivial⟩ ?_
        | refine Chk.mk ⟨rfl, rfl, rfl, rfl, trivial⟩ ?_
        | refine Chk.mk ⟨rfl, rfl, rfl, rfl, rfl, trivial⟩ ?_
        | refine Chk.mk ⟨rfl, rfl, rfl, rfl, rfl, rfl, trivial⟩ ?_)
      refine Chk.mk (by omega) ?_
      refine LoadP.imm [.slice g.a g.len g.cap] ⟨cA, TA, fA, .imm hIA, pair_snd hpair, rfl⟩ ?_
      refine CmpD.split (fun c6 => ?_) (fun c6 => ?_)
      rotate_left
      · repeat (first
          | refine LoadD.own 0 rfl _ rfl rfl ?_
          | refine LoadD.own 1 rfl _ rfl rfl ?_
          | refine LoadD.own 2 rfl _ rfl rfl ?_
          | refine LoadP.at 0 rfl _ rfl rfl ?_
          | refine LoadP.at 1 rfl _ rfl rfl ?_
          | refine LoadP.at 2 rfl _ rfl rfl ?_
          | refine StoreD.st 0 rfl rfl rfl ?_
          | refine StoreD.st 1 rfl rfl rfl ?_
          | refine StoreD.st 2 rfl rfl rfl ?_
          | refine CmpD.yes rfl ?_
          | refine CmpD.yes (by decide) ?_
          | refine CmpD.no (by decide) ?_
          | refine Chk.mk ⟨rfl, trivial⟩ ?_
          | refine Chk.mk ⟨rfl, rfl, trivial⟩ ?_
          | refine Chk.mk ⟨rfl, rfl, rfl, trivial⟩ ?_
          | refine Chk.mk ⟨rfl, rfl, rfl, rfl, trivial⟩ ?_
          | refine Chk.mk ⟨rfl, rfl, rfl, rfl, rfl, trivial⟩ ?_
          | refine Chk.mk ⟨rfl, rfl, rfl, rfl, rfl, rfl, trivial⟩ ?_)
        rw [if_pos (.inr (.inr (.inr (no (fun h => by omega)))))]
        exact Done.mk ⟨_, rfl, hDJ⟩
      repeat (first
        | refine LoadD.own 0 rfl _ rfl rfl ?_
        | refine LoadD.own 1 rfl _ rfl rfl ?_
        | refine LoadD.own 2 rfl _ rfl rfl ?_
        | refine LoadP.at 0 rfl _ rfl rfl ?_
        | refine LoadP.at 1 rfl _ rfl rfl ?_
        | refine LoadP.at 2 rfl _ rfl rfl ?_
        | refine StoreD.st 0 rfl rfl rfl ?_
        | refine StoreD.st 1 rfl rfl rfl ?_
        | refine StoreD.st 2 rfl rfl rfl ?_
        | refine CmpD.yes rfl ?_
        | refine CmpD.yes (by decide) ?_
        | refine CmpD.no (by decide) ?_
        | refine Chk.mk ⟨rfl, trivial⟩ ?_
        | refine Chk.mk ⟨rfl, rfl, trivial⟩ ?_
        | refine Chk.mk ⟨rfl, rfl, rfl, trivial⟩ ?_
        | refine Chk.mk ⟨rfl, rfl, rfl, rfl, trivial⟩ ?_
        | refine Chk.mk ⟨rfl, rfl, rfl, rfl, rfl, trivial⟩ ?_
        | refine Chk.mk ⟨rfl, rfl, rfl, rfl, rfl, rfl, trivial⟩ ?_)
      refine ToD.i64 (by omega) (by omega) ?_
      refine ⟨_, Drop.pick [0, 1] _ rfl, ⟨i + 1, by omega, ?_, ?_, rfl, rfl, rfl⟩, ?_⟩
      · rw [htk, List.map_append]
        intro q hq
        rcases List.mem_append.1 hq with hq | hq
        · exact hok q hq
        · simp only [List.map_cons, List.map_nil, List.mem_singleton] at hq
          subst hq
          exact ⟨by show 2 ≤ g.blk; omega, by show g.blk < _; omega, by show g.data.length = _; omega⟩
      · intro q hq
        rw [htk] at hq
        rcases List.mem_append.1 hq with hq | hq
        · exact hlen q hq
        · simp only [List.mem_singleton] at hq
          subst hq
          omega
      · show ((gs.length : Int) - ((i : Int) + 1)).toNat < ((gs.length : Int) - (i : Int)).toNat
        omega
    obtain rfl : i = gs.length := by omega
    rw [List.take_length] at hok hlen
    rw [if_neg (by rintro (h | h | h | h); exact h hR; omega; omega; exact h hok)]
    obtain ⟨W, hW⟩ : ∃ W, W = wrImgs (gs.map Img.pr) d := ⟨_, rfl⟩
    have hWf : W.1.Few (k + gs.length) := by rw [hW]; have := wrImgs_few (gs.map Img.pr) d k hf; rwa [List.length_map] at this
    rw [← hW]
    refine CodeF.loopD [1, 3, 4, 8, 10, 13] (fun vs J' S' => ∃ (i : Nat) (d' : DSt) (s' w' : Hd), i ≤ gs.length ∧ W = wrImgs ((gs.drop i).map Img.pr) d' ∧ d'.Few (k + i) ∧ RDk J' (rV s' w' d'.count d'.down (gv d'.arm) (gv d'.fault)) d' ∧ J.le J' ∧
        vs = [.slice aL gs.length capL, .int .i64 slot, .pointer (some ⟨b4, 0, none⟩), .pointer (some ⟨b8, 0, none⟩), .slice aB 4096 capB, .int .i64 i] ∧ S' = [rBox b4 s' w' d'.count d'.down (gv d'.arm) (gv d'.fault), rBox b8 ⟨none, 0, 0⟩ ⟨none, 0, 0⟩ 0 false 0 0])
      (fun vs _ _ => match vs with | [_, _, _, _, _, .int _ i] => ((gs.length : Int) - i).toNat | _ => 0) ?_ ?_
    · exact ⟨_, Drop.refl _, 0, d, ⟨sa, sl, sc⟩, ⟨wa, wl, wc⟩, by omega, by rw [hW]; rfl, hf, hDJ, J.le_refl, rfl, rfl⟩
    rintro vs gE2 J2 S2 hJ2 ⟨i, d', ⟨sa', sl', sc'⟩, ⟨wa', wl', wc'⟩, hil2, hWi, hfi, hDi, hle, rfl, rfl⟩
    refine CmpD.split (fun c4 => ?_) (fun c4 => ?_)
    · have hlt : i < gs.length := by omega
      rcases hiJ.1.mem with q0 | ⟨bA, oA, cA, TA, fA, rfl, hIA, hcA⟩
      · omega
      have hpair := take_part hcA (i := i * 2) (m := 2) (by omega)
      rw [imgCells_at hlt] at hpair
      have hmem : gs[i] ∈ gs := List.getElem_mem hlt
      have hdata := hiJ.2 _ hmem
      have hgl := hlen _ hmem
      have hdr : gs.drop i = gs[i] :: gs.drop (i + 1) := List.drop_eq_getElem_cons hlt
      generalize gs[i] = g at *
      rw [hdr, List.map_cons, wrImgs] at hWi
      have hIA2 := hle _ _ hIA
      refine CodeF.sched [[], [], [], [1, 2], [1, 2, 3], [1, 2, 3, 4], [], [], [6, 7], [6, 7, 8], [6, 7, 8, 9], [0, 1, 2, 3, 4, 5, 6, 7, 8, 9, 10], [0, 1, 2, 3, 4, 5, 6, 7, 8, 9, 10, 11], [0, 1, 2, 3, 4, 5, 6, 7, 8, 9, 10, 11, 12], [0, 1, 2, 3, 4, 5, 6, 7, 8, 9, 10, 11, 12], [0, 1, 2, 3, 4, 5, 6, 7, 8, 9, 10, 11, 12, 13], [0, 1, 2, 3, 4, 5, 6, 7, 8, 9, 10, 11, 12, 13, 14, 15]] [0, 1, 2, 3, 4, 5, 6, 7, 8, 9, 10, 11, 12, 13, 14, 15, 16] (by kernel_rfl) ?_
      refine LoadP.at 0 rfl _ rfl rfl ?_
      refine Chk.mk (by omega) ?_
      refine LoadP.imm [.int .i64 g.blk] ⟨cA, TA, fA, .imm hIA2, pair_fst hpair, rfl⟩ ?_
      refine Chk.mk (by omega) ?_
      refine LoadP.imm [.slice g.a g.len g.cap] ⟨cA, TA, fA, .imm hIA2, pair_snd hpair, rfl⟩ ?_
      refine Tri.free (r4_Write hDi (hfi.mono (by omega)) g.blk g.a g.len g.cap g.data (hdata.2.mono hle) (by omega) hdata.1) ?_
      rintro v J3 _ hJ3 ⟨v3, rfl, hD3⟩
      obtain ⟨⟨sa3, sl3, sc3⟩, ⟨wa3, wl3, wc3⟩, _, _, rfl, _⟩ := id hD3.ex
      have hf3 := hfi.write g.blk g.data
      rw [show g.pr.1 = g.blk from rfl, show g.pr.2 = g.data from rfl] at hWi
      generalize hwr : d'.write g.blk g.data = wr at *
      repeat (first
        | refine LoadD.own 0 rfl _ rfl rfl ?_
        | refine LoadD.own 1 rfl _ rfl rfl ?_
        | refine LoadP.at 0 rfl _ rfl rfl ?_
        | refine LoadP.at 1 rfl _ rfl rfl ?_
        | refine StoreD.st 0 rfl rfl rfl ?_
        | refine StoreD.st 1 rfl rfl rfl ?_
        | refine CmpD.yes rfl ?_
        | refine CmpD.yes (by decide) ?_
        | refine CmpD.no (by decide) ?_
        | refine Chk.mk ⟨rfl, trivial⟩ ?_
        | refine Chk.mk ⟨rfl, rfl, trivial⟩ ?_
        | refine Chk.mk ⟨rfl, rfl, rfl, trivial⟩ ?_
        | refine Chk.mk ⟨rfl, rfl, rfl, rfl, trivial⟩ ?_
        | refine Chk.mk ⟨rfl, rfl, rfl, rfl, rfl, trivial⟩ ?_
        | refine Chk.mk ⟨rfl, rfl, rfl, rfl, rfl, rfl, trivial⟩ ?_)
      refine CmpD.split (fun c5 => ?_) (fun c5 => ?_)
      · rw [if_neg (by simpa using c5)] at hWi
        repeat (first
          | refine LoadD.own 0 rfl _ rfl rfl ?_
          | refine LoadD.own 1 rfl _ rfl rfl ?_
          | refine LoadP.at 0 rfl _ rfl rfl ?_
          | refine LoadP.at 1 rfl _ rfl rfl ?_
          | refine StoreD.st 0 rfl rfl rfl ?_
          | refine StoreD.st 1 rfl rfl rfl ?_
          | refine CmpD.yes rfl ?_
          | refine CmpD.yes (by decide) ?_
          | refine CmpD.no (by decide) ?_
          | refine Chk.mk ⟨rfl, trivial⟩ ?_
          | refine Chk.mk ⟨rfl, rfl, trivial⟩ ?_
          | refine Chk.mk ⟨rfl, rfl, rfl, trivial⟩ ?_
          | refine Chk.mk ⟨rfl, rfl, rfl, rfl, trivial⟩ ?_
          | refine Chk.mk ⟨rfl, rfl, rfl, rfl, rfl, trivial⟩ ?_
          | refine Chk.mk ⟨rfl, rfl, rfl, rfl, rfl, rfl, trivial⟩ ?_)
        refine ToD.i64 (by omega) (by omega) ?_
        refine ⟨_, Drop.pick [0, 1] _ rfl, ⟨i + 1, _, ⟨sa3, sl3, sc3⟩, ⟨wa3, wl3, wc3⟩, by omega, hWi, hf3, hD3, Imm.le_trans hle hJ3, rfl, rfl⟩, ?_⟩
        show ((gs.length : Int) - ((i : Int) + 1)).toNat < ((gs.length : Int) - (i : Int)).toNat
        omega
      · rw [if_pos c5] at hWi
        repeat (first
          | refine LoadD.own 0 rfl _ rfl rfl ?_
          | refine LoadD.own 1 rfl _ rfl rfl ?_
          | refine LoadP.at 0 rfl _ rfl rfl ?_
          | refine LoadP.at 1 rfl _ rfl rfl ?_
          | refine StoreD.st 0 rfl rfl rfl ?_
          | refine StoreD.st 1 rfl rfl rfl ?_
          | refine CmpD.yes rfl ?_
          | refine CmpD.yes (by decide) ?_
          | refine CmpD.no (by decide) ?_
          | refine Chk.mk ⟨rfl, trivial⟩ ?_
          | refine Chk.mk ⟨rfl, rfl, trivial⟩ ?_
          | refine Chk.mk ⟨rfl, rfl, rfl, trivial⟩ ?_
          | refine Chk.mk ⟨rfl, rfl, rfl, rfl, trivial⟩ ?_
          | refine Chk.mk ⟨rfl, rfl, rfl, rfl, rfl, trivial⟩ ?_
          | refine Chk.mk ⟨rfl, rfl, rfl, rfl, rfl, rfl, trivial⟩ ?_)
        rw [hWi, if_pos c5]
        exact Done.mk ⟨_, rfl, hD3⟩
    obtain rfl : i = gs.length := by omega
    rw [List.drop_length, List.map_nil, wrImgs] at hWi
    subst hWi
    dsimp only at hWf ⊢
    rw [if_neg (by simp)]
    repeat (first
      | refine LoadD.own 0 rfl _ rfl rfl ?_
      | refine LoadD.own 1 rfl _ rfl rfl ?_
      | refine LoadP.at 0 rfl _ rfl rfl ?_
      | refine LoadP.at 1 rfl _ rfl rfl ?_
      | refine StoreD.st 0 rfl rfl rfl ?_
      | refine StoreD.st 1 rfl rfl rfl ?_
      | refine CmpD.yes rfl ?_
      | refine CmpD.yes (by decide) ?_
      | refine CmpD.no (by decide) ?_
      | refine Chk.mk ⟨rfl, trivial⟩ ?_
      | refine Chk.mk ⟨rfl, rfl, trivial⟩ ?_
      | refine Chk.mk ⟨rfl, rfl, rfl, trivial⟩ ?_
      | refine Chk.mk ⟨rfl, rfl, rfl, rfl, trivial⟩ ?_
      | refine Chk.mk ⟨rfl, rfl, rfl, rfl, rfl, trivial⟩ ?_
      | refine Chk.mk ⟨rfl, rfl, rfl, rfl, rfl, rfl, trivial⟩ ?_)
    refine Tri.free (r4_Flush hDi (hWf.mono (by omega))) ?_
    rintro v J3 _ hJ3 ⟨v3, rfl, hD3⟩
    obtain ⟨⟨sa3, sl3, sc3⟩, ⟨wa3, wl3, wc3⟩, _, _, rfl, _⟩ := id hD3.ex
    have hf3 := hWf.flush
    generalize d'.flush = fl at *
    repeat (first
      | refine LoadD.own 0 rfl _ rfl rfl ?_
      | refine LoadD.own 1 rfl _ rfl rfl ?_
      | refine LoadP.at 0 rfl _ rfl rfl ?_
      | refine LoadP.at 1 rfl _ rfl rfl ?_
      | refine StoreD.st 0 rfl rfl rfl ?_
      | refine StoreD.st 1 rfl rfl rfl ?_
      | refine CmpD.yes rfl ?_
      | refine CmpD.yes (by decide) ?_
      | refine CmpD.no (by decide) ?_
      | refine Chk.mk ⟨rfl, trivial⟩ ?_
      | refine Chk.mk ⟨rfl, rfl, trivial⟩ ?_
      | refine Chk.mk ⟨rfl, rfl, rfl, trivial⟩ ?_
      | refine Chk.mk ⟨rfl, rfl, rfl, rfl, trivial⟩ ?_
      | refine Chk.mk ⟨rfl, rfl, rfl, rfl, rfl, trivial⟩ ?_
      | refine Chk.mk ⟨rfl, rfl, rfl, rfl, rfl, rfl, trivial⟩ ?_)
    refine CmpD.split (fun c5 => ?_) (fun c5 => ?_)
    rotate_left
    · repeat (first
        | refine LoadD.own 0 rfl _ rfl rfl ?_
        | refine LoadD.own 1 rfl _ rfl rfl ?_
        | refine LoadP.at 0 rfl _ rfl rfl ?_
        | refine LoadP.at 1 rfl _ rfl rfl ?_
        | refine StoreD.st 0 rfl rfl rfl ?_
        | refine StoreD.st 1 rfl rfl rfl ?_
        | refine CmpD.yes rfl ?_
        | refine CmpD.yes (by decide) ?_
        | refine CmpD.no (by decide) ?_
        | refine Chk.mk ⟨rfl, trivial⟩ ?_
        | refine Chk.mk ⟨rfl, rfl, trivial⟩ ?_
        | refine Chk.mk ⟨rfl, rfl, rfl, trivial⟩ ?_
        | refine Chk.mk ⟨rfl, rfl, rfl, rfl, trivial⟩ ?_
        | refine Chk.mk ⟨rfl, rfl, rfl, rfl, rfl, trivial⟩ ?_
        | refine Chk.mk ⟨rfl, rfl, rfl, rfl, rfl, rfl, trivial⟩ ?_)
      rw [if_pos c5]
      exact Done.mk ⟨_, rfl, hD3⟩
    rw [if_neg (by simpa using c5)]
    unfold lastWr
    repeat (first
      | refine LoadD.own 0 rfl _ rfl rfl ?_
      | refine LoadD.own 1 rfl _ rfl rfl ?_
      | refine LoadP.at 0 rfl _ rfl rfl ?_
      | refine LoadP.at 1 rfl _ rfl rfl ?_
      | refine StoreD.st 0 rfl rfl rfl ?_
      | refine StoreD.st 1 rfl rfl rfl ?_
      | refine CmpD.yes rfl ?_
      | refine CmpD.yes (by decide) ?_
      | refine CmpD.no (by decide) ?_
      | refine Chk.mk ⟨rfl, trivial⟩ ?_
      | refine Chk.mk ⟨rfl, rfl, trivial⟩ ?_
      | refine Chk.mk ⟨rfl, rfl, rfl, trivial⟩ ?_
      | refine Chk.mk ⟨rfl, rfl, rfl, rfl, trivial⟩ ?_
      | refine Chk.mk ⟨rfl, rfl, rfl, rfl, rfl, trivial⟩ ?_
      | refine Chk.mk ⟨rfl, rfl, rfl, rfl, rfl, rfl, trivial⟩ ?_)
    refine Tri.free (r4_Write hD3 (hf3.mono (by omega)) slot aB 4096 capB (supL s) (hB.mono (Imm.le_trans hle hJ3)) (by omega) hslot) ?_
    rintro v J4 _ hJ4 ⟨v4, rfl, hD4⟩
    obtain ⟨⟨sa4, sl4, sc4⟩, ⟨wa4, wl4, wc4⟩, _, _, rfl, _⟩ := id hD4.ex
    have hf4 := hf3.write slot (supL s)
    repeat (first
      | refine LoadD.own 0 rfl _ rfl rfl ?_
      | refine LoadD.own 1 rfl _ rfl rfl ?_
      | refine LoadP.at 0 rfl _ rfl rfl ?_
      | refine LoadP.at 1 rfl _ rfl rfl ?_
      | refine StoreD.st 0 rfl rfl rfl ?_
      | refine StoreD.st 1 rfl rfl rfl ?_
      | refine CmpD.yes rfl ?_
      | refine CmpD.yes (by decide) ?_
      | refine CmpD.no (by decide) ?_
      | refine Chk.mk ⟨rfl, trivial⟩ ?_
      | refine Chk.mk ⟨rfl, rfl, trivial⟩ ?_
      | refine Chk.mk ⟨rfl, rfl, rfl, trivial⟩ ?_
      | refine Chk.mk ⟨rfl, rfl, rfl, rfl, trivial⟩ ?_
      | refine Chk.mk ⟨rfl, rfl, rfl, rfl, rfl, trivial⟩ ?_
      | refine Chk.mk ⟨rfl, rfl, rfl, rfl, rfl, rfl, trivial⟩ ?_)
    refine CmpD.split (fun c6 => ?_) (fun c6 => ?_)
    rotate_left
    · repeat (first
        | refine LoadD.own 0 rfl _ rfl rfl ?_
        | refine LoadD.own 1 rfl _ rfl rfl ?_
        | refine LoadP.at 0 rfl _ rfl rfl ?_
        | refine LoadP.at 1 rfl _ rfl rfl ?_
        | refine StoreD.st 0 rfl rfl rfl ?_
        | refine StoreD.st 1 rfl rfl rfl ?_
        | refine CmpD.yes rfl ?_
        | refine CmpD.yes (by decide) ?_
        | refine CmpD.no (by decide) ?_
        | refine Chk.mk ⟨rfl, trivial⟩ ?_
        | refine Chk.mk ⟨rfl, rfl, trivial⟩ ?_
        | refine Chk.mk ⟨rfl, rfl, rfl, trivial⟩ ?_
        | refine Chk.mk ⟨rfl, rfl, rfl, rfl, trivial⟩ ?_
        | refine Chk.mk ⟨rfl, rfl, rfl, rfl, rfl, trivial⟩ ?_
        | refine Chk.mk ⟨rfl, rfl, rfl, rfl, rfl, rfl, trivial⟩ ?_)
      rw [if_pos c6]
      exact Done.mk ⟨_, rfl, hD4⟩
    rw [if_neg (by simpa using c6)]
    repeat (first
      | refine LoadD.own 0 rfl _ rfl rfl ?_
      | refine LoadD.own 1 rfl _ rfl rfl ?_
      | refine LoadP.at 0 rfl _ rfl rfl ?_
      | refine LoadP.at 1 rfl _ rfl rfl ?_
      | refine StoreD.st 0 rfl rfl rfl ?_
      | refine StoreD.st 1 rfl rfl rfl ?_
      | refine CmpD.yes rfl ?_
      | refine CmpD.yes (by decide) ?_
      | refine CmpD.no (by decide) ?_
      | refine Chk.mk ⟨rfl, trivial⟩ ?_
      | refine Chk.mk ⟨rfl, rfl, trivial⟩ ?_
      | refine Chk.mk ⟨rfl, rfl, rfl, trivial⟩ ?_
      | refine Chk.mk ⟨rfl, rfl, rfl, rfl, trivial⟩ ?_
      | refine Chk.mk ⟨rfl, rfl, rfl, rfl, rfl, trivial⟩ ?_
      | refine Chk.mk ⟨rfl, rfl, rfl, rfl, rfl, rfl, trivial⟩ ?_)
    refine Tri.free (r4_Flush hD4 (hf4.mono (by omega))) ?_
    rintro v J5 _ hJ5 ⟨v5, rfl, hD5⟩
    obtain ⟨⟨sa5, sl5, sc5⟩, ⟨wa5, wl5, wc5⟩, _, _, rfl, _⟩ := id hD5.ex
    repeat (first
      | refine LoadD.own 0 rfl _ rfl rfl ?_
      | refine LoadD.own 1 rfl _ rfl rfl ?_
      | refine LoadP.at 0 rfl _ rfl rfl ?_
      | refine LoadP.at 1 rfl _ rfl rfl ?_
      | refine StoreD.st 0 rfl rfl rfl ?_
      | refine StoreD.st 1 rfl rfl rfl ?_
      | refine CmpD.yes rfl ?_
      | refine CmpD.yes (by decide) ?_
      | refine CmpD.no (by decide) ?_
      | refine Chk.mk ⟨rfl, trivial⟩ ?_
      | refine Chk.mk ⟨rfl, rfl, trivial⟩ ?_
      | refine Chk.mk ⟨rfl, rfl, rfl, trivial⟩ ?_
      | refine Chk.mk ⟨rfl, rfl, rfl, rfl, trivial⟩ ?_
      | refine Chk.mk ⟨rfl, rfl, rfl, rfl, rfl, trivial⟩ ?_
      | refine Chk.mk ⟨rfl, rfl, rfl, rfl, rfl, rfl, trivial⟩ ?_)
    exact Done.mk ⟨_, rfl, hD5⟩
end Go.Proofs.Ytbpdbgcndfcilaa
namespace Go.Proofs.Ytbpdbgcndfcilaa
open Go.RowKit Go.Sl
set_option maxRecDepth 20000

theorem ref_Number {I : Imm} {S : St} {a : Option Addr} {len cap : Nat} {l : List UInt8} (h : SlC I S a len (bts l)) (hlen : len ≤ 1000000000) (at_ : Int) (hat : In64 at_) (n : Nat) (hn : n ≤ 8) :
    Tri Try.prog 160 #[.slice a len cap, .int .i64 at_, .int .i64 n] I S fun v J S' => v = .tuple #[.int .u64 (numV l at_ n).1, .bool (numV l at_ n).2] ∧ I = J ∧ S' = S := by
  have hl : l.length = len := by rw [← bts_length, h.len]
  unfold In64 at hat
  unfold numV
  refine Tri.of (args := [.slice a len cap, .int .i64 at_, .int .i64 n]) tabOk Try.func160 rfl (by kernel_rfl) (by kernel_rfl) ?_
  refine CmpD.split (fun c1 => ?_) (fun c1 => ?_)
  · rw [if_pos (.inl c1)]; exact Done.mk ⟨rfl, rfl, rfl⟩
  refine CmpD.split (fun c0 => ?_) (fun c0 => ?_)
  · rw [if_pos (.inr (by omega))]; exact Done.mk ⟨rfl, rfl, rfl⟩
  refine ToD.i64 (by omega) (by omega) ?_
  refine CmpD.split (fun c2 => ?_) (fun c2 => ?_)
  · rw [if_pos (.inr (by omega))]; exact Done.mk ⟨rfl, rfl, rfl⟩
  rw [if_neg (by omega)]
  obtain ⟨k, rfl⟩ : ∃ k : Nat, at_ = k := ⟨at_.toNat, by omega⟩
  rw [show ((k : Int)).toNat = k from rfl]
  refine CodeF.loopD [0, 1, 2, 8, 9] (fun vs J' S' => ∃ (i : Nat), i ≤ n ∧ vs = [.slice a len cap, .int .i64 k, .int .i64 n, .int .u64 (nb ((l.drop k).take i) : Nat), .int .i64 i] ∧ I = J' ∧ S' = S)
    (fun vs _ _ => match vs with | [_, _, _, _, .int _ i] => ((n : Int) - i).toNat | _ => 0) ?_ ?_
  · exact ⟨_, Drop.refl _, 0, by omega, rfl, rfl, rfl⟩
  rintro vs g J' S' hJ' ⟨i, hi, rfl, rfl, rfl⟩
  refine CmpD.split (fun c3 => ?_) (fun c3 => ?_)
  · have hin : k + i < l.length := by omega
    rcases h.mem with h0 | ⟨b, off, rfl, hc⟩
    · omega
    have hv := nb_lt ((l.drop k).take i)
    have hvl : ((l.drop k).take i).length ≤ 7 := by rw [List.length_take]; omega
    have hv2 : nb ((l.drop k).take i) < 2 ^ 56 := Nat.lt_of_lt_of_le hv (Nat.pow_le_pow_right (by omega) (by omega))
    have htk : (l.drop k).take (i + 1) = (l.drop k).take i ++ [l[k + i]] := by
      rw [List.take_add_one, List.getElem?_drop, List.getElem?_eq_getElem hin]; rfl
    have hb := l[k + i].toNat_lt
    refine ToD.to ((nb ((l.drop k).take i) * 256 : Nat) : Int) ?_ ?_
    · rw [wrap_u rfl (by omega) (by show 256 * (nb ((l.drop k).take i) : Int) < 2 ^ 64; omega)]
      omega
    refine ToD.i64 (by omega) (by omega) ?_
    refine Chk.mk (by omega) ?_
    refine LoadD.mk [byte l[k + i]] (hc.at (i := k + i) (bts_get (List.getElem?_eq_getElem hin))) ?_
    refine ToD.to ((l[k + i].toNat : Nat) : Int) (wrap_u rfl (by omega) (by show (l[k + i].toNat : Int) < 2 ^ 64; omega)) ?_
    refine ToD.to ((nb ((l.drop k).take i) * 256 ||| l[k + i].toNat : Nat) : Int) ?_ ?_
    · rw [or_low _ _ (by omega), wrap_u rfl (by omega) (by show ((nb ((l.drop k).take i) * 256 : Nat) : Int) + (l[k + i].toNat : Int) < 2 ^ 64; omega)]
      omega
    refine ToD.i64 (by omega) (by omega) ?_
    refine ⟨_, Drop.refl _, ⟨i + 1, by omega, by rw [htk, nb_snoc]; rfl, rfl, rfl⟩, ?_⟩
    show ((n : Int) - ((i : Int) + 1)).toNat < ((n : Int) - (i : Int)).toNat
    omega
  · obtain rfl : i = n := by omega
    exact Done.mk ⟨rfl, rfl, rfl⟩
theorem ref_number3 {I : Imm} {S : St} {a : Option Addr} {len cap : Nat} {l : List UInt8} (h : SlC I S a len (bts l)) (hlen : len ≤ 1000000000) (at_ : Int) (hat : In64 at_) (n : Nat) (hn : n ≤ 8) :
    Tri Try.prog 151 #[.slice a len cap, .int .i64 at_, .int .i64 n] I S fun v J S' => v = .int .i64 (IntKind.i64.wrap ((numV l at_ n).1 : Int)) ∧ I = J ∧ S' = S := by
  refine Tri.of (args := [.slice a len cap, .int .i64 at_, .int .i64 n]) tabOk Try.func151 rfl (by kernel_rfl) (by kernel_rfl) ?_
  refine Tri.mono (ref_Number h hlen at_ hat n hn) ?_
  rintro v J S' hJ ⟨rfl, rfl, rfl⟩
  refine ToD.to _ rfl ?_
  exact Done.mk ⟨rfl, rfl, rfl⟩
end Go.Proofs.Ytbpdbgcndfcilaa
namespace Go.Proofs.Ytbpdbgcndfcilaa
open Go.RowKit Go.Sl
set_option maxRecDepth 20000

theorem ref_GetSuper {I : Imm} {a : Option Addr} {len cap : Nat} {b : Dat} (h : Rds I a len (bts b)) (hlen : len ≤ 1000000000) : Tri Try.prog 115 #[.slice a len cap] I [] fun v J _ => I = J ∧ v = getV (getS b) := by
  refine Tri.of (args := [.slice a len cap]) tabOk Try.func115 rfl (by kernel_rfl) (by kernel_rfl) ?_
  conv => whnf
  intro b2
  refine Tri.free (ref_number3 h.slC hlen 8 (by unfold In64; omega) 8 (by omega)) ?_
  rintro v J1 _ hJ1 ⟨rfl, rfl, _⟩
  refine Tri.free (ref_number3 h.slC hlen 16 (by unfold In64; omega) 8 (by omega)) ?_
  rintro v J2 _ hJ2 ⟨rfl, rfl, _⟩
  refine Tri.free (ref_number3 h.slC hlen 24 (by unfold In64; omega) 8 (by omega)) ?_
  rintro v J3 _ hJ3 ⟨rfl, rfl, _⟩
  refine Tri.free (ref_number3 h.slC hlen 32 (by unfold In64; omega) 8 (by omega)) ?_
  rintro v J4 _ hJ4 ⟨rfl, rfl, _⟩
  conv => whnf
  intro b4
  repeat (first
    | refine LoadD.own 0 rfl _ rfl rfl ?_
    | refine LoadD.own 1 rfl _ rfl rfl ?_
    | refine LoadP.at 0 rfl _ rfl rfl ?_
    | refine LoadP.at 1 rfl _ rfl rfl ?_
    | refine StoreD.st 0 rfl rfl rfl ?_
    | refine StoreD.st 1 rfl rfl rfl ?_
    | refine CmpD.yes rfl ?_
    | refine CmpD.yes (by decide) ?_
    | refine CmpD.no (by decide) ?_
    | refine Chk.mk ⟨rfl, trivial⟩ ?_
    | refine Chk.mk ⟨rfl, rfl, trivial⟩ ?_
    | refine Chk.mk ⟨rfl, rfl, rfl, trivial⟩ ?_
    | refine Chk.mk ⟨rfl, rfl, rfl, rfl, trivial⟩ ?_
    | refine Chk.mk ⟨rfl, rfl, rfl, rfl, rfl, trivial⟩ ?_
    | refine Chk.mk ⟨rfl, rfl, rfl, rfl, rfl, rfl, trivial⟩ ?_)
  refine Tri.frameX (ref_PutSuper (decS b) I) [] rfl rfl ?_
  rintro v J5 A' hJ5 ⟨rfl, ⟨hR, rfl, rfl⟩ | ⟨hR, aP, capP, ch, rfl, hO, rfl⟩⟩
  · repeat (first
      | refine LoadD.own 0 rfl _ rfl rfl ?_
      | refine LoadD.own 1 rfl _ rfl rfl ?_
      | refine LoadP.at 0 rfl _ rfl rfl ?_
      | refine LoadP.at 1 rfl _ rfl rfl ?_
      | refine StoreD.st 0 rfl rfl rfl ?_
      | refine StoreD.st 1 rfl rfl rfl ?_
      | refine CmpD.yes rfl ?_
      | refine CmpD.yes (by decide) ?_
      | refine CmpD.no (by decide) ?_
      | refine Chk.mk ⟨rfl, trivial⟩ ?_
      | refine Chk.mk ⟨rfl, rfl, trivial⟩ ?_
      | refine Chk.mk ⟨rfl, rfl, rfl, trivial⟩ ?_
      | refine Chk.mk ⟨rfl, rfl, rfl, rfl, trivial⟩ ?_
      | refine Chk.mk ⟨rfl, rfl, rfl, rfl, rfl, trivial⟩ ?_
      | refine Chk.mk ⟨rfl, rfl, rfl, rfl, rfl, rfl, trivial⟩ ?_)
    rw [show getS b = none from by unfold getS; rw [if_neg (fun h' => hR h'.1)]]
    exact Done.mk ⟨rfl, rfl⟩
  repeat (first
    | refine LoadD.own 0 rfl _ rfl rfl ?_
    | refine LoadD.own 1 rfl _ rfl rfl ?_
    | refine LoadD.own 2 rfl _ rfl rfl ?_
    | refine LoadP.at 0 rfl _ rfl rfl ?_
    | refine LoadP.at 1 rfl _ rfl rfl ?_
    | refine LoadP.at 2 rfl _ rfl rfl ?_
    | refine StoreD.st 0 rfl rfl rfl ?_
    | refine StoreD.st 1 rfl rfl rfl ?_
    | refine StoreD.st 2 rfl rfl rfl ?_
    | refine CmpD.yes rfl ?_
    | refine CmpD.yes (by decide) ?_
    | refine CmpD.no (by decide) ?_
    | refine Chk.mk ⟨rfl, trivial⟩ ?_
    | refine Chk.mk ⟨rfl, rfl, trivial⟩ ?_
    | refine Chk.mk ⟨rfl, rfl, rfl, trivial⟩ ?_
    | refine Chk.mk ⟨rfl, rfl, rfl, rfl, trivial⟩ ?_
    | refine Chk.mk ⟨rfl, rfl, rfl, rfl, rfl, trivial⟩ ?_
    | refine Chk.mk ⟨rfl, rfl, rfl, rfl, rfl, rfl, trivial⟩ ?_)
  refine Tri.mono (same_bytes (hO.slC1 2 rfl) h.slC) ?_
  rintro v J6 S' hJ6 ⟨rfl, rfl, rfl⟩
  by_cases e : supL (decS b) = b
  · rw [decide_eq_true e]
    repeat (first
      | refine LoadD.own 0 rfl _ rfl rfl ?_
      | refine LoadD.own 1 rfl _ rfl rfl ?_
      | refine LoadD.own 2 rfl _ rfl rfl ?_
      | refine LoadP.at 0 rfl _ rfl rfl ?_
      | refine LoadP.at 1 rfl _ rfl rfl ?_
      | refine LoadP.at 2 rfl _ rfl rfl ?_
      | refine StoreD.st 0 rfl rfl rfl ?_
      | refine StoreD.st 1 rfl rfl rfl ?_
      | refine StoreD.st 2 rfl rfl rfl ?_
      | refine CmpD.yes rfl ?_
      | refine CmpD.yes (by decide) ?_
      | refine CmpD.no (by decide) ?_
      | refine Chk.mk ⟨rfl, trivial⟩ ?_
      | refine Chk.mk ⟨rfl, rfl, trivial⟩ ?_
      | refine Chk.mk ⟨rfl, rfl, rfl, trivial⟩ ?_
      | refine Chk.mk ⟨rfl, rfl, rfl, rfl, trivial⟩ ?_
      | refine Chk.mk ⟨rfl, rfl, rfl, rfl, rfl, trivial⟩ ?_
      | refine Chk.mk ⟨rfl, rfl, rfl, rfl, rfl, rfl, trivial⟩ ?_)
    rw [show getS b = some (decS b) from by unfold getS; rw [if_pos ⟨hR, e⟩]]
    exact Done.mk ⟨rfl, rfl⟩
  · rw [decide_eq_false e]
    repeat (first
      | refine LoadD.own 0 rfl _ rfl rfl ?_
      | refine LoadD.own 1 rfl _ rfl rfl ?_
      | refine LoadD.own 2 rfl _ rfl rfl ?_
      | refine LoadP.at 0 rfl _ rfl rfl ?_
      | refine LoadP.at 1 rfl _ rfl rfl ?_
      | refine LoadP.at 2 rfl _ rfl rfl ?_
      | refine StoreD.st 0 rfl rfl rfl ?_
      | refine StoreD.st 1 rfl rfl rfl ?_
      | refine StoreD.st 2 rfl rfl rfl ?_
      | refine CmpD.yes rfl ?_
      | refine CmpD.yes (by decide) ?_
      | refine CmpD.no (by decide) ?_
      | refine Chk.mk ⟨rfl, trivial⟩ ?_
      | refine Chk.mk ⟨rfl, rfl, trivial⟩ ?_
      | refine Chk.mk ⟨rfl, rfl, rfl, trivial⟩ ?_
      | refine Chk.mk ⟨rfl, rfl, rfl, rfl, trivial⟩ ?_
      | refine Chk.mk ⟨rfl, rfl, rfl, rfl, rfl, trivial⟩ ?_
      | refine Chk.mk ⟨rfl, rfl, rfl, rfl, rfl, rfl, trivial⟩ ?_)
    rw [show getS b = none from by unfold getS; rw [if_neg (fun h' => e h'.2)]]
    exact Done.mk ⟨rfl, rfl⟩
end Go.Proofs.Ytbpdbgcndfcilaa
namespace Go.Proofs.Ytbpdbgcndfcilaa
open Go.RowKit Go.Sl
set_option maxRecDepth 20000

theorem r10_Choose {I : Imm} {a1 a2 : Option Addr} {n1 n2 c1 c2 : Nat} {l1 l2 : Dat} (h1 : Rds I a1 n1 (bts l1)) (h2 : Rds I a2 n2 (bts l2)) (hn1 : n1 ≤ 1000000000) (hn2 : n2 ≤ 1000000000) :
    Tri Try.prog 65 #[.slice a1 n1 c1, .slice a2 n2 c2] I [] fun v J _ => I = J ∧ v = chooseV (chooseP (getS l1) (getS l2)) := by
  refine Tri.of (args := [.slice a1 n1 c1, .slice a2 n2 c2]) tabOk Try.func65 rfl (by kernel_rfl) (by kernel_rfl) ?_
  conv => whnf
  intro b4
  refine Tri.free (ref_GetSuper h1 hn1) ?_
  rintro v J _ hJ ⟨rfl, rfl⟩
  refine Go.Proofs.Ytbpdbgcndfcilaa.two_ways (getS l1) (fun s1 e1 => ?_) (fun e1 => ?_)
  all_goals
    rw [e1]
    conv => whnf
    intro b7
    repeat (first
      | refine LoadD.own 0 rfl _ rfl rfl ?_
      | refine LoadD.own 1 rfl _ rfl rfl ?_
      | refine LoadP.at 0 rfl _ rfl rfl ?_
      | refine LoadP.at 1 rfl _ rfl rfl ?_
      | refine StoreD.st 0 rfl rfl rfl ?_
      | refine StoreD.st 1 rfl rfl rfl ?_
      | refine CmpD.yes rfl ?_
      | refine CmpD.yes (by decide) ?_
      | refine CmpD.no (by decide) ?_
      | refine Chk.mk ⟨rfl, trivial⟩ ?_
      | refine Chk.mk ⟨rfl, rfl, trivial⟩ ?_
      | refine Chk.mk ⟨rfl, rfl, rfl, trivial⟩ ?_
      | refine Chk.mk ⟨rfl, rfl, rfl, rfl, trivial⟩ ?_
      | refine Chk.mk ⟨rfl, rfl, rfl, rfl, rfl, trivial⟩ ?_
      | refine Chk.mk ⟨rfl, rfl, rfl, rfl, rfl, rfl, trivial⟩ ?_)
    refine Tri.free (ref_GetSuper h2 hn2) ?_
    rintro v J _ hJ ⟨rfl, rfl⟩
    refine Go.Proofs.Ytbpdbgcndfcilaa.two_ways (getS l2) (fun s2 e2 => ?_) (fun e2 => ?_)
  all_goals
    rw [e2]
    conv => whnf
    intro b9
    repeat (first
      | refine LoadD.own 0 rfl _ rfl rfl ?_
      | refine LoadD.own 1 rfl _ rfl rfl ?_
      | refine LoadD.own 2 rfl _ rfl rfl ?_
      | refine LoadP.at 0 rfl _ rfl rfl ?_
      | refine LoadP.at 1 rfl _ rfl rfl ?_
      | refine LoadP.at 2 rfl _ rfl rfl ?_
      | refine StoreD.st 0 rfl rfl rfl ?_
      | refine StoreD.st 1 rfl rfl rfl ?_
      | refine StoreD.st 2 rfl rfl rfl ?_
      | refine CmpD.yes rfl ?_
      | refine CmpD.yes (by decide) ?_
      | refine CmpD.no (by decide) ?_
      | refine Chk.mk ⟨rfl, trivial⟩ ?_
      | refine Chk.mk ⟨rfl, rfl, trivial⟩ ?_
      | refine Chk.mk ⟨rfl, rfl, rfl, trivial⟩ ?_
      | refine Chk.mk ⟨rfl, rfl, rfl, rfl, trivial⟩ ?_
      | refine Chk.mk ⟨rfl, rfl, rfl, rfl, rfl, trivial⟩ ?_
      | refine Chk.mk ⟨rfl, rfl, rfl, rfl, rfl, rfl, trivial⟩ ?_)
  · refine CmpD.split (fun c1 => ?_) (fun c1 => ?_)
    · repeat (first
        | refine LoadD.own 0 rfl _ rfl rfl ?_
        | refine LoadD.own 1 rfl _ rfl rfl ?_
        | refine LoadD.own 2 rfl _ rfl rfl ?_
        | refine LoadP.at 0 rfl _ rfl rfl ?_
        | refine LoadP.at 1 rfl _ rfl rfl ?_
        | refine LoadP.at 2 rfl _ rfl rfl ?_
        | refine StoreD.st 0 rfl rfl rfl ?_
        | refine StoreD.st 1 rfl rfl rfl ?_
        | refine StoreD.st 2 rfl rfl rfl ?_
        | refine CmpD.yes rfl ?_
        | refine CmpD.yes (by decide) ?_
        | refine CmpD.no (by decide) ?_
        | refine Chk.mk ⟨rfl, trivial⟩ ?_
        | refine Chk.mk ⟨rfl, rfl, trivial⟩ ?_
        | refine Chk.mk ⟨rfl, rfl, rfl, trivial⟩ ?_
        | refine Chk.mk ⟨rfl, rfl, rfl, rfl, trivial⟩ ?_
        | refine Chk.mk ⟨rfl, rfl, rfl, rfl, rfl, trivial⟩ ?_
        | refine Chk.mk ⟨rfl, rfl, rfl, rfl, rfl, rfl, trivial⟩ ?_)
      refine CmpD.split (fun c3 => ?_) (fun c3 => ?_)
      · repeat (first
          | refine LoadD.own 0 rfl _ rfl rfl ?_
          | refine LoadD.own 1 rfl _ rfl rfl ?_
          | refine LoadD.own 2 rfl _ rfl rfl ?_
          | refine LoadP.at 0 rfl _ rfl rfl ?_
          | refine LoadP.at 1 rfl _ rfl rfl ?_
          | refine LoadP.at 2 rfl _ rfl rfl ?_
          | refine StoreD.st 0 rfl rfl rfl ?_
          | refine StoreD.st 1 rfl rfl rfl ?_
          | refine StoreD.st 2 rfl rfl rfl ?_
          | refine CmpD.yes rfl ?_
          | refine CmpD.yes (by decide) ?_
          | refine CmpD.no (by decide) ?_
          | refine Chk.mk ⟨rfl, trivial⟩ ?_
          | refine Chk.mk ⟨rfl, rfl, trivial⟩ ?_
          | refine Chk.mk ⟨rfl, rfl, rfl, trivial⟩ ?_
          | refine Chk.mk ⟨rfl, rfl, rfl, rfl, trivial⟩ ?_
          | refine Chk.mk ⟨rfl, rfl, rfl, rfl, rfl, trivial⟩ ?_
          | refine Chk.mk ⟨rfl, rfl, rfl, rfl, rfl, rfl, trivial⟩ ?_)
        refine Done.mk ⟨rfl, ?_⟩
        show _ = chooseV (chooseP (some s1) (some s2))
        rw [chooseP, if_pos (.inr ⟨c1.symm, c3⟩)]; rfl
      · repeat (first
          | refine LoadD.own 0 rfl _ rfl rfl ?_
          | refine LoadD.own 1 rfl _ rfl rfl ?_
          | refine LoadD.own 2 rfl _ rfl rfl ?_
          | refine LoadP.at 0 rfl _ rfl rfl ?_
          | refine LoadP.at 1 rfl _ rfl rfl ?_
          | refine LoadP.at 2 rfl _ rfl rfl ?_
          | refine StoreD.st 0 rfl rfl rfl ?_
          | refine StoreD.st 1 rfl rfl rfl ?_
          | refine StoreD.st 2 rfl rfl rfl ?_
          | refine CmpD.yes rfl ?_
          | refine CmpD.yes (by decide) ?_
          | refine CmpD.no (by decide) ?_
          | refine Chk.mk ⟨rfl, trivial⟩ ?_
          | refine Chk.mk ⟨rfl, rfl, trivial⟩ ?_
          | refine Chk.mk ⟨rfl, rfl, rfl, trivial⟩ ?_
          | refine Chk.mk ⟨rfl, rfl, rfl, rfl, trivial⟩ ?_
          | refine Chk.mk ⟨rfl, rfl, rfl, rfl, rfl, trivial⟩ ?_
          | refine Chk.mk ⟨rfl, rfl, rfl, rfl, rfl, rfl, trivial⟩ ?_)
        refine Done.mk ⟨rfl, ?_⟩
        show _ = chooseV (chooseP (some s1) (some s2))
        rw [chooseP, if_neg (by rintro (h | h); omega; exact c3 h.2)]; rfl
    · repeat (first
        | refine LoadD.own 0 rfl _ rfl rfl ?_
        | refine LoadD.own 1 rfl _ rfl rfl ?_
        | refine LoadD.own 2 rfl _ rfl rfl ?_
        | refine LoadP.at 0 rfl _ rfl rfl ?_
        | refine LoadP.at 1 rfl _ rfl rfl ?_
        | refine LoadP.at 2 rfl _ rfl rfl ?_
        | refine StoreD.st 0 rfl rfl rfl ?_
        | refine StoreD.st 1 rfl rfl rfl ?_
        | refine StoreD.st 2 rfl rfl rfl ?_
        | refine CmpD.yes rfl ?_
        | refine CmpD.yes (by decide) ?_
        | refine CmpD.no (by decide) ?_
        | refine Chk.mk ⟨rfl, trivial⟩ ?_
        | refine Chk.mk ⟨rfl, rfl, trivial⟩ ?_
        | refine Chk.mk ⟨rfl, rfl, rfl, trivial⟩ ?_
        | refine Chk.mk ⟨rfl, rfl, rfl, rfl, trivial⟩ ?_
        | refine Chk.mk ⟨rfl, rfl, rfl, rfl, rfl, trivial⟩ ?_
        | refine Chk.mk ⟨rfl, rfl, rfl, rfl, rfl, rfl, trivial⟩ ?_)
      refine CmpD.split (fun c3 => ?_) (fun c3 => ?_)
      · repeat (first
          | refine LoadD.own 0 rfl _ rfl rfl ?_
          | refine LoadD.own 1 rfl _ rfl rfl ?_
          | refine LoadD.own 2 rfl _ rfl rfl ?_
          | refine LoadP.at 0 rfl _ rfl rfl ?_
          | refine LoadP.at 1 rfl _ rfl rfl ?_
          | refine LoadP.at 2 rfl _ rfl rfl ?_
          | refine StoreD.st 0 rfl rfl rfl ?_
          | refine StoreD.st 1 rfl rfl rfl ?_
          | refine StoreD.st 2 rfl rfl rfl ?_
          | refine CmpD.yes rfl ?_
          | refine CmpD.yes (by decide) ?_
          | refine CmpD.no (by decide) ?_
          | refine Chk.mk ⟨rfl, trivial⟩ ?_
          | refine Chk.mk ⟨rfl, rfl, trivial⟩ ?_
          | refine Chk.mk ⟨rfl, rfl, rfl, trivial⟩ ?_
          | refine Chk.mk ⟨rfl, rfl, rfl, rfl, trivial⟩ ?_
          | refine Chk.mk ⟨rfl, rfl, rfl, rfl, rfl, trivial⟩ ?_
          | refine Chk.mk ⟨rfl, rfl, rfl, rfl, rfl, rfl, trivial⟩ ?_)
        refine Done.mk ⟨rfl, ?_⟩
        show _ = chooseV (chooseP (some s1) (some s2))
        rw [chooseP, if_pos (.inl c3)]; rfl
      · repeat (first
          | refine LoadD.own 0 rfl _ rfl rfl ?_
          | refine LoadD.own 1 rfl _ rfl rfl ?_
          | refine LoadD.own 2 rfl _ rfl rfl ?_
          | refine LoadP.at 0 rfl _ rfl rfl ?_
          | refine LoadP.at 1 rfl _ rfl rfl ?_
          | refine LoadP.at 2 rfl _ rfl rfl ?_
          | refine StoreD.st 0 rfl rfl rfl ?_
          | refine StoreD.st 1 rfl rfl rfl ?_
          | refine StoreD.st 2 rfl rfl rfl ?_
          | refine CmpD.yes rfl ?_
          | refine CmpD.yes (by decide) ?_
          | refine CmpD.no (by decide) ?_
          | refine Chk.mk ⟨rfl, trivial⟩ ?_
          | refine Chk.mk ⟨rfl, rfl, trivial⟩ ?_
          | refine Chk.mk ⟨rfl, rfl, rfl, trivial⟩ ?_
          | refine Chk.mk ⟨rfl, rfl, rfl, rfl, trivial⟩ ?_
          | refine Chk.mk ⟨rfl, rfl, rfl, rfl, rfl, trivial⟩ ?_
          | refine Chk.mk ⟨rfl, rfl, rfl, rfl, rfl, rfl, trivial⟩ ?_)
        refine Done.mk ⟨rfl, ?_⟩
        show _ = chooseV (chooseP (some s1) (some s2))
        rw [chooseP, if_neg (by rintro (h | h); exact c3 h; omega)]; rfl
  all_goals
    exact Done.mk ⟨rfl, rfl⟩
end Go.Proofs.Ytbpdbgcndfcilaa
namespace Go.Proofs.Ytbpdbgcndfcilaa
open Go.RowKit Go.Sl
set_option maxRecDepth 20000

theorem grow_nil (I : Imm) (n : Nat) (hn : n ≤ 1000000000) :
    Tri Try.prog 135 #[.slice none 0 0, .int .i64 n] I [] fun v J S' => ∃ a cap ch, v = .slice a 0 cap ∧ OwnB ch a 0 cap [] ∧ I = J ∧ S' = [ch] := by
  refine Tri.lay (S2 := [[]]) (by simp) ?_
  refine Tri.of (args := [.slice none 0 0, .int .i64 n]) tabOk Try.func135 rfl (by kernel_rfl) (by kernel_rfl) ?_
  refine CmpD.no (by omega) ?_
  refine capD tabOk rfl rfl rfl rfl rfl rfl ?_
  refine ToD.i64 (by omega) (by omega) ?_
  refine ToD.to (n : Int) (by rw [wrap_i64 (by omega) (by omega)]; omega) ?_
  refine CmpD.split (fun c1 => ?_) (fun c1 => ?_)
  · refine capD tabOk rfl rfl rfl rfl rfl rfl ?_
    refine sliceD tabOk rfl rfl rfl rfl 0 0 0 rfl ⟨_, rfl⟩ rfl (.inl rfl) (by omega) ?_
    refine appendZD tabOk rfl rfl rfl rfl rfl rfl rfl rfl 0 rfl (OwnC.nil 1 none) n rfl rfl (by decide) (by intro v hv; have hv : v ∈ [Value.int .u8 0] := hv; simp at hv; subst hv; rfl) (by show (0 + n) * 1 ≤ _; omega) (by omega) ?_
    intro a1 cap1 ch1 hown1
    refine sliceD tabOk rfl rfl rfl rfl 0 0 cap1 rfl ⟨_, rfl⟩ rfl (.inl rfl) (by omega) ?_
    have := hown1.part 0 0 (Nat.le_refl _) (by omega)
    exact Done.mk ⟨_, cap1 - 0, ch1, rfl, this, rfl, rfl⟩
  · exact Done.mk ⟨none, 0, [], rfl, OwnC.nil 1 none, rfl, rfl⟩
theorem concat_one (c0 : List Blk) {I : Imm} (a : Option Addr) (n cap : Nat) (bks : List Bk) (hn : n ≤ 512) (h : SlC I [c0] a n (bks.map Bk.cell)) (hok : ∀ b ∈ bks, BkOk I b) :
    Tri Try.prog 100 #[.slice a n cap] I [c0] fun v J S' => ∃ a' cap' ch, v = .slice a' (n * 4096 : Nat) cap' ∧ OwnB ch a' (n * 4096) cap' (bks.map Bk.data).flatten ∧ I = J ∧ S' = [c0, ch] := by
  have hl : bks.length = n := by have := h.len; rwa [List.length_map] at this
  refine Tri.drop ?_ (fun _ _ _ _ h => h)
  refine Tri.of (args := [.slice a n cap]) tabOk Try.func100 rfl (by kernel_rfl) (by kernel_rfl) ?_
  refine CodeF.loopD [0, 3, 9, 10, 11] (fun vs J' S' => ∃ i : Nat, i ≤ n ∧ vs = [.slice a n cap, .int .i64 (i * 4096 : Nat), .slice a n cap, .int .i64 n, .int .i64 i] ∧ I = J' ∧ S' = [c0])
    (fun vs _ _ => match vs with | [_, _, _, _, .int _ i] => ((n : Int) - i).toNat | _ => 0) ?_ ?_
  · exact ⟨_, Drop.pick [0] _ rfl, 0, by omega, rfl, rfl, rfl⟩
  · rintro vs gE J' S' hJ' ⟨i, hi, rfl, rfl, rfl⟩
    refine CmpD.split (fun c1 => ?_) (fun c1 => ?_)
    · have hlt : i < bks.length := by omega
      have hcell : (bks.map Bk.cell)[i]? = some bks[i].cell := by rw [List.getElem?_map, List.getElem?_eq_getElem hlt]; rfl
      rcases h.mem with q0 | ⟨b, off, rfl, hc⟩
      · omega
      refine Chk.mk (by omega) ?_
      refine LoadD.mk [bks[i].cell] (hc.at (i := i) hcell) ?_
      refine ToD.to ((((i + 1) * 4096 : Nat)) : Int) (by rw [wrap_i64 (by omega) (by omega)]; omega) ?_
      refine CmpD.no (by omega) ?_
      refine ToD.i64 (by omega) (by omega) ?_
      refine ⟨_, Drop.pick [0] _ rfl, ⟨i + 1, by omega, rfl, rfl, rfl⟩, ?_⟩
      show ((n : Int) - ((i : Int) + 1)).toNat < ((n : Int) - i).toNat; omega
    · obtain rfl : i = n := by omega
      refine Tri.frame (grow_nil I (i * 4096) (by omega)) [] rfl rfl ?_
      rintro v J A' hJ ⟨aG, capG, chG, rfl, hG, rfl, rfl⟩
      refine ⟨by simp, ?_⟩
      refine CodeF.loopD [6, 25, 26, 27] (fun vs J' S' => ∃ (k : Nat) (aG : Option Addr) (capG : Nat) (chG : List Blk), k ≤ i ∧ OwnB chG aG (k * 4096) capG ((bks.map Bk.data).take k).flatten ∧ vs = [.slice aG (k * 4096 : Nat) capG, .slice a i cap, .int .i64 i, .int .i64 k] ∧ I = J' ∧ S' = [c0, chG])
        (fun vs _ _ => match vs with | [_, _, _, .int _ k] => ((i : Int) - k).toNat | _ => 0) ?_ ?_
      · exact ⟨_, Drop.pick [0, 1] _ rfl, 0, aG, capG, chG, by omega, by rw [Nat.zero_mul]; exact hG, by rw [Nat.zero_mul]; rfl, rfl, rfl⟩
      rintro vs gE2 J2 S2 hJ2 ⟨k, aK, capK, chK, hk, hK, rfl, rfl, rfl⟩
      refine CmpD.split (fun c2 => ?_) (fun c2 => ?_)
      · have hlt : k < bks.length := by omega
        have hcell : (bks.map Bk.cell)[k]? = some bks[k].cell := by rw [List.getElem?_map, List.getElem?_eq_getElem hlt]; rfl
        have hb := hok _ (List.getElem_mem hlt)
        have htk : ((bks.map Bk.data).take (k + 1)).flatten = ((bks.map Bk.data).take k).flatten ++ bks[k].data := by
          rw [List.take_add_one, List.getElem?_map, List.getElem?_eq_getElem hlt]; simp
        generalize bks[k] = bk at *
        rcases (h.more [] (I := I) : SlC I ([c0] ++ [[]]) a i (bks.map Bk.cell)).mem with q0 | ⟨b, off, rfl, _⟩
        · omega
        rcases (h.more chK).mem with q0 | ⟨b2, off2, e2, hc⟩
        · omega
        cases e2
        refine Chk.mk (by omega) ?_
        refine LoadD.mk [bk.cell] (hc.at (i := k) hcell) ?_
        refine appendD tabOk rfl rfl rfl rfl rfl rfl rfl 1 rfl hK (SrcOk.slice (n := 4096) (news := bts bk.data) tabOk rfl (by show SlC _ _ _ (4096 * 1) _; exact Rds.slC hb) (bts_plain _)) rfl (by show (k * 4096 + 4096) * 1 ≤ _; omega) (by omega) ?_
        intro a2 cap2 ch2 hO2
        refine ToD.i64 (by omega) (by omega) ?_
        have e : k * 4096 + 4096 = (k + 1) * 4096 := by omega
        refine ⟨_, Drop.pick [0, 1] _ rfl, ⟨k + 1, a2, cap2, ch2, by omega, ?_, by rw [← e]; rfl, rfl, rfl⟩, ?_⟩
        · rw [htk, ← e, OwnB, bts_append]; exact hO2
        · show ((i : Int) - ((k : Int) + 1)).toNat < ((i : Int) - k).toNat; omega
      · obtain rfl : k = i := by omega
        rw [List.take_of_length_le (by rw [List.length_map]; omega)] at hK
        exact Done.mk ⟨_, Drop.pick [0, 1] _ rfl, aK, capK, chK, rfl, hK, rfl, rfl⟩
theorem dk_Image {I : Imm} {bD : Nat} {st : DSt} {ch : List Blk} (h : Dk I bD st ch) :
    Tri Try.prog 44 #[.pointer (some ⟨bD, 0, none⟩)] I [ch] fun v J S' => ∃ a cap chB, v = .slice a (st.now.length * 4096 : Nat) cap ∧ OwnB chB a (st.now.length * 4096) cap st.now.flatten ∧ I = J ∧ S' = [ch, chB] := by
  obtain ⟨hw, d, chS, chN, chW, bS, bN, bW, rfl, hD, q1, q2, q3, q4, q5, q6, q7⟩ := h
  have hl := hD.hN.len1
  have hl' : st.now.length = d.now.len := by rw [← q2]; simpa using hl
  have hr := hw.range
  refine Tri.lay (S2 := [dChunk bD d, chS, chN, chW]) (by simp) ?_
  refine Tri.drop ?_ (fun _ _ _ _ h => h)
  refine Tri.of (args := [.pointer (some ⟨bD, 0, none⟩)]) tabOk Try.func44 rfl (by kernel_rfl) (by kernel_rfl) ?_
  refine Tri.frame1 0 rfl (disk_none bD d I) ?_
  rintro v J S' hJ ⟨rfl, rfl, rfl⟩
  refine ⟨_, rfl, ?_⟩
  rw [decide_eq_false (show ¬ d.now.len = 0 by omega)]
  have hslc := hD.hN.slC1 (I := I) (S := [chN]) 0 rfl
  have hc := concat_one chN d.now.a d.now.len d.now.cap bN (by omega) hslc hD.okN
  obtain ⟨⟨sa, sl, sc⟩, ⟨na, nl, nc⟩, ⟨wa, wl, wc⟩, count, down, ⟨ao, al⟩, ⟨fo, fl⟩⟩ := d
  dsimp only at hl hl' hc
  refine LoadD.own 0 rfl [.slice na nl nc] rfl rfl ?_
  refine Tri.frame hc [2] rfl rfl ?_
  rintro v J A' hJ ⟨a', cap', chB, rfl, hB, rfl, rfl⟩
  refine ⟨by simp, ?_⟩
  rw [q2] at hB
  rw [hl']
  exact Done.mk ⟨[_ ++ (chS ++ (chN ++ chW)), chB], Drop.flat (by simp), a', cap', chB, rfl, hB, rfl, rfl⟩
end Go.Proofs.Ytbpdbgcndfcilaa
namespace Go.Proofs.Ytbpdbgcndfcilaa
open Go.RowKit Go.Sl
set_option maxRecDepth 20000

theorem openJ_wf64 (tail : Int) (ht : 0 ≤ tail ∧ tail < 16) : (openJ 64 1 1 tail).Wf := openJ_wf 64 (by omega) ⟨rfl, by omega, by omega, by omega, by omega, ht.1, by rw [layL_64']; exact ht.2⟩
theorem fresh_calm (l : List Dat) : (DSt.of l).Calm := ⟨rfl, rfl, rfl⟩
theorem JSt.Wf.append {j : JSt} (hj : j.Wf) {d : DSt} {l : List PImg} {held : Bool} (h8 : j.groups.length ≤ 999999) : (j.appendB d l held).1.Wf := by
  have hr := hj.ring
  unfold JSt.appendB JSt.append
  split
  · exact hj
  split
  · exact hj
  rename_i hR
  have hR : RightP j.epoch j.next l := Decidable.of_not_not hR
  split
  · exact hj
  generalize hp : putS j.s j.t j.u j.h (l.length + 1) (if held then l.length + 1 else 0) = q
  obtain ⟨⟨s, t, u, h, e⟩, at_⟩ := q
  dsimp only
  split
  · exact hj
  rename_i he
  have he : e = 0 := Decidable.of_not_not he
  obtain ⟨e1, e2, h3, _, _⟩ := putS_mid hr hp he
  have hn := hj.next
  have hs := hj.synced
  have hl := hR.2.2.2.2.2.1
  have hs2 := hR.2.2.2.1
  generalize wrAll (fun i => j.lay.l + (at_ + i) % s) (putP j.epoch.toNat j.next.toNat l) 0 d = q
  obtain ⟨d', e'⟩ := q
  dsimp only
  split
  · exact ⟨hj.log, h3, hj.epoch, hj.next, hj.synced, hj.few, hj.groups⟩
  · refine ⟨hj.log, h3, hj.epoch, ?_, ?_, ?_, ?_⟩
    · show 1 ≤ j.next + 1 ∧ j.next + 1 ≤ _; omega
    · show 0 ≤ j.synced ∧ j.synced < j.next + 1; omega
    · show (j.groups ++ [_]).length ≤ _; simp; omega
    · intro g hg
      rcases List.mem_append.1 hg with hg | hg
      · exact hj.groups g hg
      · simp only [List.mem_singleton] at hg
        subst hg
        unfold In64; dsimp only; omega
theorem JSt.Wf.flush {j : JSt} (hj : j.Wf) (d : DSt) : (j.flush d).1.Wf := by
  have hn := hj.next
  unfold JSt.flush
  split
  · exact hj
  split
  · exact ⟨hj.log, hj.ring, hj.epoch, hj.next, hj.synced, hj.few, hj.groups⟩
  · refine ⟨hj.log, hj.ring, hj.epoch, hj.next, ?_, hj.few, hj.groups⟩
    show 0 ≤ j.next - 1 ∧ j.next - 1 < j.next; omega
theorem relAll_mid (seq : Int) : ∀ (gs : List (Int × Int)) (s t u h : Int) (gs' : List (Int × Int)) (s' t' u' h' e : Int), Ok s t u h → relAll seq gs s t u h = (gs', (s', t', u', h', e)) → Ok s' t' u' h' ∧ ∃ k, gs' = gs.drop k
  | [], s, t, u, h, _, _, _, _, _, _, hr, he => by
    rw [relAll] at he
    simp only [Prod.mk.injEq] at he
    obtain ⟨rfl, rfl, rfl, rfl, rfl, rfl⟩ := he
    exact ⟨hr, 0, rfl⟩
  | g :: gs, s, t, u, h, gs', s', t', u', h', e, hr, he => by
    rw [relAll] at he
    split at he
    · generalize hd : dropS s t u h g.2 = q at he
      obtain ⟨s1, t1, u1, h1, e1⟩ := q
      dsimp only at he
      split at he
      · rename_i h0
        obtain ⟨h2, k, hk⟩ := relAll_mid seq gs s1 t1 u1 h1 gs' s' t' u' h' e (dropS_mid hr hd h0) he
        exact ⟨h2, k + 1, hk⟩
      · simp only [Prod.mk.injEq] at he
        obtain ⟨rfl, rfl, rfl, rfl, rfl, rfl⟩ := he
        exact ⟨hr, 0, rfl⟩
    · simp only [Prod.mk.injEq] at he
      obtain ⟨rfl, rfl, rfl, rfl, rfl, rfl⟩ := he
      exact ⟨hr, 0, rfl⟩
theorem JSt.Wf.release {j : JSt} (hj : j.Wf) (seq : Int) : (j.release seq).1.Wf := by
  unfold JSt.release
  split
  · exact hj
  split
  · exact hj
  generalize hq : relAll seq j.groups j.s j.t j.u j.h = q
  obtain ⟨gs, s, t, u, h, e⟩ := q
  obtain ⟨h1, k, rfl⟩ := relAll_mid seq _ _ _ _ _ _ _ _ _ _ _ hj.ring hq
  exact ⟨hj.log, h1, hj.epoch, hj.next, hj.synced, by show (j.groups.drop k).length ≤ _; rw [List.length_drop]; have := hj.few; omega, fun g hg => hj.groups g (List.mem_of_mem_drop hg)⟩
/-- a group that fits is appended: what the journal is then -/
theorem JSt.append_next {j : JSt} (hj : j.Wf) (h8 : j.groups.length ≤ 999999) {d : DSt} {l : List PImg} {held : Bool} (hb : j.broken = false) (hR : RightP j.epoch j.next l) (hs : (l.length : Int) + 1 ≤ j.s) (hd : d.Calm) (hlen : j.s + 2 ≤ d.now.length)
    {t u h at_ : Int} (hp : putS j.s j.t j.u j.h (l.length + 1) (if held then l.length + 1 else 0) = ((j.s, t, u, h, 0), at_)) :
    ∃ j', j.appendB d l held = (j', wrD (fun i => 2 + (at_ + i) % j.s) (putP j.epoch.toNat j.next.toNat l) 0 d, j.next, 0) ∧ j'.lay = j.lay ∧ j'.s = j.s ∧ j'.t = t ∧ j'.u = u ∧ j'.h = h ∧ j'.epoch = j.epoch ∧ j'.next = j.next + 1 ∧ j'.synced = j.synced ∧ j'.groups = j.groups ++ [(j.next, (l.length + 1 : Int))] ∧ j'.broken = false ∧ j'.Wf := by
  have e := JSt.append_calm hb hR hs hj.log hd hlen hp
  have w := hj.append (d := d) (l := l) (held := held) h8
  rw [e] at w
  exact ⟨_, e, rfl, rfl, rfl, rfl, rfl, rfl, rfl, rfl, rfl, hb, w⟩
theorem JSt.flush_next {j : JSt} (hj : j.Wf) {d : DSt} (hb : j.broken = false) (hd : d.Calm) :
    ∃ j', j.flush d = (j', { d with safe := d.now, writes := [] }, 0) ∧ j'.lay = j.lay ∧ j'.s = j.s ∧ j'.t = j.t ∧ j'.u = j.u ∧ j'.h = j.h ∧ j'.epoch = j.epoch ∧ j'.next = j.next ∧ j'.synced = j.next - 1 ∧ j'.groups = j.groups ∧ j'.broken = false ∧ j'.Wf := by
  have e : j.flush d = ({ j with synced := j.next - 1 }, { d with safe := d.now, writes := [] }, 0) := by
    unfold JSt.flush DSt.flush
    rw [if_neg (by rw [hb]; simp), DSt.stop_calm hd]
    simp
  have w := hj.flush d
  rw [e] at w
  exact ⟨_, e, rfl, rfl, rfl, rfl, rfl, rfl, rfl, rfl, rfl, hb, w⟩
theorem JSt.release_next {j : JSt} (hj : j.Wf) {seq : Int} (hb : j.broken = false) (hs : ¬ j.synced < seq) {gs : List (Int × Int)} {s t u h e : Int} (hr : relAll seq j.groups j.s j.t j.u j.h = (gs, (s, t, u, h, e))) :
    ∃ j', j.release seq = (j', e) ∧ j'.lay = j.lay ∧ j'.s = s ∧ j'.t = t ∧ j'.u = u ∧ j'.h = h ∧ j'.epoch = j.epoch ∧ j'.next = j.next ∧ j'.synced = j.synced ∧ j'.groups = gs ∧ j'.broken = false ∧ j'.Wf := by
  have e' : j.release seq = ({ j with s := s, t := t, u := u, h := h, groups := gs }, e) := by
    unfold JSt.release
    rw [if_neg (by rw [hb]; simp), if_neg hs, hr]
  have w := hj.release seq
  rw [e'] at w
  exact ⟨_, e', rfl, rfl, rfl, rfl, rfl, rfl, rfl, rfl, rfl, hb, w⟩
theorem putS_a : putS 16 14 0 0 (((imgsP (rowL 1) 1 0).length : Int) + 1) (if false = true then ((imgsP (rowL 1) 1 0).length : Int) + 1 else 0) = ((16, 14, 2, 0, 0), 14) := by rw [imgsP_length, rowL_length]; decide
theorem putS_b : putS 16 14 2 0 (((imgsP (rowL 2) 2 0).length : Int) + 1) (if false = true then ((imgsP (rowL 2) 2 0).length : Int) + 1 else 0) = ((16, 14, 5, 0, 0), 0) := by rw [imgsP_length, rowL_length]; decide
/-- what the example's calls come to -/
theorem awake_pure : ∃ (jA jB jF jR : JSt) (dA dB dF : DSt), (openJ 64 1 1 14).appendB (DSt.of (List.replicate 64 noughts)) (imgsP (rowL 1) 1 0) false = (jA, dA, 1, 0) ∧ jA.appendB dA (imgsP (rowL 2) 2 0) false = (jB, dB, 2, 0) ∧
    dB.writes.map Prod.fst = [16, 17, 2, 3, 4] ∧ jB.t = 14 ∧ firstOf jB.next jB.groups = 1 ∧ jB.flush dB = (jF, dF, 0) ∧ jF.release 1 = (jR, 0) ∧ jR.t = 0 ∧ firstOf jR.next jR.groups = 2 ∧ jR.groups = [(2, 3)] ∧
    (openJ 64 1 1 14).Wf ∧ jA.Wf ∧ jB.Wf ∧ jF.Wf ∧ jR.Wf ∧ dA.Few 2 ∧ dB.Few 5 ∧ jA.groups.length ≤ 5 := by
  have w0 : (openJ 64 1 1 14).Wf := openJ_wf64 14 (by omega)
  have c0 : (DSt.of (List.replicate 64 noughts)).Calm := fresh_calm _
  have f0 : (DSt.of (List.replicate 64 noughts)).Few 0 := DSt.of_few _
  have n0 : (DSt.of (List.replicate 64 noughts)).now.length = 64 := List.length_replicate ..
  have p0 : (DSt.of (List.replicate 64 noughts)).writes = [] := rfl
  generalize DSt.of (List.replicate 64 noughts) = d0 at *
  have hl1 : ((imgsP (rowL 1) 1 0).length : Int) + 1 = 2 := by rw [imgsP_length, rowL_length]; rfl
  have hl2 : ((imgsP (rowL 2) 2 0).length : Int) + 1 = 3 := by rw [imgsP_length, rowL_length]; rfl
  have ej : (openJ 64 1 1 14).s = 16 ∧ (openJ 64 1 1 14).t = 14 ∧ (openJ 64 1 1 14).u = 0 ∧ (openJ 64 1 1 14).h = 0 ∧ (openJ 64 1 1 14).epoch = 1 ∧ (openJ 64 1 1 14).next = 1 ∧ (openJ 64 1 1 14).groups = [] := ⟨layL_64', rfl, rfl, rfl, rfl, rfl, rfl⟩
  obtain ⟨i1, i2, i3, i4, i5, i6, i7⟩ := ej
  have hb0 : (openJ 64 1 1 14).broken = false := rfl
  generalize openJ 64 1 1 14 = j0 at *
  obtain ⟨jA, a1, e1, e2, e3, e4, e5, e6, e7, e8, e9, e10, w1⟩ := JSt.append_next w0 (d := d0) (l := imgsP (rowL 1) 1 0) (held := false) (t := 14) (u := 2) (h := 0) (at_ := 14) (by rw [i7]; decide) hb0 (by rw [i5, i6]; exact right_row ⟨by decide, by decide⟩ ⟨by decide, by decide⟩ 1 (by omega) 1) (by rw [hl1, i1]; decide) c0 (by rw [n0, i1]; decide) (by rw [i1, i2, i3, i4]; exact putS_a)
  rw [i1, i5, i6] at a1
  rw [i1] at e2
  rw [i5] at e6
  rw [i6] at e7
  rw [i6, i7, hl1] at e9
  have hn1 : (putP (1 : Int).toNat (1 : Int).toNat (imgsP (rowL 1) 1 0)).length = 2 := by rw [putP_length, imgsP_length, rowL_length]
  generalize putP (1 : Int).toNat (1 : Int).toNat (imgsP (rowL 1) 1 0) = P1 at *
  have cA : (wrD (fun i => 2 + (14 + (i : Int)) % 16) P1 0 d0).Calm := wrD_calm _ _ _ _ c0
  have nA : (wrD (fun i => 2 + (14 + (i : Int)) % 16) P1 0 d0).now.length = 64 := by rw [wrD_len, n0]
  have fA : (wrD (fun i => 2 + (14 + (i : Int)) % 16) P1 0 d0).Few 2 := (wrD_few _ P1 0 d0 0 f0).mono (by omega)
  have pA : (wrD (fun i => 2 + (14 + (i : Int)) % 16) P1 0 d0).writes.map Prod.fst = [16, 17] := by rw [wrD_writes, p0, hn1]; decide
  generalize wrD (fun i => 2 + (14 + (i : Int)) % 16) P1 0 d0 = dA at *
  obtain ⟨jB, a2, x1, x2, x3, x4, x5, x6, x7, x8, x9, x10, w2⟩ := JSt.append_next w1 (d := dA) (l := imgsP (rowL 2) 2 0) (held := false) (t := 14) (u := 5) (h := 0) (at_ := 0) (by rw [e9]; decide) e10 (by rw [e6, e7]; exact right_row ⟨by decide, by decide⟩ ⟨by decide, by decide⟩ 2 (by omega) 2) (by rw [hl2, e2]; decide) cA (by rw [nA, e2]; decide) (by rw [e2, e3, e4, e5]; exact putS_b)
  rw [e2, e6, e7] at a2
  rw [e2] at x2
  rw [e7] at x7
  rw [e7, e9, hl2] at x9
  have hn2 : (putP (1 : Int).toNat (1 + 1 : Int).toNat (imgsP (rowL 2) 2 0)).length = 3 := by rw [putP_length, imgsP_length, rowL_length]
  generalize putP (1 : Int).toNat (1 + 1 : Int).toNat (imgsP (rowL 2) 2 0) = P2 at *
  have cB : (wrD (fun i => 2 + (0 + (i : Int)) % 16) P2 0 dA).Calm := wrD_calm _ _ _ _ cA
  have fB : (wrD (fun i => 2 + (0 + (i : Int)) % 16) P2 0 dA).Few 5 := (wrD_few _ P2 0 dA 2 fA).mono (by omega)
  have pB : (wrD (fun i => 2 + (0 + (i : Int)) % 16) P2 0 dA).writes.map Prod.fst = [16, 17, 2, 3, 4] := by rw [wrD_writes, pA, hn2]; decide
  generalize wrD (fun i => 2 + (0 + (i : Int)) % 16) P2 0 dA = dB at *
  obtain ⟨jF, a3, y1, y2, y3, y4, y5, y6, y7, y8, y9, y10, w3⟩ := JSt.flush_next w2 x10 cB
  rw [x7] at y8
  obtain ⟨jR, a4, z1, z2, z3, z4, z5, z6, z7, z8, z9, z10, w4⟩ := JSt.release_next w3 (seq := 1) (gs := [(2, 3)]) (s := 16) (t := 0) (u := 3) (h := 0) (e := 0) y10 (by rw [y8]; decide) (by rw [y9, x9, y2, x2, y3, x3, y4, x4, y5, x5]; decide)
  exact ⟨jA, jB, jF, jR, dA, dB, _, a1, a2, pB, x3, by rw [x9]; rfl, a3, a4, z3, by rw [z9]; rfl, z9, w0, w1, w2, w3, w4, fA, fB, by rw [e9]; decide⟩
end Go.Proofs.Ytbpdbgcndfcilaa
namespace Go.Proofs.Ytbpdbgcndfcilaa
open Go.RowKit Go.Sl
set_option maxRecDepth 20000

theorem same_ints_at {I : Imm} {S : St} {a1 a2 : Option Addr} {n1 n2 cap1 cap2 : Nat} {z1 z2 : List Int} (h1 : SlC I S a1 n1 (ints z1)) (h2 : SlC I S a2 n2 (ints z2)) (hn : n1 ≤ 9223372036854775806) :
    Tri Try.prog 87 #[.slice a1 n1 cap1, .slice a2 n2 cap2] I S fun v J S' => ∃ b, v = .bool b ∧ (b = true ↔ z1 = z2) ∧ I = J ∧ S' = S := by
  refine Tri.pack ((same_ints _ I a1 a2 n1 n2 cap1 cap2 z1 z2 h1.pack h2.pack hn).mono ?_)
  rintro v J S' hJ ⟨b, rfl, h, rfl, rfl⟩
  exact ⟨[], rfl, b, rfl, h, rfl, by simp⟩
set_option maxHeartbeats 1000000 in
theorem awake08 (I : Imm) (S : St) : Tri Try.prog 25 #[] I S fun v _ _ => v = .bool true := by
  refine Tri.free (Q := fun v _ _ => v = .bool true) ?_ (fun v J _ _ h => h)
  obtain ⟨jA, jB, jF, jR, dA, dB, dF, a1, a2, pB, x3, x4, a3, a4, z3, z4, z5, w0, wA, wB, wF, wR, fA, fB, gA⟩ := awake_pure
  refine Tri.of (args := []) tabOk Try.func25 rfl (by kernel_rfl) (by kernel_rfl) ?_
  refine Tri.frameX (law_open 14 (by omega) I) [] rfl rfl ?_
  rintro v J A' hJ ⟨bD, bJ, chD, chJ, rfl, hD, hj, rfl⟩
  repeat (first
    | refine LoadD.own 0 rfl _ rfl rfl ?_
    | refine LoadD.own 1 rfl _ rfl rfl ?_
    | refine LoadD.own 2 rfl _ rfl rfl ?_
    | refine LoadD.own 3 rfl _ rfl rfl ?_
    | refine LoadD.own 4 rfl _ rfl rfl ?_
    | refine LoadD.own 5 rfl _ rfl rfl ?_
    | refine LoadP.at 0 rfl _ rfl rfl ?_
    | refine LoadP.at 1 rfl _ rfl rfl ?_
    | refine LoadP.at 2 rfl _ rfl rfl ?_
    | refine LoadP.at 3 rfl _ rfl rfl ?_
    | refine LoadP.at 4 rfl _ rfl rfl ?_
    | refine LoadP.at 5 rfl _ rfl rfl ?_
    | refine StoreD.st 0 rfl rfl rfl ?_
    | refine StoreD.st 1 rfl rfl rfl ?_
    | refine StoreD.st 2 rfl rfl rfl ?_
    | refine StoreD.st 3 rfl rfl rfl ?_
    | refine StoreD.st 4 rfl rfl rfl ?_
    | refine StoreD.st 5 rfl rfl rfl ?_
    | refine CmpD.yes rfl ?_
    | refine CmpD.yes (by decide) ?_
    | refine CmpD.no (by decide) ?_
    | refine Chk.mk ⟨rfl, trivial⟩ ?_
    | refine Chk.mk ⟨rfl, rfl, trivial⟩ ?_
    | refine Chk.mk ⟨rfl, rfl, rfl, trivial⟩ ?_
    | refine Chk.mk ⟨rfl, rfl, rfl, rfl, trivial⟩ ?_
    | refine Chk.mk ⟨rfl, rfl, rfl, rfl, rfl, trivial⟩ ?_
    | refine Chk.mk ⟨rfl, rfl, rfl, rfl, rfl, rfl, trivial⟩ ?_)
  refine Tri.free (row_of 1 (by omega) J) ?_
  rintro v J1 _ hJ1 ⟨aR, capR, rfl, hR⟩
  refine Tri.free (images_fix aR capR (rowL 1) (by rw [rowL_length]; omega) (rowL_in 1 (by omega)) 1 (by unfold In64; omega) J1 (by rw [rowL_length]; exact hR)) ?_
  rintro v J2 _ hJ2 ⟨aI, capI, gs, rfl, hI, hgs⟩
  have hgl : gs.length = 1 := by have := congrArg List.length hgs; rwa [List.length_map, imgsP_length, rowL_length] at this
  refine Tri.frame (jk_Append hj w0 (hD.mono (Imm.le_trans hJ1 hJ2)) ((DSt.of_few _).mono (by omega)) (by simp [openJ]) aI capI gs hI (by omega) false) [1, 0] rfl rfl ?_
  rw [hgs, a1]
  rintro v J3 A' hJ3 ⟨rfl, chJA, chDA, hjA, hDA, rfl⟩
  refine ⟨Nat.le_refl _, ?_⟩
  refine Tri.free (row_of 2 (by omega) J3) ?_
  rintro v J4 _ hJ4 ⟨aR2, capR2, rfl, hR2⟩
  refine Tri.free (images_fix aR2 capR2 (rowL 2) (by rw [rowL_length]; omega) (rowL_in 2 (by omega)) 2 (by unfold In64; omega) J4 (by rw [rowL_length]; exact hR2)) ?_
  rintro v J5 _ hJ5 ⟨aI2, capI2, gs2, rfl, hI2, hgs2⟩
  have hgl2 : gs2.length = 2 := by have := congrArg List.length hgs2; rwa [List.length_map, imgsP_length, rowL_length] at this
  refine Tri.frame (jk_Append hjA wA (hDA.mono (Imm.le_trans hJ4 hJ5)) (fA.mono (by omega)) (by dsimp only; omega) aI2 capI2 gs2 hI2 (by omega) false) [1, 0] rfl rfl ?_
  rw [hgs2, a2]
  rintro v J6 A' hJ6 ⟨rfl, chJB, chDB, hjB, hDB, rfl⟩
  refine ⟨Nat.le_refl _, ?_⟩
  refine Tri.frameX (dk_Pending hDB (fB.mono (by omega))) [0] rfl rfl ?_
  rintro v J7 A' hJ7 ⟨aP, capP, chP, rfl, hP, rfl, rfl⟩
  refine Tri.frame1 1 rfl (jk_Tail hjB J6) ?_
  rintro v J7 A' hJ7 ⟨rfl, rfl, rfl⟩
  refine ⟨_, rfl, ?_⟩
  refine Tri.frame (jk_Flush hjB wB hDB) [1, 2] rfl rfl ?_
  rw [a3]
  rintro v J8 A' hJ8 ⟨rfl, chJF, chDF, hjF, hDF, rfl⟩
  refine ⟨Nat.le_refl _, ?_⟩
  refine Tri.frame1 1 rfl (jk_Release hjF wF 1 J8) ?_
  rw [a4]
  rintro v J9 A' hJ9 ⟨rfl, rfl, chJR, hjR, rfl⟩
  refine ⟨_, rfl, ?_⟩
  refine Tri.frame1 1 rfl (jk_Tail hjR J8) ?_
  rintro v J9 A' hJ9 ⟨rfl, rfl, rfl⟩
  refine ⟨_, rfl, ?_⟩
  rw [x3, x4, z3, z4]
  rw [pB] at hP
  have hPl : dB.writes.length = 5 := by have := congrArg List.length pB; rwa [List.length_map] at this
  refine ToD.to 0 rfl ?_
  refine ToD.to 0 rfl ?_
  refine ToD.to 0 rfl ?_
  repeat (first
    | refine LoadD.own 0 rfl _ rfl rfl ?_
    | refine LoadD.own 1 rfl _ rfl rfl ?_
    | refine LoadD.own 2 rfl _ rfl rfl ?_
    | refine LoadD.own 3 rfl _ rfl rfl ?_
    | refine LoadD.own 4 rfl _ rfl rfl ?_
    | refine LoadD.own 5 rfl _ rfl rfl ?_
    | refine LoadP.at 0 rfl _ rfl rfl ?_
    | refine LoadP.at 1 rfl _ rfl rfl ?_
    | refine LoadP.at 2 rfl _ rfl rfl ?_
    | refine LoadP.at 3 rfl _ rfl rfl ?_
    | refine LoadP.at 4 rfl _ rfl rfl ?_
    | refine LoadP.at 5 rfl _ rfl rfl ?_
    | refine StoreD.st 0 rfl rfl rfl ?_
    | refine StoreD.st 1 rfl rfl rfl ?_
    | refine StoreD.st 2 rfl rfl rfl ?_
    | refine StoreD.st 3 rfl rfl rfl ?_
    | refine StoreD.st 4 rfl rfl rfl ?_
    | refine StoreD.st 5 rfl rfl rfl ?_
    | refine CmpD.yes rfl ?_
    | refine CmpD.yes (by decide) ?_
    | refine CmpD.no (by decide) ?_
    | refine Chk.mk ⟨rfl, trivial⟩ ?_
    | refine Chk.mk ⟨rfl, rfl, trivial⟩ ?_
    | refine Chk.mk ⟨rfl, rfl, rfl, trivial⟩ ?_
    | refine Chk.mk ⟨rfl, rfl, rfl, rfl, trivial⟩ ?_
    | refine Chk.mk ⟨rfl, rfl, rfl, rfl, rfl, trivial⟩ ?_
    | refine Chk.mk ⟨rfl, rfl, rfl, rfl, rfl, rfl, trivial⟩ ?_)
  conv => whnf
  intro b70
  refine Tri.nf (same_ints_at (z1 := [16, 17, 2, 3, 4]) (z2 := [16, 17, 2, 3, 4]) ?_ ?_ ?_) ?_
  · exact hP.slC1 3 rfl
  · exact (OwnC.whole (vs := ints [16, 17, 2, 3, 4]) (len := 5) (size := 1) rfl).slC 4 rfl
  · dsimp only; omega
  rintro v J9 S9 hJ9 ⟨b, rfl, hb, rfl, rfl⟩
  have hb : b = true := hb.2 rfl
  subst hb
  repeat (first
    | refine LoadD.own 0 rfl _ rfl rfl ?_
    | refine LoadD.own 1 rfl _ rfl rfl ?_
    | refine LoadD.own 2 rfl _ rfl rfl ?_
    | refine LoadD.own 3 rfl _ rfl rfl ?_
    | refine LoadD.own 4 rfl _ rfl rfl ?_
    | refine LoadD.own 5 rfl _ rfl rfl ?_
    | refine LoadP.at 0 rfl _ rfl rfl ?_
    | refine LoadP.at 1 rfl _ rfl rfl ?_
    | refine LoadP.at 2 rfl _ rfl rfl ?_
    | refine LoadP.at 3 rfl _ rfl rfl ?_
    | refine LoadP.at 4 rfl _ rfl rfl ?_
    | refine LoadP.at 5 rfl _ rfl rfl ?_
    | refine StoreD.st 0 rfl rfl rfl ?_
    | refine StoreD.st 1 rfl rfl rfl ?_
    | refine StoreD.st 2 rfl rfl rfl ?_
    | refine StoreD.st 3 rfl rfl rfl ?_
    | refine StoreD.st 4 rfl rfl rfl ?_
    | refine StoreD.st 5 rfl rfl rfl ?_
    | refine CmpD.yes rfl ?_
    | refine CmpD.yes (by decide) ?_
    | refine CmpD.no (by decide) ?_
    | refine Chk.mk ⟨rfl, trivial⟩ ?_
    | refine Chk.mk ⟨rfl, rfl, trivial⟩ ?_
    | refine Chk.mk ⟨rfl, rfl, rfl, trivial⟩ ?_
    | refine Chk.mk ⟨rfl, rfl, rfl, rfl, trivial⟩ ?_
    | refine Chk.mk ⟨rfl, rfl, rfl, rfl, rfl, trivial⟩ ?_
    | refine Chk.mk ⟨rfl, rfl, rfl, rfl, rfl, rfl, trivial⟩ ?_)
  refine Tri.frameX (jk_Groups hjR wR J8) [1] rfl rfl ?_
  rintro v J9 S9 hJ9 ⟨aG, capG, chG, rfl, hG, rfl, rfl⟩
  rw [z5] at hG
  rw [z5]
  conv => whnf
  intro b92
  refine Tri.nf (same_ints_at (z1 := [2]) (z2 := [2]) ?_ ?_ ?_) ?_
  · exact hG.slC1 6 rfl
  · exact (OwnC.whole (vs := ints [2]) (len := 1) (size := 1) rfl).slC 7 rfl
  · decide
  rintro v J9 S9 hJ9 ⟨b, rfl, hb, rfl, rfl⟩
  have hb : b = true := hb.2 rfl
  subst hb
  exact Done.mk rfl
end Go.Proofs.Ytbpdbgcndfcilaa
namespace Go.Proofs.Ytbpdbgcndfcilaa
open Go.RowKit Go.Sl
set_option maxRecDepth 20000

def blocksN (n : Int) : Int := if n < 1 ∨ 32 < n then 0 else n + 1
theorem record_Blocks (n : Int) (I : Imm) (S : St) : Tri Try.prog 80 #[.int .i64 n] I S fun v J S' => v = .int .i64 (blocksN n) ∧ I = J ∧ S' = S := by
  refine Tri.of (args := [.int .i64 n]) tabOk Try.func80 rfl (by kernel_rfl) (by kernel_rfl) ?_
  unfold blocksN
  refine CmpD.split (fun c1 => ?_) (fun c1 => ?_)
  · rw [if_pos (.inl c1)]; exact Done.mk ⟨rfl, rfl, rfl⟩
  refine CmpD.split (fun c2 => ?_) (fun c2 => ?_)
  · rw [if_pos (.inr c2)]; exact Done.mk ⟨rfl, rfl, rfl⟩
  rw [if_neg (by omega)]
  refine ToD.i64 (by omega) (by omega) ?_
  exact Done.mk ⟨rfl, rfl, rfl⟩
def JSt.turn (j : JSt) (r : R5) : JSt × Int := match r with
  | (s, t, u, h, e) => if e = 0 then ({ j with s := s, t := t, u := u, h := h }, 0) else (j, e)
def JSt.reserve (j : JSt) (n : Int) : JSt × Int := if j.broken then (j, 4) else if blocksN n = 0 then (j, 2) else if j.s < blocksN n then (j, 232) else j.turn (reserveS j.s j.t j.u j.h (blocksN n))
def JSt.cancel (j : JSt) (n : Int) : JSt × Int := if j.broken then (j, 4) else if blocksN n = 0 then (j, 2) else j.turn (releaseS j.s j.t j.u j.h (blocksN n))
theorem jk_Reserve1 (bn bx bJ bD : Nat) (n : Int) (j : JSt) (hj : j.Wf) (hb : j.broken = false) (g : Hd) (I : Imm) :
    Tri Try.prog 79 #[.pointer (some ⟨bn, 0, none⟩), .pointer (some ⟨bx, 0, none⟩)] I [pBox bn (.int .i64 n) 3, pBox bx (.pointer (some ⟨bJ, 0, none⟩)) 22, jChunk bJ (j.at bD g)] fun v J S' =>
      I = J ∧ v = .int .i64 (j.reserve n).2 ∧ S' = [jChunk bJ ((j.reserve n).1.at bD g)] := by
  have hr := hj.ring
  unfold Ok at hr
  unfold JSt.reserve
  rw [if_neg (by rw [hb]; simp)]
  refine Tri.drop ?_ (fun _ _ _ _ h => h)
  refine Tri.of (args := [.pointer (some ⟨bn, 0, none⟩), .pointer (some ⟨bx, 0, none⟩)]) tabOk Try.func79 rfl (by kernel_rfl) (by kernel_rfl) ?_
  repeat (first
    | refine LoadD.own 0 rfl _ rfl rfl ?_
    | refine LoadD.own 1 rfl _ rfl rfl ?_
    | refine LoadD.own 2 rfl _ rfl rfl ?_
    | refine LoadP.at 0 rfl _ rfl rfl ?_
    | refine LoadP.at 1 rfl _ rfl rfl ?_
    | refine LoadP.at 2 rfl _ rfl rfl ?_
    | refine StoreD.st 0 rfl rfl rfl ?_
    | refine StoreD.st 1 rfl rfl rfl ?_
    | refine StoreD.st 2 rfl rfl rfl ?_
    | refine CmpD.yes rfl ?_
    | refine CmpD.yes (by decide) ?_
    | refine CmpD.no (by decide) ?_
    | refine Chk.mk ⟨rfl, trivial⟩ ?_
    | refine Chk.mk ⟨rfl, rfl, trivial⟩ ?_
    | refine Chk.mk ⟨rfl, rfl, rfl, trivial⟩ ?_
    | refine Chk.mk ⟨rfl, rfl, rfl, rfl, trivial⟩ ?_
    | refine Chk.mk ⟨rfl, rfl, rfl, rfl, rfl, trivial⟩ ?_
    | refine Chk.mk ⟨rfl, rfl, rfl, rfl, rfl, rfl, trivial⟩ ?_)
  refine Tri.nf (record_Blocks n I _) ?_
  rintro _ _ _ _ ⟨rfl, rfl, rfl⟩
  have hbn : 0 ≤ blocksN n ∧ blocksN n ≤ 33 := by unfold blocksN; split <;> omega
  refine CmpD.split (fun c1 => ?_) (fun c1 => ?_)
  · rw [if_pos c1]
    exact Done.mk ⟨_, Drop.pick [2] _ rfl, rfl, rfl, rfl⟩
  rw [if_neg c1]
  repeat (first
    | refine LoadD.own 0 rfl _ rfl rfl ?_
    | refine LoadD.own 1 rfl _ rfl rfl ?_
    | refine LoadD.own 2 rfl _ rfl rfl ?_
    | refine LoadP.at 0 rfl _ rfl rfl ?_
    | refine LoadP.at 1 rfl _ rfl rfl ?_
    | refine LoadP.at 2 rfl _ rfl rfl ?_
    | refine StoreD.st 0 rfl rfl rfl ?_
    | refine StoreD.st 1 rfl rfl rfl ?_
    | refine StoreD.st 2 rfl rfl rfl ?_
    | refine CmpD.yes rfl ?_
    | refine CmpD.yes (by decide) ?_
    | refine CmpD.no (by decide) ?_
    | refine Chk.mk ⟨rfl, trivial⟩ ?_
    | refine Chk.mk ⟨rfl, rfl, trivial⟩ ?_
    | refine Chk.mk ⟨rfl, rfl, rfl, trivial⟩ ?_
    | refine Chk.mk ⟨rfl, rfl, rfl, rfl, trivial⟩ ?_
    | refine Chk.mk ⟨rfl, rfl, rfl, rfl, rfl, trivial⟩ ?_
    | refine Chk.mk ⟨rfl, rfl, rfl, rfl, rfl, rfl, trivial⟩ ?_)
  refine CmpD.split (fun c2 => ?_) (fun c2 => ?_)
  · rw [if_pos (by exact c2)]
    exact Done.mk ⟨_, Drop.pick [2] _ rfl, rfl, rfl, rfl⟩
  rw [if_neg (by exact c2)]
  refine CodeF.sched [[], [], [1], [1, 2], [1, 2, 3], [], [1, 2, 3, 4, 5], [1, 2, 3, 4, 5, 6], [1, 2, 3, 4, 5, 6], [0, 1, 2, 3, 4, 5, 6, 7, 8], [0, 1, 2, 3, 4, 5, 6, 7, 8, 9]] [0, 1, 2, 3, 4, 5, 6, 7, 8, 9, 10] (by kernel_rfl) ?_
  repeat (first
    | refine LoadD.own 0 rfl _ rfl rfl ?_
    | refine LoadD.own 1 rfl _ rfl rfl ?_
    | refine LoadD.own 2 rfl _ rfl rfl ?_
    | refine LoadP.at 0 rfl _ rfl rfl ?_
    | refine LoadP.at 1 rfl _ rfl rfl ?_
    | refine LoadP.at 2 rfl _ rfl rfl ?_
    | refine StoreD.st 0 rfl rfl rfl ?_
    | refine StoreD.st 1 rfl rfl rfl ?_
    | refine StoreD.st 2 rfl rfl rfl ?_
    | refine CmpD.yes rfl ?_
    | refine CmpD.yes (by decide) ?_
    | refine CmpD.no (by decide) ?_
    | refine Chk.mk ⟨rfl, trivial⟩ ?_
    | refine Chk.mk ⟨rfl, rfl, trivial⟩ ?_
    | refine Chk.mk ⟨rfl, rfl, rfl, trivial⟩ ?_
    | refine Chk.mk ⟨rfl, rfl, rfl, rfl, trivial⟩ ?_
    | refine Chk.mk ⟨rfl, rfl, rfl, rfl, rfl, trivial⟩ ?_
    | refine Chk.mk ⟨rfl, rfl, rfl, rfl, rfl, rfl, trivial⟩ ?_)
  refine Tri.free (ring_Reserve j.s j.t j.u j.h (blocksN n) I (by unfold In64; omega) (by unfold In64; omega) (by unfold In64; omega) (by unfold In64; omega) (by unfold In64; omega)) ?_
  rintro v J2 _ hJ2 ⟨⟨s', t', u', h', e', rfl, hd⟩, rfl⟩
  rw [hd]
  repeat (first
    | refine LoadD.own 0 rfl _ rfl rfl ?_
    | refine LoadD.own 1 rfl _ rfl rfl ?_
    | refine LoadD.own 2 rfl _ rfl rfl ?_
    | refine LoadP.at 0 rfl _ rfl rfl ?_
    | refine LoadP.at 1 rfl _ rfl rfl ?_
    | refine LoadP.at 2 rfl _ rfl rfl ?_
    | refine StoreD.st 0 rfl rfl rfl ?_
    | refine StoreD.st 1 rfl rfl rfl ?_
    | refine StoreD.st 2 rfl rfl rfl ?_
    | refine CmpD.yes rfl ?_
    | refine CmpD.yes (by decide) ?_
    | refine CmpD.no (by decide) ?_
    | refine Chk.mk ⟨rfl, trivial⟩ ?_
    | refine Chk.mk ⟨rfl, rfl, trivial⟩ ?_
    | refine Chk.mk ⟨rfl, rfl, rfl, trivial⟩ ?_
    | refine Chk.mk ⟨rfl, rfl, rfl, rfl, trivial⟩ ?_
    | refine Chk.mk ⟨rfl, rfl, rfl, rfl, rfl, trivial⟩ ?_
    | refine Chk.mk ⟨rfl, rfl, rfl, rfl, rfl, rfl, trivial⟩ ?_)
  refine Tri.frame1 2 rfl (jr_turned bJ (j.at bD g) s' t' u' h' e' I) ?_
  rintro v J3 S' hJ3 ⟨rfl, rfl, rfl⟩
  refine ⟨_, rfl, ?_⟩
  refine Done.mk ⟨_, Drop.pick [2] _ rfl, rfl, ?_, ?_⟩
  · show _ = Value.int .i64 (JSt.turn j (s', t', u', h', e')).2
    unfold JSt.turn; dsimp only; split
    · rename_i h; rw [h]; rfl
    · rfl
  · show [jChunk bJ _] = [jChunk bJ ((JSt.turn j (s', t', u', h', e')).1.at bD g)]
    unfold JSt.turn; dsimp only; split <;> rfl
theorem jk_Cancel1 (bn bx bJ bD : Nat) (n : Int) (j : JSt) (hj : j.Wf) (hb : j.broken = false) (g : Hd) (I : Imm) :
    Tri Try.prog 82 #[.pointer (some ⟨bn, 0, none⟩), .pointer (some ⟨bx, 0, none⟩)] I [pBox bn (.int .i64 n) 3, pBox bx (.pointer (some ⟨bJ, 0, none⟩)) 22, jChunk bJ (j.at bD g)] fun v J S' =>
      I = J ∧ v = .int .i64 (j.cancel n).2 ∧ S' = [jChunk bJ ((j.cancel n).1.at bD g)] := by
  have hr := hj.ring
  unfold Ok at hr
  unfold JSt.cancel
  rw [if_neg (by rw [hb]; simp)]
  refine Tri.drop ?_ (fun _ _ _ _ h => h)
  refine Tri.of (args := [.pointer (some ⟨bn, 0, none⟩), .pointer (some ⟨bx, 0, none⟩)]) tabOk Try.func82 rfl (by kernel_rfl) (by kernel_rfl) ?_
  repeat (first
    | refine LoadD.own 0 rfl _ rfl rfl ?_
    | refine LoadD.own 1 rfl _ rfl rfl ?_
    | refine LoadD.own 2 rfl _ rfl rfl ?_
    | refine LoadP.at 0 rfl _ rfl rfl ?_
    | refine LoadP.at 1 rfl _ rfl rfl ?_
    | refine LoadP.at 2 rfl _ rfl rfl ?_
    | refine StoreD.st 0 rfl rfl rfl ?_
    | refine StoreD.st 1 rfl rfl rfl ?_
    | refine StoreD.st 2 rfl rfl rfl ?_
    | refine CmpD.yes rfl ?_
    | refine CmpD.yes (by decide) ?_
    | refine CmpD.no (by decide) ?_
    | refine Chk.mk ⟨rfl, trivial⟩ ?_
    | refine Chk.mk ⟨rfl, rfl, trivial⟩ ?_
    | refine Chk.mk ⟨rfl, rfl, rfl, trivial⟩ ?_
    | refine Chk.mk ⟨rfl, rfl, rfl, rfl, trivial⟩ ?_
    | refine Chk.mk ⟨rfl, rfl, rfl, rfl, rfl, trivial⟩ ?_
    | refine Chk.mk ⟨rfl, rfl, rfl, rfl, rfl, rfl, trivial⟩ ?_)
  refine Tri.nf (record_Blocks n I _) ?_
  rintro _ _ _ _ ⟨rfl, rfl, rfl⟩
  have hbn : 0 ≤ blocksN n ∧ blocksN n ≤ 33 := by unfold blocksN; split <;> omega
  refine CmpD.split (fun c1 => ?_) (fun c1 => ?_)
  · rw [if_pos c1]
    exact Done.mk ⟨_, Drop.pick [2] _ rfl, rfl, rfl, rfl⟩
  rw [if_neg c1]
  refine CodeF.sched [[], [], [1], [1, 2], [1, 2, 3], [], [1, 2, 3, 4, 5], [1, 2, 3, 4, 5, 6], [1, 2, 3, 4, 5, 6], [0, 1, 2, 3, 4, 5, 6, 7, 8], [0, 1, 2, 3, 4, 5, 6, 7, 8, 9]] [0, 1, 2, 3, 4, 5, 6, 7, 8, 9, 10] (by kernel_rfl) ?_
  repeat (first
    | refine LoadD.own 0 rfl _ rfl rfl ?_
    | refine LoadD.own 1 rfl _ rfl rfl ?_
    | refine LoadD.own 2 rfl _ rfl rfl ?_
    | refine LoadP.at 0 rfl _ rfl rfl ?_
    | refine LoadP.at 1 rfl _ rfl rfl ?_
    | refine LoadP.at 2 rfl _ rfl rfl ?_
    | refine StoreD.st 0 rfl rfl rfl ?_
    | refine StoreD.st 1 rfl rfl rfl ?_
    | refine StoreD.st 2 rfl rfl rfl ?_
    | refine CmpD.yes rfl ?_
    | refine CmpD.yes (by decide) ?_
    | refine CmpD.no (by decide) ?_
    | refine Chk.mk ⟨rfl, trivial⟩ ?_
    | refine Chk.mk ⟨rfl, rfl, trivial⟩ ?_
    | refine Chk.mk ⟨rfl, rfl, rfl, trivial⟩ ?_
    | refine Chk.mk ⟨rfl, rfl, rfl, rfl, trivial⟩ ?_
    | refine Chk.mk ⟨rfl, rfl, rfl, rfl, rfl, trivial⟩ ?_
    | refine Chk.mk ⟨rfl, rfl, rfl, rfl, rfl, rfl, trivial⟩ ?_)
  refine Tri.free (ring_Release j.s j.t j.u j.h (blocksN n) I (by unfold In64; omega) (by unfold In64; omega) (by unfold In64; omega) (by unfold In64; omega) (by unfold In64; omega)) ?_
  rintro v J2 _ hJ2 ⟨⟨s', t', u', h', e', rfl, hd⟩, rfl⟩
  rw [hd]
  repeat (first
    | refine LoadD.own 0 rfl _ rfl rfl ?_
    | refine LoadD.own 1 rfl _ rfl rfl ?_
    | refine LoadD.own 2 rfl _ rfl rfl ?_
    | refine LoadP.at 0 rfl _ rfl rfl ?_
    | refine LoadP.at 1 rfl _ rfl rfl ?_
    | refine LoadP.at 2 rfl _ rfl rfl ?_
    | refine StoreD.st 0 rfl rfl rfl ?_
    | refine StoreD.st 1 rfl rfl rfl ?_
    | refine StoreD.st 2 rfl rfl rfl ?_
    | refine CmpD.yes rfl ?_
    | refine CmpD.yes (by decide) ?_
    | refine CmpD.no (by decide) ?_
    | refine Chk.mk ⟨rfl, trivial⟩ ?_
    | refine Chk.mk ⟨rfl, rfl, trivial⟩ ?_
    | refine Chk.mk ⟨rfl, rfl, rfl, trivial⟩ ?_
    | refine Chk.mk ⟨rfl, rfl, rfl, rfl, trivial⟩ ?_
    | refine Chk.mk ⟨rfl, rfl, rfl, rfl, rfl, trivial⟩ ?_
    | refine Chk.mk ⟨rfl, rfl, rfl, rfl, rfl, rfl, trivial⟩ ?_)
  refine Tri.frame1 2 rfl (jr_turned bJ (j.at bD g) s' t' u' h' e' I) ?_
  rintro v J3 S' hJ3 ⟨rfl, rfl, rfl⟩
  refine ⟨_, rfl, ?_⟩
  refine Done.mk ⟨_, Drop.pick [2] _ rfl, rfl, ?_, ?_⟩
  · show _ = Value.int .i64 (JSt.turn j (s', t', u', h', e')).2
    unfold JSt.turn; dsimp only; split
    · rename_i h; rw [h]; rfl
    · rfl
  · show [jChunk bJ _] = [jChunk bJ ((JSt.turn j (s', t', u', h', e')).1.at bD g)]
    unfold JSt.turn; dsimp only; split <;> rfl
theorem JSt.reserve_same (j : JSt) (n : Int) : (j.reserve n).1.groups = j.groups := by
  unfold JSt.reserve JSt.turn
  split; · rfl
  split; · rfl
  split; · rfl
  dsimp only; split <;> rfl
theorem JSt.cancel_same (j : JSt) (n : Int) : (j.cancel n).1.groups = j.groups := by
  unfold JSt.cancel JSt.turn
  split; · rfl
  split; · rfl
  dsimp only; split <;> rfl
theorem jk_Reserve {bJ bD : Nat} {j : JSt} {ch : List Blk} (hJ0 : Jk bJ bD j ch) (hj : j.Wf) (n : Int) (I : Imm) :
    Tri Try.prog 16 #[.pointer (some ⟨bJ, 0, none⟩), .int .i64 n] I [ch] fun v J S' => I = J ∧ v = .int .i64 (j.reserve n).2 ∧ ∃ chJ, Jk bJ bD (j.reserve n).1 chJ ∧ S' = [chJ] := by
  obtain ⟨g, chG, rfl, hG⟩ := hJ0
  have hm := fun bn bx => jr_may2 bJ (j.at bD g) 79 bn bx I [pBox bn (.int .i64 n) 3, pBox bx (.pointer (some ⟨bJ, 0, none⟩)) 22, jChunk bJ (j.at bD g)] 2 rfl (fun hb => jk_Reserve1 bn bx bJ bD n j hj hb g I)
  refine Tri.lay (S2 := [jChunk bJ (j.at bD g), chG]) (by simp) ?_
  refine Tri.drop ?_ (fun _ _ _ _ h => h)
  refine Tri.of (args := [.pointer (some ⟨bJ, 0, none⟩), .int .i64 n]) tabOk Try.func16 rfl (by kernel_rfl) (by kernel_rfl) ?_
  conv => whnf
  intro bx
  conv => whnf
  intro bn
  repeat (first
    | refine LoadD.own 0 rfl _ rfl rfl ?_
    | refine LoadD.own 1 rfl _ rfl rfl ?_
    | refine LoadD.own 2 rfl _ rfl rfl ?_
    | refine LoadD.own 3 rfl _ rfl rfl ?_
    | refine LoadP.at 0 rfl _ rfl rfl ?_
    | refine LoadP.at 1 rfl _ rfl rfl ?_
    | refine LoadP.at 2 rfl _ rfl rfl ?_
    | refine LoadP.at 3 rfl _ rfl rfl ?_
    | refine StoreD.st 0 rfl rfl rfl ?_
    | refine StoreD.st 1 rfl rfl rfl ?_
    | refine StoreD.st 2 rfl rfl rfl ?_
    | refine StoreD.st 3 rfl rfl rfl ?_
    | refine CmpD.yes rfl ?_
    | refine CmpD.yes (by decide) ?_
    | refine CmpD.no (by decide) ?_
    | refine Chk.mk ⟨rfl, trivial⟩ ?_
    | refine Chk.mk ⟨rfl, rfl, trivial⟩ ?_
    | refine Chk.mk ⟨rfl, rfl, rfl, trivial⟩ ?_
    | refine Chk.mk ⟨rfl, rfl, rfl, rfl, trivial⟩ ?_
    | refine Chk.mk ⟨rfl, rfl, rfl, rfl, rfl, trivial⟩ ?_
    | refine Chk.mk ⟨rfl, rfl, rfl, rfl, rfl, rfl, trivial⟩ ?_)
  refine Tri.frameX (hm bn bx) [3, 2, 0] rfl rfl ?_
  rintro v J A' hJ (⟨hb, rfl, rfl, rfl⟩ | ⟨hb, rfl, rfl, rfl⟩)
  · unfold JSt.reserve
    rw [if_pos hb]
    exact Done.mk ⟨[jChunk bJ (j.at bD g) ++ chG], (Drop.pick [6, 1] _ rfl).trans (Drop.flat (by simp [St.at])), rfl, rfl, _, ⟨g, chG, rfl, hG⟩, rfl⟩
  · exact Done.mk ⟨[jChunk bJ ((j.reserve n).1.at bD g) ++ chG], (Drop.pick [4, 1] _ rfl).trans (Drop.flat (by simp [St.at])), rfl, rfl, _, ⟨g, chG, rfl, by rw [JSt.reserve_same]; exact hG⟩, rfl⟩
theorem jk_Cancel {bJ bD : Nat} {j : JSt} {ch : List Blk} (hJ0 : Jk bJ bD j ch) (hj : j.Wf) (n : Int) (I : Imm) :
    Tri Try.prog 17 #[.pointer (some ⟨bJ, 0, none⟩), .int .i64 n] I [ch] fun v J S' => I = J ∧ v = .int .i64 (j.cancel n).2 ∧ ∃ chJ, Jk bJ bD (j.cancel n).1 chJ ∧ S' = [chJ] := by
  obtain ⟨g, chG, rfl, hG⟩ := hJ0
  have hm := fun bn bx => jr_may2 bJ (j.at bD g) 82 bn bx I [pBox bn (.int .i64 n) 3, pBox bx (.pointer (some ⟨bJ, 0, none⟩)) 22, jChunk bJ (j.at bD g)] 2 rfl (fun hb => jk_Cancel1 bn bx bJ bD n j hj hb g I)
  refine Tri.lay (S2 := [jChunk bJ (j.at bD g), chG]) (by simp) ?_
  refine Tri.drop ?_ (fun _ _ _ _ h => h)
  refine Tri.of (args := [.pointer (some ⟨bJ, 0, none⟩), .int .i64 n]) tabOk Try.func17 rfl (by kernel_rfl) (by kernel_rfl) ?_
  conv => whnf
  intro bx
  conv => whnf
  intro bn
  repeat (first
    | refine LoadD.own 0 rfl _ rfl rfl ?_
    | refine LoadD.own 1 rfl _ rfl rfl ?_
    | refine LoadD.own 2 rfl _ rfl rfl ?_
    | refine LoadD.own 3 rfl _ rfl rfl ?_
    | refine LoadP.at 0 rfl _ rfl rfl ?_
    | refine LoadP.at 1 rfl _ rfl rfl ?_
    | refine LoadP.at 2 rfl _ rfl rfl ?_
    | refine LoadP.at 3 rfl _ rfl rfl ?_
    | refine StoreD.st 0 rfl rfl rfl ?_
    | refine StoreD.st 1 rfl rfl rfl ?_
    | refine StoreD.st 2 rfl rfl rfl ?_
    | refine StoreD.st 3 rfl rfl rfl ?_
    | refine CmpD.yes rfl ?_
    | refine CmpD.yes (by decide) ?_
    | refine CmpD.no (by decide) ?_
    | refine Chk.mk ⟨rfl, trivial⟩ ?_
    | refine Chk.mk ⟨rfl, rfl, trivial⟩ ?_
    | refine Chk.mk ⟨rfl, rfl, rfl, trivial⟩ ?_
    | refine Chk.mk ⟨rfl, rfl, rfl, rfl, trivial⟩ ?_
    | refine Chk.mk ⟨rfl, rfl, rfl, rfl, rfl, trivial⟩ ?_
    | refine Chk.mk ⟨rfl, rfl, rfl, rfl, rfl, rfl, trivial⟩ ?_)
  refine Tri.frameX (hm bn bx) [3, 2, 0] rfl rfl ?_
  rintro v J A' hJ (⟨hb, rfl, rfl, rfl⟩ | ⟨hb, rfl, rfl, rfl⟩)
  · unfold JSt.cancel
    rw [if_pos hb]
    exact Done.mk ⟨[jChunk bJ (j.at bD g) ++ chG], (Drop.pick [6, 1] _ rfl).trans (Drop.flat (by simp [St.at])), rfl, rfl, _, ⟨g, chG, rfl, hG⟩, rfl⟩
  · exact Done.mk ⟨[jChunk bJ ((j.cancel n).1.at bD g) ++ chG], (Drop.pick [4, 1] _ rfl).trans (Drop.flat (by simp [St.at])), rfl, rfl, _, ⟨g, chG, rfl, by rw [JSt.cancel_same]; exact hG⟩, rfl⟩
theorem jk_Next {bJ bD : Nat} {j : JSt} {ch : List Blk} (hJ0 : Jk bJ bD j ch) (I : Imm) : Tri Try.prog 20 #[.pointer (some ⟨bJ, 0, none⟩)] I [ch] fun v J S' => v = .int .i64 j.next ∧ I = J ∧ S' = [ch] := by
  obtain ⟨g, chG, rfl, hG⟩ := hJ0
  refine Tri.abs1 (Q := fun v J S' => v = .int .i64 j.next ∧ I = J ∧ S' = [jChunk bJ (j.at bD g)]) ?_ (fun v J S' hJ h => ⟨_, h.2.2, h.1, h.2.1, rfl⟩)
  refine Tri.of (args := [.pointer (some ⟨bJ, 0, none⟩)]) tabOk Try.func20 rfl (by kernel_rfl) (by kernel_rfl) ?_
  refine Tri.nf (jr_none bJ (j.at bD g) I) ?_
  rintro _ _ _ _ ⟨rfl, rfl, rfl⟩
  refine LoadD.own 0 rfl [.int .i64 j.next] rfl rfl ?_
  exact Done.mk ⟨rfl, rfl, rfl⟩
theorem jk_Synced {bJ bD : Nat} {j : JSt} {ch : List Blk} (hJ0 : Jk bJ bD j ch) (I : Imm) : Tri Try.prog 21 #[.pointer (some ⟨bJ, 0, none⟩)] I [ch] fun v J S' => v = .int .i64 j.synced ∧ I = J ∧ S' = [ch] := by
  obtain ⟨g, chG, rfl, hG⟩ := hJ0
  refine Tri.abs1 (Q := fun v J S' => v = .int .i64 j.synced ∧ I = J ∧ S' = [jChunk bJ (j.at bD g)]) ?_ (fun v J S' hJ h => ⟨_, h.2.2, h.1, h.2.1, rfl⟩)
  refine Tri.of (args := [.pointer (some ⟨bJ, 0, none⟩)]) tabOk Try.func21 rfl (by kernel_rfl) (by kernel_rfl) ?_
  refine Tri.nf (jr_none bJ (j.at bD g) I) ?_
  rintro _ _ _ _ ⟨rfl, rfl, rfl⟩
  refine LoadD.own 0 rfl [.int .i64 j.synced] rfl rfl ?_
  exact Done.mk ⟨rfl, rfl, rfl⟩
theorem jk_Ring {bJ bD : Nat} {j : JSt} {ch : List Blk} (hJ0 : Jk bJ bD j ch) (I : Imm) : Tri Try.prog 24 #[.pointer (some ⟨bJ, 0, none⟩)] I [ch] fun v J S' => v = rg j.s j.t j.u j.h ∧ I = J ∧ S' = [ch] := by
  obtain ⟨g, chG, rfl, hG⟩ := hJ0
  refine Tri.abs1 (Q := fun v J S' => v = rg j.s j.t j.u j.h ∧ I = J ∧ S' = [jChunk bJ (j.at bD g)]) ?_ (fun v J S' hJ h => ⟨_, h.2.2, h.1, h.2.1, rfl⟩)
  refine Tri.drop ?_ (fun _ _ _ _ h => h)
  refine Tri.of (args := [.pointer (some ⟨bJ, 0, none⟩)]) tabOk Try.func24 rfl (by kernel_rfl) (by kernel_rfl) ?_
  conv => whnf
  intro b2
  refine Tri.frame1 0 rfl (jr_none bJ (j.at bD g) I) ?_
  rintro _ _ _ _ ⟨rfl, rfl, rfl⟩
  refine ⟨_, rfl, ?_⟩
  repeat (first
    | refine LoadD.own 0 rfl _ rfl rfl ?_
    | refine LoadD.own 1 rfl _ rfl rfl ?_
    | refine LoadP.at 0 rfl _ rfl rfl ?_
    | refine LoadP.at 1 rfl _ rfl rfl ?_
    | refine StoreD.st 0 rfl rfl rfl ?_
    | refine StoreD.st 1 rfl rfl rfl ?_
    | refine CmpD.yes rfl ?_
    | refine CmpD.yes (by decide) ?_
    | refine CmpD.no (by decide) ?_
    | refine Chk.mk ⟨rfl, trivial⟩ ?_
    | refine Chk.mk ⟨rfl, rfl, trivial⟩ ?_
    | refine Chk.mk ⟨rfl, rfl, rfl, trivial⟩ ?_
    | refine Chk.mk ⟨rfl, rfl, rfl, rfl, trivial⟩ ?_
    | refine Chk.mk ⟨rfl, rfl, rfl, rfl, rfl, trivial⟩ ?_
    | refine Chk.mk ⟨rfl, rfl, rfl, rfl, rfl, rfl, trivial⟩ ?_)
  exact Done.mk ⟨_, Drop.pick [0] _ rfl, rfl, rfl, rfl⟩
theorem jk_Broken {bJ bD : Nat} {j : JSt} {ch : List Blk} (hJ0 : Jk bJ bD j ch) (I : Imm) : Tri Try.prog 23 #[.pointer (some ⟨bJ, 0, none⟩)] I [ch] fun v J S' => v = .bool j.broken ∧ I = J ∧ S' = [ch] := by
  obtain ⟨g, chG, rfl, hG⟩ := hJ0
  refine Tri.abs1 (Q := fun v J S' => v = .bool j.broken ∧ I = J ∧ S' = [jChunk bJ (j.at bD g)]) ?_ (fun v J S' hJ h => ⟨_, h.2.2, h.1, h.2.1, rfl⟩)
  obtain ⟨lay, s, t, u, h, ep, nx, sy, gs, br⟩ := j
  refine Tri.of (args := [.pointer (some ⟨bJ, 0, none⟩)]) tabOk Try.func23 rfl (by kernel_rfl) (by kernel_rfl) ?_
  refine Tri.nf (jr_none bJ _ I) ?_
  rintro _ _ _ _ ⟨rfl, rfl, rfl⟩
  cases br
  · repeat (first
      | refine LoadD.own 0 rfl _ rfl rfl ?_
      | refine LoadP.at 0 rfl _ rfl rfl ?_
      | refine StoreD.st 0 rfl rfl rfl ?_
      | refine CmpD.yes rfl ?_
      | refine CmpD.yes (by decide) ?_
      | refine CmpD.no (by decide) ?_
      | refine Chk.mk ⟨rfl, trivial⟩ ?_
      | refine Chk.mk ⟨rfl, rfl, trivial⟩ ?_
      | refine Chk.mk ⟨rfl, rfl, rfl, trivial⟩ ?_
      | refine Chk.mk ⟨rfl, rfl, rfl, rfl, trivial⟩ ?_
      | refine Chk.mk ⟨rfl, rfl, rfl, rfl, rfl, trivial⟩ ?_
      | refine Chk.mk ⟨rfl, rfl, rfl, rfl, rfl, rfl, trivial⟩ ?_)
    exact Done.mk ⟨rfl, rfl, rfl⟩
  · repeat (first
      | refine LoadD.own 0 rfl _ rfl rfl ?_
      | refine LoadP.at 0 rfl _ rfl rfl ?_
      | refine StoreD.st 0 rfl rfl rfl ?_
      | refine CmpD.yes rfl ?_
      | refine CmpD.yes (by decide) ?_
      | refine CmpD.no (by decide) ?_
      | refine Chk.mk ⟨rfl, trivial⟩ ?_
      | refine Chk.mk ⟨rfl, rfl, trivial⟩ ?_
      | refine Chk.mk ⟨rfl, rfl, rfl, trivial⟩ ?_
      | refine Chk.mk ⟨rfl, rfl, rfl, rfl, trivial⟩ ?_
      | refine Chk.mk ⟨rfl, rfl, rfl, rfl, rfl, trivial⟩ ?_
      | refine Chk.mk ⟨rfl, rfl, rfl, rfl, rfl, rfl, trivial⟩ ?_)
    exact Done.mk ⟨rfl, rfl, rfl⟩
end Go.Proofs.Ytbpdbgcndfcilaa

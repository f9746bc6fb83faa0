/- Texts of this claim laid together: ReplayAgain. -/
import Derived.Test.YtbpdbgcndfcilaaBReplayAgain4
import Derived.Test.YtbpdbgcndfcilaaBReplayAgain1
import Derived.Test.YtbpdbgcndfcilaaBReplayAgain2
import Derived.Test.YtbpdbgcndfcilaaBReplayAgain3
namespace Go.Proofs.Ytbpdbgcndfcilaa
open Go.RowKit Go.Sl
set_option maxRecDepth 20000

theorem again_start (K : List Int) : PB K ((List.replicate 64 noughts).set 0 supA) := by
  refine ⟨by simp, by simp, .inl (by simp), fun n h1 h2 _ => ?_⟩
  rw [List.getElem?_set_ne (by omega), List.getElem?_replicate, if_pos h2]
def AImg (J : Imm) (g : Img) : Prop := ImgOk J g ∧ 18 ≤ g.blk ∧ g.blk < 64 ∧ g.len = 4096
theorem AImg.mono {I J : Imm} {g : Img} (h : AImg I g) (hJ : I.le J) : AImg J g := ⟨h.1.mono hJ, h.2⟩
set_option maxHeartbeats 8000000 in
theorem replayAgain_walk {I : Imm} (aZ : Option Addr) (nZ capZ : Nat) (z : List Int) (hz : z.length = nZ) (hZ : Rds I aZ nZ (z.map (Value.int .i64))) (hz2 : ∀ x ∈ z, (Lit.int .i64 x).wf = true)
    (aC : Option Addr) (nC capC : Nat) (cs : List CutV) (hcl : cs.length = nC) (hC : Rds I aC (nC * 4) (cutCells cs)) (hcs : ∀ c ∈ cs, CutOk I c) :
    Tri Try.prog 12 #[.slice aZ nZ capZ, .slice aC nC capC] I [] fun v _ _ => v = .bool true := by
  have hZ : Rds I aZ nZ (ints z) := hZ
  have hz3 : ∀ x ∈ z, In64 x := fun x hx => int_of_wf (hz2 x hx)
  clear hz2
  refine Tri.of (args := [.slice aZ nZ capZ, .slice aC nC capC]) tabOk Try.func12 rfl (by kernel_rfl) (by kernel_rfl) ?_
  refine Tri.frameX (dk_New I 64 (by omega)) [] rfl rfl ?_
  rintro v J1 A' hJ1 ⟨bD, chD, rfl, hD, rfl⟩
  have c0 : (DSt.of (List.replicate 64 noughts)).Calm := fresh_calm _
  have n0 : (DSt.of (List.replicate 64 noughts)).now = List.replicate 64 noughts := rfl
  have k0 : (DSt.of (List.replicate 64 noughts)).Few 0 := DSt.of_few _
  generalize DSt.of (List.replicate 64 noughts) = d0 at *
  repeat (first
    | refine LoadD.own 0 rfl _ rfl rfl ?_
    | refine LoadD.own 1 rfl _ rfl rfl ?_
    | refine LoadD.own 2 rfl _ rfl rfl ?_
    | refine LoadP.at 0 rfl _ rfl rfl ?_
    | refine LoadP.at 1 rfl _ rfl rfl ?_
    | refine LoadP.at 2 rfl _ rfl rfl ?_
    | refine StoreD.st 0 rfl rfl rfl ?_
    | refine StoreD.st 1 rfl rfl rfl ?_
    | refine StoreD.st 2 rfl rfl rfl ?_
    | refine CmpD.yes rfl ?_
    | refine CmpD.yes (by decide) ?_
    | refine CmpD.no (by decide) ?_
    | refine Chk.mk ⟨rfl, trivial⟩ ?_
    | refine Chk.mk ⟨rfl, rfl, trivial⟩ ?_
    | refine Chk.mk ⟨rfl, rfl, rfl, trivial⟩ ?_
    | refine Chk.mk ⟨rfl, rfl, rfl, rfl, trivial⟩ ?_
    | refine Chk.mk ⟨rfl, rfl, rfl, rfl, rfl, trivial⟩ ?_
    | refine Chk.mk ⟨rfl, rfl, rfl, rfl, rfl, rfl, trivial⟩ ?_)
  refine Tri.free (law_bytes 1 7 (right_of _ _ (by decide) (by decide)) J1) ?_
  rintro v J2 _ hJ2 ⟨aS, capS, rfl, hS⟩
  refine Tri.frame1 0 rfl (dk_Write (hD.mono hJ2) (k0.mono (by omega)) 0 aS 4096 capS _ hS) ?_
  rw [DSt.write_calm c0 (n := 0) (by rw [n0]; simp) (supL_length _)]
  rintro v J3 A' hJ3 ⟨rfl, chD3, hD3, rfl⟩
  refine ⟨_, rfl, ?_⟩
  repeat (first
    | refine LoadD.own 0 rfl _ rfl rfl ?_
    | refine LoadD.own 1 rfl _ rfl rfl ?_
    | refine LoadD.own 2 rfl _ rfl rfl ?_
    | refine LoadP.at 0 rfl _ rfl rfl ?_
    | refine LoadP.at 1 rfl _ rfl rfl ?_
    | refine LoadP.at 2 rfl _ rfl rfl ?_
    | refine StoreD.st 0 rfl rfl rfl ?_
    | refine StoreD.st 1 rfl rfl rfl ?_
    | refine StoreD.st 2 rfl rfl rfl ?_
    | refine CmpD.yes rfl ?_
    | refine CmpD.yes (by decide) ?_
    | refine CmpD.no (by decide) ?_
    | refine Chk.mk ⟨rfl, trivial⟩ ?_
    | refine Chk.mk ⟨rfl, rfl, trivial⟩ ?_
    | refine Chk.mk ⟨rfl, rfl, rfl, trivial⟩ ?_
    | refine Chk.mk ⟨rfl, rfl, rfl, rfl, trivial⟩ ?_
    | refine Chk.mk ⟨rfl, rfl, rfl, rfl, rfl, trivial⟩ ?_
    | refine Chk.mk ⟨rfl, rfl, rfl, rfl, rfl, rfl, trivial⟩ ?_)
  have hfl := dk_Flush hD3
  rw [flush_calm (c0.put _ _)] at hfl
  refine Tri.frame1 0 rfl hfl ?_
  rintro v J4 A' hJ4 ⟨rfl, chD4, hD4, rfl⟩
  refine ⟨_, rfl, ?_⟩
  obtain ⟨d1, hd1⟩ : ∃ d1, d1 = ({ d0.put 0 (supL (superOf 1 7)) with safe := (d0.put 0 (supL (superOf 1 7))).now, writes := [] } : DSt) := ⟨_, rfl⟩
  have hD4 : Dk J4 bD d1 chD4 := by rw [hd1]; exact hD4
  have c1 : d1.Calm := by rw [hd1]; exact c0
  have hn1 : d1.now = (List.replicate 64 noughts).set 0 supA := by rw [hd1]; show d0.now.set _ _ = _; rw [n0]; rfl
  have hs1 : d1.safe = d1.now := by rw [hd1]
  have hw1 : d1.writes = [] := by rw [hd1]
  have hf1 : d1.Few 1 := by
    obtain ⟨_, q2, q3⟩ := k0
    rw [hd1]
    exact ⟨by show ([] : List PImg).length ≤ _; simp, by show 0 ≤ d0.count + 1; omega, by show d0.count + 1 ≤ _; omega⟩
  clear hd1 hfl hD3 hD
  repeat (first
    | refine LoadD.own 0 rfl _ rfl rfl ?_
    | refine LoadD.own 1 rfl _ rfl rfl ?_
    | refine LoadD.own 2 rfl _ rfl rfl ?_
    | refine LoadP.at 0 rfl _ rfl rfl ?_
    | refine LoadP.at 1 rfl _ rfl rfl ?_
    | refine LoadP.at 2 rfl _ rfl rfl ?_
    | refine StoreD.st 0 rfl rfl rfl ?_
    | refine StoreD.st 1 rfl rfl rfl ?_
    | refine StoreD.st 2 rfl rfl rfl ?_
    | refine CmpD.yes rfl ?_
    | refine CmpD.yes (by decide) ?_
    | refine CmpD.no (by decide) ?_
    | refine Chk.mk ⟨rfl, trivial⟩ ?_
    | refine Chk.mk ⟨rfl, rfl, trivial⟩ ?_
    | refine Chk.mk ⟨rfl, rfl, rfl, trivial⟩ ?_
    | refine Chk.mk ⟨rfl, rfl, rfl, rfl, trivial⟩ ?_
    | refine Chk.mk ⟨rfl, rfl, rfl, rfl, rfl, trivial⟩ ?_
    | refine Chk.mk ⟨rfl, rfl, rfl, rfl, rfl, rfl, trivial⟩ ?_)
  conv => whnf
  intro b7
  repeat (first
    | refine LoadD.own 0 rfl _ rfl rfl ?_
    | refine LoadD.own 1 rfl _ rfl rfl ?_
    | refine LoadD.own 2 rfl _ rfl rfl ?_
    | refine LoadP.at 0 rfl _ rfl rfl ?_
    | refine LoadP.at 1 rfl _ rfl rfl ?_
    | refine LoadP.at 2 rfl _ rfl rfl ?_
    | refine StoreD.st 0 rfl rfl rfl ?_
    | refine StoreD.st 1 rfl rfl rfl ?_
    | refine StoreD.st 2 rfl rfl rfl ?_
    | refine CmpD.yes rfl ?_
    | refine CmpD.yes (by decide) ?_
    | refine CmpD.no (by decide) ?_
    | refine Chk.mk ⟨rfl, trivial⟩ ?_
    | refine Chk.mk ⟨rfl, rfl, trivial⟩ ?_
    | refine Chk.mk ⟨rfl, rfl, rfl, trivial⟩ ?_
    | refine Chk.mk ⟨rfl, rfl, rfl, rfl, trivial⟩ ?_
    | refine Chk.mk ⟨rfl, rfl, rfl, rfl, rfl, trivial⟩ ?_
    | refine Chk.mk ⟨rfl, rfl, rfl, rfl, rfl, rfl, trivial⟩ ?_)
  refine CodeF.loopD [0, 1, 5, 7, 8] (fun vs J' S' => ∃ (i : Nat) (aI : Option Addr) (capI : Nat) (chI : List Blk) (gs : List Img), i ≤ nZ ∧ i ≤ 10 ∧ gs.length = i ∧ OwnC chI 2 aI i capI (imgCells gs) ∧ (∀ g ∈ gs, AImg J' g) ∧ J4.le J' ∧
      vs = [.slice aZ nZ capZ, .slice aC nC capC, .pointer (some ⟨bD, 0, none⟩), .pointer (some ⟨b7, 0, none⟩), .int .i64 i] ∧ S' = [chD4, gBox b7 0 0 aI i capI, chI])
    (fun vs _ _ => match vs with | [_, _, _, _, .int _ i] => ((nZ : Int) - i).toNat | _ => 0) ?_ ?_
  · exact ⟨_, Drop.and (Drop.pick [0, 1] _ rfl), 0, none, 0, [], [], by omega, by omega, rfl, OwnC.nil _ _, by simp, Imm.le_refl _, rfl, rfl⟩
  rintro vs gE J' S' hJ' ⟨i, aI, capI, chI, gs, hi, hi10, hgl, hI, hgs, hle4, rfl, rfl⟩
  have hIJ : I.le J' := Imm.le_trans hJ1 (Imm.le_trans hJ2 (Imm.le_trans hJ3 (Imm.le_trans hJ4 hle4)))
  refine CmpD.split (fun c1' => ?_) (fun c1' => ?_)
  focus
    repeat (first
      | refine LoadD.own 0 rfl _ rfl rfl ?_
      | refine LoadD.own 1 rfl _ rfl rfl ?_
      | refine LoadD.own 2 rfl _ rfl rfl ?_
      | refine LoadP.at 0 rfl _ rfl rfl ?_
      | refine LoadP.at 1 rfl _ rfl rfl ?_
      | refine LoadP.at 2 rfl _ rfl rfl ?_
      | refine StoreD.st 0 rfl rfl rfl ?_
      | refine StoreD.st 1 rfl rfl rfl ?_
      | refine StoreD.st 2 rfl rfl rfl ?_
      | refine CmpD.yes rfl ?_
      | refine CmpD.yes (by decide) ?_
      | refine CmpD.no (by decide) ?_
      | refine Chk.mk ⟨rfl, trivial⟩ ?_
      | refine Chk.mk ⟨rfl, rfl, trivial⟩ ?_
      | refine Chk.mk ⟨rfl, rfl, rfl, trivial⟩ ?_
      | refine Chk.mk ⟨rfl, rfl, rfl, rfl, trivial⟩ ?_
      | refine Chk.mk ⟨rfl, rfl, rfl, rfl, rfl, trivial⟩ ?_
      | refine Chk.mk ⟨rfl, rfl, rfl, rfl, rfl, rfl, trivial⟩ ?_)
    refine CmpD.split (fun c2 => ?_) (fun c2 => ?_)
    · have hlt : i < z.length := by omega
      have hcell : (ints z)[i]? = some (.int .i64 z[i]) := ints_get (List.getElem?_eq_getElem hlt)
      have hb := hz3 _ (List.getElem_mem hlt)
      rcases hZ.mem with q0 | ⟨bF, oF, cF, TF, fF, rfl, hIF, hcF⟩
      · omega
      generalize z[i] = x at *
      have hpx := pickS_range (n := x) (m := 46) (by decide)
      refine CodeF.sched [[], [0], [], [], [2, 3], [2, 3, 4], [2, 3, 4, 5], [2, 3, 4, 5, 6], [], [2, 3, 4, 5, 6, 7, 8], [2, 3, 4, 5, 6, 7, 8, 9], [0, 1, 2, 3, 4, 5, 6, 7, 8, 9, 10], [0, 1, 2, 3, 4, 5, 6, 7, 8, 9, 10, 11], [0, 1, 2, 3, 4, 5, 6, 7, 8, 9, 10, 11, 12]] [0, 1, 2, 3, 4, 5, 8, 6, 7, 9, 10, 11, 12, 13] (by kernel_rfl) ?_
      repeat (first
        | refine LoadD.own 0 rfl _ rfl rfl ?_
        | refine LoadD.own 1 rfl _ rfl rfl ?_
        | refine LoadD.own 2 rfl _ rfl rfl ?_
        | refine LoadP.at 0 rfl _ rfl rfl ?_
        | refine LoadP.at 1 rfl _ rfl rfl ?_
        | refine LoadP.at 2 rfl _ rfl rfl ?_
        | refine StoreD.st 0 rfl rfl rfl ?_
        | refine StoreD.st 1 rfl rfl rfl ?_
        | refine StoreD.st 2 rfl rfl rfl ?_
        | refine CmpD.yes rfl ?_
        | refine CmpD.yes (by decide) ?_
        | refine CmpD.no (by decide) ?_
        | refine Chk.mk ⟨rfl, trivial⟩ ?_
        | refine Chk.mk ⟨rfl, rfl, trivial⟩ ?_
        | refine Chk.mk ⟨rfl, rfl, rfl, trivial⟩ ?_
        | refine Chk.mk ⟨rfl, rfl, rfl, rfl, trivial⟩ ?_
        | refine Chk.mk ⟨rfl, rfl, rfl, rfl, rfl, trivial⟩ ?_
        | refine Chk.mk ⟨rfl, rfl, rfl, rfl, rfl, rfl, trivial⟩ ?_)
      refine Chk.mk (by omega) ?_
      refine LoadP.imm [.int .i64 x] ⟨cF, TF, fF, .imm (hIJ _ _ hIF), take_get hcF hcell, rfl⟩ ?_
      repeat (first
        | refine LoadD.own 0 rfl _ rfl rfl ?_
        | refine LoadD.own 1 rfl _ rfl rfl ?_
        | refine LoadD.own 2 rfl _ rfl rfl ?_
        | refine LoadP.at 0 rfl _ rfl rfl ?_
        | refine LoadP.at 1 rfl _ rfl rfl ?_
        | refine LoadP.at 2 rfl _ rfl rfl ?_
        | refine StoreD.st 0 rfl rfl rfl ?_
        | refine StoreD.st 1 rfl rfl rfl ?_
        | refine StoreD.st 2 rfl rfl rfl ?_
        | refine CmpD.yes rfl ?_
        | refine CmpD.yes (by decide) ?_
        | refine CmpD.no (by decide) ?_
        | refine Chk.mk ⟨rfl, trivial⟩ ?_
        | refine Chk.mk ⟨rfl, rfl, trivial⟩ ?_
        | refine Chk.mk ⟨rfl, rfl, rfl, trivial⟩ ?_
        | refine Chk.mk ⟨rfl, rfl, rfl, rfl, trivial⟩ ?_
        | refine Chk.mk ⟨rfl, rfl, rfl, rfl, rfl, trivial⟩ ?_
        | refine Chk.mk ⟨rfl, rfl, rfl, rfl, rfl, rfl, trivial⟩ ?_)
      refine Tri.free (low_Pick x 46 J' hb (by unfold In64; omega)) ?_
      rintro v _ _ hJ ⟨rfl, rfl⟩
      repeat (first
        | refine LoadD.own 0 rfl _ rfl rfl ?_
        | refine LoadD.own 1 rfl _ rfl rfl ?_
        | refine LoadD.own 2 rfl _ rfl rfl ?_
        | refine LoadP.at 0 rfl _ rfl rfl ?_
        | refine LoadP.at 1 rfl _ rfl rfl ?_
        | refine LoadP.at 2 rfl _ rfl rfl ?_
        | refine StoreD.st 0 rfl rfl rfl ?_
        | refine StoreD.st 1 rfl rfl rfl ?_
        | refine StoreD.st 2 rfl rfl rfl ?_
        | refine CmpD.yes rfl ?_
        | refine CmpD.yes (by decide) ?_
        | refine CmpD.no (by decide) ?_
        | refine Chk.mk ⟨rfl, trivial⟩ ?_
        | refine Chk.mk ⟨rfl, rfl, trivial⟩ ?_
        | refine Chk.mk ⟨rfl, rfl, rfl, trivial⟩ ?_
        | refine Chk.mk ⟨rfl, rfl, rfl, rfl, trivial⟩ ?_
        | refine Chk.mk ⟨rfl, rfl, rfl, rfl, rfl, trivial⟩ ?_
        | refine Chk.mk ⟨rfl, rfl, rfl, rfl, rfl, rfl, trivial⟩ ?_)
      refine ToD.to (18 + pickS x 46) (by show IntKind.i64.wrap (18 + pickS x 46) = _; exact wrap_i64 (by omega) (by omega)) ?_
      refine Tri.free (law_made (18 + pickS x 46) i J') ?_
      rintro v J5 _ hJ5 ⟨aM, rfl, hM⟩
      repeat (first
        | refine LoadD.own 0 rfl _ rfl rfl ?_
        | refine LoadD.own 1 rfl _ rfl rfl ?_
        | refine LoadD.own 2 rfl _ rfl rfl ?_
        | refine LoadP.at 0 rfl _ rfl rfl ?_
        | refine LoadP.at 1 rfl _ rfl rfl ?_
        | refine LoadP.at 2 rfl _ rfl rfl ?_
        | refine StoreD.st 0 rfl rfl rfl ?_
        | refine StoreD.st 1 rfl rfl rfl ?_
        | refine StoreD.st 2 rfl rfl rfl ?_
        | refine CmpD.yes rfl ?_
        | refine CmpD.yes (by decide) ?_
        | refine CmpD.no (by decide) ?_
        | refine Chk.mk ⟨rfl, trivial⟩ ?_
        | refine Chk.mk ⟨rfl, rfl, trivial⟩ ?_
        | refine Chk.mk ⟨rfl, rfl, rfl, trivial⟩ ?_
        | refine Chk.mk ⟨rfl, rfl, rfl, rfl, trivial⟩ ?_
        | refine Chk.mk ⟨rfl, rfl, rfl, rfl, rfl, trivial⟩ ?_
        | refine Chk.mk ⟨rfl, rfl, rfl, rfl, rfl, rfl, trivial⟩ ?_)
      conv => whnf
      intro bN
      repeat (first
        | refine LoadD.own 0 rfl _ rfl rfl ?_
        | refine LoadD.own 1 rfl _ rfl rfl ?_
        | refine LoadD.own 2 rfl _ rfl rfl ?_
        | refine LoadP.at 0 rfl _ rfl rfl ?_
        | refine LoadP.at 1 rfl _ rfl rfl ?_
        | refine LoadP.at 2 rfl _ rfl rfl ?_
        | refine StoreD.st 0 rfl rfl rfl ?_
        | refine StoreD.st 1 rfl rfl rfl ?_
        | refine StoreD.st 2 rfl rfl rfl ?_
        | refine CmpD.yes rfl ?_
        | refine CmpD.yes (by decide) ?_
        | refine CmpD.no (by decide) ?_
        | refine Chk.mk ⟨rfl, trivial⟩ ?_
        | refine Chk.mk ⟨rfl, rfl, trivial⟩ ?_
        | refine Chk.mk ⟨rfl, rfl, rfl, trivial⟩ ?_
        | refine Chk.mk ⟨rfl, rfl, rfl, rfl, trivial⟩ ?_
        | refine Chk.mk ⟨rfl, rfl, rfl, rfl, rfl, trivial⟩ ?_
        | refine Chk.mk ⟨rfl, rfl, rfl, rfl, rfl, rfl, trivial⟩ ?_)
      refine appendD tabOk rfl rfl rfl rfl rfl rfl rfl 2 rfl hI (SrcOk.slice (n := 1) (news := imgCells [⟨18 + pickS x 46, aM, 4096, 4096, madeL i 4096⟩]) tabOk rfl ((OwnC.whole (len := 1) (size := 2) rfl).slC 3 rfl) (by intro v hv; simp [imgCells] at hv; rcases hv with rfl | rfl <;> rfl)) rfl (by show (i + 1) * 32 ≤ _; omega) (by omega) ?_
      intro aI2 capI2 chI2 hI2
      repeat (first
        | refine LoadD.own 0 rfl _ rfl rfl ?_
        | refine LoadD.own 1 rfl _ rfl rfl ?_
        | refine LoadD.own 2 rfl _ rfl rfl ?_
        | refine LoadP.at 0 rfl _ rfl rfl ?_
        | refine LoadP.at 1 rfl _ rfl rfl ?_
        | refine LoadP.at 2 rfl _ rfl rfl ?_
        | refine StoreD.st 0 rfl rfl rfl ?_
        | refine StoreD.st 1 rfl rfl rfl ?_
        | refine StoreD.st 2 rfl rfl rfl ?_
        | refine CmpD.yes rfl ?_
        | refine CmpD.yes (by decide) ?_
        | refine CmpD.no (by decide) ?_
        | refine Chk.mk ⟨rfl, trivial⟩ ?_
        | refine Chk.mk ⟨rfl, rfl, trivial⟩ ?_
        | refine Chk.mk ⟨rfl, rfl, rfl, trivial⟩ ?_
        | refine Chk.mk ⟨rfl, rfl, rfl, rfl, trivial⟩ ?_
        | refine Chk.mk ⟨rfl, rfl, rfl, rfl, rfl, trivial⟩ ?_
        | refine Chk.mk ⟨rfl, rfl, rfl, rfl, rfl, rfl, trivial⟩ ?_)
      refine ToD.i64 (by omega) (by omega) ?_
      refine ⟨_, Drop.pick [0, 1, 2] _ rfl, ⟨i + 1, aI2, capI2, chI2, gs ++ [⟨18 + pickS x 46, aM, 4096, 4096, madeL i 4096⟩], by omega, by omega, by simp [hgl], by rw [imgCells_snoc]; exact hI2, ?_, Imm.le_trans hle4 hJ5, rfl, rfl⟩, ?_⟩
      · intro g hg
        rcases List.mem_append.1 hg with hg | hg
        · exact (hgs g hg).mono hJ5
        · simp only [List.mem_singleton] at hg
          subst hg
          exact ⟨⟨by show In64 (18 + pickS x 46); unfold In64; omega, hM⟩, by show 18 ≤ 18 + pickS x 46; omega, by show 18 + pickS x 46 < 64; omega, rfl⟩
      · show ((nZ : Int) - ((i : Int) + 1)).toNat < ((nZ : Int) - (i : Int)).toNat; omega
  all_goals
    refine CodeF.fixD 2 (ch := chI) rfl fun I5 hI5 hIm => ?_
    have hIR : Rds I5 aI (gs.length * 2) (imgCells gs) := by rw [hgl]; exact Rds.of_ownS hI hIm
    have hgs := fun g hg => (hgs g hg).mono hI5
    have hle4 := Imm.le_trans hle4 hI5
    clear hI hIm
    have himg : ∀ g ∈ gs.map Img.pr, 18 ≤ g.1 ∧ g.1 < 64 ∧ g.2.length = 4096 := by
      intro g hg
      obtain ⟨y, hy, rfl⟩ := List.mem_map.1 hg
      obtain ⟨q1, q2, q3, q4⟩ := hgs y hy
      refine ⟨q2, q3, ?_⟩
      have := q1.2.len
      rw [bts_length] at this
      show y.data.length = 4096
      omega
    have hHL := home_homL himg
    have hhome : ∀ (I6 : Imm), I5.le I6 → ∀ bN : Nat, (∀ x ∈ [((bN, row [.int .i64 0, .int .i64 0, .slice aI i capI] 69) : Blk)], I6 x.1 = some x.2) → Tri Try.prog 50 #[(layOf 64).v, .slice (some ⟨bN, 0, none⟩) 1 1] I6 [] fun v J _ => ∃ aO capO outs, v = .tuple #[.slice aO outs.length capO, .int .i64 0] ∧ ImgsOk J aO outs ∧ outs.map Img.pr = homeP (gs.map Img.pr) := by
      intro I6 hI6 bN hNm
      have hIO : ImgsOk I6 aI gs := ⟨hIR.mono hI6, fun g hg => ((hgs g hg).mono hI6).1⟩
      have hG : GrpsR I6 [] (some ⟨bN, 0, none⟩) [⟨0, 0, aI, capI, gs⟩] := by
        refine ⟨⟨rfl, .inr ⟨bN, 0, rfl, ⟨_, _, _, .imm (hNm _ (List.mem_singleton.2 rfl)), ?_, rfl⟩⟩⟩, fun g hg => ?_⟩
        · rw [← hgl]; rfl
        · simp only [List.mem_singleton] at hg
          subst hg
          exact ⟨imgsR_of hIO, by show gs.length ≤ _; omega⟩
      have hall : allP [(⟨0, 0, aI, capI, gs⟩ : Grp)] = gs.map Img.pr := by simp [allP]
      have hallI : allI [(⟨0, 0, aI, capI, gs⟩ : Grp)] = gs := by simp [allI]
      have hhf := home_fix (capG := 1) hG (by simp) (by rw [hallI]; omega) (by rw [hallI]; intro g hg; have := (hgs g hg).2.2.2; omega) (layOf 64)
      rw [hall] at hhf
      refine hhf.mono ?_
      rintro v J7 _ hJ7 (⟨h, _⟩ | ⟨_, h, _⟩ | ⟨_, _, aO, capO, outs, rfl, hO, hpr⟩)
      · exact absurd ⟨by decide, by decide, rfl⟩ h
      · refine absurd (fun g hg => ?_) h
        have := himg g hg
        rw [lay64.1, lay64.2]; omega
      · refine ⟨aO, capO, outs, rfl, ⟨SlC.rds hO.sl, fun g hg => ⟨?_, SlC.rds (hO.each g hg).rd⟩⟩, hpr⟩
        have := hHL.ok g.pr (by rw [← hpr]; exact List.mem_map_of_mem hg)
        have h1 : 18 ≤ g.blk := this.1
        have h2 : g.blk < 64 := this.2.1
        unfold In64; omega
    refine CodeF.cutD [1, 5, 6, 7, 9] (fun vs J' S' => ∃ (aO : Option Addr) (capO : Nat) (outs : List Img), ImgsOk J' aO outs ∧ outs.map Img.pr = homeP (gs.map Img.pr) ∧ I5.le J' ∧ vs = [.slice aC nC capC, .pointer (some ⟨bD, 0, none⟩), .int .i64 0, .pointer (some ⟨b7, 0, none⟩), .slice aO outs.length capO] ∧ S' = [chD4, gBox b7 0 0 aI i capI]) ?_ ?_
    · refine CodeF.schedT [[], [], [1], [0, 1, 2], [0, 1, 2, 3], [0, 1, 2, 3, 4], [0, 1, 2, 3, 4], [0, 1, 2, 3, 4, 5], [0, 1, 2, 3, 4, 5, 6, 7]] (.rd 1 (.alt (.ef 0 (.ef 2 (.ef 3 (.rd 4 (.rd 5 (.rd 6 (.rd 7 (.rd 8 .nil)))))))) (.ef 2 (.ef 0 (.ef 3 (.rd 4 (.rd 5 (.rd 6 (.rd 7 (.rd 8 .nil)))))))))) (by kernel_rfl) ?_
      repeat (first
        | refine LoadD.own 0 rfl _ rfl rfl ?_
        | refine LoadD.own 1 rfl _ rfl rfl ?_
        | refine LoadP.at 0 rfl _ rfl rfl ?_
        | refine LoadP.at 1 rfl _ rfl rfl ?_
        | refine StoreD.st 0 rfl rfl rfl ?_
        | refine StoreD.st 1 rfl rfl rfl ?_
        | refine CmpD.yes rfl ?_
        | refine CmpD.yes (by decide) ?_
        | refine CmpD.no (by decide) ?_
        | refine Chk.mk ⟨rfl, trivial⟩ ?_
        | refine Chk.mk ⟨rfl, rfl, trivial⟩ ?_
        | refine Chk.mk ⟨rfl, rfl, rfl, trivial⟩ ?_
        | refine Chk.mk ⟨rfl, rfl, rfl, rfl, trivial⟩ ?_
        | refine Chk.mk ⟨rfl, rfl, rfl, rfl, rfl, trivial⟩ ?_
        | refine Chk.mk ⟨rfl, rfl, rfl, rfl, rfl, rfl, trivial⟩ ?_)
      refine And.intro ?_ ?_
      · skip
        refine Tri.free (law_layout64 I5) ?_
        rintro v _ _ _ ⟨rfl, rfl⟩
        repeat (first
          | refine LoadD.own 0 rfl _ rfl rfl ?_
          | refine LoadD.own 1 rfl _ rfl rfl ?_
          | refine LoadP.at 0 rfl _ rfl rfl ?_
          | refine LoadP.at 1 rfl _ rfl rfl ?_
          | refine StoreD.st 0 rfl rfl rfl ?_
          | refine StoreD.st 1 rfl rfl rfl ?_
          | refine CmpD.yes rfl ?_
          | refine CmpD.yes (by decide) ?_
          | refine CmpD.no (by decide) ?_
          | refine Chk.mk ⟨rfl, trivial⟩ ?_
          | refine Chk.mk ⟨rfl, rfl, trivial⟩ ?_
          | refine Chk.mk ⟨rfl, rfl, rfl, trivial⟩ ?_
          | refine Chk.mk ⟨rfl, rfl, rfl, rfl, trivial⟩ ?_
          | refine Chk.mk ⟨rfl, rfl, rfl, rfl, rfl, trivial⟩ ?_
          | refine Chk.mk ⟨rfl, rfl, rfl, rfl, rfl, rfl, trivial⟩ ?_)
        conv => whnf
        intro bN
        repeat (first
          | refine LoadD.own 0 rfl _ rfl rfl ?_
          | refine LoadD.own 1 rfl _ rfl rfl ?_
          | refine LoadP.at 0 rfl _ rfl rfl ?_
          | refine LoadP.at 1 rfl _ rfl rfl ?_
          | refine StoreD.st 0 rfl rfl rfl ?_
          | refine StoreD.st 1 rfl rfl rfl ?_
          | refine CmpD.yes rfl ?_
          | refine CmpD.yes (by decide) ?_
          | refine CmpD.no (by decide) ?_
          | refine Chk.mk ⟨rfl, trivial⟩ ?_
          | refine Chk.mk ⟨rfl, rfl, trivial⟩ ?_
          | refine Chk.mk ⟨rfl, rfl, rfl, trivial⟩ ?_
          | refine Chk.mk ⟨rfl, rfl, rfl, rfl, trivial⟩ ?_
          | refine Chk.mk ⟨rfl, rfl, rfl, rfl, rfl, trivial⟩ ?_
          | refine Chk.mk ⟨rfl, rfl, rfl, rfl, rfl, rfl, trivial⟩ ?_)
        refine Tri.fix 3 rfl fun I6 hI6 hNm => ?_
        refine Tri.free (hhome I6 hI6 bN hNm) ?_
        rintro v J7 _ hJ7 ⟨aO, capO, outs, rfl, hO, hpr⟩
        repeat (first
          | refine LoadD.own 0 rfl _ rfl rfl ?_
          | refine LoadD.own 1 rfl _ rfl rfl ?_
          | refine LoadD.own 2 rfl _ rfl rfl ?_
          | refine LoadP.at 0 rfl _ rfl rfl ?_
          | refine LoadP.at 1 rfl _ rfl rfl ?_
          | refine LoadP.at 2 rfl _ rfl rfl ?_
          | refine StoreD.st 0 rfl rfl rfl ?_
          | refine StoreD.st 1 rfl rfl rfl ?_
          | refine StoreD.st 2 rfl rfl rfl ?_
          | refine CmpD.yes rfl ?_
          | refine CmpD.yes (by decide) ?_
          | refine CmpD.no (by decide) ?_
          | refine Chk.mk ⟨rfl, trivial⟩ ?_
          | refine Chk.mk ⟨rfl, rfl, trivial⟩ ?_
          | refine Chk.mk ⟨rfl, rfl, rfl, trivial⟩ ?_
          | refine Chk.mk ⟨rfl, rfl, rfl, rfl, trivial⟩ ?_
          | refine Chk.mk ⟨rfl, rfl, rfl, rfl, rfl, trivial⟩ ?_
          | refine Chk.mk ⟨rfl, rfl, rfl, rfl, rfl, rfl, trivial⟩ ?_)
        exact ⟨_, Drop.pick [0, 1] _ rfl, aO, capO, outs, hO, hpr, Imm.le_trans hI6 hJ7, rfl, rfl⟩
      · skip
        conv => whnf
        intro bN
        repeat (first
          | refine LoadD.own 0 rfl _ rfl rfl ?_
          | refine LoadD.own 1 rfl _ rfl rfl ?_
          | refine LoadP.at 0 rfl _ rfl rfl ?_
          | refine LoadP.at 1 rfl _ rfl rfl ?_
          | refine StoreD.st 0 rfl rfl rfl ?_
          | refine StoreD.st 1 rfl rfl rfl ?_
          | refine CmpD.yes rfl ?_
          | refine CmpD.yes (by decide) ?_
          | refine CmpD.no (by decide) ?_
          | refine Chk.mk ⟨rfl, trivial⟩ ?_
          | refine Chk.mk ⟨rfl, rfl, trivial⟩ ?_
          | refine Chk.mk ⟨rfl, rfl, rfl, trivial⟩ ?_
          | refine Chk.mk ⟨rfl, rfl, rfl, rfl, trivial⟩ ?_
          | refine Chk.mk ⟨rfl, rfl, rfl, rfl, rfl, trivial⟩ ?_
          | refine Chk.mk ⟨rfl, rfl, rfl, rfl, rfl, rfl, trivial⟩ ?_)
        refine Tri.free (law_layout64 I5) ?_
        rintro v _ _ _ ⟨rfl, rfl⟩
        repeat (first
          | refine LoadD.own 0 rfl _ rfl rfl ?_
          | refine LoadD.own 1 rfl _ rfl rfl ?_
          | refine LoadP.at 0 rfl _ rfl rfl ?_
          | refine LoadP.at 1 rfl _ rfl rfl ?_
          | refine StoreD.st 0 rfl rfl rfl ?_
          | refine StoreD.st 1 rfl rfl rfl ?_
          | refine CmpD.yes rfl ?_
          | refine CmpD.yes (by decide) ?_
          | refine CmpD.no (by decide) ?_
          | refine Chk.mk ⟨rfl, trivial⟩ ?_
          | refine Chk.mk ⟨rfl, rfl, trivial⟩ ?_
          | refine Chk.mk ⟨rfl, rfl, rfl, trivial⟩ ?_
          | refine Chk.mk ⟨rfl, rfl, rfl, rfl, trivial⟩ ?_
          | refine Chk.mk ⟨rfl, rfl, rfl, rfl, rfl, trivial⟩ ?_
          | refine Chk.mk ⟨rfl, rfl, rfl, rfl, rfl, rfl, trivial⟩ ?_)
        refine Tri.fix 3 rfl fun I6 hI6 hNm => ?_
        refine Tri.free (hhome I6 hI6 bN hNm) ?_
        rintro v J7 _ hJ7 ⟨aO, capO, outs, rfl, hO, hpr⟩
        repeat (first
          | refine LoadD.own 0 rfl _ rfl rfl ?_
          | refine LoadD.own 1 rfl _ rfl rfl ?_
          | refine LoadD.own 2 rfl _ rfl rfl ?_
          | refine LoadP.at 0 rfl _ rfl rfl ?_
          | refine LoadP.at 1 rfl _ rfl rfl ?_
          | refine LoadP.at 2 rfl _ rfl rfl ?_
          | refine StoreD.st 0 rfl rfl rfl ?_
          | refine StoreD.st 1 rfl rfl rfl ?_
          | refine StoreD.st 2 rfl rfl rfl ?_
          | refine CmpD.yes rfl ?_
          | refine CmpD.yes (by decide) ?_
          | refine CmpD.no (by decide) ?_
          | refine Chk.mk ⟨rfl, trivial⟩ ?_
          | refine Chk.mk ⟨rfl, rfl, trivial⟩ ?_
          | refine Chk.mk ⟨rfl, rfl, rfl, trivial⟩ ?_
          | refine Chk.mk ⟨rfl, rfl, rfl, rfl, trivial⟩ ?_
          | refine Chk.mk ⟨rfl, rfl, rfl, rfl, rfl, trivial⟩ ?_
          | refine Chk.mk ⟨rfl, rfl, rfl, rfl, rfl, rfl, trivial⟩ ?_)
        exact ⟨_, Drop.pick [0, 1] _ rfl, aO, capO, outs, hO, hpr, Imm.le_trans hI6 hJ7, rfl, rfl⟩
    rintro vs gE3 J7 S' hJ57 ⟨aO, capO, outs, hOok, hpr, _, rfl, rfl⟩
    have hol : outs.length ≤ 46 := by rw [← List.length_map (f := Img.pr), hpr]; exact hHL.few
    have hJ47 : J4.le J7 := Imm.le_trans hle4 hJ57
    repeat (first
      | refine LoadD.own 0 rfl _ rfl rfl ?_
      | refine LoadD.own 1 rfl _ rfl rfl ?_
      | refine LoadD.own 2 rfl _ rfl rfl ?_
      | refine LoadP.at 0 rfl _ rfl rfl ?_
      | refine LoadP.at 1 rfl _ rfl rfl ?_
      | refine LoadP.at 2 rfl _ rfl rfl ?_
      | refine StoreD.st 0 rfl rfl rfl ?_
      | refine StoreD.st 1 rfl rfl rfl ?_
      | refine StoreD.st 2 rfl rfl rfl ?_
      | refine CmpD.yes rfl ?_
      | refine CmpD.yes (by decide) ?_
      | refine CmpD.no (by decide) ?_
      | refine Chk.mk ⟨rfl, trivial⟩ ?_
      | refine Chk.mk ⟨rfl, rfl, trivial⟩ ?_
      | refine Chk.mk ⟨rfl, rfl, rfl, trivial⟩ ?_
      | refine Chk.mk ⟨rfl, rfl, rfl, rfl, trivial⟩ ?_
      | refine Chk.mk ⟨rfl, rfl, rfl, rfl, rfl, trivial⟩ ?_
      | refine Chk.mk ⟨rfl, rfl, rfl, rfl, rfl, rfl, trivial⟩ ?_)
    refine Tri.frame (dk_Copy (hD4.mono hJ47) (hf1.mono (by omega))) [0] rfl rfl ?_
    rintro v J8 A' hJ8 ⟨bC, chC, rfl, rfl, hCk, rfl⟩
    refine ⟨by simp, ?_⟩
    obtain ⟨K, hKe⟩ : ∃ K, K = (homeP (gs.map Img.pr)).map Prod.fst := ⟨_, rfl⟩
    have hKL : ∀ g ∈ outs.map Img.pr, g.1 ∈ K ∧ 2 ≤ g.1 := by
      intro g hg
      rw [hpr] at hg
      exact ⟨by rw [hKe]; exact List.mem_map_of_mem hg, by have := (hHL.ok g hg).1; omega⟩
    have hq1 : QB K d1 := ⟨by rw [hs1, hn1]; exact again_start K, by rw [hn1]; exact again_start K, by rw [hw1]; intro w hw; cases hw⟩
    refine CodeF.loopD [1, 5, 7, 9, 10, 11] (fun vs J' S' => ∃ (m : Nat) (d : DSt) (chD : List Blk), m ≤ nC ∧ m ≤ 6 ∧ Dk J' bD d chD ∧ QB K d ∧ d.Calm ∧ d.writes = [] ∧ d.Few (1 + 100 * m) ∧ J7.le J' ∧
        vs = [.slice aC nC capC, .pointer (some ⟨bD, 0, none⟩), .pointer (some ⟨b7, 0, none⟩), .slice aO outs.length capO, .pointer (some ⟨bC, 0, none⟩), .int .i64 m] ∧ S' = [chD, gBox b7 0 0 aI i capI, chC])
      (fun vs _ _ => match vs with | [_, _, _, _, _, .int _ m] => ((nC : Int) - m).toNat | _ => 0) ?_ ?_
    · exact ⟨_, Drop.pick [0, 1, 2] _ rfl, 0, d1, chD4, by omega, by omega, hD4.mono hJ47, hq1, c1, hw1, hf1, Imm.le_refl _, rfl, rfl⟩
    rintro vs gE4 J9 S' hJ9 ⟨m, d, chD5, hm, hm6, hD5, hq, hcalm, hwr, hfew, hle7, rfl, rfl⟩
    have hlen : d.now.length = 64 := hq.now.len
    have hIJ9 : I.le J9 := Imm.le_trans hJ1 (Imm.le_trans hJ2 (Imm.le_trans hJ3 (Imm.le_trans hJ4 (Imm.le_trans hJ47 hle7))))
    refine CmpD.split (fun e1 => ?_) (fun e1 => ?_)
    focus
      repeat (first
        | refine LoadD.own 0 rfl _ rfl rfl ?_
        | refine LoadD.own 1 rfl _ rfl rfl ?_
        | refine LoadD.own 2 rfl _ rfl rfl ?_
        | refine LoadP.at 0 rfl _ rfl rfl ?_
        | refine LoadP.at 1 rfl _ rfl rfl ?_
        | refine LoadP.at 2 rfl _ rfl rfl ?_
        | refine StoreD.st 0 rfl rfl rfl ?_
        | refine StoreD.st 1 rfl rfl rfl ?_
        | refine StoreD.st 2 rfl rfl rfl ?_
        | refine CmpD.yes rfl ?_
        | refine CmpD.yes (by decide) ?_
        | refine CmpD.no (by decide) ?_
        | refine Chk.mk ⟨rfl, trivial⟩ ?_
        | refine Chk.mk ⟨rfl, rfl, trivial⟩ ?_
        | refine Chk.mk ⟨rfl, rfl, rfl, trivial⟩ ?_
        | refine Chk.mk ⟨rfl, rfl, rfl, rfl, trivial⟩ ?_
        | refine Chk.mk ⟨rfl, rfl, rfl, rfl, rfl, trivial⟩ ?_
        | refine Chk.mk ⟨rfl, rfl, rfl, rfl, rfl, rfl, trivial⟩ ?_)
      refine CmpD.split (fun e2 => ?_) (fun e2 => ?_)
      · have hlt : m < cs.length := by omega
        have hcell := cutCells_at hlt
        have hco := hcs _ (List.getElem_mem hlt)
        rcases hC.mem with q0 | ⟨bF, oF, cF, TF, fF, rfl, hIF, hcF⟩
        · omega
        generalize cs[m] = cut at *
        obtain ⟨arm, aK, nK, capK, keep, tn, sec⟩ := cut
        obtain ⟨u1, u2, u3, u4⟩ := hco
        dsimp only at u1 u2 u3 u4
        have hpart := take_part hcF (i := m * 4) (m := 4) (by omega)
        rw [hcell] at hpart
        have hpx := pickS_range (n := arm) (m := 15) (by decide)
        refine Chk.mk (by omega) ?_
        refine LoadD.imm (hIJ9 _ _ hIF) [.int .i64 arm, .slice aK nK capK, .int .i64 tn, .int .u8 sec] hpart rfl ?_
        conv => whnf
        intro b12
        repeat (first
          | refine LoadD.own 0 rfl _ rfl rfl ?_
          | refine LoadD.own 1 rfl _ rfl rfl ?_
          | refine LoadD.own 2 rfl _ rfl rfl ?_
          | refine LoadD.own 3 rfl _ rfl rfl ?_
          | refine LoadD.own 4 rfl _ rfl rfl ?_
          | refine LoadP.at 0 rfl _ rfl rfl ?_
          | refine LoadP.at 1 rfl _ rfl rfl ?_
          | refine LoadP.at 2 rfl _ rfl rfl ?_
          | refine LoadP.at 3 rfl _ rfl rfl ?_
          | refine LoadP.at 4 rfl _ rfl rfl ?_
          | refine StoreD.st 0 rfl rfl rfl ?_
          | refine StoreD.st 1 rfl rfl rfl ?_
          | refine StoreD.st 2 rfl rfl rfl ?_
          | refine StoreD.st 3 rfl rfl rfl ?_
          | refine StoreD.st 4 rfl rfl rfl ?_
          | refine CmpD.yes rfl ?_
          | refine CmpD.yes (by decide) ?_
          | refine CmpD.no (by decide) ?_
          | refine Chk.mk ⟨rfl, trivial⟩ ?_
          | refine Chk.mk ⟨rfl, rfl, trivial⟩ ?_
          | refine Chk.mk ⟨rfl, rfl, rfl, trivial⟩ ?_
          | refine Chk.mk ⟨rfl, rfl, rfl, rfl, trivial⟩ ?_
          | refine Chk.mk ⟨rfl, rfl, rfl, rfl, rfl, trivial⟩ ?_
          | refine Chk.mk ⟨rfl, rfl, rfl, rfl, rfl, rfl, trivial⟩ ?_)
        refine Tri.free (low_Pick arm 15 J9 u1 (by unfold In64; omega)) ?_
        rintro v _ _ hJ ⟨rfl, rfl⟩
        have har := dk_Arm hD5 (pickS arm 15) (by unfold In64; omega)
        rw [show d.armed (pickS arm 15) = ({ d with arm := ⟨true, pickS arm 15⟩ }, 0) from by unfold DSt.armed; rw [if_neg (by omega)]] at har
        refine Tri.frame1 0 rfl har ?_
        rintro v J10 A' hJ10 ⟨rfl, chA, hA, rfl⟩
        refine ⟨_, rfl, ?_⟩
        obtain ⟨dA, hdA⟩ : ∃ dA, dA = ({ d with arm := ⟨true, pickS arm 15⟩ } : DSt) := ⟨_, rfl⟩
        have hA : Dk J10 bD dA chA := by rw [hdA]; exact hA
        have hqA : QB K dA := by rw [hdA]; exact ⟨hq.safe, hq.now, hq.ws⟩
        have hfA : dA.Few (1 + 100 * m) := by rw [hdA]; exact hfew
        have hlA : dA.now.length = 64 := hqA.now.len
        clear hdA har
        repeat (first
          | refine LoadD.own 0 rfl _ rfl rfl ?_
          | refine LoadD.own 1 rfl _ rfl rfl ?_
          | refine LoadD.own 2 rfl _ rfl rfl ?_
          | refine LoadD.own 3 rfl _ rfl rfl ?_
          | refine LoadD.own 4 rfl _ rfl rfl ?_
          | refine LoadP.at 0 rfl _ rfl rfl ?_
          | refine LoadP.at 1 rfl _ rfl rfl ?_
          | refine LoadP.at 2 rfl _ rfl rfl ?_
          | refine LoadP.at 3 rfl _ rfl rfl ?_
          | refine LoadP.at 4 rfl _ rfl rfl ?_
          | refine StoreD.st 0 rfl rfl rfl ?_
          | refine StoreD.st 1 rfl rfl rfl ?_
          | refine StoreD.st 2 rfl rfl rfl ?_
          | refine StoreD.st 3 rfl rfl rfl ?_
          | refine StoreD.st 4 rfl rfl rfl ?_
          | refine CmpD.yes rfl ?_
          | refine CmpD.yes (by decide) ?_
          | refine CmpD.no (by decide) ?_
          | refine Chk.mk ⟨rfl, trivial⟩ ?_
          | refine Chk.mk ⟨rfl, rfl, trivial⟩ ?_
          | refine Chk.mk ⟨rfl, rfl, rfl, trivial⟩ ?_
          | refine Chk.mk ⟨rfl, rfl, rfl, rfl, trivial⟩ ?_
          | refine Chk.mk ⟨rfl, rfl, rfl, rfl, rfl, trivial⟩ ?_
          | refine Chk.mk ⟨rfl, rfl, rfl, rfl, rfl, rfl, trivial⟩ ?_)
        refine Tri.free (law_of 2 9 J10) ?_
        rintro v _ _ hJ ⟨rfl, rfl⟩
        have hOo := hOok.mono (Imm.le_trans hle7 hJ10)
        refine Tri.frame1 0 rfl (dk_Do hA (1 + 100 * m) hfA aO capO outs hOo (by omega) (superOf 2 9) 1) ?_
        rintro v J11 A' hJ11 ⟨rfl, chE, hE, rfl⟩
        refine ⟨_, rfl, ?_⟩
        have hqE := hqA.doP hKL
        have hdone := do_done hlA (l := outs.map Img.pr)
        have hfE := doP_few hfA (outs.map Img.pr) (superOf 2 9) 1
        rw [List.length_map] at hfE
        have hfE := hfE.mono (m := 1 + 100 * (m + 1)) (by omega)
        generalize doP dA (outs.map Img.pr) (superOf 2 9) 1 = rE at *
        obtain ⟨dE, vE⟩ := rE
        dsimp only at hE hqE hdone hfE
        have hz : noughts ≠ supB := by
          intro h
          have e1 : supB[0]? = some 76 := rfl
          rw [← h, noughts_get (by omega)] at e1
          exact absurd e1 (by decide)
        rcases Decidable.em (vE = 0) with hv | hv
        · refine CmpD.yes hv ?_
          repeat (first
            | refine LoadD.own 0 rfl _ rfl rfl ?_
            | refine LoadD.own 1 rfl _ rfl rfl ?_
            | refine LoadD.own 2 rfl _ rfl rfl ?_
            | refine LoadD.own 3 rfl _ rfl rfl ?_
            | refine LoadD.own 4 rfl _ rfl rfl ?_
            | refine LoadP.at 0 rfl _ rfl rfl ?_
            | refine LoadP.at 1 rfl _ rfl rfl ?_
            | refine LoadP.at 2 rfl _ rfl rfl ?_
            | refine LoadP.at 3 rfl _ rfl rfl ?_
            | refine LoadP.at 4 rfl _ rfl rfl ?_
            | refine StoreD.st 0 rfl rfl rfl ?_
            | refine StoreD.st 1 rfl rfl rfl ?_
            | refine StoreD.st 2 rfl rfl rfl ?_
            | refine StoreD.st 3 rfl rfl rfl ?_
            | refine StoreD.st 4 rfl rfl rfl ?_
            | refine CmpD.yes rfl ?_
            | refine CmpD.yes (by decide) ?_
            | refine CmpD.no (by decide) ?_
            | refine Chk.mk ⟨rfl, trivial⟩ ?_
            | refine Chk.mk ⟨rfl, rfl, trivial⟩ ?_
            | refine Chk.mk ⟨rfl, rfl, rfl, trivial⟩ ?_
            | refine Chk.mk ⟨rfl, rfl, rfl, rfl, trivial⟩ ?_
            | refine Chk.mk ⟨rfl, rfl, rfl, rfl, rfl, trivial⟩ ?_
            | refine Chk.mk ⟨rfl, rfl, rfl, rfl, rfl, rfl, trivial⟩ ?_)
          have hIJ11 := Imm.le_trans hIJ9 (Imm.le_trans hJ10 hJ11)
          refine Tri.frame1 0 rfl (dk_Crash hE (hfE.mono (by omega)) aK nK capK keep (u4.mono hIJ11) tn sec u3) ?_
          rintro v J12 A' hJ12 ⟨rfl, chG, hG2, rfl⟩
          refine ⟨_, rfl, ?_⟩
          have hqG := hqE.crash keep tn sec
          have hcG : (dE.crash keep tn sec).Calm := ⟨rfl, rfl, rfl⟩
          have hwG : (dE.crash keep tn sec).writes = [] := rfl
          have hfG : (dE.crash keep tn sec).Few (1 + 100 * (m + 1)) := ⟨by show ([] : List PImg).length ≤ _; simp, hfE.2.1, hfE.2.2⟩
          have hnow : dE.writes = [] → (dE.crash keep tn sec).now = dE.safe := fun h => by show crashK keep tn sec 0 dE.writes dE.safe = _; rw [h]; rfl
          generalize dE.crash keep tn sec = dG at *
          repeat (first
            | refine LoadD.own 0 rfl _ rfl rfl ?_
            | refine LoadD.own 1 rfl _ rfl rfl ?_
            | refine LoadD.own 2 rfl _ rfl rfl ?_
            | refine LoadD.own 3 rfl _ rfl rfl ?_
            | refine LoadD.own 4 rfl _ rfl rfl ?_
            | refine LoadP.at 0 rfl _ rfl rfl ?_
            | refine LoadP.at 1 rfl _ rfl rfl ?_
            | refine LoadP.at 2 rfl _ rfl rfl ?_
            | refine LoadP.at 3 rfl _ rfl rfl ?_
            | refine LoadP.at 4 rfl _ rfl rfl ?_
            | refine StoreD.st 0 rfl rfl rfl ?_
            | refine StoreD.st 1 rfl rfl rfl ?_
            | refine StoreD.st 2 rfl rfl rfl ?_
            | refine StoreD.st 3 rfl rfl rfl ?_
            | refine StoreD.st 4 rfl rfl rfl ?_
            | refine CmpD.yes rfl ?_
            | refine CmpD.yes (by decide) ?_
            | refine CmpD.no (by decide) ?_
            | refine Chk.mk ⟨rfl, trivial⟩ ?_
            | refine Chk.mk ⟨rfl, rfl, trivial⟩ ?_
            | refine Chk.mk ⟨rfl, rfl, rfl, trivial⟩ ?_
            | refine Chk.mk ⟨rfl, rfl, rfl, rfl, trivial⟩ ?_
            | refine Chk.mk ⟨rfl, rfl, rfl, rfl, rfl, trivial⟩ ?_
            | refine Chk.mk ⟨rfl, rfl, rfl, rfl, rfl, rfl, trivial⟩ ?_)
          have hb0 : (dG.now.getD 0 []).length = 4096 := by rw [getD_some hqG.now.z]; exact supA_length
          have hb1 : (dG.now.getD 1 []).length = 4096 := by
            rcases hqG.now.o with h | h
            · rw [getD_some h]; exact noughts_length
            · rw [getD_some h]; exact supB_length
          have hdr0 := dk_Read hG2 ((0 : Nat) : Int)
          rw [read_up hG2.wf hcG.1 (k := 0) (by rw [hqG.now.len]; omega)] at hdr0
          dsimp only at hdr0
          rw [hb0] at hdr0
          refine Tri.frame hdr0 [0] rfl rfl ?_
          rintro v J13 A' hJ13 ⟨aR, capR, chR, rfl, hR, rfl, rfl⟩
          refine ⟨by simp, ?_⟩
          repeat (first
            | refine LoadD.own 0 rfl _ rfl rfl ?_
            | refine LoadD.own 1 rfl _ rfl rfl ?_
            | refine LoadD.own 2 rfl _ rfl rfl ?_
            | refine LoadD.own 3 rfl _ rfl rfl ?_
            | refine LoadD.own 4 rfl _ rfl rfl ?_
            | refine LoadP.at 0 rfl _ rfl rfl ?_
            | refine LoadP.at 1 rfl _ rfl rfl ?_
            | refine LoadP.at 2 rfl _ rfl rfl ?_
            | refine LoadP.at 3 rfl _ rfl rfl ?_
            | refine LoadP.at 4 rfl _ rfl rfl ?_
            | refine StoreD.st 0 rfl rfl rfl ?_
            | refine StoreD.st 1 rfl rfl rfl ?_
            | refine StoreD.st 2 rfl rfl rfl ?_
            | refine StoreD.st 3 rfl rfl rfl ?_
            | refine StoreD.st 4 rfl rfl rfl ?_
            | refine CmpD.yes rfl ?_
            | refine CmpD.yes (by decide) ?_
            | refine CmpD.no (by decide) ?_
            | refine Chk.mk ⟨rfl, trivial⟩ ?_
            | refine Chk.mk ⟨rfl, rfl, trivial⟩ ?_
            | refine Chk.mk ⟨rfl, rfl, rfl, trivial⟩ ?_
            | refine Chk.mk ⟨rfl, rfl, rfl, rfl, trivial⟩ ?_
            | refine Chk.mk ⟨rfl, rfl, rfl, rfl, rfl, trivial⟩ ?_
            | refine Chk.mk ⟨rfl, rfl, rfl, rfl, rfl, rfl, trivial⟩ ?_)
          have hdr1 := dk_Read hG2 ((1 : Nat) : Int)
          rw [read_up hG2.wf hcG.1 (k := 1) (by rw [hqG.now.len]; omega)] at hdr1
          dsimp only at hdr1
          rw [hb1] at hdr1
          refine Tri.frame hdr1 [0] rfl rfl ?_
          rintro v J14 A' hJ14 ⟨aR1, capR1, chR1, rfl, hR1, rfl, rfl⟩
          refine ⟨by simp, ?_⟩
          repeat (first
            | refine LoadD.own 0 rfl _ rfl rfl ?_
            | refine LoadD.own 1 rfl _ rfl rfl ?_
            | refine LoadD.own 2 rfl _ rfl rfl ?_
            | refine LoadD.own 3 rfl _ rfl rfl ?_
            | refine LoadD.own 4 rfl _ rfl rfl ?_
            | refine LoadP.at 0 rfl _ rfl rfl ?_
            | refine LoadP.at 1 rfl _ rfl rfl ?_
            | refine LoadP.at 2 rfl _ rfl rfl ?_
            | refine LoadP.at 3 rfl _ rfl rfl ?_
            | refine LoadP.at 4 rfl _ rfl rfl ?_
            | refine StoreD.st 0 rfl rfl rfl ?_
            | refine StoreD.st 1 rfl rfl rfl ?_
            | refine StoreD.st 2 rfl rfl rfl ?_
            | refine StoreD.st 3 rfl rfl rfl ?_
            | refine StoreD.st 4 rfl rfl rfl ?_
            | refine CmpD.yes rfl ?_
            | refine CmpD.yes (by decide) ?_
            | refine CmpD.no (by decide) ?_
            | refine Chk.mk ⟨rfl, trivial⟩ ?_
            | refine Chk.mk ⟨rfl, rfl, trivial⟩ ?_
            | refine Chk.mk ⟨rfl, rfl, rfl, trivial⟩ ?_
            | refine Chk.mk ⟨rfl, rfl, rfl, rfl, trivial⟩ ?_
            | refine Chk.mk ⟨rfl, rfl, rfl, rfl, rfl, trivial⟩ ?_
            | refine Chk.mk ⟨rfl, rfl, rfl, rfl, rfl, rfl, trivial⟩ ?_)
          refine Tri.fix 4 rfl fun I15 hI15 hRm => ?_
          refine Tri.fix 5 rfl fun I16 hI16 hRm1 => ?_
          refine Tri.free (replay_Choose ((Rds.of_own hR hRm).mono hI16) (Rds.of_own hR1 hRm1) (by decide) (by decide)) ?_
          rintro v _ _ hJ ⟨rfl, rfl⟩
          have hJ716 : J7.le I16 := Imm.le_trans hle7 (Imm.le_trans hJ10 (Imm.le_trans hJ11 (Imm.le_trans hJ12 (Imm.le_trans hI15 hI16))))
          have hG16 := hG2.mono (Imm.le_trans hI15 hI16)
          rcases choose_again hqG.now with ⟨hb, hch⟩ | ⟨hb, hch⟩
          · rw [hch]
            conv => whnf
            intro b18
            repeat (first
              | refine LoadD.own 0 rfl _ rfl rfl ?_
              | refine LoadD.own 1 rfl _ rfl rfl ?_
              | refine LoadD.own 2 rfl _ rfl rfl ?_
              | refine LoadD.own 3 rfl _ rfl rfl ?_
              | refine LoadD.own 4 rfl _ rfl rfl ?_
              | refine LoadD.own 5 rfl _ rfl rfl ?_
              | refine LoadD.own 6 rfl _ rfl rfl ?_
              | refine LoadP.at 0 rfl _ rfl rfl ?_
              | refine LoadP.at 1 rfl _ rfl rfl ?_
              | refine LoadP.at 2 rfl _ rfl rfl ?_
              | refine LoadP.at 3 rfl _ rfl rfl ?_
              | refine LoadP.at 4 rfl _ rfl rfl ?_
              | refine LoadP.at 5 rfl _ rfl rfl ?_
              | refine LoadP.at 6 rfl _ rfl rfl ?_
              | refine StoreD.st 0 rfl rfl rfl ?_
              | refine StoreD.st 1 rfl rfl rfl ?_
              | refine StoreD.st 2 rfl rfl rfl ?_
              | refine StoreD.st 3 rfl rfl rfl ?_
              | refine StoreD.st 4 rfl rfl rfl ?_
              | refine StoreD.st 5 rfl rfl rfl ?_
              | refine StoreD.st 6 rfl rfl rfl ?_
              | refine CmpD.yes rfl ?_
              | refine CmpD.yes (by decide) ?_
              | refine CmpD.no (by decide) ?_
              | refine Chk.mk ⟨rfl, trivial⟩ ?_
              | refine Chk.mk ⟨rfl, rfl, trivial⟩ ?_
              | refine Chk.mk ⟨rfl, rfl, rfl, trivial⟩ ?_
              | refine Chk.mk ⟨rfl, rfl, rfl, rfl, trivial⟩ ?_
              | refine Chk.mk ⟨rfl, rfl, rfl, rfl, rfl, trivial⟩ ?_
              | refine Chk.mk ⟨rfl, rfl, rfl, rfl, rfl, rfl, trivial⟩ ?_)
            refine CodeF.sched [[], [0], [0, 1], [0, 1, 2], [0, 1, 2], [0, 1, 2, 3, 4], [0, 1, 2, 3, 4, 5], [0, 1, 2, 3, 4, 5, 6], [0, 1, 2, 3, 4, 5, 6, 7], [0, 1, 2, 3, 4, 5, 6, 7, 8], [0, 1, 2, 3, 4, 5, 6, 7, 8], [0, 1, 2, 3, 4, 5, 6, 7, 8, 9, 10], [0, 1, 2, 3, 4, 5, 6, 7, 8, 9, 10, 11], [0, 1, 2, 3, 4, 5, 6, 7, 8, 9, 10, 11, 12], [0, 1, 2, 3, 4, 5, 6, 7, 8, 9, 10, 11, 12, 13]] [0, 1, 2, 3, 4, 5, 6, 7, 8, 9, 10, 11, 12, 13, 14] (by kernel_rfl) ?_
            repeat (first
              | refine LoadD.own 0 rfl _ rfl rfl ?_
              | refine LoadD.own 1 rfl _ rfl rfl ?_
              | refine LoadD.own 2 rfl _ rfl rfl ?_
              | refine LoadD.own 3 rfl _ rfl rfl ?_
              | refine LoadD.own 4 rfl _ rfl rfl ?_
              | refine LoadD.own 5 rfl _ rfl rfl ?_
              | refine LoadD.own 6 rfl _ rfl rfl ?_
              | refine LoadP.at 0 rfl _ rfl rfl ?_
              | refine LoadP.at 1 rfl _ rfl rfl ?_
              | refine LoadP.at 2 rfl _ rfl rfl ?_
              | refine LoadP.at 3 rfl _ rfl rfl ?_
              | refine LoadP.at 4 rfl _ rfl rfl ?_
              | refine LoadP.at 5 rfl _ rfl rfl ?_
              | refine LoadP.at 6 rfl _ rfl rfl ?_
              | refine StoreD.st 0 rfl rfl rfl ?_
              | refine StoreD.st 1 rfl rfl rfl ?_
              | refine StoreD.st 2 rfl rfl rfl ?_
              | refine StoreD.st 3 rfl rfl rfl ?_
              | refine StoreD.st 4 rfl rfl rfl ?_
              | refine StoreD.st 5 rfl rfl rfl ?_
              | refine StoreD.st 6 rfl rfl rfl ?_
              | refine CmpD.yes rfl ?_
              | refine CmpD.yes (by decide) ?_
              | refine CmpD.no (by decide) ?_
              | refine Chk.mk ⟨rfl, trivial⟩ ?_
              | refine Chk.mk ⟨rfl, rfl, trivial⟩ ?_
              | refine Chk.mk ⟨rfl, rfl, rfl, trivial⟩ ?_
              | refine Chk.mk ⟨rfl, rfl, rfl, rfl, trivial⟩ ?_
              | refine Chk.mk ⟨rfl, rfl, rfl, rfl, rfl, trivial⟩ ?_
              | refine Chk.mk ⟨rfl, rfl, rfl, rfl, rfl, rfl, trivial⟩ ?_)
            refine Tri.free (law_of 2 9 I16) ?_
            rintro v _ _ _ ⟨rfl, rfl⟩
            repeat (first
              | refine LoadD.own 0 rfl _ rfl rfl ?_
              | refine LoadD.own 1 rfl _ rfl rfl ?_
              | refine LoadD.own 2 rfl _ rfl rfl ?_
              | refine LoadD.own 3 rfl _ rfl rfl ?_
              | refine LoadD.own 4 rfl _ rfl rfl ?_
              | refine LoadD.own 5 rfl _ rfl rfl ?_
              | refine LoadD.own 6 rfl _ rfl rfl ?_
              | refine LoadP.at 0 rfl _ rfl rfl ?_
              | refine LoadP.at 1 rfl _ rfl rfl ?_
              | refine LoadP.at 2 rfl _ rfl rfl ?_
              | refine LoadP.at 3 rfl _ rfl rfl ?_
              | refine LoadP.at 4 rfl _ rfl rfl ?_
              | refine LoadP.at 5 rfl _ rfl rfl ?_
              | refine LoadP.at 6 rfl _ rfl rfl ?_
              | refine StoreD.st 0 rfl rfl rfl ?_
              | refine StoreD.st 1 rfl rfl rfl ?_
              | refine StoreD.st 2 rfl rfl rfl ?_
              | refine StoreD.st 3 rfl rfl rfl ?_
              | refine StoreD.st 4 rfl rfl rfl ?_
              | refine StoreD.st 5 rfl rfl rfl ?_
              | refine StoreD.st 6 rfl rfl rfl ?_
              | refine CmpD.yes rfl ?_
              | refine CmpD.yes (by decide) ?_
              | refine CmpD.no (by decide) ?_
              | refine Chk.mk ⟨rfl, trivial⟩ ?_
              | refine Chk.mk ⟨rfl, rfl, trivial⟩ ?_
              | refine Chk.mk ⟨rfl, rfl, rfl, trivial⟩ ?_
              | refine Chk.mk ⟨rfl, rfl, rfl, rfl, trivial⟩ ?_
              | refine Chk.mk ⟨rfl, rfl, rfl, rfl, rfl, trivial⟩ ?_
              | refine Chk.mk ⟨rfl, rfl, rfl, rfl, rfl, rfl, trivial⟩ ?_)
            refine sup_cmp (superOf 2 9) (superOf 2 9) rfl (.inr rfl) rfl rfl ?_
            refine CmpD.yes rfl ?_
            repeat (first
              | refine LoadD.own 0 rfl _ rfl rfl ?_
              | refine LoadD.own 1 rfl _ rfl rfl ?_
              | refine LoadD.own 2 rfl _ rfl rfl ?_
              | refine LoadD.own 3 rfl _ rfl rfl ?_
              | refine LoadD.own 4 rfl _ rfl rfl ?_
              | refine LoadD.own 5 rfl _ rfl rfl ?_
              | refine LoadD.own 6 rfl _ rfl rfl ?_
              | refine LoadP.at 0 rfl _ rfl rfl ?_
              | refine LoadP.at 1 rfl _ rfl rfl ?_
              | refine LoadP.at 2 rfl _ rfl rfl ?_
              | refine LoadP.at 3 rfl _ rfl rfl ?_
              | refine LoadP.at 4 rfl _ rfl rfl ?_
              | refine LoadP.at 5 rfl _ rfl rfl ?_
              | refine LoadP.at 6 rfl _ rfl rfl ?_
              | refine StoreD.st 0 rfl rfl rfl ?_
              | refine StoreD.st 1 rfl rfl rfl ?_
              | refine StoreD.st 2 rfl rfl rfl ?_
              | refine StoreD.st 3 rfl rfl rfl ?_
              | refine StoreD.st 4 rfl rfl rfl ?_
              | refine StoreD.st 5 rfl rfl rfl ?_
              | refine StoreD.st 6 rfl rfl rfl ?_
              | refine CmpD.yes rfl ?_
              | refine CmpD.yes (by decide) ?_
              | refine CmpD.no (by decide) ?_
              | refine Chk.mk ⟨rfl, trivial⟩ ?_
              | refine Chk.mk ⟨rfl, rfl, trivial⟩ ?_
              | refine Chk.mk ⟨rfl, rfl, rfl, trivial⟩ ?_
              | refine Chk.mk ⟨rfl, rfl, rfl, rfl, trivial⟩ ?_
              | refine Chk.mk ⟨rfl, rfl, rfl, rfl, rfl, trivial⟩ ?_
              | refine Chk.mk ⟨rfl, rfl, rfl, rfl, rfl, rfl, trivial⟩ ?_)
            refine ToD.i64 (by omega) (by omega) ?_
            refine ⟨_, Drop.pick [0, 1, 2] _ rfl, ⟨m + 1, dG, chG, by omega, by omega, hG16, hqG, hcG, hwG, hfG, hJ716, rfl, rfl⟩, ?_⟩
            show ((nC : Int) - ((m : Int) + 1)).toNat < ((nC : Int) - (m : Int)).toNat; omega
          · rw [hch]
            by_cases hv2 : vE = 0
            · exfalso
              obtain ⟨w1, w2⟩ := hdone hv2
              have w3 : dG.now[1]? = some supB := by rw [hnow w1]; exact w2
              rw [getD_some w3] at hb
              exact hz hb.symm
            first
            | exact absurd hv hv2
            | conv => whnf
              intro b18
              repeat (first
                | refine LoadD.own 0 rfl _ rfl rfl ?_
                | refine LoadD.own 1 rfl _ rfl rfl ?_
                | refine LoadD.own 2 rfl _ rfl rfl ?_
                | refine LoadD.own 3 rfl _ rfl rfl ?_
                | refine LoadD.own 4 rfl _ rfl rfl ?_
                | refine LoadD.own 5 rfl _ rfl rfl ?_
                | refine LoadD.own 6 rfl _ rfl rfl ?_
                | refine LoadP.at 0 rfl _ rfl rfl ?_
                | refine LoadP.at 1 rfl _ rfl rfl ?_
                | refine LoadP.at 2 rfl _ rfl rfl ?_
                | refine LoadP.at 3 rfl _ rfl rfl ?_
                | refine LoadP.at 4 rfl _ rfl rfl ?_
                | refine LoadP.at 5 rfl _ rfl rfl ?_
                | refine LoadP.at 6 rfl _ rfl rfl ?_
                | refine StoreD.st 0 rfl rfl rfl ?_
                | refine StoreD.st 1 rfl rfl rfl ?_
                | refine StoreD.st 2 rfl rfl rfl ?_
                | refine StoreD.st 3 rfl rfl rfl ?_
                | refine StoreD.st 4 rfl rfl rfl ?_
                | refine StoreD.st 5 rfl rfl rfl ?_
                | refine StoreD.st 6 rfl rfl rfl ?_
                | refine CmpD.yes rfl ?_
                | refine CmpD.yes (by decide) ?_
                | refine CmpD.no (by decide) ?_
                | refine Chk.mk ⟨rfl, trivial⟩ ?_
                | refine Chk.mk ⟨rfl, rfl, trivial⟩ ?_
                | refine Chk.mk ⟨rfl, rfl, rfl, trivial⟩ ?_
                | refine Chk.mk ⟨rfl, rfl, rfl, rfl, trivial⟩ ?_
                | refine Chk.mk ⟨rfl, rfl, rfl, rfl, rfl, trivial⟩ ?_
                | refine Chk.mk ⟨rfl, rfl, rfl, rfl, rfl, rfl, trivial⟩ ?_)
              refine CodeF.sched [[], [0], [0, 1], [0, 1, 2], [0, 1, 2], [0, 1, 2, 3, 4], [0, 1, 2, 3, 4, 5], [0, 1, 2, 3, 4, 5, 6], [0, 1, 2, 3, 4, 5, 6, 7], [0, 1, 2, 3, 4, 5, 6, 7, 8], [0, 1, 2, 3, 4, 5, 6, 7, 8], [0, 1, 2, 3, 4, 5, 6, 7, 8, 9, 10], [0, 1, 2, 3, 4, 5, 6, 7, 8, 9, 10, 11], [0, 1, 2, 3, 4, 5, 6, 7, 8, 9, 10, 11, 12], [0, 1, 2, 3, 4, 5, 6, 7, 8, 9, 10, 11, 12, 13]] [0, 1, 2, 3, 4, 5, 6, 7, 8, 9, 10, 11, 12, 13, 14] (by kernel_rfl) ?_
              repeat (first
                | refine LoadD.own 0 rfl _ rfl rfl ?_
                | refine LoadD.own 1 rfl _ rfl rfl ?_
                | refine LoadD.own 2 rfl _ rfl rfl ?_
                | refine LoadD.own 3 rfl _ rfl rfl ?_
                | refine LoadD.own 4 rfl _ rfl rfl ?_
                | refine LoadD.own 5 rfl _ rfl rfl ?_
                | refine LoadD.own 6 rfl _ rfl rfl ?_
                | refine LoadP.at 0 rfl _ rfl rfl ?_
                | refine LoadP.at 1 rfl _ rfl rfl ?_
                | refine LoadP.at 2 rfl _ rfl rfl ?_
                | refine LoadP.at 3 rfl _ rfl rfl ?_
                | refine LoadP.at 4 rfl _ rfl rfl ?_
                | refine LoadP.at 5 rfl _ rfl rfl ?_
                | refine LoadP.at 6 rfl _ rfl rfl ?_
                | refine StoreD.st 0 rfl rfl rfl ?_
                | refine StoreD.st 1 rfl rfl rfl ?_
                | refine StoreD.st 2 rfl rfl rfl ?_
                | refine StoreD.st 3 rfl rfl rfl ?_
                | refine StoreD.st 4 rfl rfl rfl ?_
                | refine StoreD.st 5 rfl rfl rfl ?_
                | refine StoreD.st 6 rfl rfl rfl ?_
                | refine CmpD.yes rfl ?_
                | refine CmpD.yes (by decide) ?_
                | refine CmpD.no (by decide) ?_
                | refine Chk.mk ⟨rfl, trivial⟩ ?_
                | refine Chk.mk ⟨rfl, rfl, trivial⟩ ?_
                | refine Chk.mk ⟨rfl, rfl, rfl, trivial⟩ ?_
                | refine Chk.mk ⟨rfl, rfl, rfl, rfl, trivial⟩ ?_
                | refine Chk.mk ⟨rfl, rfl, rfl, rfl, rfl, trivial⟩ ?_
                | refine Chk.mk ⟨rfl, rfl, rfl, rfl, rfl, rfl, trivial⟩ ?_)
              refine Tri.free (law_of 2 9 I16) ?_
              rintro v _ _ _ ⟨rfl, rfl⟩
              repeat (first
                | refine LoadD.own 0 rfl _ rfl rfl ?_
                | refine LoadD.own 1 rfl _ rfl rfl ?_
                | refine LoadD.own 2 rfl _ rfl rfl ?_
                | refine LoadD.own 3 rfl _ rfl rfl ?_
                | refine LoadD.own 4 rfl _ rfl rfl ?_
                | refine LoadD.own 5 rfl _ rfl rfl ?_
                | refine LoadD.own 6 rfl _ rfl rfl ?_
                | refine LoadP.at 0 rfl _ rfl rfl ?_
                | refine LoadP.at 1 rfl _ rfl rfl ?_
                | refine LoadP.at 2 rfl _ rfl rfl ?_
                | refine LoadP.at 3 rfl _ rfl rfl ?_
                | refine LoadP.at 4 rfl _ rfl rfl ?_
                | refine LoadP.at 5 rfl _ rfl rfl ?_
                | refine LoadP.at 6 rfl _ rfl rfl ?_
                | refine StoreD.st 0 rfl rfl rfl ?_
                | refine StoreD.st 1 rfl rfl rfl ?_
                | refine StoreD.st 2 rfl rfl rfl ?_
                | refine StoreD.st 3 rfl rfl rfl ?_
                | refine StoreD.st 4 rfl rfl rfl ?_
                | refine StoreD.st 5 rfl rfl rfl ?_
                | refine StoreD.st 6 rfl rfl rfl ?_
                | refine CmpD.yes rfl ?_
                | refine CmpD.yes (by decide) ?_
                | refine CmpD.no (by decide) ?_
                | refine Chk.mk ⟨rfl, trivial⟩ ?_
                | refine Chk.mk ⟨rfl, rfl, trivial⟩ ?_
                | refine Chk.mk ⟨rfl, rfl, rfl, trivial⟩ ?_
                | refine Chk.mk ⟨rfl, rfl, rfl, rfl, trivial⟩ ?_
                | refine Chk.mk ⟨rfl, rfl, rfl, rfl, rfl, trivial⟩ ?_
                | refine Chk.mk ⟨rfl, rfl, rfl, rfl, rfl, rfl, trivial⟩ ?_)
              refine sup_cmp (superOf 1 7) (superOf 2 9) rfl (.inr rfl) rfl rfl ?_
              refine CmpD.no (by simp [superOf]) ?_
              repeat (first
                | refine LoadD.own 0 rfl _ rfl rfl ?_
                | refine LoadD.own 1 rfl _ rfl rfl ?_
                | refine LoadD.own 2 rfl _ rfl rfl ?_
                | refine LoadD.own 3 rfl _ rfl rfl ?_
                | refine LoadD.own 4 rfl _ rfl rfl ?_
                | refine LoadD.own 5 rfl _ rfl rfl ?_
                | refine LoadD.own 6 rfl _ rfl rfl ?_
                | refine LoadP.at 0 rfl _ rfl rfl ?_
                | refine LoadP.at 1 rfl _ rfl rfl ?_
                | refine LoadP.at 2 rfl _ rfl rfl ?_
                | refine LoadP.at 3 rfl _ rfl rfl ?_
                | refine LoadP.at 4 rfl _ rfl rfl ?_
                | refine LoadP.at 5 rfl _ rfl rfl ?_
                | refine LoadP.at 6 rfl _ rfl rfl ?_
                | refine StoreD.st 0 rfl rfl rfl ?_
                | refine StoreD.st 1 rfl rfl rfl ?_
                | refine StoreD.st 2 rfl rfl rfl ?_
                | refine StoreD.st 3 rfl rfl rfl ?_
                | refine StoreD.st 4 rfl rfl rfl ?_
                | refine StoreD.st 5 rfl rfl rfl ?_
                | refine StoreD.st 6 rfl rfl rfl ?_
                | refine CmpD.yes rfl ?_
                | refine CmpD.yes (by decide) ?_
                | refine CmpD.no (by decide) ?_
                | refine Chk.mk ⟨rfl, trivial⟩ ?_
                | refine Chk.mk ⟨rfl, rfl, trivial⟩ ?_
                | refine Chk.mk ⟨rfl, rfl, rfl, trivial⟩ ?_
                | refine Chk.mk ⟨rfl, rfl, rfl, rfl, trivial⟩ ?_
                | refine Chk.mk ⟨rfl, rfl, rfl, rfl, rfl, trivial⟩ ?_
                | refine Chk.mk ⟨rfl, rfl, rfl, rfl, rfl, rfl, trivial⟩ ?_)
              refine Tri.free (law_of 1 7 I16) ?_
              rintro v _ _ _ ⟨rfl, rfl⟩
              repeat (first
                | refine LoadD.own 0 rfl _ rfl rfl ?_
                | refine LoadD.own 1 rfl _ rfl rfl ?_
                | refine LoadD.own 2 rfl _ rfl rfl ?_
                | refine LoadD.own 3 rfl _ rfl rfl ?_
                | refine LoadD.own 4 rfl _ rfl rfl ?_
                | refine LoadD.own 5 rfl _ rfl rfl ?_
                | refine LoadD.own 6 rfl _ rfl rfl ?_
                | refine LoadP.at 0 rfl _ rfl rfl ?_
                | refine LoadP.at 1 rfl _ rfl rfl ?_
                | refine LoadP.at 2 rfl _ rfl rfl ?_
                | refine LoadP.at 3 rfl _ rfl rfl ?_
                | refine LoadP.at 4 rfl _ rfl rfl ?_
                | refine LoadP.at 5 rfl _ rfl rfl ?_
                | refine LoadP.at 6 rfl _ rfl rfl ?_
                | refine StoreD.st 0 rfl rfl rfl ?_
                | refine StoreD.st 1 rfl rfl rfl ?_
                | refine StoreD.st 2 rfl rfl rfl ?_
                | refine StoreD.st 3 rfl rfl rfl ?_
                | refine StoreD.st 4 rfl rfl rfl ?_
                | refine StoreD.st 5 rfl rfl rfl ?_
                | refine StoreD.st 6 rfl rfl rfl ?_
                | refine CmpD.yes rfl ?_
                | refine CmpD.yes (by decide) ?_
                | refine CmpD.no (by decide) ?_
                | refine Chk.mk ⟨rfl, trivial⟩ ?_
                | refine Chk.mk ⟨rfl, rfl, trivial⟩ ?_
                | refine Chk.mk ⟨rfl, rfl, rfl, trivial⟩ ?_
                | refine Chk.mk ⟨rfl, rfl, rfl, rfl, trivial⟩ ?_
                | refine Chk.mk ⟨rfl, rfl, rfl, rfl, rfl, trivial⟩ ?_
                | refine Chk.mk ⟨rfl, rfl, rfl, rfl, rfl, rfl, trivial⟩ ?_)
              refine sup_cmp (superOf 1 7) (superOf 1 7) rfl (.inr rfl) rfl rfl ?_
              refine CmpD.yes rfl ?_
              repeat (first
                | refine LoadD.own 0 rfl _ rfl rfl ?_
                | refine LoadD.own 1 rfl _ rfl rfl ?_
                | refine LoadD.own 2 rfl _ rfl rfl ?_
                | refine LoadD.own 3 rfl _ rfl rfl ?_
                | refine LoadD.own 4 rfl _ rfl rfl ?_
                | refine LoadD.own 5 rfl _ rfl rfl ?_
                | refine LoadD.own 6 rfl _ rfl rfl ?_
                | refine LoadP.at 0 rfl _ rfl rfl ?_
                | refine LoadP.at 1 rfl _ rfl rfl ?_
                | refine LoadP.at 2 rfl _ rfl rfl ?_
                | refine LoadP.at 3 rfl _ rfl rfl ?_
                | refine LoadP.at 4 rfl _ rfl rfl ?_
                | refine LoadP.at 5 rfl _ rfl rfl ?_
                | refine LoadP.at 6 rfl _ rfl rfl ?_
                | refine StoreD.st 0 rfl rfl rfl ?_
                | refine StoreD.st 1 rfl rfl rfl ?_
                | refine StoreD.st 2 rfl rfl rfl ?_
                | refine StoreD.st 3 rfl rfl rfl ?_
                | refine StoreD.st 4 rfl rfl rfl ?_
                | refine StoreD.st 5 rfl rfl rfl ?_
                | refine StoreD.st 6 rfl rfl rfl ?_
                | refine CmpD.yes rfl ?_
                | refine CmpD.yes (by decide) ?_
                | refine CmpD.no (by decide) ?_
                | refine Chk.mk ⟨rfl, trivial⟩ ?_
                | refine Chk.mk ⟨rfl, rfl, trivial⟩ ?_
                | refine Chk.mk ⟨rfl, rfl, rfl, trivial⟩ ?_
                | refine Chk.mk ⟨rfl, rfl, rfl, rfl, trivial⟩ ?_
                | refine Chk.mk ⟨rfl, rfl, rfl, rfl, rfl, trivial⟩ ?_
                | refine Chk.mk ⟨rfl, rfl, rfl, rfl, rfl, rfl, trivial⟩ ?_)
              refine ToD.i64 (by omega) (by omega) ?_
              refine ⟨_, Drop.pick [0, 1, 2] _ rfl, ⟨m + 1, dG, chG, by omega, by omega, hG16, hqG, hcG, hwG, hfG, hJ716, rfl, rfl⟩, ?_⟩
              show ((nC : Int) - ((m : Int) + 1)).toNat < ((nC : Int) - (m : Int)).toNat; omega
        · refine CmpD.no hv ?_
          repeat (first
            | refine LoadD.own 0 rfl _ rfl rfl ?_
            | refine LoadD.own 1 rfl _ rfl rfl ?_
            | refine LoadD.own 2 rfl _ rfl rfl ?_
            | refine LoadD.own 3 rfl _ rfl rfl ?_
            | refine LoadD.own 4 rfl _ rfl rfl ?_
            | refine LoadP.at 0 rfl _ rfl rfl ?_
            | refine LoadP.at 1 rfl _ rfl rfl ?_
            | refine LoadP.at 2 rfl _ rfl rfl ?_
            | refine LoadP.at 3 rfl _ rfl rfl ?_
            | refine LoadP.at 4 rfl _ rfl rfl ?_
            | refine StoreD.st 0 rfl rfl rfl ?_
            | refine StoreD.st 1 rfl rfl rfl ?_
            | refine StoreD.st 2 rfl rfl rfl ?_
            | refine StoreD.st 3 rfl rfl rfl ?_
            | refine StoreD.st 4 rfl rfl rfl ?_
            | refine CmpD.yes rfl ?_
            | refine CmpD.yes (by decide) ?_
            | refine CmpD.no (by decide) ?_
            | refine Chk.mk ⟨rfl, trivial⟩ ?_
            | refine Chk.mk ⟨rfl, rfl, trivial⟩ ?_
            | refine Chk.mk ⟨rfl, rfl, rfl, trivial⟩ ?_
            | refine Chk.mk ⟨rfl, rfl, rfl, rfl, trivial⟩ ?_
            | refine Chk.mk ⟨rfl, rfl, rfl, rfl, rfl, trivial⟩ ?_
            | refine Chk.mk ⟨rfl, rfl, rfl, rfl, rfl, rfl, trivial⟩ ?_)
          have hIJ11 := Imm.le_trans hIJ9 (Imm.le_trans hJ10 hJ11)
          refine Tri.frame1 0 rfl (dk_Crash hE (hfE.mono (by omega)) aK nK capK keep (u4.mono hIJ11) tn sec u3) ?_
          rintro v J12 A' hJ12 ⟨rfl, chG, hG2, rfl⟩
          refine ⟨_, rfl, ?_⟩
          have hqG := hqE.crash keep tn sec
          have hcG : (dE.crash keep tn sec).Calm := ⟨rfl, rfl, rfl⟩
          have hwG : (dE.crash keep tn sec).writes = [] := rfl
          have hfG : (dE.crash keep tn sec).Few (1 + 100 * (m + 1)) := ⟨by show ([] : List PImg).length ≤ _; simp, hfE.2.1, hfE.2.2⟩
          have hnow : dE.writes = [] → (dE.crash keep tn sec).now = dE.safe := fun h => by show crashK keep tn sec 0 dE.writes dE.safe = _; rw [h]; rfl
          generalize dE.crash keep tn sec = dG at *
          repeat (first
            | refine LoadD.own 0 rfl _ rfl rfl ?_
            | refine LoadD.own 1 rfl _ rfl rfl ?_
            | refine LoadD.own 2 rfl _ rfl rfl ?_
            | refine LoadD.own 3 rfl _ rfl rfl ?_
            | refine LoadD.own 4 rfl _ rfl rfl ?_
            | refine LoadP.at 0 rfl _ rfl rfl ?_
            | refine LoadP.at 1 rfl _ rfl rfl ?_
            | refine LoadP.at 2 rfl _ rfl rfl ?_
            | refine LoadP.at 3 rfl _ rfl rfl ?_
            | refine LoadP.at 4 rfl _ rfl rfl ?_
            | refine StoreD.st 0 rfl rfl rfl ?_
            | refine StoreD.st 1 rfl rfl rfl ?_
            | refine StoreD.st 2 rfl rfl rfl ?_
            | refine StoreD.st 3 rfl rfl rfl ?_
            | refine StoreD.st 4 rfl rfl rfl ?_
            | refine CmpD.yes rfl ?_
            | refine CmpD.yes (by decide) ?_
            | refine CmpD.no (by decide) ?_
            | refine Chk.mk ⟨rfl, trivial⟩ ?_
            | refine Chk.mk ⟨rfl, rfl, trivial⟩ ?_
            | refine Chk.mk ⟨rfl, rfl, rfl, trivial⟩ ?_
            | refine Chk.mk ⟨rfl, rfl, rfl, rfl, trivial⟩ ?_
            | refine Chk.mk ⟨rfl, rfl, rfl, rfl, rfl, trivial⟩ ?_
            | refine Chk.mk ⟨rfl, rfl, rfl, rfl, rfl, rfl, trivial⟩ ?_)
          have hb0 : (dG.now.getD 0 []).length = 4096 := by rw [getD_some hqG.now.z]; exact supA_length
          have hb1 : (dG.now.getD 1 []).length = 4096 := by
            rcases hqG.now.o with h | h
            · rw [getD_some h]; exact noughts_length
            · rw [getD_some h]; exact supB_length
          have hdr0 := dk_Read hG2 ((0 : Nat) : Int)
          rw [read_up hG2.wf hcG.1 (k := 0) (by rw [hqG.now.len]; omega)] at hdr0
          dsimp only at hdr0
          rw [hb0] at hdr0
          refine Tri.frame hdr0 [0] rfl rfl ?_
          rintro v J13 A' hJ13 ⟨aR, capR, chR, rfl, hR, rfl, rfl⟩
          refine ⟨by simp, ?_⟩
          repeat (first
            | refine LoadD.own 0 rfl _ rfl rfl ?_
            | refine LoadD.own 1 rfl _ rfl rfl ?_
            | refine LoadD.own 2 rfl _ rfl rfl ?_
            | refine LoadD.own 3 rfl _ rfl rfl ?_
            | refine LoadD.own 4 rfl _ rfl rfl ?_
            | refine LoadP.at 0 rfl _ rfl rfl ?_
            | refine LoadP.at 1 rfl _ rfl rfl ?_
            | refine LoadP.at 2 rfl _ rfl rfl ?_
            | refine LoadP.at 3 rfl _ rfl rfl ?_
            | refine LoadP.at 4 rfl _ rfl rfl ?_
            | refine StoreD.st 0 rfl rfl rfl ?_
            | refine StoreD.st 1 rfl rfl rfl ?_
            | refine StoreD.st 2 rfl rfl rfl ?_
            | refine StoreD.st 3 rfl rfl rfl ?_
            | refine StoreD.st 4 rfl rfl rfl ?_
            | refine CmpD.yes rfl ?_
            | refine CmpD.yes (by decide) ?_
            | refine CmpD.no (by decide) ?_
            | refine Chk.mk ⟨rfl, trivial⟩ ?_
            | refine Chk.mk ⟨rfl, rfl, trivial⟩ ?_
            | refine Chk.mk ⟨rfl, rfl, rfl, trivial⟩ ?_
            | refine Chk.mk ⟨rfl, rfl, rfl, rfl, trivial⟩ ?_
            | refine Chk.mk ⟨rfl, rfl, rfl, rfl, rfl, trivial⟩ ?_
            | refine Chk.mk ⟨rfl, rfl, rfl, rfl, rfl, rfl, trivial⟩ ?_)
          have hdr1 := dk_Read hG2 ((1 : Nat) : Int)
          rw [read_up hG2.wf hcG.1 (k := 1) (by rw [hqG.now.len]; omega)] at hdr1
          dsimp only at hdr1
          rw [hb1] at hdr1
          refine Tri.frame hdr1 [0] rfl rfl ?_
          rintro v J14 A' hJ14 ⟨aR1, capR1, chR1, rfl, hR1, rfl, rfl⟩
          refine ⟨by simp, ?_⟩
          repeat (first
            | refine LoadD.own 0 rfl _ rfl rfl ?_
            | refine LoadD.own 1 rfl _ rfl rfl ?_
            | refine LoadD.own 2 rfl _ rfl rfl ?_
            | refine LoadD.own 3 rfl _ rfl rfl ?_
            | refine LoadD.own 4 rfl _ rfl rfl ?_
            | refine LoadP.at 0 rfl _ rfl rfl ?_
            | refine LoadP.at 1 rfl _ rfl rfl ?_
            | refine LoadP.at 2 rfl _ rfl rfl ?_
            | refine LoadP.at 3 rfl _ rfl rfl ?_
            | refine LoadP.at 4 rfl _ rfl rfl ?_
            | refine StoreD.st 0 rfl rfl rfl ?_
            | refine StoreD.st 1 rfl rfl rfl ?_
            | refine StoreD.st 2 rfl rfl rfl ?_
            | refine StoreD.st 3 rfl rfl rfl ?_
            | refine StoreD.st 4 rfl rfl rfl ?_
            | refine CmpD.yes rfl ?_
            | refine CmpD.yes (by decide) ?_
            | refine CmpD.no (by decide) ?_
            | refine Chk.mk ⟨rfl, trivial⟩ ?_
            | refine Chk.mk ⟨rfl, rfl, trivial⟩ ?_
            | refine Chk.mk ⟨rfl, rfl, rfl, trivial⟩ ?_
            | refine Chk.mk ⟨rfl, rfl, rfl, rfl, trivial⟩ ?_
            | refine Chk.mk ⟨rfl, rfl, rfl, rfl, rfl, trivial⟩ ?_
            | refine Chk.mk ⟨rfl, rfl, rfl, rfl, rfl, rfl, trivial⟩ ?_)
          refine Tri.fix 4 rfl fun I15 hI15 hRm => ?_
          refine Tri.fix 5 rfl fun I16 hI16 hRm1 => ?_
          refine Tri.free (replay_Choose ((Rds.of_own hR hRm).mono hI16) (Rds.of_own hR1 hRm1) (by decide) (by decide)) ?_
          rintro v _ _ hJ ⟨rfl, rfl⟩
          have hJ716 : J7.le I16 := Imm.le_trans hle7 (Imm.le_trans hJ10 (Imm.le_trans hJ11 (Imm.le_trans hJ12 (Imm.le_trans hI15 hI16))))
          have hG16 := hG2.mono (Imm.le_trans hI15 hI16)
          rcases choose_again hqG.now with ⟨hb, hch⟩ | ⟨hb, hch⟩
          · rw [hch]
            conv => whnf
            intro b18
            repeat (first
              | refine LoadD.own 0 rfl _ rfl rfl ?_
              | refine LoadD.own 1 rfl _ rfl rfl ?_
              | refine LoadD.own 2 rfl _ rfl rfl ?_
              | refine LoadD.own 3 rfl _ rfl rfl ?_
              | refine LoadD.own 4 rfl _ rfl rfl ?_
              | refine LoadD.own 5 rfl _ rfl rfl ?_
              | refine LoadD.own 6 rfl _ rfl rfl ?_
              | refine LoadP.at 0 rfl _ rfl rfl ?_
              | refine LoadP.at 1 rfl _ rfl rfl ?_
              | refine LoadP.at 2 rfl _ rfl rfl ?_
              | refine LoadP.at 3 rfl _ rfl rfl ?_
              | refine LoadP.at 4 rfl _ rfl rfl ?_
              | refine LoadP.at 5 rfl _ rfl rfl ?_
              | refine LoadP.at 6 rfl _ rfl rfl ?_
              | refine StoreD.st 0 rfl rfl rfl ?_
              | refine StoreD.st 1 rfl rfl rfl ?_
              | refine StoreD.st 2 rfl rfl rfl ?_
              | refine StoreD.st 3 rfl rfl rfl ?_
              | refine StoreD.st 4 rfl rfl rfl ?_
              | refine StoreD.st 5 rfl rfl rfl ?_
              | refine StoreD.st 6 rfl rfl rfl ?_
              | refine CmpD.yes rfl ?_
              | refine CmpD.yes (by decide) ?_
              | refine CmpD.no (by decide) ?_
              | refine Chk.mk ⟨rfl, trivial⟩ ?_
              | refine Chk.mk ⟨rfl, rfl, trivial⟩ ?_
              | refine Chk.mk ⟨rfl, rfl, rfl, trivial⟩ ?_
              | refine Chk.mk ⟨rfl, rfl, rfl, rfl, trivial⟩ ?_
              | refine Chk.mk ⟨rfl, rfl, rfl, rfl, rfl, trivial⟩ ?_
              | refine Chk.mk ⟨rfl, rfl, rfl, rfl, rfl, rfl, trivial⟩ ?_)
            refine CodeF.sched [[], [0], [0, 1], [0, 1, 2], [0, 1, 2], [0, 1, 2, 3, 4], [0, 1, 2, 3, 4, 5], [0, 1, 2, 3, 4, 5, 6], [0, 1, 2, 3, 4, 5, 6, 7], [0, 1, 2, 3, 4, 5, 6, 7, 8], [0, 1, 2, 3, 4, 5, 6, 7, 8], [0, 1, 2, 3, 4, 5, 6, 7, 8, 9, 10], [0, 1, 2, 3, 4, 5, 6, 7, 8, 9, 10, 11], [0, 1, 2, 3, 4, 5, 6, 7, 8, 9, 10, 11, 12], [0, 1, 2, 3, 4, 5, 6, 7, 8, 9, 10, 11, 12, 13]] [0, 1, 2, 3, 4, 5, 6, 7, 8, 9, 10, 11, 12, 13, 14] (by kernel_rfl) ?_
            repeat (first
              | refine LoadD.own 0 rfl _ rfl rfl ?_
              | refine LoadD.own 1 rfl _ rfl rfl ?_
              | refine LoadD.own 2 rfl _ rfl rfl ?_
              | refine LoadD.own 3 rfl _ rfl rfl ?_
              | refine LoadD.own 4 rfl _ rfl rfl ?_
              | refine LoadD.own 5 rfl _ rfl rfl ?_
              | refine LoadD.own 6 rfl _ rfl rfl ?_
              | refine LoadP.at 0 rfl _ rfl rfl ?_
              | refine LoadP.at 1 rfl _ rfl rfl ?_
              | refine LoadP.at 2 rfl _ rfl rfl ?_
              | refine LoadP.at 3 rfl _ rfl rfl ?_
              | refine LoadP.at 4 rfl _ rfl rfl ?_
              | refine LoadP.at 5 rfl _ rfl rfl ?_
              | refine LoadP.at 6 rfl _ rfl rfl ?_
              | refine StoreD.st 0 rfl rfl rfl ?_
              | refine StoreD.st 1 rfl rfl rfl ?_
              | refine StoreD.st 2 rfl rfl rfl ?_
              | refine StoreD.st 3 rfl rfl rfl ?_
              | refine StoreD.st 4 rfl rfl rfl ?_
              | refine StoreD.st 5 rfl rfl rfl ?_
              | refine StoreD.st 6 rfl rfl rfl ?_
              | refine CmpD.yes rfl ?_
              | refine CmpD.yes (by decide) ?_
              | refine CmpD.no (by decide) ?_
              | refine Chk.mk ⟨rfl, trivial⟩ ?_
              | refine Chk.mk ⟨rfl, rfl, trivial⟩ ?_
              | refine Chk.mk ⟨rfl, rfl, rfl, trivial⟩ ?_
              | refine Chk.mk ⟨rfl, rfl, rfl, rfl, trivial⟩ ?_
              | refine Chk.mk ⟨rfl, rfl, rfl, rfl, rfl, trivial⟩ ?_
              | refine Chk.mk ⟨rfl, rfl, rfl, rfl, rfl, rfl, trivial⟩ ?_)
            refine Tri.free (law_of 2 9 I16) ?_
            rintro v _ _ _ ⟨rfl, rfl⟩
            repeat (first
              | refine LoadD.own 0 rfl _ rfl rfl ?_
              | refine LoadD.own 1 rfl _ rfl rfl ?_
              | refine LoadD.own 2 rfl _ rfl rfl ?_
              | refine LoadD.own 3 rfl _ rfl rfl ?_
              | refine LoadD.own 4 rfl _ rfl rfl ?_
              | refine LoadD.own 5 rfl _ rfl rfl ?_
              | refine LoadD.own 6 rfl _ rfl rfl ?_
              | refine LoadP.at 0 rfl _ rfl rfl ?_
              | refine LoadP.at 1 rfl _ rfl rfl ?_
              | refine LoadP.at 2 rfl _ rfl rfl ?_
              | refine LoadP.at 3 rfl _ rfl rfl ?_
              | refine LoadP.at 4 rfl _ rfl rfl ?_
              | refine LoadP.at 5 rfl _ rfl rfl ?_
              | refine LoadP.at 6 rfl _ rfl rfl ?_
              | refine StoreD.st 0 rfl rfl rfl ?_
              | refine StoreD.st 1 rfl rfl rfl ?_
              | refine StoreD.st 2 rfl rfl rfl ?_
              | refine StoreD.st 3 rfl rfl rfl ?_
              | refine StoreD.st 4 rfl rfl rfl ?_
              | refine StoreD.st 5 rfl rfl rfl ?_
              | refine StoreD.st 6 rfl rfl rfl ?_
              | refine CmpD.yes rfl ?_
              | refine CmpD.yes (by decide) ?_
              | refine CmpD.no (by decide) ?_
              | refine Chk.mk ⟨rfl, trivial⟩ ?_
              | refine Chk.mk ⟨rfl, rfl, trivial⟩ ?_
              | refine Chk.mk ⟨rfl, rfl, rfl, trivial⟩ ?_
              | refine Chk.mk ⟨rfl, rfl, rfl, rfl, trivial⟩ ?_
              | refine Chk.mk ⟨rfl, rfl, rfl, rfl, rfl, trivial⟩ ?_
              | refine Chk.mk ⟨rfl, rfl, rfl, rfl, rfl, rfl, trivial⟩ ?_)
            refine sup_cmp (superOf 2 9) (superOf 2 9) rfl (.inr rfl) rfl rfl ?_
            refine CmpD.yes rfl ?_
            repeat (first
              | refine LoadD.own 0 rfl _ rfl rfl ?_
              | refine LoadD.own 1 rfl _ rfl rfl ?_
              | refine LoadD.own 2 rfl _ rfl rfl ?_
              | refine LoadD.own 3 rfl _ rfl rfl ?_
              | refine LoadD.own 4 rfl _ rfl rfl ?_
              | refine LoadD.own 5 rfl _ rfl rfl ?_
              | refine LoadD.own 6 rfl _ rfl rfl ?_
              | refine LoadP.at 0 rfl _ rfl rfl ?_
              | refine LoadP.at 1 rfl _ rfl rfl ?_
              | refine LoadP.at 2 rfl _ rfl rfl ?_
              | refine LoadP.at 3 rfl _ rfl rfl ?_
              | refine LoadP.at 4 rfl _ rfl rfl ?_
              | refine LoadP.at 5 rfl _ rfl rfl ?_
              | refine LoadP.at 6 rfl _ rfl rfl ?_
              | refine StoreD.st 0 rfl rfl rfl ?_
              | refine StoreD.st 1 rfl rfl rfl ?_
              | refine StoreD.st 2 rfl rfl rfl ?_
              | refine StoreD.st 3 rfl rfl rfl ?_
              | refine StoreD.st 4 rfl rfl rfl ?_
              | refine StoreD.st 5 rfl rfl rfl ?_
              | refine StoreD.st 6 rfl rfl rfl ?_
              | refine CmpD.yes rfl ?_
              | refine CmpD.yes (by decide) ?_
              | refine CmpD.no (by decide) ?_
              | refine Chk.mk ⟨rfl, trivial⟩ ?_
              | refine Chk.mk ⟨rfl, rfl, trivial⟩ ?_
              | refine Chk.mk ⟨rfl, rfl, rfl, trivial⟩ ?_
              | refine Chk.mk ⟨rfl, rfl, rfl, rfl, trivial⟩ ?_
              | refine Chk.mk ⟨rfl, rfl, rfl, rfl, rfl, trivial⟩ ?_
              | refine Chk.mk ⟨rfl, rfl, rfl, rfl, rfl, rfl, trivial⟩ ?_)
            refine ToD.i64 (by omega) (by omega) ?_
            refine ⟨_, Drop.pick [0, 1, 2] _ rfl, ⟨m + 1, dG, chG, by omega, by omega, hG16, hqG, hcG, hwG, hfG, hJ716, rfl, rfl⟩, ?_⟩
            show ((nC : Int) - ((m : Int) + 1)).toNat < ((nC : Int) - (m : Int)).toNat; omega
          · rw [hch]
            by_cases hv2 : vE = 0
            · exfalso
              obtain ⟨w1, w2⟩ := hdone hv2
              have w3 : dG.now[1]? = some supB := by rw [hnow w1]; exact w2
              rw [getD_some w3] at hb
              exact hz hb.symm
            first
            | exact absurd hv hv2
            | conv => whnf
              intro b18
              repeat (first
                | refine LoadD.own 0 rfl _ rfl rfl ?_
                | refine LoadD.own 1 rfl _ rfl rfl ?_
                | refine LoadD.own 2 rfl _ rfl rfl ?_
                | refine LoadD.own 3 rfl _ rfl rfl ?_
                | refine LoadD.own 4 rfl _ rfl rfl ?_
                | refine LoadD.own 5 rfl _ rfl rfl ?_
                | refine LoadD.own 6 rfl _ rfl rfl ?_
                | refine LoadP.at 0 rfl _ rfl rfl ?_
                | refine LoadP.at 1 rfl _ rfl rfl ?_
                | refine LoadP.at 2 rfl _ rfl rfl ?_
                | refine LoadP.at 3 rfl _ rfl rfl ?_
                | refine LoadP.at 4 rfl _ rfl rfl ?_
                | refine LoadP.at 5 rfl _ rfl rfl ?_
                | refine LoadP.at 6 rfl _ rfl rfl ?_
                | refine StoreD.st 0 rfl rfl rfl ?_
                | refine StoreD.st 1 rfl rfl rfl ?_
                | refine StoreD.st 2 rfl rfl rfl ?_
                | refine StoreD.st 3 rfl rfl rfl ?_
                | refine StoreD.st 4 rfl rfl rfl ?_
                | refine StoreD.st 5 rfl rfl rfl ?_
                | refine StoreD.st 6 rfl rfl rfl ?_
                | refine CmpD.yes rfl ?_
                | refine CmpD.yes (by decide) ?_
                | refine CmpD.no (by decide) ?_
                | refine Chk.mk ⟨rfl, trivial⟩ ?_
                | refine Chk.mk ⟨rfl, rfl, trivial⟩ ?_
                | refine Chk.mk ⟨rfl, rfl, rfl, trivial⟩ ?_
                | refine Chk.mk ⟨rfl, rfl, rfl, rfl, trivial⟩ ?_
                | refine Chk.mk ⟨rfl, rfl, rfl, rfl, rfl, trivial⟩ ?_
                | refine Chk.mk ⟨rfl, rfl, rfl, rfl, rfl, rfl, trivial⟩ ?_)
              refine CodeF.sched [[], [0], [0, 1], [0, 1, 2], [0, 1, 2], [0, 1, 2, 3, 4], [0, 1, 2, 3, 4, 5], [0, 1, 2, 3, 4, 5, 6], [0, 1, 2, 3, 4, 5, 6, 7], [0, 1, 2, 3, 4, 5, 6, 7, 8], [0, 1, 2, 3, 4, 5, 6, 7, 8], [0, 1, 2, 3, 4, 5, 6, 7, 8, 9, 10], [0, 1, 2, 3, 4, 5, 6, 7, 8, 9, 10, 11], [0, 1, 2, 3, 4, 5, 6, 7, 8, 9, 10, 11, 12], [0, 1, 2, 3, 4, 5, 6, 7, 8, 9, 10, 11, 12, 13]] [0, 1, 2, 3, 4, 5, 6, 7, 8, 9, 10, 11, 12, 13, 14] (by kernel_rfl) ?_
              repeat (first
                | refine LoadD.own 0 rfl _ rfl rfl ?_
                | refine LoadD.own 1 rfl _ rfl rfl ?_
                | refine LoadD.own 2 rfl _ rfl rfl ?_
                | refine LoadD.own 3 rfl _ rfl rfl ?_
                | refine LoadD.own 4 rfl _ rfl rfl ?_
                | refine LoadD.own 5 rfl _ rfl rfl ?_
                | refine LoadD.own 6 rfl _ rfl rfl ?_
                | refine LoadP.at 0 rfl _ rfl rfl ?_
                | refine LoadP.at 1 rfl _ rfl rfl ?_
                | refine LoadP.at 2 rfl _ rfl rfl ?_
                | refine LoadP.at 3 rfl _ rfl rfl ?_
                | refine LoadP.at 4 rfl _ rfl rfl ?_
                | refine LoadP.at 5 rfl _ rfl rfl ?_
                | refine LoadP.at 6 rfl _ rfl rfl ?_
                | refine StoreD.st 0 rfl rfl rfl ?_
                | refine StoreD.st 1 rfl rfl rfl ?_
                | refine StoreD.st 2 rfl rfl rfl ?_
                | refine StoreD.st 3 rfl rfl rfl ?_
                | refine StoreD.st 4 rfl rfl rfl ?_
                | refine StoreD.st 5 rfl rfl rfl ?_
                | refine StoreD.st 6 rfl rfl rfl ?_
                | refine CmpD.yes rfl ?_
                | refine CmpD.yes (by decide) ?_
                | refine CmpD.no (by decide) ?_
                | refine Chk.mk ⟨rfl, trivial⟩ ?_
                | refine Chk.mk ⟨rfl, rfl, trivial⟩ ?_
                | refine Chk.mk ⟨rfl, rfl, rfl, trivial⟩ ?_
                | refine Chk.mk ⟨rfl, rfl, rfl, rfl, trivial⟩ ?_
                | refine Chk.mk ⟨rfl, rfl, rfl, rfl, rfl, trivial⟩ ?_
                | refine Chk.mk ⟨rfl, rfl, rfl, rfl, rfl, rfl, trivial⟩ ?_)
              refine Tri.free (law_of 2 9 I16) ?_
              rintro v _ _ _ ⟨rfl, rfl⟩
              repeat (first
                | refine LoadD.own 0 rfl _ rfl rfl ?_
                | refine LoadD.own 1 rfl _ rfl rfl ?_
                | refine LoadD.own 2 rfl _ rfl rfl ?_
                | refine LoadD.own 3 rfl _ rfl rfl ?_
                | refine LoadD.own 4 rfl _ rfl rfl ?_
                | refine LoadD.own 5 rfl _ rfl rfl ?_
                | refine LoadD.own 6 rfl _ rfl rfl ?_
                | refine LoadP.at 0 rfl _ rfl rfl ?_
                | refine LoadP.at 1 rfl _ rfl rfl ?_
                | refine LoadP.at 2 rfl _ rfl rfl ?_
                | refine LoadP.at 3 rfl _ rfl rfl ?_
                | refine LoadP.at 4 rfl _ rfl rfl ?_
                | refine LoadP.at 5 rfl _ rfl rfl ?_
                | refine LoadP.at 6 rfl _ rfl rfl ?_
                | refine StoreD.st 0 rfl rfl rfl ?_
                | refine StoreD.st 1 rfl rfl rfl ?_
                | refine StoreD.st 2 rfl rfl rfl ?_
                | refine StoreD.st 3 rfl rfl rfl ?_
                | refine StoreD.st 4 rfl rfl rfl ?_
                | refine StoreD.st 5 rfl rfl rfl ?_
                | refine StoreD.st 6 rfl rfl rfl ?_
                | refine CmpD.yes rfl ?_
                | refine CmpD.yes (by decide) ?_
                | refine CmpD.no (by decide) ?_
                | refine Chk.mk ⟨rfl, trivial⟩ ?_
                | refine Chk.mk ⟨rfl, rfl, trivial⟩ ?_
                | refine Chk.mk ⟨rfl, rfl, rfl, trivial⟩ ?_
                | refine Chk.mk ⟨rfl, rfl, rfl, rfl, trivial⟩ ?_
                | refine Chk.mk ⟨rfl, rfl, rfl, rfl, rfl, trivial⟩ ?_
                | refine Chk.mk ⟨rfl, rfl, rfl, rfl, rfl, rfl, trivial⟩ ?_)
              refine sup_cmp (superOf 1 7) (superOf 2 9) rfl (.inr rfl) rfl rfl ?_
              refine CmpD.no (by simp [superOf]) ?_
              repeat (first
                | refine LoadD.own 0 rfl _ rfl rfl ?_
                | refine LoadD.own 1 rfl _ rfl rfl ?_
                | refine LoadD.own 2 rfl _ rfl rfl ?_
                | refine LoadD.own 3 rfl _ rfl rfl ?_
                | refine LoadD.own 4 rfl _ rfl rfl ?_
                | refine LoadD.own 5 rfl _ rfl rfl ?_
                | refine LoadD.own 6 rfl _ rfl rfl ?_
                | refine LoadP.at 0 rfl _ rfl rfl ?_
                | refine LoadP.at 1 rfl _ rfl rfl ?_
                | refine LoadP.at 2 rfl _ rfl rfl ?_
                | refine LoadP.at 3 rfl _ rfl rfl ?_
                | refine LoadP.at 4 rfl _ rfl rfl ?_
                | refine LoadP.at 5 rfl _ rfl rfl ?_
                | refine LoadP.at 6 rfl _ rfl rfl ?_
                | refine StoreD.st 0 rfl rfl rfl ?_
                | refine StoreD.st 1 rfl rfl rfl ?_
                | refine StoreD.st 2 rfl rfl rfl ?_
                | refine StoreD.st 3 rfl rfl rfl ?_
                | refine StoreD.st 4 rfl rfl rfl ?_
                | refine StoreD.st 5 rfl rfl rfl ?_
                | refine StoreD.st 6 rfl rfl rfl ?_
                | refine CmpD.yes rfl ?_
                | refine CmpD.yes (by decide) ?_
                | refine CmpD.no (by decide) ?_
                | refine Chk.mk ⟨rfl, trivial⟩ ?_
                | refine Chk.mk ⟨rfl, rfl, trivial⟩ ?_
                | refine Chk.mk ⟨rfl, rfl, rfl, trivial⟩ ?_
                | refine Chk.mk ⟨rfl, rfl, rfl, rfl, trivial⟩ ?_
                | refine Chk.mk ⟨rfl, rfl, rfl, rfl, rfl, trivial⟩ ?_
                | refine Chk.mk ⟨rfl, rfl, rfl, rfl, rfl, rfl, trivial⟩ ?_)
              refine Tri.free (law_of 1 7 I16) ?_
              rintro v _ _ _ ⟨rfl, rfl⟩
              repeat (first
                | refine LoadD.own 0 rfl _ rfl rfl ?_
                | refine LoadD.own 1 rfl _ rfl rfl ?_
                | refine LoadD.own 2 rfl _ rfl rfl ?_
                | refine LoadD.own 3 rfl _ rfl rfl ?_
                | refine LoadD.own 4 rfl _ rfl rfl ?_
                | refine LoadD.own 5 rfl _ rfl rfl ?_
                | refine LoadD.own 6 rfl _ rfl rfl ?_
                | refine LoadP.at 0 rfl _ rfl rfl ?_
                | refine LoadP.at 1 rfl _ rfl rfl ?_
                | refine LoadP.at 2 rfl _ rfl rfl ?_
                | refine LoadP.at 3 rfl _ rfl rfl ?_
                | refine LoadP.at 4 rfl _ rfl rfl ?_
                | refine LoadP.at 5 rfl _ rfl rfl ?_
                | refine LoadP.at 6 rfl _ rfl rfl ?_
                | refine StoreD.st 0 rfl rfl rfl ?_
                | refine StoreD.st 1 rfl rfl rfl ?_
                | refine StoreD.st 2 rfl rfl rfl ?_
                | refine StoreD.st 3 rfl rfl rfl ?_
                | refine StoreD.st 4 rfl rfl rfl ?_
                | refine StoreD.st 5 rfl rfl rfl ?_
                | refine StoreD.st 6 rfl rfl rfl ?_
                | refine CmpD.yes rfl ?_
                | refine CmpD.yes (by decide) ?_
                | refine CmpD.no (by decide) ?_
                | refine Chk.mk ⟨rfl, trivial⟩ ?_
                | refine Chk.mk ⟨rfl, rfl, trivial⟩ ?_
                | refine Chk.mk ⟨rfl, rfl, rfl, trivial⟩ ?_
                | refine Chk.mk ⟨rfl, rfl, rfl, rfl, trivial⟩ ?_
                | refine Chk.mk ⟨rfl, rfl, rfl, rfl, rfl, trivial⟩ ?_
                | refine Chk.mk ⟨rfl, rfl, rfl, rfl, rfl, rfl, trivial⟩ ?_)
              refine sup_cmp (superOf 1 7) (superOf 1 7) rfl (.inr rfl) rfl rfl ?_
              refine CmpD.yes rfl ?_
              repeat (first
                | refine LoadD.own 0 rfl _ rfl rfl ?_
                | refine LoadD.own 1 rfl _ rfl rfl ?_
                | refine LoadD.own 2 rfl _ rfl rfl ?_
                | refine LoadD.own 3 rfl _ rfl rfl ?_
                | refine LoadD.own 4 rfl _ rfl rfl ?_
                | refine LoadD.own 5 rfl _ rfl rfl ?_
                | refine LoadD.own 6 rfl _ rfl rfl ?_
                | refine LoadP.at 0 rfl _ rfl rfl ?_
                | refine LoadP.at 1 rfl _ rfl rfl ?_
                | refine LoadP.at 2 rfl _ rfl rfl ?_
                | refine LoadP.at 3 rfl _ rfl rfl ?_
                | refine LoadP.at 4 rfl _ rfl rfl ?_
                | refine LoadP.at 5 rfl _ rfl rfl ?_
                | refine LoadP.at 6 rfl _ rfl rfl ?_
                | refine StoreD.st 0 rfl rfl rfl ?_
                | refine StoreD.st 1 rfl rfl rfl ?_
                | refine StoreD.st 2 rfl rfl rfl ?_
                | refine StoreD.st 3 rfl rfl rfl ?_
                | refine StoreD.st 4 rfl rfl rfl ?_
                | refine StoreD.st 5 rfl rfl rfl ?_
                | refine StoreD.st 6 rfl rfl rfl ?_
                | refine CmpD.yes rfl ?_
                | refine CmpD.yes (by decide) ?_
                | refine CmpD.no (by decide) ?_
                | refine Chk.mk ⟨rfl, trivial⟩ ?_
                | refine Chk.mk ⟨rfl, rfl, trivial⟩ ?_
                | refine Chk.mk ⟨rfl, rfl, rfl, trivial⟩ ?_
                | refine Chk.mk ⟨rfl, rfl, rfl, rfl, trivial⟩ ?_
                | refine Chk.mk ⟨rfl, rfl, rfl, rfl, rfl, trivial⟩ ?_
                | refine Chk.mk ⟨rfl, rfl, rfl, rfl, rfl, rfl, trivial⟩ ?_)
              refine ToD.i64 (by omega) (by omega) ?_
              refine ⟨_, Drop.pick [0, 1, 2] _ rfl, ⟨m + 1, dG, chG, by omega, by omega, hG16, hqG, hcG, hwG, hfG, hJ716, rfl, rfl⟩, ?_⟩
              show ((nC : Int) - ((m : Int) + 1)).toNat < ((nC : Int) - (m : Int)).toNat; omega
    all_goals
      clear hcs hC hKL
      repeat (first
        | refine LoadD.own 0 rfl _ rfl rfl ?_
        | refine LoadD.own 1 rfl _ rfl rfl ?_
        | refine LoadD.own 2 rfl _ rfl rfl ?_
        | refine LoadP.at 0 rfl _ rfl rfl ?_
        | refine LoadP.at 1 rfl _ rfl rfl ?_
        | refine LoadP.at 2 rfl _ rfl rfl ?_
        | refine StoreD.st 0 rfl rfl rfl ?_
        | refine StoreD.st 1 rfl rfl rfl ?_
        | refine StoreD.st 2 rfl rfl rfl ?_
        | refine CmpD.yes rfl ?_
        | refine CmpD.yes (by decide) ?_
        | refine CmpD.no (by decide) ?_
        | refine Chk.mk ⟨rfl, trivial⟩ ?_
        | refine Chk.mk ⟨rfl, rfl, trivial⟩ ?_
        | refine Chk.mk ⟨rfl, rfl, rfl, trivial⟩ ?_
        | refine Chk.mk ⟨rfl, rfl, rfl, rfl, trivial⟩ ?_
        | refine Chk.mk ⟨rfl, rfl, rfl, rfl, rfl, trivial⟩ ?_
        | refine Chk.mk ⟨rfl, rfl, rfl, rfl, rfl, rfl, trivial⟩ ?_)
      refine Tri.free (law_of 2 9 J9) ?_
      rintro v _ _ _ ⟨rfl, rfl⟩
      have hHLo : HomL (gs.map Img.pr) (outs.map Img.pr) := by rw [hpr]; exact hHL
      obtain ⟨e, he1, he2, he3, he4, he5, he6, he7, he8⟩ := again_end hHLo (by rw [hpr, ← hKe]; exact hq) hcalm hlen
      have hdo := dk_Do hD5 (1 + 100 * m) hfew aO capO outs (hOok.mono hle7) (by omega) (superOf 2 9) 1
      have hfE := doP_few hfew (outs.map Img.pr) (superOf 2 9) 1
      rw [List.length_map] at hfE
      have hfE := hfE.mono (m := 1000000) (by omega)
      rw [he1] at hdo hfE
      refine Tri.frame1 0 rfl hdo ?_
      rintro v J10 A' hJ10 ⟨rfl, chE, hE, rfl⟩
      refine ⟨_, rfl, ?_⟩
      repeat (first
        | refine LoadD.own 0 rfl _ rfl rfl ?_
        | refine LoadD.own 1 rfl _ rfl rfl ?_
        | refine LoadD.own 2 rfl _ rfl rfl ?_
        | refine LoadP.at 0 rfl _ rfl rfl ?_
        | refine LoadP.at 1 rfl _ rfl rfl ?_
        | refine LoadP.at 2 rfl _ rfl rfl ?_
        | refine StoreD.st 0 rfl rfl rfl ?_
        | refine StoreD.st 1 rfl rfl rfl ?_
        | refine StoreD.st 2 rfl rfl rfl ?_
        | refine CmpD.yes rfl ?_
        | refine CmpD.yes (by decide) ?_
        | refine CmpD.no (by decide) ?_
        | refine Chk.mk ⟨rfl, trivial⟩ ?_
        | refine Chk.mk ⟨rfl, rfl, trivial⟩ ?_
        | refine Chk.mk ⟨rfl, rfl, rfl, trivial⟩ ?_
        | refine Chk.mk ⟨rfl, rfl, rfl, rfl, trivial⟩ ?_
        | refine Chk.mk ⟨rfl, rfl, rfl, rfl, rfl, trivial⟩ ?_
        | refine Chk.mk ⟨rfl, rfl, rfl, rfl, rfl, rfl, trivial⟩ ?_)
      refine Tri.frame1 0 rfl (dk_Crash hE hfE none 0 0 [] ⟨rfl, .inl rfl⟩ (-1) 0 (by omega)) ?_
      rintro v J11 A' hJ11 ⟨rfl, chG, hG2, rfl⟩
      refine ⟨_, rfl, ?_⟩
      have hnow : (e.crash [] (-1) 0).now = e.now := by
        show crashK [] (-1) 0 0 e.writes e.safe = _
        rw [he3, he4]; rfl
      have hcG : (e.crash [] (-1) 0).Calm := ⟨rfl, rfl, rfl⟩
      generalize e.crash [] (-1) 0 = dG at *
      rw [← hnow] at he5 he6 he7 he8
      have hJ511 : I5.le J11 := Imm.le_trans hJ57 (Imm.le_trans hle7 (Imm.le_trans hJ10 hJ11))
      have hJ711 : J7.le J11 := Imm.le_trans hle7 (Imm.le_trans hJ10 hJ11)
      repeat (first
        | refine LoadD.own 0 rfl _ rfl rfl ?_
        | refine LoadD.own 1 rfl _ rfl rfl ?_
        | refine LoadD.own 2 rfl _ rfl rfl ?_
        | refine LoadP.at 0 rfl _ rfl rfl ?_
        | refine LoadP.at 1 rfl _ rfl rfl ?_
        | refine LoadP.at 2 rfl _ rfl rfl ?_
        | refine StoreD.st 0 rfl rfl rfl ?_
        | refine StoreD.st 1 rfl rfl rfl ?_
        | refine StoreD.st 2 rfl rfl rfl ?_
        | refine CmpD.yes rfl ?_
        | refine CmpD.yes (by decide) ?_
        | refine CmpD.no (by decide) ?_
        | refine Chk.mk ⟨rfl, trivial⟩ ?_
        | refine Chk.mk ⟨rfl, rfl, trivial⟩ ?_
        | refine Chk.mk ⟨rfl, rfl, rfl, trivial⟩ ?_
        | refine Chk.mk ⟨rfl, rfl, rfl, rfl, trivial⟩ ?_
        | refine Chk.mk ⟨rfl, rfl, rfl, rfl, rfl, trivial⟩ ?_
        | refine Chk.mk ⟨rfl, rfl, rfl, rfl, rfl, rfl, trivial⟩ ?_)
      refine CodeF.loopD [5, 7, 10, 21] (fun vs J' S' => ∃ n : Nat, 2 ≤ n ∧ n ≤ 64 ∧ J11.le J' ∧ vs = [.pointer (some ⟨bD, 0, none⟩), .pointer (some ⟨b7, 0, none⟩), .pointer (some ⟨bC, 0, none⟩), .int .i64 n] ∧ S' = [chG, gBox b7 0 0 aI i capI, chC])
        (fun vs _ _ => match vs with | [_, _, _, .int _ n] => ((64 : Int) - n).toNat | _ => 0) ?_ ?_
      · exact ⟨_, Drop.pick [0, 1, 2] _ rfl, 2, by omega, by omega, Imm.le_refl _, rfl, rfl⟩
      rintro vs gE5 J12 S' hJ12 ⟨n, hn2, hn64, hle11, rfl, rfl⟩
      refine CmpD.split (fun f1 => ?_) (fun f1 => ?_)
      · have hbn : (dG.now.getD n []).length = 4096 := by
          rw [List.getD_eq_getElem?_getD, List.getElem?_eq_getElem (by omega)]
          exact hG2.wf.now _ (List.getElem_mem _)
        have hdr := dk_Read (hG2.mono hle11) (n : Int)
        rw [read_up hG2.wf hcG.1 (k := n) (by omega)] at hdr
        dsimp only at hdr
        rw [hbn] at hdr
        refine Tri.frame hdr [0] rfl rfl ?_
        rintro v J13 A' hJ13 ⟨aR, capR, chR, rfl, hR, rfl, rfl⟩
        refine ⟨by simp, ?_⟩
        have hwn : d1.now.getD n [] = noughts := by
          rw [hn1, List.getD_eq_getElem?_getD, List.getElem?_set_ne (by omega), List.getElem?_replicate, if_pos (by omega)]; rfl
        have hdw := dk_Read (hCk.mono (Imm.le_trans hJ711 hle11)) (n : Int)
        rw [read_up (d := { d1 with count := 0 }) hCk.wf c1.1 (k := n) (by show n < d1.now.length; rw [hn1]; simp; omega)] at hdw
        dsimp only at hdw
        rw [hwn, noughts_length] at hdw
        refine Tri.frame hdw [2] rfl rfl ?_
        rintro v J14 A' hJ14 ⟨aW, capW, chW, rfl, hW, rfl, rfl⟩
        refine ⟨by simp, ?_⟩
        refine CodeF.fixD 3 (ch := chR) rfl fun I15 hI15 hRm => ?_
        refine CodeF.fixD 4 (ch := chW) rfl fun I16 hI16 hWm => ?_
        have hRR : Rds I16 aR 4096 (bts (dG.now.getD n [])) := Rds.mono (Rds.of_own hR hRm) hI16
        have hWW : Rds I16 aW 4096 (bts noughts) := Rds.of_own hW hWm
        have hI11 : J11.le I16 := Imm.le_trans hle11 (Imm.le_trans hI15 hI16)
        have hIR16 : Rds I16 aI (gs.length * 2) (imgCells gs) := hIR.mono (Imm.le_trans hJ511 hI11)
        have hgs16 : ∀ g ∈ gs, AImg I16 g := fun g hg => (hgs g hg).mono (Imm.le_trans hJ511 hI11)
        refine CodeF.loopD [5, 7, 10, 21, 22, 24, 26] (fun vs J' S' => ∃ (j : Nat) (aV : Option Addr) (lenV capV : Nat), j ≤ gs.length ∧ Rds I16 aV lenV (bts ((lastD ((gs.take j).map Img.pr) n).getD noughts)) ∧ I16 = J' ∧ vs = [.pointer (some ⟨bD, 0, none⟩), .pointer (some ⟨b7, 0, none⟩), .pointer (some ⟨bC, 0, none⟩), .int .i64 n, .slice aR 4096 capR, .slice aV lenV capV, .int .i64 j] ∧ S' = [chG, gBox b7 0 0 aI i capI, chC])
          (fun vs _ _ => match vs with | [_, _, _, _, _, _, .int _ j] => ((gs.length : Int) - j).toNat | _ => 0) ?_ ?_
        · exact ⟨_, Drop.pick [0, 1, 2] _ rfl, 0, aW, 4096, capW, by omega, hWW, rfl, rfl, rfl⟩
        rintro vs gE6 J17 S' hJ17 ⟨j, aV, lenV, capV, hj, hV, rfl, rfl, rfl⟩
        refine LoadD.own 1 rfl _ rfl rfl ?_
        refine CmpD.split (fun (f2 : (j : Int) < i) => ?_) (fun (f2 : ¬ (j : Int) < i) => ?_)
        · have hlt : j < gs.length := by omega
          have k0 := imgCells_0 hlt
          have k1 := imgCells_1 hlt
          have htk : gs.take (j + 1) = gs.take j ++ [gs[j]] := by rw [List.take_add_one, List.getElem?_eq_getElem hlt]; rfl
          have hgj := hgs16 _ (List.getElem_mem hlt)
          rcases hIR16.mem with q0 | ⟨bA, oA, cA, TA, fA, rfl, hIA, hcA⟩
          · omega
          generalize gs[j] = g at *
          have y0 : (cA.drop (oA + j * 2)).take 1 = [.int .i64 g.blk] := take_get hcA k0
          have y1 : (cA.drop (oA + (j * 2 + 1))).take 1 = [.slice g.a g.len g.cap] := take_get hcA k1
          refine LoadD.own 1 rfl _ rfl rfl ?_
          refine Chk.mk (by omega) ?_
          refine LoadD.imm hIA [.int .i64 g.blk] y0 rfl ?_
          refine CmpD.split (fun (f3 : g.blk = (n : Int)) => ?_) (fun (f3 : ¬ g.blk = (n : Int)) => ?_)
          · refine LoadD.own 1 rfl _ rfl rfl ?_
            refine Chk.mk (by omega) ?_
            refine LoadD.imm hIA [.slice g.a g.len g.cap] y1 rfl ?_
            refine ToD.i64 (by omega) (by omega) ?_
            refine ⟨_, Drop.pick [0, 1, 2] _ rfl, ⟨j + 1, g.a, g.len, g.cap, by omega, ?_, rfl, rfl, rfl⟩, ?_⟩
            · rw [htk, List.map_append, List.map_singleton, lastD_snoc, if_pos (show g.pr.1 = n from f3)]
              exact hgj.1.2
            · show ((gs.length : Int) - ((j : Int) + 1)).toNat < ((gs.length : Int) - (j : Int)).toNat; omega
          · refine ToD.i64 (by omega) (by omega) ?_
            refine ⟨_, Drop.pick [0, 1, 2] _ rfl, ⟨j + 1, aV, lenV, capV, by omega, ?_, rfl, rfl, rfl⟩, ?_⟩
            · rw [htk, List.map_append, List.map_singleton, lastD_snoc, if_neg (show ¬ g.pr.1 = n from f3)]
              exact hV
            · show ((gs.length : Int) - ((j : Int) + 1)).toNat < ((gs.length : Int) - (j : Int)).toNat; omega
        · obtain rfl : j = gs.length := by omega
          rw [List.take_length] at hV
          refine Tri.nf (same_bytes hRR.slC hV.slC) ?_
          rintro v J18 S' hJ18 ⟨rfl, rfl, rfl⟩
          rw [decide_eq_true (he8 n hn2 (by omega))]
          repeat (first
            | refine LoadD.own 0 rfl _ rfl rfl ?_
            | refine LoadD.own 1 rfl _ rfl rfl ?_
            | refine LoadD.own 2 rfl _ rfl rfl ?_
            | refine LoadP.at 0 rfl _ rfl rfl ?_
            | refine LoadP.at 1 rfl _ rfl rfl ?_
            | refine LoadP.at 2 rfl _ rfl rfl ?_
            | refine StoreD.st 0 rfl rfl rfl ?_
            | refine StoreD.st 1 rfl rfl rfl ?_
            | refine StoreD.st 2 rfl rfl rfl ?_
            | refine CmpD.yes rfl ?_
            | refine CmpD.yes (by decide) ?_
            | refine CmpD.no (by decide) ?_
            | refine Chk.mk ⟨rfl, trivial⟩ ?_
            | refine Chk.mk ⟨rfl, rfl, trivial⟩ ?_
            | refine Chk.mk ⟨rfl, rfl, rfl, trivial⟩ ?_
            | refine Chk.mk ⟨rfl, rfl, rfl, rfl, trivial⟩ ?_
            | refine Chk.mk ⟨rfl, rfl, rfl, rfl, rfl, trivial⟩ ?_
            | refine Chk.mk ⟨rfl, rfl, rfl, rfl, rfl, rfl, trivial⟩ ?_)
          refine ToD.i64 (by omega) (by omega) ?_
          refine ⟨_, Drop.pick [0, 1, 2] _ rfl, ⟨n + 1, by omega, by omega, hI11, rfl, rfl⟩, ?_⟩
          show ((64 : Int) - ((n : Int) + 1)).toNat < ((64 : Int) - (n : Int)).toNat; omega
      · have hdr0 := dk_Read (hG2.mono hle11) ((0 : Nat) : Int)
        rw [read_up hG2.wf hcG.1 (k := 0) (by omega)] at hdr0
        dsimp only at hdr0
        rw [he6, supA_length] at hdr0
        refine Tri.frame hdr0 [0] rfl rfl ?_
        rintro v J13 A' hJ13 ⟨aR, capR, chR, rfl, hR, rfl, rfl⟩
        refine ⟨by simp, ?_⟩
        have hdr1 := dk_Read (hG2.mono hle11) ((1 : Nat) : Int)
        rw [read_up hG2.wf hcG.1 (k := 1) (by omega)] at hdr1
        dsimp only at hdr1
        rw [he7, supB_length] at hdr1
        refine Tri.frame hdr1 [0] rfl rfl ?_
        rintro v J14 A' hJ14 ⟨aR1, capR1, chR1, rfl, hR1, rfl, rfl⟩
        refine ⟨by simp, ?_⟩
        refine Tri.fix 3 rfl fun I15 hI15 hRm => ?_
        refine Tri.fix 4 rfl fun I16 hI16 hRm1 => ?_
        have hRR := (Rds.of_own hR hRm).mono hI16
        refine Tri.free (replay_Choose hRR (Rds.of_own hR1 hRm1) (by decide) (by decide)) ?_
        rintro v _ _ hJ ⟨rfl, rfl⟩
        have hA : getS supA = some (superOf 1 7) := get_supL (right_of _ _ (by decide) (by decide))
        have hB : getS supB = some (superOf 2 9) := get_supL (right_of _ _ (by decide) (by decide))
        rw [hA, hB, show chooseP (some (superOf 1 7)) (some (superOf 2 9)) = (superOf 2 9, 1, true) from by rw [chooseP, if_neg (by decide)]]
        conv => whnf
        intro b31
        repeat (first
          | refine LoadD.own 0 rfl _ rfl rfl ?_
          | refine LoadD.own 1 rfl _ rfl rfl ?_
          | refine LoadD.own 2 rfl _ rfl rfl ?_
          | refine LoadD.own 3 rfl _ rfl rfl ?_
          | refine LoadD.own 4 rfl _ rfl rfl ?_
          | refine LoadD.own 5 rfl _ rfl rfl ?_
          | refine LoadP.at 0 rfl _ rfl rfl ?_
          | refine LoadP.at 1 rfl _ rfl rfl ?_
          | refine LoadP.at 2 rfl _ rfl rfl ?_
          | refine LoadP.at 3 rfl _ rfl rfl ?_
          | refine LoadP.at 4 rfl _ rfl rfl ?_
          | refine LoadP.at 5 rfl _ rfl rfl ?_
          | refine StoreD.st 0 rfl rfl rfl ?_
          | refine StoreD.st 1 rfl rfl rfl ?_
          | refine StoreD.st 2 rfl rfl rfl ?_
          | refine StoreD.st 3 rfl rfl rfl ?_
          | refine StoreD.st 4 rfl rfl rfl ?_
          | refine StoreD.st 5 rfl rfl rfl ?_
          | refine CmpD.yes rfl ?_
          | refine CmpD.yes (by decide) ?_
          | refine CmpD.no (by decide) ?_
          | refine Chk.mk ⟨rfl, trivial⟩ ?_
          | refine Chk.mk ⟨rfl, rfl, trivial⟩ ?_
          | refine Chk.mk ⟨rfl, rfl, rfl, trivial⟩ ?_
          | refine Chk.mk ⟨rfl, rfl, rfl, rfl, trivial⟩ ?_
          | refine Chk.mk ⟨rfl, rfl, rfl, rfl, rfl, trivial⟩ ?_
          | refine Chk.mk ⟨rfl, rfl, rfl, rfl, rfl, rfl, trivial⟩ ?_)
        refine CodeF.sched [[], [0], [0, 1], [0, 1], [0, 1, 2, 3], [0, 1, 2, 3, 4], [0, 1, 2, 3, 4, 5], [0, 1, 2, 3, 4, 5, 6], [0, 1, 2, 3, 4, 5, 6, 7], [0, 1, 2, 3, 4, 5, 6, 7, 8], [0, 1, 2, 3, 4, 5, 6, 7, 8, 9], [0, 1, 2, 3, 4, 5, 6, 7, 8, 9, 10], [0, 1, 2, 3, 4, 5, 6, 7, 8, 9, 10], [0, 1, 2, 3, 4, 5, 6, 7, 8, 9, 10, 11, 12], [0, 1, 2, 3, 4, 5, 6, 7, 8, 9, 10, 11, 12, 13], [0, 1, 2, 3, 4, 5, 6, 7, 8, 9, 10, 11, 12, 13, 14], [0, 1, 2, 3, 4, 5, 6, 7, 8, 9, 10, 11, 12, 13, 14, 15], [0, 1, 2, 3, 4, 5, 6, 7, 8, 9, 10, 11, 12, 13, 14, 15, 16], [0, 1, 2, 3, 4, 5, 6, 7, 8, 9, 10, 11, 12, 13, 14, 15, 16, 17]] [0, 1, 2, 3, 4, 5, 6, 7, 8, 9, 10, 11, 12, 13, 14, 15, 16, 17, 18] (by kernel_rfl) ?_
        repeat (first
          | refine LoadD.own 0 rfl _ rfl rfl ?_
          | refine LoadD.own 1 rfl _ rfl rfl ?_
          | refine LoadD.own 2 rfl _ rfl rfl ?_
          | refine LoadD.own 3 rfl _ rfl rfl ?_
          | refine LoadD.own 4 rfl _ rfl rfl ?_
          | refine LoadD.own 5 rfl _ rfl rfl ?_
          | refine LoadP.at 0 rfl _ rfl rfl ?_
          | refine LoadP.at 1 rfl _ rfl rfl ?_
          | refine LoadP.at 2 rfl _ rfl rfl ?_
          | refine LoadP.at 3 rfl _ rfl rfl ?_
          | refine LoadP.at 4 rfl _ rfl rfl ?_
          | refine LoadP.at 5 rfl _ rfl rfl ?_
          | refine StoreD.st 0 rfl rfl rfl ?_
          | refine StoreD.st 1 rfl rfl rfl ?_
          | refine StoreD.st 2 rfl rfl rfl ?_
          | refine StoreD.st 3 rfl rfl rfl ?_
          | refine StoreD.st 4 rfl rfl rfl ?_
          | refine StoreD.st 5 rfl rfl rfl ?_
          | refine CmpD.yes rfl ?_
          | refine CmpD.yes (by decide) ?_
          | refine CmpD.no (by decide) ?_
          | refine Chk.mk ⟨rfl, trivial⟩ ?_
          | refine Chk.mk ⟨rfl, rfl, trivial⟩ ?_
          | refine Chk.mk ⟨rfl, rfl, rfl, trivial⟩ ?_
          | refine Chk.mk ⟨rfl, rfl, rfl, rfl, trivial⟩ ?_
          | refine Chk.mk ⟨rfl, rfl, rfl, rfl, rfl, trivial⟩ ?_
          | refine Chk.mk ⟨rfl, rfl, rfl, rfl, rfl, rfl, trivial⟩ ?_)
        refine Tri.free (law_of 2 9 I16) ?_
        rintro v _ _ _ ⟨rfl, rfl⟩
        repeat (first
          | refine LoadD.own 0 rfl _ rfl rfl ?_
          | refine LoadD.own 1 rfl _ rfl rfl ?_
          | refine LoadD.own 2 rfl _ rfl rfl ?_
          | refine LoadD.own 3 rfl _ rfl rfl ?_
          | refine LoadD.own 4 rfl _ rfl rfl ?_
          | refine LoadD.own 5 rfl _ rfl rfl ?_
          | refine LoadP.at 0 rfl _ rfl rfl ?_
          | refine LoadP.at 1 rfl _ rfl rfl ?_
          | refine LoadP.at 2 rfl _ rfl rfl ?_
          | refine LoadP.at 3 rfl _ rfl rfl ?_
          | refine LoadP.at 4 rfl _ rfl rfl ?_
          | refine LoadP.at 5 rfl _ rfl rfl ?_
          | refine StoreD.st 0 rfl rfl rfl ?_
          | refine StoreD.st 1 rfl rfl rfl ?_
          | refine StoreD.st 2 rfl rfl rfl ?_
          | refine StoreD.st 3 rfl rfl rfl ?_
          | refine StoreD.st 4 rfl rfl rfl ?_
          | refine StoreD.st 5 rfl rfl rfl ?_
          | refine CmpD.yes rfl ?_
          | refine CmpD.yes (by decide) ?_
          | refine CmpD.no (by decide) ?_
          | refine Chk.mk ⟨rfl, trivial⟩ ?_
          | refine Chk.mk ⟨rfl, rfl, trivial⟩ ?_
          | refine Chk.mk ⟨rfl, rfl, rfl, trivial⟩ ?_
          | refine Chk.mk ⟨rfl, rfl, rfl, rfl, trivial⟩ ?_
          | refine Chk.mk ⟨rfl, rfl, rfl, rfl, rfl, trivial⟩ ?_
          | refine Chk.mk ⟨rfl, rfl, rfl, rfl, rfl, rfl, trivial⟩ ?_)
        refine sup_cmp (superOf 2 9) (superOf 2 9) rfl (.inl rfl) rfl rfl ?_
        refine CmpD.yes rfl ?_
        repeat (first
          | refine LoadD.own 0 rfl _ rfl rfl ?_
          | refine LoadD.own 1 rfl _ rfl rfl ?_
          | refine LoadD.own 2 rfl _ rfl rfl ?_
          | refine LoadD.own 3 rfl _ rfl rfl ?_
          | refine LoadD.own 4 rfl _ rfl rfl ?_
          | refine LoadD.own 5 rfl _ rfl rfl ?_
          | refine LoadP.at 0 rfl _ rfl rfl ?_
          | refine LoadP.at 1 rfl _ rfl rfl ?_
          | refine LoadP.at 2 rfl _ rfl rfl ?_
          | refine LoadP.at 3 rfl _ rfl rfl ?_
          | refine LoadP.at 4 rfl _ rfl rfl ?_
          | refine LoadP.at 5 rfl _ rfl rfl ?_
          | refine StoreD.st 0 rfl rfl rfl ?_
          | refine StoreD.st 1 rfl rfl rfl ?_
          | refine StoreD.st 2 rfl rfl rfl ?_
          | refine StoreD.st 3 rfl rfl rfl ?_
          | refine StoreD.st 4 rfl rfl rfl ?_
          | refine StoreD.st 5 rfl rfl rfl ?_
          | refine CmpD.yes rfl ?_
          | refine CmpD.yes (by decide) ?_
          | refine CmpD.no (by decide) ?_
          | refine Chk.mk ⟨rfl, trivial⟩ ?_
          | refine Chk.mk ⟨rfl, rfl, trivial⟩ ?_
          | refine Chk.mk ⟨rfl, rfl, rfl, trivial⟩ ?_
          | refine Chk.mk ⟨rfl, rfl, rfl, rfl, trivial⟩ ?_
          | refine Chk.mk ⟨rfl, rfl, rfl, rfl, rfl, trivial⟩ ?_
          | refine Chk.mk ⟨rfl, rfl, rfl, rfl, rfl, rfl, trivial⟩ ?_)
        refine Tri.free (law_bytes 1 7 (right_of _ _ (by decide) (by decide)) I16) ?_
        rintro v J17 _ hJ17 ⟨aV, capV, rfl, hV⟩
        repeat (first
          | refine LoadD.own 0 rfl _ rfl rfl ?_
          | refine LoadD.own 1 rfl _ rfl rfl ?_
          | refine LoadD.own 2 rfl _ rfl rfl ?_
          | refine LoadD.own 3 rfl _ rfl rfl ?_
          | refine LoadD.own 4 rfl _ rfl rfl ?_
          | refine LoadD.own 5 rfl _ rfl rfl ?_
          | refine LoadP.at 0 rfl _ rfl rfl ?_
          | refine LoadP.at 1 rfl _ rfl rfl ?_
          | refine LoadP.at 2 rfl _ rfl rfl ?_
          | refine LoadP.at 3 rfl _ rfl rfl ?_
          | refine LoadP.at 4 rfl _ rfl rfl ?_
          | refine LoadP.at 5 rfl _ rfl rfl ?_
          | refine StoreD.st 0 rfl rfl rfl ?_
          | refine StoreD.st 1 rfl rfl rfl ?_
          | refine StoreD.st 2 rfl rfl rfl ?_
          | refine StoreD.st 3 rfl rfl rfl ?_
          | refine StoreD.st 4 rfl rfl rfl ?_
          | refine StoreD.st 5 rfl rfl rfl ?_
          | refine CmpD.yes rfl ?_
          | refine CmpD.yes (by decide) ?_
          | refine CmpD.no (by decide) ?_
          | refine Chk.mk ⟨rfl, trivial⟩ ?_
          | refine Chk.mk ⟨rfl, rfl, trivial⟩ ?_
          | refine Chk.mk ⟨rfl, rfl, rfl, trivial⟩ ?_
          | refine Chk.mk ⟨rfl, rfl, rfl, rfl, trivial⟩ ?_
          | refine Chk.mk ⟨rfl, rfl, rfl, rfl, rfl, trivial⟩ ?_
          | refine Chk.mk ⟨rfl, rfl, rfl, rfl, rfl, rfl, trivial⟩ ?_)
        refine Tri.nf (same_bytes (hRR.mono hJ17).slC hV.slC) ?_
        rintro v J18 S' hJ18 ⟨rfl, rfl, rfl⟩
        rw [decide_eq_true (show supA = supL (superOf 1 7) from rfl)]
        repeat (first
          | refine LoadD.own 0 rfl _ rfl rfl ?_
          | refine LoadD.own 1 rfl _ rfl rfl ?_
          | refine LoadD.own 2 rfl _ rfl rfl ?_
          | refine LoadD.own 3 rfl _ rfl rfl ?_
          | refine LoadD.own 4 rfl _ rfl rfl ?_
          | refine LoadD.own 5 rfl _ rfl rfl ?_
          | refine LoadP.at 0 rfl _ rfl rfl ?_
          | refine LoadP.at 1 rfl _ rfl rfl ?_
          | refine LoadP.at 2 rfl _ rfl rfl ?_
          | refine LoadP.at 3 rfl _ rfl rfl ?_
          | refine LoadP.at 4 rfl _ rfl rfl ?_
          | refine LoadP.at 5 rfl _ rfl rfl ?_
          | refine StoreD.st 0 rfl rfl rfl ?_
          | refine StoreD.st 1 rfl rfl rfl ?_
          | refine StoreD.st 2 rfl rfl rfl ?_
          | refine StoreD.st 3 rfl rfl rfl ?_
          | refine StoreD.st 4 rfl rfl rfl ?_
          | refine StoreD.st 5 rfl rfl rfl ?_
          | refine CmpD.yes rfl ?_
          | refine CmpD.yes (by decide) ?_
          | refine CmpD.no (by decide) ?_
          | refine Chk.mk ⟨rfl, trivial⟩ ?_
          | refine Chk.mk ⟨rfl, rfl, trivial⟩ ?_
          | refine Chk.mk ⟨rfl, rfl, rfl, trivial⟩ ?_
          | refine Chk.mk ⟨rfl, rfl, rfl, rfl, trivial⟩ ?_
          | refine Chk.mk ⟨rfl, rfl, rfl, rfl, rfl, trivial⟩ ?_
          | refine Chk.mk ⟨rfl, rfl, rfl, rfl, rfl, rfl, trivial⟩ ?_)
        refine Tri.mono (awake10 _ _) ?_
        rintro v J19 S19 hJ19 rfl
        repeat (first
          | refine LoadD.own 0 rfl _ rfl rfl ?_
          | refine LoadP.at 0 rfl _ rfl rfl ?_
          | refine StoreD.st 0 rfl rfl rfl ?_
          | refine CmpD.yes rfl ?_
          | refine CmpD.yes (by decide) ?_
          | refine CmpD.no (by decide) ?_
          | refine Chk.mk ⟨rfl, trivial⟩ ?_
          | refine Chk.mk ⟨rfl, rfl, trivial⟩ ?_
          | refine Chk.mk ⟨rfl, rfl, rfl, trivial⟩ ?_
          | refine Chk.mk ⟨rfl, rfl, rfl, rfl, trivial⟩ ?_
          | refine Chk.mk ⟨rfl, rfl, rfl, rfl, rfl, trivial⟩ ?_
          | refine Chk.mk ⟨rfl, rfl, rfl, rfl, rfl, rfl, trivial⟩ ?_)
        exact Done.mk rfl
end Go.Proofs.Ytbpdbgcndfcilaa

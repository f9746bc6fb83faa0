/- Texts of this claim laid together: SpB. -/
import Derived.Test.YtegdcjnjnoeinaaGreatBVolumeSpares5
import Derived.Test.YtegdcjnjnoeinaaGreatBVolumeSpares1
import Derived.Test.YtegdcjnjnoeinaaGreatBVolumeSpares2
import Derived.Test.YtegdcjnjnoeinaaGreatBVolumeSpares3
import Derived.Test.YtegdcjnjnoeinaaGreatBVolumeSpares4
namespace Go.Proofs.YtegdcjnjnoeinaaGreat
open Go.RowKit Go.Sl
set_option maxRecDepth 20000

theorem VkX.less {A : List Blk} {J : Imm} {bV bD : Nat} {v : VSt} {ch : List Blk} (h : VkX (fun b => b ∈ A.map Prod.fst) J bV bD v ch) : Vk (J.less A) bV bD v ch := by
  obtain ⟨bJ, bM, ob, chJ, gs, h1, h2, h3, h4, h5, h6⟩ := h
  exact ⟨bJ, bM, ob, chJ, gs, h1, h2, h3, fun g hg => ⟨(h4 g hg).1, (h4 g hg).2.less fun b off ha hm => h6 g hg b off ha hm⟩, h5⟩
theorem right_one {x : Int} (hx : 18 ≤ x ∧ x < 64) (k : Int) : RightP 2 1 [(x, madeL k 4096)] := by
  refine ⟨by decide, by decide, by decide, by decide, by simp, by simp, ?_, by simp⟩
  intro g hg
  simp only [List.mem_singleton] at hg
  subst hg
  exact ⟨by show 0 ≤ x; omega, by show x < 512; omega, madeL_length _ _⟩
set_option maxHeartbeats 8000000 in
theorem volumeSpares_walk {I : Imm} (n : Int) (hn : In64 n) : Tri Tryz.prog 3 #[.int .i64 n] I [] fun v _ _ => v = .bool true := by
  refine Tri.of (args := [.int .i64 n]) tabOk Tryz.func3 rfl (by kernel_rfl) (by kernel_rfl) ?_
  refine Tri.frameX (law_fresh I) [] rfl rfl ?_
  rintro r J1 A' hJ1 ⟨bD, bV, chD, chV, rfl, hD, hV, rfl⟩
  conv => whnf
  intro b22
  refine Tri.fix 2 (ch := [(b22, row [.int .i64 30] 3)]) rfl fun I2 hI2 hm2 => ?_
  have hz : Rds I2 (some ⟨b22, 0, none⟩) 1 (ints [30]) := ⟨rfl, .inr ⟨b22, 0, _, _, _, rfl, hm2 _ (List.mem_singleton.2 rfl), rfl⟩⟩
  refine Tri.frameX (images11_own (some ⟨b22, 0, none⟩) 1 30 n hn I2 hz) [] rfl rfl ?_
  rintro r _ A' hJ3 ⟨aL, capL, chL, bA, chA, rfl, hL, hA, rfl, rfl⟩
  obtain ⟨dat, hdat⟩ : ∃ dat, dat = madeL n 4096 := ⟨_, rfl⟩
  have hdl : dat.length = 4096 := by rw [hdat, madeL_length]
  rw [← hdat] at hA hL
  refine Tri.fix 3 (ch := chL) rfl fun I5 hI5 hm5 => ?_
  have hLr : Rds I5 aL 2 (imgCells [⟨30, some ⟨bA, 0, none⟩, 4096, 4096, dat⟩]) := Rds.of_ownS hL hm5
  have hV5 := hV.mono (Imm.le_trans hI2 hI5)
  have hD5 := hD.mono (Imm.le_trans hI2 hI5)
  have hR := right_one (x := 30) (by omega) n
  have hho : HomeOk (layOf 64) [(30, madeL n 4096)] := by
    intro g hg
    simp only [List.mem_singleton] at hg
    subst hg
    show (18 : Int) ≤ 30 ∧ (30 : Int) < 64
    omega
  obtain ⟨j1, f, hcm⟩ := commit_first (d := dV) (dz_calm _ _ _) (zL_length _ _) hR hho (by simp)
  have hwl : (wrD f (putP 2 1 [(30, madeL n 4096)]) 0 dV).now.length = 64 := by rw [wrD_len]; exact zL_length _ _
  have hwc := wrD_calm f (putP 2 1 [(30, madeL n 4096)]) 0 dV (dz_calm _ _ _)
  rw [← hdat] at hcm hwl hwc
  generalize wrD f (putP 2 1 [(30, dat)]) 0 dV = d1 at *
  refine Tri.lend 4 (ch := chA) rfl fun I6 hI6 hm6 hno6 => ?_
  have hX : ∀ b, b ∈ chA.map Prod.fst → ∃ o, I6 b = some o := by
    intro b hb
    obtain ⟨x, hx, rfl⟩ := List.mem_map.1 hb
    exact ⟨_, hm6 x hx⟩
  have hi6 : ImgsOk I6 aL [⟨30, some ⟨bA, 0, none⟩, 4096, 4096, dat⟩] := by
    refine ⟨hLr.mono hI6, ?_⟩
    intro g hg
    simp only [List.mem_singleton] at hg
    subst hg
    exact ⟨by show In64 30; unfold In64; omega, Rds.of_own hA hm6⟩
  have hcommit := vk_CommitX (X := fun b => b ∈ chA.map Prod.fst) hX ((hV5.mono hI6).none (X := fun b => b ∈ chA.map Prod.fst) rfl) v0_wf rfl (by show (0 : Int) ≤ 0 ∧ (0 : Int) ≤ 1; omega) (by show 0 ≤ 1000; omega) (by show 0 ≤ _; omega) (hD5.mono hI6) ((dz_few _ _ 24).mono (by omega)) aL capL _ hi6 (by simp)
  rw [show List.map Img.pr [(⟨30, some ⟨bA, 0, none⟩, 4096, 4096, dat⟩ : Img)] = [(30, dat)] from rfl, hcm] at hcommit
  refine Tri.frame hcommit [0, 1] rfl rfl ?_
  dsimp only
  rintro r J6 A' hJ6 ⟨rfl, chV6, chD6, hV6, hVX, hD6, rfl⟩
  refine ⟨Nat.le_refl _, ?_⟩
  refine ⟨rfl, fun hJm => ?_⟩
  have hV7 := (hVX rfl).less
  have hback : ∀ K, (J6.less chA).le K → (∀ x ∈ chA, K x.1 = some x.2) → J6.le K := fun K h1 h2 => Imm.back hJm h1 h2
  have hno7 : ∀ x ∈ chA, J6.less chA x.1 = none := fun x hx => Imm.less_none hx
  have hle7 : I5.le (J6.less chA) := Imm.le_less (Imm.le_trans hI6 hJ6) hno6
  generalize J6.less chA = J7 at *
  have hfr : List.foldl pput [] [((30 : Int), dat)] = [(30, dat)] := by simp [pput]
  rw [hfr] at hV6 hV7
  clear hVX hcm hcommit hV hV5 hD hD5 hX hi6 hR hho
  refine Tri.frame (vk_ReadF hV7 rfl 30 (b := dat) rfl (by omega)) [0] rfl rfl ?_
  rintro r _ A' hJ7 ⟨aX, capX, chX, rfl, hX, rfl, rfl⟩
  refine ⟨by simp, ?_⟩
  rw [hdl] at hX ⊢
  refine Tri.frame (vk_ReadF hV7 rfl 30 (b := dat) rfl (by omega)) [0] rfl rfl ?_
  rintro r _ A' hJ8 ⟨aY, capY, chY, rfl, hY, rfl, rfl⟩
  refine ⟨by simp, ?_⟩
  rw [hdl] at hY ⊢
  refine Tri.lend 4 (ch := chA) rfl fun I8 hI8 hm8 hno8 => ?_
  have hJ68 := hback I8 hI8 hm8
  have hrd : VSt.read ⟨j1, 2, 0, [((30 : Int), dat)], false⟩ d1 31 = (d1.now.getD 31 [], 0) := by
    unfold VSt.read
    rw [if_neg (by simp)]
    show d1.read 31 = _
    have hw0 : wrongE d1.now.length 31 = 0 := by unfold wrongE; rw [if_neg (by omega), if_neg (by omega)]
    unfold DSt.read
    rw [hw0, if_neg (by simp), if_neg (by rw [hwc.1]; simp)]
    rfl
  have hzl : (d1.now.getD 31 []).length = 4096 := get_data_len hD6.wf (by omega)
  have hread := vk_Read (hV6.mono hJ68) (hD6.mono hJ68) (by intro g hg; simp only [List.mem_singleton] at hg; subst hg; show dat.length ≤ _; omega) 31
  rw [hrd] at hread
  generalize d1.now.getD 31 [] = zd at *
  refine Tri.frame hread [0, 1] rfl rfl ?_
  dsimp only
  rintro r _ A' hJ9 ⟨aZ, capZ, chZ, rfl, hZ, rfl, rfl⟩
  refine ⟨by simp, ?_⟩
  refine ⟨rfl, fun hJm8 => ?_⟩
  rw [hzl] at hZ ⊢
  have hle8 : J7.le (I8.less chA) := Imm.le_less hI8 hno8
  generalize I8.less chA = J8 at *
  have hV8 := hV7.mono hle8
  clear hread hD6 hV6 hrd
  refine ToD.to 0 (by decide) ?_
  refine ToD.to 0 (by decide) ?_
  refine ToD.to 0 (by decide) ?_
  repeat (first
    | refine LoadD.own 0 rfl _ rfl rfl ?_
    | refine LoadP.at 0 rfl _ rfl rfl ?_
    | refine StoreD.st 0 rfl rfl rfl ?_
    | refine CmpD.yes rfl ?_
    | refine CmpD.yes (by decide) ?_
    | refine CmpD.no (by decide) ?_
    | refine Chk.mk ⟨rfl, trivial⟩ ?_
    | refine Chk.mk ⟨rfl, rfl, trivial⟩ ?_
    | refine Chk.mk ⟨rfl, rfl, rfl, trivial⟩ ?_
    | refine Chk.mk ⟨rfl, rfl, rfl, rfl, trivial⟩ ?_
    | refine Chk.mk ⟨rfl, rfl, rfl, rfl, rfl, trivial⟩ ?_
    | refine Chk.mk ⟨rfl, rfl, rfl, rfl, rfl, rfl, trivial⟩ ?_
    | refine Chk.mk ⟨rfl, rfl, rfl, rfl, rfl, rfl, rfl, trivial⟩ ?_
    | refine Chk.mk ⟨rfl, rfl, rfl, rfl, rfl, rfl, rfl, rfl, trivial⟩ ?_
    | refine Chk.mk ⟨rfl, rfl, rfl, rfl, rfl, rfl, rfl, rfl, rfl, trivial⟩ ?_
    | refine Chk.mk ⟨rfl, rfl, rfl, rfl, rfl, rfl, rfl, rfl, rfl, rfl, trivial⟩ ?_
    | refine Chk.mk ⟨rfl, rfl, rfl, rfl, rfl, rfl, rfl, rfl, rfl, rfl, rfl, trivial⟩ ?_
    | refine Chk.mk ⟨rfl, rfl, rfl, rfl, rfl, rfl, rfl, rfl, rfl, rfl, rfl, rfl, trivial⟩ ?_)
  refine Tri.free (made n 4096 (by omega) J8) ?_
  rintro r J9 _ hJ9 ⟨aM, rfl, hM⟩
  repeat (first
    | refine LoadD.own 0 rfl _ rfl rfl ?_
    | refine LoadP.at 0 rfl _ rfl rfl ?_
    | refine StoreD.st 0 rfl rfl rfl ?_
    | refine CmpD.yes rfl ?_
    | refine CmpD.yes (by decide) ?_
    | refine CmpD.no (by decide) ?_
    | refine Chk.mk ⟨rfl, trivial⟩ ?_
    | refine Chk.mk ⟨rfl, rfl, trivial⟩ ?_
    | refine Chk.mk ⟨rfl, rfl, rfl, trivial⟩ ?_
    | refine Chk.mk ⟨rfl, rfl, rfl, rfl, trivial⟩ ?_
    | refine Chk.mk ⟨rfl, rfl, rfl, rfl, rfl, trivial⟩ ?_
    | refine Chk.mk ⟨rfl, rfl, rfl, rfl, rfl, rfl, trivial⟩ ?_
    | refine Chk.mk ⟨rfl, rfl, rfl, rfl, rfl, rfl, rfl, trivial⟩ ?_
    | refine Chk.mk ⟨rfl, rfl, rfl, rfl, rfl, rfl, rfl, rfl, trivial⟩ ?_
    | refine Chk.mk ⟨rfl, rfl, rfl, rfl, rfl, rfl, rfl, rfl, rfl, trivial⟩ ?_
    | refine Chk.mk ⟨rfl, rfl, rfl, rfl, rfl, rfl, rfl, rfl, rfl, rfl, trivial⟩ ?_
    | refine Chk.mk ⟨rfl, rfl, rfl, rfl, rfl, rfl, rfl, rfl, rfl, rfl, rfl, trivial⟩ ?_
    | refine Chk.mk ⟨rfl, rfl, rfl, rfl, rfl, rfl, rfl, rfl, rfl, rfl, rfl, rfl, trivial⟩ ?_)
  rw [← hdat] at hM
  refine Tri.mono (same_bytes (hX.slC1 5 rfl) hM.slC) ?_
  rintro r _ _ hJ10 ⟨rfl, rfl, rfl⟩
  rw [decide_eq_true rfl]
  repeat (first
    | refine LoadD.own 0 rfl _ rfl rfl ?_
    | refine LoadP.at 0 rfl _ rfl rfl ?_
    | refine StoreD.st 0 rfl rfl rfl ?_
    | refine CmpD.yes rfl ?_
    | refine CmpD.yes (by decide) ?_
    | refine CmpD.no (by decide) ?_
    | refine Chk.mk ⟨rfl, trivial⟩ ?_
    | refine Chk.mk ⟨rfl, rfl, trivial⟩ ?_
    | refine Chk.mk ⟨rfl, rfl, rfl, trivial⟩ ?_
    | refine Chk.mk ⟨rfl, rfl, rfl, rfl, trivial⟩ ?_
    | refine Chk.mk ⟨rfl, rfl, rfl, rfl, rfl, trivial⟩ ?_
    | refine Chk.mk ⟨rfl, rfl, rfl, rfl, rfl, rfl, trivial⟩ ?_
    | refine Chk.mk ⟨rfl, rfl, rfl, rfl, rfl, rfl, rfl, trivial⟩ ?_
    | refine Chk.mk ⟨rfl, rfl, rfl, rfl, rfl, rfl, rfl, rfl, trivial⟩ ?_
    | refine Chk.mk ⟨rfl, rfl, rfl, rfl, rfl, rfl, rfl, rfl, rfl, trivial⟩ ?_
    | refine Chk.mk ⟨rfl, rfl, rfl, rfl, rfl, rfl, rfl, rfl, rfl, rfl, trivial⟩ ?_
    | refine Chk.mk ⟨rfl, rfl, rfl, rfl, rfl, rfl, rfl, rfl, rfl, rfl, rfl, trivial⟩ ?_
    | refine Chk.mk ⟨rfl, rfl, rfl, rfl, rfl, rfl, rfl, rfl, rfl, rfl, rfl, rfl, trivial⟩ ?_)
  rcases hLr.mem with q0 | ⟨bL, oL, cL, TL, fL, rfl, hIL, hcL⟩
  · omega
  have hIL9 := hJ9 _ _ (hle8 _ _ (hle7 _ _ hIL))
  refine Chk.mk (by decide) ?_
  refine LoadD.imm hIL9 [.slice (some ⟨bA, 0, none⟩) 4096 4096] (pair_snd hcL) rfl ?_
  conv => whnf
  intro b69
  obtain ⟨x, hxo, rfl, hxc, _⟩ := AB.of hX
  obtain ⟨y, hyo, rfl, hyc, _⟩ := AB.of hY
  obtain ⟨z, hzo, rfl, hzc, _⟩ := AB.of hZ
  obtain ⟨w, hwo, rfl, hwc, _⟩ := AB.of hA
  refine Tri.fix 8 rfl fun J11 hJ11 hm11 => ?_
  have hL11 : Rds J11 (some ⟨b69, 0, none⟩) 4 ([x, y, z, w].map AB.cell) := by
    show Rds J11 (some ⟨b69, 0, none⟩) 4 [x.cell, y.cell, z.cell, w.cell]
    rw [hxc, hyc, hzc, hwc]
    exact ⟨rfl, .inr ⟨b69, 0, _, _, _, rfl, hm11 _ (List.mem_singleton.2 rfl), rfl⟩⟩
  have hap := apart J11 [x, y, z, w] (by
    intro q hq
    simp only [List.mem_cons, List.not_mem_nil, or_false] at hq
    rcases hq with rfl | rfl | rfl | rfl <;> assumption) (some ⟨b69, 0, none⟩) 4 hL11 (by simp)
  refine Tri.frameX (Q := fun v _ S' => v = .bool true ∧ S' = []) (Tri.drop hap (fun v J S' hJ h => ⟨[], ⟨S'.flatten, by simp⟩, h, rfl⟩)) [5, 6, 7, 4] rfl rfl ?_
  rintro r J12 A' hJ12 ⟨rfl, rfl⟩
  repeat (first
    | refine LoadD.own 0 rfl _ rfl rfl ?_
    | refine LoadP.at 0 rfl _ rfl rfl ?_
    | refine StoreD.st 0 rfl rfl rfl ?_
    | refine CmpD.yes rfl ?_
    | refine CmpD.yes (by decide) ?_
    | refine CmpD.no (by decide) ?_
    | refine Chk.mk ⟨rfl, trivial⟩ ?_
    | refine Chk.mk ⟨rfl, rfl, trivial⟩ ?_
    | refine Chk.mk ⟨rfl, rfl, rfl, trivial⟩ ?_
    | refine Chk.mk ⟨rfl, rfl, rfl, rfl, trivial⟩ ?_
    | refine Chk.mk ⟨rfl, rfl, rfl, rfl, rfl, trivial⟩ ?_
    | refine Chk.mk ⟨rfl, rfl, rfl, rfl, rfl, rfl, trivial⟩ ?_
    | refine Chk.mk ⟨rfl, rfl, rfl, rfl, rfl, rfl, rfl, trivial⟩ ?_
    | refine Chk.mk ⟨rfl, rfl, rfl, rfl, rfl, rfl, rfl, rfl, trivial⟩ ?_
    | refine Chk.mk ⟨rfl, rfl, rfl, rfl, rfl, rfl, rfl, rfl, rfl, trivial⟩ ?_
    | refine Chk.mk ⟨rfl, rfl, rfl, rfl, rfl, rfl, rfl, rfl, rfl, rfl, trivial⟩ ?_
    | refine Chk.mk ⟨rfl, rfl, rfl, rfl, rfl, rfl, rfl, rfl, rfl, rfl, rfl, trivial⟩ ?_
    | refine Chk.mk ⟨rfl, rfl, rfl, rfl, rfl, rfl, rfl, rfl, rfl, rfl, rfl, rfl, trivial⟩ ?_)
  refine Tri.free (made n 4096 (by omega) J12) ?_
  rintro r J13 _ hJ13 ⟨aN, rfl, hN⟩
  repeat (first
    | refine LoadD.own 0 rfl _ rfl rfl ?_
    | refine LoadP.at 0 rfl _ rfl rfl ?_
    | refine StoreD.st 0 rfl rfl rfl ?_
    | refine CmpD.yes rfl ?_
    | refine CmpD.yes (by decide) ?_
    | refine CmpD.no (by decide) ?_
    | refine Chk.mk ⟨rfl, trivial⟩ ?_
    | refine Chk.mk ⟨rfl, rfl, trivial⟩ ?_
    | refine Chk.mk ⟨rfl, rfl, rfl, trivial⟩ ?_
    | refine Chk.mk ⟨rfl, rfl, rfl, rfl, trivial⟩ ?_
    | refine Chk.mk ⟨rfl, rfl, rfl, rfl, rfl, trivial⟩ ?_
    | refine Chk.mk ⟨rfl, rfl, rfl, rfl, rfl, rfl, trivial⟩ ?_
    | refine Chk.mk ⟨rfl, rfl, rfl, rfl, rfl, rfl, rfl, trivial⟩ ?_
    | refine Chk.mk ⟨rfl, rfl, rfl, rfl, rfl, rfl, rfl, rfl, trivial⟩ ?_
    | refine Chk.mk ⟨rfl, rfl, rfl, rfl, rfl, rfl, rfl, rfl, rfl, trivial⟩ ?_
    | refine Chk.mk ⟨rfl, rfl, rfl, rfl, rfl, rfl, rfl, rfl, rfl, rfl, trivial⟩ ?_
    | refine Chk.mk ⟨rfl, rfl, rfl, rfl, rfl, rfl, rfl, rfl, rfl, rfl, rfl, trivial⟩ ?_
    | refine Chk.mk ⟨rfl, rfl, rfl, rfl, rfl, rfl, rfl, rfl, rfl, rfl, rfl, rfl, trivial⟩ ?_)
  rw [← hdat] at hN
  refine Tri.frame (law_hasF (hV8.mono (Imm.le_trans hJ9 (Imm.le_trans hJ11 (Imm.le_trans hJ12 hJ13)))) rfl 30 (b := dat) rfl (by omega) aN 4096 4096 hN) [0] rfl rfl ?_
  rintro r _ A' hJ14 ⟨rfl, rfl, rfl⟩
  refine ⟨by simp, ?_⟩
  repeat (first
    | refine LoadD.own 0 rfl _ rfl rfl ?_
    | refine LoadP.at 0 rfl _ rfl rfl ?_
    | refine StoreD.st 0 rfl rfl rfl ?_
    | refine CmpD.yes rfl ?_
    | refine CmpD.yes (by decide) ?_
    | refine CmpD.no (by decide) ?_
    | refine Chk.mk ⟨rfl, trivial⟩ ?_
    | refine Chk.mk ⟨rfl, rfl, trivial⟩ ?_
    | refine Chk.mk ⟨rfl, rfl, rfl, trivial⟩ ?_
    | refine Chk.mk ⟨rfl, rfl, rfl, rfl, trivial⟩ ?_
    | refine Chk.mk ⟨rfl, rfl, rfl, rfl, rfl, trivial⟩ ?_
    | refine Chk.mk ⟨rfl, rfl, rfl, rfl, rfl, rfl, trivial⟩ ?_
    | refine Chk.mk ⟨rfl, rfl, rfl, rfl, rfl, rfl, rfl, trivial⟩ ?_
    | refine Chk.mk ⟨rfl, rfl, rfl, rfl, rfl, rfl, rfl, rfl, trivial⟩ ?_
    | refine Chk.mk ⟨rfl, rfl, rfl, rfl, rfl, rfl, rfl, rfl, rfl, trivial⟩ ?_
    | refine Chk.mk ⟨rfl, rfl, rfl, rfl, rfl, rfl, rfl, rfl, rfl, rfl, trivial⟩ ?_
    | refine Chk.mk ⟨rfl, rfl, rfl, rfl, rfl, rfl, rfl, rfl, rfl, rfl, rfl, trivial⟩ ?_
    | refine Chk.mk ⟨rfl, rfl, rfl, rfl, rfl, rfl, rfl, rfl, rfl, rfl, rfl, rfl, trivial⟩ ?_)
  refine Tri.mono (awake11 J13 _) ?_
  rintro r J15 S15 hJ15 rfl
  exact Done.mk rfl
end Go.Proofs.YtegdcjnjnoeinaaGreat

/- Texts of this claim laid together: VolumeNone. -/
import Derived.Test.YtegdcjnjnoeinaaGreatBVolumeNone7
import Derived.Test.YtegdcjnjnoeinaaGreatBVolumeNone1
import Derived.Test.YtegdcjnjnoeinaaGreatBVolumeNone2
import Derived.Test.YtegdcjnjnoeinaaGreatBVolumeNone3
import Derived.Test.YtegdcjnjnoeinaaGreatBVolumeNone4
import Derived.Test.YtegdcjnjnoeinaaGreatBVolumeNone5
import Derived.Test.YtegdcjnjnoeinaaGreatBVolumeNone6
namespace Go.Proofs.YtegdcjnjnoeinaaGreat
open Go.RowKit Go.Sl
set_option maxRecDepth 20000

def VNone (I : Imm) (vv : Value) : Prop := vv = .pointer none ∨ ∃ b, vv = .pointer (some ⟨b, 0, none⟩) ∧ I b = some (row [.pointer none, .int .i64 0, .int .i64 0, .int .i64 0, .int .i64 0, .int .i64 0, .int .i64 0, .int .i64 0, .pointer none, .int .i64 0, .int .i64 0, .map none, .bool false] 49)
theorem drop_one {c : List Value} {k : Nat} {v : Value} (h : c[k]? = some v) : (c.drop k).take 1 = [v] := by
  obtain ⟨h1, rfl⟩ := List.getElem?_eq_some_iff.1 h
  rw [List.drop_eq_getElem_cons h1]; rfl
theorem vn_none (I : Imm) (S : St) (vv : Value) (hv : VNone I vv) : Tri Tryz.prog 97 #[vv] I S fun v J S' => v = .bool true ∧ I = J ∧ S' = S := by
  rcases hv with rfl | ⟨b, rfl, hb⟩
  · refine Tri.of (args := [.pointer none]) tabOk Tryz.func97 rfl (by kernel_rfl) (by kernel_rfl) ?_
    exact Done.mk ⟨rfl, rfl, rfl⟩
  · refine Tri.of (args := [.pointer (some ⟨b, 0, none⟩)]) tabOk Tryz.func97 rfl (by kernel_rfl) (by kernel_rfl) ?_
    refine LoadD.imm hb [.pointer none] rfl rfl ?_
    exact Done.mk ⟨rfl, rfl, rfl⟩
theorem vn_wrong (I : Imm) (S : St) (vv : Value) (hv : VNone I vv) : Tri Tryz.prog 78 #[vv] I S fun v J S' => v = .int .i64 1 ∧ I = J ∧ S' = S := by
  have hv2 := hv
  rcases hv with rfl | ⟨b, rfl, hb⟩
  · refine Tri.of (args := [.pointer none]) tabOk Tryz.func78 rfl (by kernel_rfl) (by kernel_rfl) ?_
    refine Tri.mono (vn_none I _ _ hv2) ?_
    rintro r _ _ hJ ⟨rfl, rfl, rfl⟩
    exact Done.mk ⟨rfl, rfl, rfl⟩
  · refine Tri.of (args := [.pointer (some ⟨b, 0, none⟩)]) tabOk Tryz.func78 rfl (by kernel_rfl) (by kernel_rfl) ?_
    refine Tri.mono (vn_none I _ _ hv2) ?_
    rintro r _ _ hJ ⟨rfl, rfl, rfl⟩
    exact Done.mk ⟨rfl, rfl, rfl⟩
theorem vn_Next (I : Imm) (vv : Value) (hv : VNone I vv) : Tri Tryz.prog 25 #[vv] I [] fun v J _ => v = .int .i64 0 ∧ I = J := by
  have hv2 := hv
  rcases hv with rfl | ⟨b, rfl, hb⟩
  · refine Tri.of (args := [.pointer none]) tabOk Tryz.func25 rfl (by kernel_rfl) (by kernel_rfl) ?_
    refine Tri.mono (vn_none I _ _ hv2) ?_
    rintro r _ _ hJ ⟨rfl, rfl, rfl⟩
    exact Done.mk ⟨rfl, rfl⟩
  · refine Tri.of (args := [.pointer (some ⟨b, 0, none⟩)]) tabOk Tryz.func25 rfl (by kernel_rfl) (by kernel_rfl) ?_
    refine Tri.mono (vn_none I _ _ hv2) ?_
    rintro r _ _ hJ ⟨rfl, rfl, rfl⟩
    exact Done.mk ⟨rfl, rfl⟩
theorem vn_Synced (I : Imm) (vv : Value) (hv : VNone I vv) : Tri Tryz.prog 26 #[vv] I [] fun v J _ => v = .int .i64 0 ∧ I = J := by
  have hv2 := hv
  rcases hv with rfl | ⟨b, rfl, hb⟩
  · refine Tri.of (args := [.pointer none]) tabOk Tryz.func26 rfl (by kernel_rfl) (by kernel_rfl) ?_
    refine Tri.mono (vn_none I _ _ hv2) ?_
    rintro r _ _ hJ ⟨rfl, rfl, rfl⟩
    exact Done.mk ⟨rfl, rfl⟩
  · refine Tri.of (args := [.pointer (some ⟨b, 0, none⟩)]) tabOk Tryz.func26 rfl (by kernel_rfl) (by kernel_rfl) ?_
    refine Tri.mono (vn_none I _ _ hv2) ?_
    rintro r _ _ hJ ⟨rfl, rfl, rfl⟩
    exact Done.mk ⟨rfl, rfl⟩
theorem vn_Broken (I : Imm) (vv : Value) (hv : VNone I vv) : Tri Tryz.prog 28 #[vv] I [] fun v J _ => v = .bool false ∧ I = J := by
  have hv2 := hv
  rcases hv with rfl | ⟨b, rfl, hb⟩
  · refine Tri.of (args := [.pointer none]) tabOk Tryz.func28 rfl (by kernel_rfl) (by kernel_rfl) ?_
    refine Tri.mono (vn_none I _ _ hv2) ?_
    rintro r _ _ hJ ⟨rfl, rfl, rfl⟩
    exact Done.mk ⟨rfl, rfl⟩
  · refine Tri.of (args := [.pointer (some ⟨b, 0, none⟩)]) tabOk Tryz.func28 rfl (by kernel_rfl) (by kernel_rfl) ?_
    refine Tri.mono (vn_none I _ _ hv2) ?_
    rintro r _ _ hJ ⟨rfl, rfl, rfl⟩
    exact Done.mk ⟨rfl, rfl⟩
theorem vn_Sync (I : Imm) (vv : Value) (hv : VNone I vv) : Tri Tryz.prog 23 #[vv] I [] fun v J _ => v = .int .i64 1 ∧ I = J := by
  have hv2 := hv
  rcases hv with rfl | ⟨b, rfl, hb⟩
  · refine Tri.of (args := [.pointer none]) tabOk Tryz.func23 rfl (by kernel_rfl) (by kernel_rfl) ?_
    refine Tri.mono (vn_wrong I _ _ hv2) ?_
    rintro r _ _ hJ ⟨rfl, rfl, rfl⟩
    repeat (first
      | refine LoadD.own 0 rfl _ rfl rfl ?_
      | refine LoadP.at 0 rfl _ rfl rfl ?_
      | refine StoreD.st 0 rfl rfl rfl ?_
      | refine CmpD.yes rfl ?_
      | refine CmpD.yes (by decide) ?_
      | refine CmpD.no (by decide) ?_
      | refine Chk.mk ⟨rfl, trivial⟩ ?_
      | refine Chk.mk ⟨rfl, rfl, trivial⟩ ?_
      | refine Chk.mk ⟨rfl, rfl, rfl, trivial⟩ ?_
      | refine Chk.mk ⟨rfl, rfl, rfl, rfl, trivial⟩ ?_
      | refine Chk.mk ⟨rfl, rfl, rfl, rfl, rfl, trivial⟩ ?_
      | refine Chk.mk ⟨rfl, rfl, rfl, rfl, rfl, rfl, trivial⟩ ?_
      | refine Chk.mk ⟨rfl, rfl, rfl, rfl, rfl, rfl, rfl, trivial⟩ ?_
      | refine Chk.mk ⟨rfl, rfl, rfl, rfl, rfl, rfl, rfl, rfl, trivial⟩ ?_
      | refine Chk.mk ⟨rfl, rfl, rfl, rfl, rfl, rfl, rfl, rfl, rfl, trivial⟩ ?_
      | refine Chk.mk ⟨rfl, rfl, rfl, rfl, rfl, rfl, rfl, rfl, rfl, rfl, trivial⟩ ?_
      | refine Chk.mk ⟨rfl, rfl, rfl, rfl, rfl, rfl, rfl, rfl, rfl, rfl, rfl, trivial⟩ ?_
      | refine Chk.mk ⟨rfl, rfl, rfl, rfl, rfl, rfl, rfl, rfl, rfl, rfl, rfl, rfl, trivial⟩ ?_)
    exact Done.mk ⟨rfl, rfl⟩
  · refine Tri.of (args := [.pointer (some ⟨b, 0, none⟩)]) tabOk Tryz.func23 rfl (by kernel_rfl) (by kernel_rfl) ?_
    refine Tri.mono (vn_wrong I _ _ hv2) ?_
    rintro r _ _ hJ ⟨rfl, rfl, rfl⟩
    repeat (first
      | refine LoadD.own 0 rfl _ rfl rfl ?_
      | refine LoadP.at 0 rfl _ rfl rfl ?_
      | refine StoreD.st 0 rfl rfl rfl ?_
      | refine CmpD.yes rfl ?_
      | refine CmpD.yes (by decide) ?_
      | refine CmpD.no (by decide) ?_
      | refine Chk.mk ⟨rfl, trivial⟩ ?_
      | refine Chk.mk ⟨rfl, rfl, trivial⟩ ?_
      | refine Chk.mk ⟨rfl, rfl, rfl, trivial⟩ ?_
      | refine Chk.mk ⟨rfl, rfl, rfl, rfl, trivial⟩ ?_
      | refine Chk.mk ⟨rfl, rfl, rfl, rfl, rfl, trivial⟩ ?_
      | refine Chk.mk ⟨rfl, rfl, rfl, rfl, rfl, rfl, trivial⟩ ?_
      | refine Chk.mk ⟨rfl, rfl, rfl, rfl, rfl, rfl, rfl, trivial⟩ ?_
      | refine Chk.mk ⟨rfl, rfl, rfl, rfl, rfl, rfl, rfl, rfl, trivial⟩ ?_
      | refine Chk.mk ⟨rfl, rfl, rfl, rfl, rfl, rfl, rfl, rfl, rfl, trivial⟩ ?_
      | refine Chk.mk ⟨rfl, rfl, rfl, rfl, rfl, rfl, rfl, rfl, rfl, rfl, trivial⟩ ?_
      | refine Chk.mk ⟨rfl, rfl, rfl, rfl, rfl, rfl, rfl, rfl, rfl, rfl, rfl, trivial⟩ ?_
      | refine Chk.mk ⟨rfl, rfl, rfl, rfl, rfl, rfl, rfl, rfl, rfl, rfl, rfl, rfl, trivial⟩ ?_)
    exact Done.mk ⟨rfl, rfl⟩
theorem vn_Read (I : Imm) (vv : Value) (hv : VNone I vv) (n : Int) : Tri Tryz.prog 17 #[vv, .int .i64 n] I [] fun v J _ => v = .tuple #[.slice none 0 0, .int .i64 1] ∧ I = J := by
  have hv2 := hv
  rcases hv with rfl | ⟨b, rfl, hb⟩
  · refine Tri.of (args := [.pointer none, .int .i64 n]) tabOk Tryz.func17 rfl (by kernel_rfl) (by kernel_rfl) ?_
    refine Tri.mono (vn_wrong I _ _ hv2) ?_
    rintro r _ _ hJ ⟨rfl, rfl, rfl⟩
    repeat (first
      | refine LoadD.own 0 rfl _ rfl rfl ?_
      | refine LoadP.at 0 rfl _ rfl rfl ?_
      | refine StoreD.st 0 rfl rfl rfl ?_
      | refine CmpD.yes rfl ?_
      | refine CmpD.yes (by decide) ?_
      | refine CmpD.no (by decide) ?_
      | refine Chk.mk ⟨rfl, trivial⟩ ?_
      | refine Chk.mk ⟨rfl, rfl, trivial⟩ ?_
      | refine Chk.mk ⟨rfl, rfl, rfl, trivial⟩ ?_
      | refine Chk.mk ⟨rfl, rfl, rfl, rfl, trivial⟩ ?_
      | refine Chk.mk ⟨rfl, rfl, rfl, rfl, rfl, trivial⟩ ?_
      | refine Chk.mk ⟨rfl, rfl, rfl, rfl, rfl, rfl, trivial⟩ ?_
      | refine Chk.mk ⟨rfl, rfl, rfl, rfl, rfl, rfl, rfl, trivial⟩ ?_
      | refine Chk.mk ⟨rfl, rfl, rfl, rfl, rfl, rfl, rfl, rfl, trivial⟩ ?_
      | refine Chk.mk ⟨rfl, rfl, rfl, rfl, rfl, rfl, rfl, rfl, rfl, trivial⟩ ?_
      | refine Chk.mk ⟨rfl, rfl, rfl, rfl, rfl, rfl, rfl, rfl, rfl, rfl, trivial⟩ ?_
      | refine Chk.mk ⟨rfl, rfl, rfl, rfl, rfl, rfl, rfl, rfl, rfl, rfl, rfl, trivial⟩ ?_
      | refine Chk.mk ⟨rfl, rfl, rfl, rfl, rfl, rfl, rfl, rfl, rfl, rfl, rfl, rfl, trivial⟩ ?_)
    exact Done.mk ⟨rfl, rfl⟩
  · refine Tri.of (args := [.pointer (some ⟨b, 0, none⟩), .int .i64 n]) tabOk Tryz.func17 rfl (by kernel_rfl) (by kernel_rfl) ?_
    refine Tri.mono (vn_wrong I _ _ hv2) ?_
    rintro r _ _ hJ ⟨rfl, rfl, rfl⟩
    repeat (first
      | refine LoadD.own 0 rfl _ rfl rfl ?_
      | refine LoadP.at 0 rfl _ rfl rfl ?_
      | refine StoreD.st 0 rfl rfl rfl ?_
      | refine CmpD.yes rfl ?_
      | refine CmpD.yes (by decide) ?_
      | refine CmpD.no (by decide) ?_
      | refine Chk.mk ⟨rfl, trivial⟩ ?_
      | refine Chk.mk ⟨rfl, rfl, trivial⟩ ?_
      | refine Chk.mk ⟨rfl, rfl, rfl, trivial⟩ ?_
      | refine Chk.mk ⟨rfl, rfl, rfl, rfl, trivial⟩ ?_
      | refine Chk.mk ⟨rfl, rfl, rfl, rfl, rfl, trivial⟩ ?_
      | refine Chk.mk ⟨rfl, rfl, rfl, rfl, rfl, rfl, trivial⟩ ?_
      | refine Chk.mk ⟨rfl, rfl, rfl, rfl, rfl, rfl, rfl, trivial⟩ ?_
      | refine Chk.mk ⟨rfl, rfl, rfl, rfl, rfl, rfl, rfl, rfl, trivial⟩ ?_
      | refine Chk.mk ⟨rfl, rfl, rfl, rfl, rfl, rfl, rfl, rfl, rfl, trivial⟩ ?_
      | refine Chk.mk ⟨rfl, rfl, rfl, rfl, rfl, rfl, rfl, rfl, rfl, rfl, trivial⟩ ?_
      | refine Chk.mk ⟨rfl, rfl, rfl, rfl, rfl, rfl, rfl, rfl, rfl, rfl, rfl, trivial⟩ ?_
      | refine Chk.mk ⟨rfl, rfl, rfl, rfl, rfl, rfl, rfl, rfl, rfl, rfl, rfl, rfl, trivial⟩ ?_)
    exact Done.mk ⟨rfl, rfl⟩
theorem vn_Commit (I : Imm) (vv : Value) (hv : VNone I vv) : Tri Tryz.prog 16 #[vv, .slice none 0 0] I [] fun v J _ => v = .tuple #[.int .i64 0, .int .i64 1] ∧ I = J := by
  have hv2 := hv
  rcases hv with rfl | ⟨b, rfl, hb⟩
  · refine Tri.of (args := [.pointer none, .slice none 0 0]) tabOk Tryz.func16 rfl (by kernel_rfl) (by kernel_rfl) ?_
    refine Tri.mono (vn_wrong I _ _ hv2) ?_
    rintro r _ _ hJ ⟨rfl, rfl, rfl⟩
    repeat (first
      | refine LoadD.own 0 rfl _ rfl rfl ?_
      | refine LoadP.at 0 rfl _ rfl rfl ?_
      | refine StoreD.st 0 rfl rfl rfl ?_
      | refine CmpD.yes rfl ?_
      | refine CmpD.yes (by decide) ?_
      | refine CmpD.no (by decide) ?_
      | refine Chk.mk ⟨rfl, trivial⟩ ?_
      | refine Chk.mk ⟨rfl, rfl, trivial⟩ ?_
      | refine Chk.mk ⟨rfl, rfl, rfl, trivial⟩ ?_
      | refine Chk.mk ⟨rfl, rfl, rfl, rfl, trivial⟩ ?_
      | refine Chk.mk ⟨rfl, rfl, rfl, rfl, rfl, trivial⟩ ?_
      | refine Chk.mk ⟨rfl, rfl, rfl, rfl, rfl, rfl, trivial⟩ ?_
      | refine Chk.mk ⟨rfl, rfl, rfl, rfl, rfl, rfl, rfl, trivial⟩ ?_
      | refine Chk.mk ⟨rfl, rfl, rfl, rfl, rfl, rfl, rfl, rfl, trivial⟩ ?_
      | refine Chk.mk ⟨rfl, rfl, rfl, rfl, rfl, rfl, rfl, rfl, rfl, trivial⟩ ?_
      | refine Chk.mk ⟨rfl, rfl, rfl, rfl, rfl, rfl, rfl, rfl, rfl, rfl, trivial⟩ ?_
      | refine Chk.mk ⟨rfl, rfl, rfl, rfl, rfl, rfl, rfl, rfl, rfl, rfl, rfl, trivial⟩ ?_
      | refine Chk.mk ⟨rfl, rfl, rfl, rfl, rfl, rfl, rfl, rfl, rfl, rfl, rfl, rfl, trivial⟩ ?_)
    exact Done.mk ⟨rfl, rfl⟩
  · refine Tri.of (args := [.pointer (some ⟨b, 0, none⟩), .slice none 0 0]) tabOk Tryz.func16 rfl (by kernel_rfl) (by kernel_rfl) ?_
    refine Tri.mono (vn_wrong I _ _ hv2) ?_
    rintro r _ _ hJ ⟨rfl, rfl, rfl⟩
    repeat (first
      | refine LoadD.own 0 rfl _ rfl rfl ?_
      | refine LoadP.at 0 rfl _ rfl rfl ?_
      | refine StoreD.st 0 rfl rfl rfl ?_
      | refine CmpD.yes rfl ?_
      | refine CmpD.yes (by decide) ?_
      | refine CmpD.no (by decide) ?_
      | refine Chk.mk ⟨rfl, trivial⟩ ?_
      | refine Chk.mk ⟨rfl, rfl, trivial⟩ ?_
      | refine Chk.mk ⟨rfl, rfl, rfl, trivial⟩ ?_
      | refine Chk.mk ⟨rfl, rfl, rfl, rfl, trivial⟩ ?_
      | refine Chk.mk ⟨rfl, rfl, rfl, rfl, rfl, trivial⟩ ?_
      | refine Chk.mk ⟨rfl, rfl, rfl, rfl, rfl, rfl, trivial⟩ ?_
      | refine Chk.mk ⟨rfl, rfl, rfl, rfl, rfl, rfl, rfl, trivial⟩ ?_
      | refine Chk.mk ⟨rfl, rfl, rfl, rfl, rfl, rfl, rfl, rfl, trivial⟩ ?_
      | refine Chk.mk ⟨rfl, rfl, rfl, rfl, rfl, rfl, rfl, rfl, rfl, trivial⟩ ?_
      | refine Chk.mk ⟨rfl, rfl, rfl, rfl, rfl, rfl, rfl, rfl, rfl, rfl, trivial⟩ ?_
      | refine Chk.mk ⟨rfl, rfl, rfl, rfl, rfl, rfl, rfl, rfl, rfl, rfl, rfl, trivial⟩ ?_
      | refine Chk.mk ⟨rfl, rfl, rfl, rfl, rfl, rfl, rfl, rfl, rfl, rfl, rfl, rfl, trivial⟩ ?_)
    exact Done.mk ⟨rfl, rfl⟩
theorem vn_Checkpoint (I : Imm) (vv : Value) (hv : VNone I vv) : Tri Tryz.prog 24 #[vv] I [] fun v J _ => v = .int .i64 1 ∧ I = J := by
  have hv2 := hv
  rcases hv with rfl | ⟨b, rfl, hb⟩
  · refine Tri.of (args := [.pointer none]) tabOk Tryz.func24 rfl (by kernel_rfl) (by kernel_rfl) ?_
    conv => whnf
    intro b1
    repeat (first
      | refine LoadD.own 0 rfl _ rfl rfl ?_
      | refine LoadP.at 0 rfl _ rfl rfl ?_
      | refine StoreD.st 0 rfl rfl rfl ?_
      | refine CmpD.yes rfl ?_
      | refine CmpD.yes (by decide) ?_
      | refine CmpD.no (by decide) ?_
      | refine Chk.mk ⟨rfl, trivial⟩ ?_
      | refine Chk.mk ⟨rfl, rfl, trivial⟩ ?_
      | refine Chk.mk ⟨rfl, rfl, rfl, trivial⟩ ?_
      | refine Chk.mk ⟨rfl, rfl, rfl, rfl, trivial⟩ ?_
      | refine Chk.mk ⟨rfl, rfl, rfl, rfl, rfl, trivial⟩ ?_
      | refine Chk.mk ⟨rfl, rfl, rfl, rfl, rfl, rfl, trivial⟩ ?_
      | refine Chk.mk ⟨rfl, rfl, rfl, rfl, rfl, rfl, rfl, trivial⟩ ?_
      | refine Chk.mk ⟨rfl, rfl, rfl, rfl, rfl, rfl, rfl, rfl, trivial⟩ ?_
      | refine Chk.mk ⟨rfl, rfl, rfl, rfl, rfl, rfl, rfl, rfl, rfl, trivial⟩ ?_
      | refine Chk.mk ⟨rfl, rfl, rfl, rfl, rfl, rfl, rfl, rfl, rfl, rfl, trivial⟩ ?_
      | refine Chk.mk ⟨rfl, rfl, rfl, rfl, rfl, rfl, rfl, rfl, rfl, rfl, rfl, trivial⟩ ?_
      | refine Chk.mk ⟨rfl, rfl, rfl, rfl, rfl, rfl, rfl, rfl, rfl, rfl, rfl, rfl, trivial⟩ ?_)
    refine Tri.mono (vn_wrong I _ _ hv2) ?_
    rintro r _ _ hJ ⟨rfl, rfl, rfl⟩
    repeat (first
      | refine LoadD.own 0 rfl _ rfl rfl ?_
      | refine LoadP.at 0 rfl _ rfl rfl ?_
      | refine StoreD.st 0 rfl rfl rfl ?_
      | refine CmpD.yes rfl ?_
      | refine CmpD.yes (by decide) ?_
      | refine CmpD.no (by decide) ?_
      | refine Chk.mk ⟨rfl, trivial⟩ ?_
      | refine Chk.mk ⟨rfl, rfl, trivial⟩ ?_
      | refine Chk.mk ⟨rfl, rfl, rfl, trivial⟩ ?_
      | refine Chk.mk ⟨rfl, rfl, rfl, rfl, trivial⟩ ?_
      | refine Chk.mk ⟨rfl, rfl, rfl, rfl, rfl, trivial⟩ ?_
      | refine Chk.mk ⟨rfl, rfl, rfl, rfl, rfl, rfl, trivial⟩ ?_
      | refine Chk.mk ⟨rfl, rfl, rfl, rfl, rfl, rfl, rfl, trivial⟩ ?_
      | refine Chk.mk ⟨rfl, rfl, rfl, rfl, rfl, rfl, rfl, rfl, trivial⟩ ?_
      | refine Chk.mk ⟨rfl, rfl, rfl, rfl, rfl, rfl, rfl, rfl, rfl, trivial⟩ ?_
      | refine Chk.mk ⟨rfl, rfl, rfl, rfl, rfl, rfl, rfl, rfl, rfl, rfl, trivial⟩ ?_
      | refine Chk.mk ⟨rfl, rfl, rfl, rfl, rfl, rfl, rfl, rfl, rfl, rfl, rfl, trivial⟩ ?_
      | refine Chk.mk ⟨rfl, rfl, rfl, rfl, rfl, rfl, rfl, rfl, rfl, rfl, rfl, rfl, trivial⟩ ?_)
    exact Done.mk ⟨rfl, rfl⟩
  · refine Tri.of (args := [.pointer (some ⟨b, 0, none⟩)]) tabOk Tryz.func24 rfl (by kernel_rfl) (by kernel_rfl) ?_
    conv => whnf
    intro b1
    repeat (first
      | refine LoadD.own 0 rfl _ rfl rfl ?_
      | refine LoadP.at 0 rfl _ rfl rfl ?_
      | refine StoreD.st 0 rfl rfl rfl ?_
      | refine CmpD.yes rfl ?_
      | refine CmpD.yes (by decide) ?_
      | refine CmpD.no (by decide) ?_
      | refine Chk.mk ⟨rfl, trivial⟩ ?_
      | refine Chk.mk ⟨rfl, rfl, trivial⟩ ?_
      | refine Chk.mk ⟨rfl, rfl, rfl, trivial⟩ ?_
      | refine Chk.mk ⟨rfl, rfl, rfl, rfl, trivial⟩ ?_
      | refine Chk.mk ⟨rfl, rfl, rfl, rfl, rfl, trivial⟩ ?_
      | refine Chk.mk ⟨rfl, rfl, rfl, rfl, rfl, rfl, trivial⟩ ?_
      | refine Chk.mk ⟨rfl, rfl, rfl, rfl, rfl, rfl, rfl, trivial⟩ ?_
      | refine Chk.mk ⟨rfl, rfl, rfl, rfl, rfl, rfl, rfl, rfl, trivial⟩ ?_
      | refine Chk.mk ⟨rfl, rfl, rfl, rfl, rfl, rfl, rfl, rfl, rfl, trivial⟩ ?_
      | refine Chk.mk ⟨rfl, rfl, rfl, rfl, rfl, rfl, rfl, rfl, rfl, rfl, trivial⟩ ?_
      | refine Chk.mk ⟨rfl, rfl, rfl, rfl, rfl, rfl, rfl, rfl, rfl, rfl, rfl, trivial⟩ ?_
      | refine Chk.mk ⟨rfl, rfl, rfl, rfl, rfl, rfl, rfl, rfl, rfl, rfl, rfl, rfl, trivial⟩ ?_)
    refine Tri.mono (vn_wrong I _ _ hv2) ?_
    rintro r _ _ hJ ⟨rfl, rfl, rfl⟩
    repeat (first
      | refine LoadD.own 0 rfl _ rfl rfl ?_
      | refine LoadP.at 0 rfl _ rfl rfl ?_
      | refine StoreD.st 0 rfl rfl rfl ?_
      | refine CmpD.yes rfl ?_
      | refine CmpD.yes (by decide) ?_
      | refine CmpD.no (by decide) ?_
      | refine Chk.mk ⟨rfl, trivial⟩ ?_
      | refine Chk.mk ⟨rfl, rfl, trivial⟩ ?_
      | refine Chk.mk ⟨rfl, rfl, rfl, trivial⟩ ?_
      | refine Chk.mk ⟨rfl, rfl, rfl, rfl, trivial⟩ ?_
      | refine Chk.mk ⟨rfl, rfl, rfl, rfl, rfl, trivial⟩ ?_
      | refine Chk.mk ⟨rfl, rfl, rfl, rfl, rfl, rfl, trivial⟩ ?_
      | refine Chk.mk ⟨rfl, rfl, rfl, rfl, rfl, rfl, rfl, trivial⟩ ?_
      | refine Chk.mk ⟨rfl, rfl, rfl, rfl, rfl, rfl, rfl, rfl, trivial⟩ ?_
      | refine Chk.mk ⟨rfl, rfl, rfl, rfl, rfl, rfl, rfl, rfl, rfl, trivial⟩ ?_
      | refine Chk.mk ⟨rfl, rfl, rfl, rfl, rfl, rfl, rfl, rfl, rfl, rfl, trivial⟩ ?_
      | refine Chk.mk ⟨rfl, rfl, rfl, rfl, rfl, rfl, rfl, rfl, rfl, rfl, rfl, trivial⟩ ?_
      | refine Chk.mk ⟨rfl, rfl, rfl, rfl, rfl, rfl, rfl, rfl, rfl, rfl, rfl, rfl, trivial⟩ ?_)
    exact Done.mk ⟨rfl, rfl⟩
theorem vn_Fits (I : Imm) (vv : Value) (hv : VNone I vv) : Tri Tryz.prog 27 #[vv, .int .i64 1] I [] fun v J _ => v = .bool false ∧ I = J := by
  have hv2 := hv
  rcases hv with rfl | ⟨b, rfl, hb⟩
  · refine Tri.of (args := [.pointer none, .int .i64 1]) tabOk Tryz.func27 rfl (by kernel_rfl) (by kernel_rfl) ?_
    refine Tri.free (record_Blocks 1 I []) ?_
    rintro r _ _ hJ ⟨rfl, rfl, rfl⟩
    refine Tri.mono (vn_none I _ _ hv2) ?_
    rintro r _ _ hJ ⟨rfl, rfl, rfl⟩
    exact Done.mk ⟨rfl, rfl⟩
  · refine Tri.of (args := [.pointer (some ⟨b, 0, none⟩), .int .i64 1]) tabOk Tryz.func27 rfl (by kernel_rfl) (by kernel_rfl) ?_
    refine Tri.free (record_Blocks 1 I []) ?_
    rintro r _ _ hJ ⟨rfl, rfl, rfl⟩
    refine Tri.mono (vn_none I _ _ hv2) ?_
    rintro r _ _ hJ ⟨rfl, rfl, rfl⟩
    exact Done.mk ⟨rfl, rfl⟩
theorem vn_Layout (I : Imm) (vv : Value) (hv : VNone I vv) : Tri Tryz.prog 29 #[vv] I [] fun v J _ => v = layV 0 0 0 0 0 0 0 ∧ I = J := by
  have hv2 := hv
  rcases hv with rfl | ⟨b, rfl, hb⟩
  · refine Tri.of (args := [.pointer none]) tabOk Tryz.func29 rfl (by kernel_rfl) (by kernel_rfl) ?_
    conv => whnf
    intro b1
    repeat (first
      | refine LoadD.own 0 rfl _ rfl rfl ?_
      | refine LoadP.at 0 rfl _ rfl rfl ?_
      | refine StoreD.st 0 rfl rfl rfl ?_
      | refine CmpD.yes rfl ?_
      | refine CmpD.yes (by decide) ?_
      | refine CmpD.no (by decide) ?_
      | refine Chk.mk ⟨rfl, trivial⟩ ?_
      | refine Chk.mk ⟨rfl, rfl, trivial⟩ ?_
      | refine Chk.mk ⟨rfl, rfl, rfl, trivial⟩ ?_
      | refine Chk.mk ⟨rfl, rfl, rfl, rfl, trivial⟩ ?_
      | refine Chk.mk ⟨rfl, rfl, rfl, rfl, rfl, trivial⟩ ?_
      | refine Chk.mk ⟨rfl, rfl, rfl, rfl, rfl, rfl, trivial⟩ ?_
      | refine Chk.mk ⟨rfl, rfl, rfl, rfl, rfl, rfl, rfl, trivial⟩ ?_
      | refine Chk.mk ⟨rfl, rfl, rfl, rfl, rfl, rfl, rfl, rfl, trivial⟩ ?_
      | refine Chk.mk ⟨rfl, rfl, rfl, rfl, rfl, rfl, rfl, rfl, rfl, trivial⟩ ?_
      | refine Chk.mk ⟨rfl, rfl, rfl, rfl, rfl, rfl, rfl, rfl, rfl, rfl, trivial⟩ ?_
      | refine Chk.mk ⟨rfl, rfl, rfl, rfl, rfl, rfl, rfl, rfl, rfl, rfl, rfl, trivial⟩ ?_
      | refine Chk.mk ⟨rfl, rfl, rfl, rfl, rfl, rfl, rfl, rfl, rfl, rfl, rfl, rfl, trivial⟩ ?_)
    refine Tri.mono (vn_none I _ _ hv2) ?_
    rintro r _ _ hJ ⟨rfl, rfl, rfl⟩
    repeat (first
      | refine LoadD.own 0 rfl _ rfl rfl ?_
      | refine LoadP.at 0 rfl _ rfl rfl ?_
      | refine StoreD.st 0 rfl rfl rfl ?_
      | refine CmpD.yes rfl ?_
      | refine CmpD.yes (by decide) ?_
      | refine CmpD.no (by decide) ?_
      | refine Chk.mk ⟨rfl, trivial⟩ ?_
      | refine Chk.mk ⟨rfl, rfl, trivial⟩ ?_
      | refine Chk.mk ⟨rfl, rfl, rfl, trivial⟩ ?_
      | refine Chk.mk ⟨rfl, rfl, rfl, rfl, trivial⟩ ?_
      | refine Chk.mk ⟨rfl, rfl, rfl, rfl, rfl, trivial⟩ ?_
      | refine Chk.mk ⟨rfl, rfl, rfl, rfl, rfl, rfl, trivial⟩ ?_
      | refine Chk.mk ⟨rfl, rfl, rfl, rfl, rfl, rfl, rfl, trivial⟩ ?_
      | refine Chk.mk ⟨rfl, rfl, rfl, rfl, rfl, rfl, rfl, rfl, trivial⟩ ?_
      | refine Chk.mk ⟨rfl, rfl, rfl, rfl, rfl, rfl, rfl, rfl, rfl, trivial⟩ ?_
      | refine Chk.mk ⟨rfl, rfl, rfl, rfl, rfl, rfl, rfl, rfl, rfl, rfl, trivial⟩ ?_
      | refine Chk.mk ⟨rfl, rfl, rfl, rfl, rfl, rfl, rfl, rfl, rfl, rfl, rfl, trivial⟩ ?_
      | refine Chk.mk ⟨rfl, rfl, rfl, rfl, rfl, rfl, rfl, rfl, rfl, rfl, rfl, rfl, trivial⟩ ?_)
    exact Done.mk ⟨rfl, rfl⟩
  · refine Tri.of (args := [.pointer (some ⟨b, 0, none⟩)]) tabOk Tryz.func29 rfl (by kernel_rfl) (by kernel_rfl) ?_
    conv => whnf
    intro b1
    repeat (first
      | refine LoadD.own 0 rfl _ rfl rfl ?_
      | refine LoadP.at 0 rfl _ rfl rfl ?_
      | refine StoreD.st 0 rfl rfl rfl ?_
      | refine CmpD.yes rfl ?_
      | refine CmpD.yes (by decide) ?_
      | refine CmpD.no (by decide) ?_
      | refine Chk.mk ⟨rfl, trivial⟩ ?_
      | refine Chk.mk ⟨rfl, rfl, trivial⟩ ?_
      | refine Chk.mk ⟨rfl, rfl, rfl, trivial⟩ ?_
      | refine Chk.mk ⟨rfl, rfl, rfl, rfl, trivial⟩ ?_
      | refine Chk.mk ⟨rfl, rfl, rfl, rfl, rfl, trivial⟩ ?_
      | refine Chk.mk ⟨rfl, rfl, rfl, rfl, rfl, rfl, trivial⟩ ?_
      | refine Chk.mk ⟨rfl, rfl, rfl, rfl, rfl, rfl, rfl, trivial⟩ ?_
      | refine Chk.mk ⟨rfl, rfl, rfl, rfl, rfl, rfl, rfl, rfl, trivial⟩ ?_
      | refine Chk.mk ⟨rfl, rfl, rfl, rfl, rfl, rfl, rfl, rfl, rfl, trivial⟩ ?_
      | refine Chk.mk ⟨rfl, rfl, rfl, rfl, rfl, rfl, rfl, rfl, rfl, rfl, trivial⟩ ?_
      | refine Chk.mk ⟨rfl, rfl, rfl, rfl, rfl, rfl, rfl, rfl, rfl, rfl, rfl, trivial⟩ ?_
      | refine Chk.mk ⟨rfl, rfl, rfl, rfl, rfl, rfl, rfl, rfl, rfl, rfl, rfl, rfl, trivial⟩ ?_)
    refine Tri.mono (vn_none I _ _ hv2) ?_
    rintro r _ _ hJ ⟨rfl, rfl, rfl⟩
    repeat (first
      | refine LoadD.own 0 rfl _ rfl rfl ?_
      | refine LoadP.at 0 rfl _ rfl rfl ?_
      | refine StoreD.st 0 rfl rfl rfl ?_
      | refine CmpD.yes rfl ?_
      | refine CmpD.yes (by decide) ?_
      | refine CmpD.no (by decide) ?_
      | refine Chk.mk ⟨rfl, trivial⟩ ?_
      | refine Chk.mk ⟨rfl, rfl, trivial⟩ ?_
      | refine Chk.mk ⟨rfl, rfl, rfl, trivial⟩ ?_
      | refine Chk.mk ⟨rfl, rfl, rfl, rfl, trivial⟩ ?_
      | refine Chk.mk ⟨rfl, rfl, rfl, rfl, rfl, trivial⟩ ?_
      | refine Chk.mk ⟨rfl, rfl, rfl, rfl, rfl, rfl, trivial⟩ ?_
      | refine Chk.mk ⟨rfl, rfl, rfl, rfl, rfl, rfl, rfl, trivial⟩ ?_
      | refine Chk.mk ⟨rfl, rfl, rfl, rfl, rfl, rfl, rfl, rfl, trivial⟩ ?_
      | refine Chk.mk ⟨rfl, rfl, rfl, rfl, rfl, rfl, rfl, rfl, rfl, trivial⟩ ?_
      | refine Chk.mk ⟨rfl, rfl, rfl, rfl, rfl, rfl, rfl, rfl, rfl, rfl, trivial⟩ ?_
      | refine Chk.mk ⟨rfl, rfl, rfl, rfl, rfl, rfl, rfl, rfl, rfl, rfl, rfl, trivial⟩ ?_
      | refine Chk.mk ⟨rfl, rfl, rfl, rfl, rfl, rfl, rfl, rfl, rfl, rfl, rfl, rfl, trivial⟩ ?_)
    exact Done.mk ⟨rfl, rfl⟩
set_option maxHeartbeats 2000000 in
theorem volumeNone_walk (n : Int) (_hn : In64 n) (I : Imm) : Tri Tryz.prog 4 #[.int .i64 n] I [] fun v _ _ => v = .bool true := by
  refine Tri.of (args := [.int .i64 n]) tabOk Tryz.func4 rfl (by kernel_rfl) (by kernel_rfl) ?_
  conv => whnf
  intro b1
  conv => whnf
  intro b2
  repeat (first
    | refine LoadD.own 0 rfl _ rfl rfl ?_
    | refine LoadD.own 1 rfl _ rfl rfl ?_
    | refine LoadP.at 0 rfl _ rfl rfl ?_
    | refine LoadP.at 1 rfl _ rfl rfl ?_
    | refine StoreD.st 0 rfl rfl rfl ?_
    | refine StoreD.st 1 rfl rfl rfl ?_
    | refine CmpD.yes rfl ?_
    | refine CmpD.yes (by decide) ?_
    | refine CmpD.no (by decide) ?_
    | refine Chk.mk ⟨rfl, trivial⟩ ?_
    | refine Chk.mk ⟨rfl, rfl, trivial⟩ ?_
    | refine Chk.mk ⟨rfl, rfl, rfl, trivial⟩ ?_
    | refine Chk.mk ⟨rfl, rfl, rfl, rfl, trivial⟩ ?_
    | refine Chk.mk ⟨rfl, rfl, rfl, rfl, rfl, trivial⟩ ?_
    | refine Chk.mk ⟨rfl, rfl, rfl, rfl, rfl, rfl, trivial⟩ ?_
    | refine Chk.mk ⟨rfl, rfl, rfl, rfl, rfl, rfl, rfl, trivial⟩ ?_
    | refine Chk.mk ⟨rfl, rfl, rfl, rfl, rfl, rfl, rfl, rfl, trivial⟩ ?_
    | refine Chk.mk ⟨rfl, rfl, rfl, rfl, rfl, rfl, rfl, rfl, rfl, trivial⟩ ?_
    | refine Chk.mk ⟨rfl, rfl, rfl, rfl, rfl, rfl, rfl, rfl, rfl, rfl, trivial⟩ ?_
    | refine Chk.mk ⟨rfl, rfl, rfl, rfl, rfl, rfl, rfl, rfl, rfl, rfl, rfl, trivial⟩ ?_
    | refine Chk.mk ⟨rfl, rfl, rfl, rfl, rfl, rfl, rfl, rfl, rfl, rfl, rfl, rfl, trivial⟩ ?_)
  refine CodeF.fixD 0 rfl fun I1 hI1 hm1 => ?_
  refine CodeF.fixD 1 rfl fun I2 hI2 hm2 => ?_
  have hb1 := hI2 _ _ (hm1 _ (List.mem_singleton.2 rfl))
  have hb2 := hm2 _ (List.mem_singleton.2 rfl)
  dsimp only at hb1 hb2
  refine CodeF.loopD [0, 13, 14, 15] (fun vs J' _ => ∃ (k : Nat), k ≤ 2 ∧ I2.le J' ∧ vs = [.int .i64 n, .slice (some ⟨b2, 0, none⟩) 2 2, .int .i64 2, .int .i64 k])
    (fun vs _ _ => match vs with | [_, _, _, .int _ k] => ((2 : Int) - k).toNat | _ => 0) ?_ ?_
  · exact ⟨_, Drop.refl _, 0, by omega, Imm.le_refl _, rfl⟩
  rintro vs gE J S' hJ' ⟨k, hk, hle, rfl⟩
  have vn : ∀ (k : Nat), k < 2 → ∃ vv, ([.pointer none, .pointer (some ⟨b1, 0, none⟩)] : List Value)[k]? = some vv ∧ ∀ J2, J.le J2 → VNone J2 vv := by
    intro k hk
    match k, hk with
    | 0, _ => exact ⟨_, rfl, fun _ _ => .inl rfl⟩
    | 1, _ => exact ⟨_, rfl, fun J2 h => .inr ⟨b1, rfl, h _ _ (hle _ _ hb1)⟩⟩
  refine CmpD.split (fun (c1 : (k : Int) < 2) => ?_) (fun (c1 : ¬ (k : Int) < 2) => ?_)
  · obtain ⟨vv, hvv, hN⟩ := vn k (by omega)
    refine Chk.mk (by omega) ?_
    refine LoadD.imm (hle _ _ hb2) [vv] (by show (([.pointer none, .pointer (some ⟨b1, 0, none⟩)] : List Value).drop (0 + k)).take 1 = [vv]; rw [Nat.zero_add]; exact drop_one hvv) rfl ?_
    have hall : ∀ r, r = vv → True := fun _ _ => trivial
    clear hall
    rcases hN J (Imm.le_refl _) with rfl | ⟨b, rfl, hb⟩
    · refine Tri.free (vn_Read J _ (hN J (Imm.le_refl _)) n) ?_
      rintro r _ _ hJ ⟨rfl, rfl⟩
      repeat (first
        | refine LoadD.own 0 rfl _ rfl rfl ?_
        | refine LoadP.at 0 rfl _ rfl rfl ?_
        | refine StoreD.st 0 rfl rfl rfl ?_
        | refine CmpD.yes rfl ?_
        | refine CmpD.yes (by decide) ?_
        | refine CmpD.no (by decide) ?_
        | refine Chk.mk ⟨rfl, trivial⟩ ?_
        | refine Chk.mk ⟨rfl, rfl, trivial⟩ ?_
        | refine Chk.mk ⟨rfl, rfl, rfl, trivial⟩ ?_
        | refine Chk.mk ⟨rfl, rfl, rfl, rfl, trivial⟩ ?_
        | refine Chk.mk ⟨rfl, rfl, rfl, rfl, rfl, trivial⟩ ?_
        | refine Chk.mk ⟨rfl, rfl, rfl, rfl, rfl, rfl, trivial⟩ ?_
        | refine Chk.mk ⟨rfl, rfl, rfl, rfl, rfl, rfl, rfl, trivial⟩ ?_
        | refine Chk.mk ⟨rfl, rfl, rfl, rfl, rfl, rfl, rfl, rfl, trivial⟩ ?_
        | refine Chk.mk ⟨rfl, rfl, rfl, rfl, rfl, rfl, rfl, rfl, rfl, trivial⟩ ?_
        | refine Chk.mk ⟨rfl, rfl, rfl, rfl, rfl, rfl, rfl, rfl, rfl, rfl, trivial⟩ ?_
        | refine Chk.mk ⟨rfl, rfl, rfl, rfl, rfl, rfl, rfl, rfl, rfl, rfl, rfl, trivial⟩ ?_
        | refine Chk.mk ⟨rfl, rfl, rfl, rfl, rfl, rfl, rfl, rfl, rfl, rfl, rfl, rfl, trivial⟩ ?_)
      refine Tri.free (vn_Commit J _ (hN J (Imm.le_refl _))) ?_
      rintro r _ _ hJ ⟨rfl, rfl⟩
      repeat (first
        | refine LoadD.own 0 rfl _ rfl rfl ?_
        | refine LoadP.at 0 rfl _ rfl rfl ?_
        | refine StoreD.st 0 rfl rfl rfl ?_
        | refine CmpD.yes rfl ?_
        | refine CmpD.yes (by decide) ?_
        | refine CmpD.no (by decide) ?_
        | refine Chk.mk ⟨rfl, trivial⟩ ?_
        | refine Chk.mk ⟨rfl, rfl, trivial⟩ ?_
        | refine Chk.mk ⟨rfl, rfl, rfl, trivial⟩ ?_
        | refine Chk.mk ⟨rfl, rfl, rfl, rfl, trivial⟩ ?_
        | refine Chk.mk ⟨rfl, rfl, rfl, rfl, rfl, trivial⟩ ?_
        | refine Chk.mk ⟨rfl, rfl, rfl, rfl, rfl, rfl, trivial⟩ ?_
        | refine Chk.mk ⟨rfl, rfl, rfl, rfl, rfl, rfl, rfl, trivial⟩ ?_
        | refine Chk.mk ⟨rfl, rfl, rfl, rfl, rfl, rfl, rfl, rfl, trivial⟩ ?_
        | refine Chk.mk ⟨rfl, rfl, rfl, rfl, rfl, rfl, rfl, rfl, rfl, trivial⟩ ?_
        | refine Chk.mk ⟨rfl, rfl, rfl, rfl, rfl, rfl, rfl, rfl, rfl, rfl, trivial⟩ ?_
        | refine Chk.mk ⟨rfl, rfl, rfl, rfl, rfl, rfl, rfl, rfl, rfl, rfl, rfl, trivial⟩ ?_
        | refine Chk.mk ⟨rfl, rfl, rfl, rfl, rfl, rfl, rfl, rfl, rfl, rfl, rfl, rfl, trivial⟩ ?_)
      refine Tri.free (vn_Sync J _ (hN J (Imm.le_refl _))) ?_
      rintro r _ _ hJ ⟨rfl, rfl⟩
      repeat (first
        | refine LoadD.own 0 rfl _ rfl rfl ?_
        | refine LoadP.at 0 rfl _ rfl rfl ?_
        | refine StoreD.st 0 rfl rfl rfl ?_
        | refine CmpD.yes rfl ?_
        | refine CmpD.yes (by decide) ?_
        | refine CmpD.no (by decide) ?_
        | refine Chk.mk ⟨rfl, trivial⟩ ?_
        | refine Chk.mk ⟨rfl, rfl, trivial⟩ ?_
        | refine Chk.mk ⟨rfl, rfl, rfl, trivial⟩ ?_
        | refine Chk.mk ⟨rfl, rfl, rfl, rfl, trivial⟩ ?_
        | refine Chk.mk ⟨rfl, rfl, rfl, rfl, rfl, trivial⟩ ?_
        | refine Chk.mk ⟨rfl, rfl, rfl, rfl, rfl, rfl, trivial⟩ ?_
        | refine Chk.mk ⟨rfl, rfl, rfl, rfl, rfl, rfl, rfl, trivial⟩ ?_
        | refine Chk.mk ⟨rfl, rfl, rfl, rfl, rfl, rfl, rfl, rfl, trivial⟩ ?_
        | refine Chk.mk ⟨rfl, rfl, rfl, rfl, rfl, rfl, rfl, rfl, rfl, trivial⟩ ?_
        | refine Chk.mk ⟨rfl, rfl, rfl, rfl, rfl, rfl, rfl, rfl, rfl, rfl, trivial⟩ ?_
        | refine Chk.mk ⟨rfl, rfl, rfl, rfl, rfl, rfl, rfl, rfl, rfl, rfl, rfl, trivial⟩ ?_
        | refine Chk.mk ⟨rfl, rfl, rfl, rfl, rfl, rfl, rfl, rfl, rfl, rfl, rfl, rfl, trivial⟩ ?_)
      refine Tri.free (vn_Checkpoint J _ (hN J (Imm.le_refl _))) ?_
      rintro r _ _ hJ ⟨rfl, rfl⟩
      repeat (first
        | refine LoadD.own 0 rfl _ rfl rfl ?_
        | refine LoadP.at 0 rfl _ rfl rfl ?_
        | refine StoreD.st 0 rfl rfl rfl ?_
        | refine CmpD.yes rfl ?_
        | refine CmpD.yes (by decide) ?_
        | refine CmpD.no (by decide) ?_
        | refine Chk.mk ⟨rfl, trivial⟩ ?_
        | refine Chk.mk ⟨rfl, rfl, trivial⟩ ?_
        | refine Chk.mk ⟨rfl, rfl, rfl, trivial⟩ ?_
        | refine Chk.mk ⟨rfl, rfl, rfl, rfl, trivial⟩ ?_
        | refine Chk.mk ⟨rfl, rfl, rfl, rfl, rfl, trivial⟩ ?_
        | refine Chk.mk ⟨rfl, rfl, rfl, rfl, rfl, rfl, trivial⟩ ?_
        | refine Chk.mk ⟨rfl, rfl, rfl, rfl, rfl, rfl, rfl, trivial⟩ ?_
        | refine Chk.mk ⟨rfl, rfl, rfl, rfl, rfl, rfl, rfl, rfl, trivial⟩ ?_
        | refine Chk.mk ⟨rfl, rfl, rfl, rfl, rfl, rfl, rfl, rfl, rfl, trivial⟩ ?_
        | refine Chk.mk ⟨rfl, rfl, rfl, rfl, rfl, rfl, rfl, rfl, rfl, rfl, trivial⟩ ?_
        | refine Chk.mk ⟨rfl, rfl, rfl, rfl, rfl, rfl, rfl, rfl, rfl, rfl, rfl, trivial⟩ ?_
        | refine Chk.mk ⟨rfl, rfl, rfl, rfl, rfl, rfl, rfl, rfl, rfl, rfl, rfl, rfl, trivial⟩ ?_)
      refine Tri.free (vn_Next J _ (hN J (Imm.le_refl _))) ?_
      rintro r _ _ hJ ⟨rfl, rfl⟩
      repeat (first
        | refine LoadD.own 0 rfl _ rfl rfl ?_
        | refine LoadP.at 0 rfl _ rfl rfl ?_
        | refine StoreD.st 0 rfl rfl rfl ?_
        | refine CmpD.yes rfl ?_
        | refine CmpD.yes (by decide) ?_
        | refine CmpD.no (by decide) ?_
        | refine Chk.mk ⟨rfl, trivial⟩ ?_
        | refine Chk.mk ⟨rfl, rfl, trivial⟩ ?_
        | refine Chk.mk ⟨rfl, rfl, rfl, trivial⟩ ?_
        | refine Chk.mk ⟨rfl, rfl, rfl, rfl, trivial⟩ ?_
        | refine Chk.mk ⟨rfl, rfl, rfl, rfl, rfl, trivial⟩ ?_
        | refine Chk.mk ⟨rfl, rfl, rfl, rfl, rfl, rfl, trivial⟩ ?_
        | refine Chk.mk ⟨rfl, rfl, rfl, rfl, rfl, rfl, rfl, trivial⟩ ?_
        | refine Chk.mk ⟨rfl, rfl, rfl, rfl, rfl, rfl, rfl, rfl, trivial⟩ ?_
        | refine Chk.mk ⟨rfl, rfl, rfl, rfl, rfl, rfl, rfl, rfl, rfl, trivial⟩ ?_
        | refine Chk.mk ⟨rfl, rfl, rfl, rfl, rfl, rfl, rfl, rfl, rfl, rfl, trivial⟩ ?_
        | refine Chk.mk ⟨rfl, rfl, rfl, rfl, rfl, rfl, rfl, rfl, rfl, rfl, rfl, trivial⟩ ?_
        | refine Chk.mk ⟨rfl, rfl, rfl, rfl, rfl, rfl, rfl, rfl, rfl, rfl, rfl, rfl, trivial⟩ ?_)
      refine Tri.free (vn_Synced J _ (hN J (Imm.le_refl _))) ?_
      rintro r _ _ hJ ⟨rfl, rfl⟩
      repeat (first
        | refine LoadD.own 0 rfl _ rfl rfl ?_
        | refine LoadP.at 0 rfl _ rfl rfl ?_
        | refine StoreD.st 0 rfl rfl rfl ?_
        | refine CmpD.yes rfl ?_
        | refine CmpD.yes (by decide) ?_
        | refine CmpD.no (by decide) ?_
        | refine Chk.mk ⟨rfl, trivial⟩ ?_
        | refine Chk.mk ⟨rfl, rfl, trivial⟩ ?_
        | refine Chk.mk ⟨rfl, rfl, rfl, trivial⟩ ?_
        | refine Chk.mk ⟨rfl, rfl, rfl, rfl, trivial⟩ ?_
        | refine Chk.mk ⟨rfl, rfl, rfl, rfl, rfl, trivial⟩ ?_
        | refine Chk.mk ⟨rfl, rfl, rfl, rfl, rfl, rfl, trivial⟩ ?_
        | refine Chk.mk ⟨rfl, rfl, rfl, rfl, rfl, rfl, rfl, trivial⟩ ?_
        | refine Chk.mk ⟨rfl, rfl, rfl, rfl, rfl, rfl, rfl, rfl, trivial⟩ ?_
        | refine Chk.mk ⟨rfl, rfl, rfl, rfl, rfl, rfl, rfl, rfl, rfl, trivial⟩ ?_
        | refine Chk.mk ⟨rfl, rfl, rfl, rfl, rfl, rfl, rfl, rfl, rfl, rfl, trivial⟩ ?_
        | refine Chk.mk ⟨rfl, rfl, rfl, rfl, rfl, rfl, rfl, rfl, rfl, rfl, rfl, trivial⟩ ?_
        | refine Chk.mk ⟨rfl, rfl, rfl, rfl, rfl, rfl, rfl, rfl, rfl, rfl, rfl, rfl, trivial⟩ ?_)
      refine ToD.to 0 rfl ?_
      repeat (first
        | refine LoadD.own 0 rfl _ rfl rfl ?_
        | refine LoadP.at 0 rfl _ rfl rfl ?_
        | refine StoreD.st 0 rfl rfl rfl ?_
        | refine CmpD.yes rfl ?_
        | refine CmpD.yes (by decide) ?_
        | refine CmpD.no (by decide) ?_
        | refine Chk.mk ⟨rfl, trivial⟩ ?_
        | refine Chk.mk ⟨rfl, rfl, trivial⟩ ?_
        | refine Chk.mk ⟨rfl, rfl, rfl, trivial⟩ ?_
        | refine Chk.mk ⟨rfl, rfl, rfl, rfl, trivial⟩ ?_
        | refine Chk.mk ⟨rfl, rfl, rfl, rfl, rfl, trivial⟩ ?_
        | refine Chk.mk ⟨rfl, rfl, rfl, rfl, rfl, rfl, trivial⟩ ?_
        | refine Chk.mk ⟨rfl, rfl, rfl, rfl, rfl, rfl, rfl, trivial⟩ ?_
        | refine Chk.mk ⟨rfl, rfl, rfl, rfl, rfl, rfl, rfl, rfl, trivial⟩ ?_
        | refine Chk.mk ⟨rfl, rfl, rfl, rfl, rfl, rfl, rfl, rfl, rfl, trivial⟩ ?_
        | refine Chk.mk ⟨rfl, rfl, rfl, rfl, rfl, rfl, rfl, rfl, rfl, rfl, trivial⟩ ?_
        | refine Chk.mk ⟨rfl, rfl, rfl, rfl, rfl, rfl, rfl, rfl, rfl, rfl, rfl, trivial⟩ ?_
        | refine Chk.mk ⟨rfl, rfl, rfl, rfl, rfl, rfl, rfl, rfl, rfl, rfl, rfl, rfl, trivial⟩ ?_)
      refine Tri.free (vn_Fits J _ (hN J (Imm.le_refl _))) ?_
      rintro r _ _ hJ ⟨rfl, rfl⟩
      repeat (first
        | refine LoadD.own 0 rfl _ rfl rfl ?_
        | refine LoadP.at 0 rfl _ rfl rfl ?_
        | refine StoreD.st 0 rfl rfl rfl ?_
        | refine CmpD.yes rfl ?_
        | refine CmpD.yes (by decide) ?_
        | refine CmpD.no (by decide) ?_
        | refine Chk.mk ⟨rfl, trivial⟩ ?_
        | refine Chk.mk ⟨rfl, rfl, trivial⟩ ?_
        | refine Chk.mk ⟨rfl, rfl, rfl, trivial⟩ ?_
        | refine Chk.mk ⟨rfl, rfl, rfl, rfl, trivial⟩ ?_
        | refine Chk.mk ⟨rfl, rfl, rfl, rfl, rfl, trivial⟩ ?_
        | refine Chk.mk ⟨rfl, rfl, rfl, rfl, rfl, rfl, trivial⟩ ?_
        | refine Chk.mk ⟨rfl, rfl, rfl, rfl, rfl, rfl, rfl, trivial⟩ ?_
        | refine Chk.mk ⟨rfl, rfl, rfl, rfl, rfl, rfl, rfl, rfl, trivial⟩ ?_
        | refine Chk.mk ⟨rfl, rfl, rfl, rfl, rfl, rfl, rfl, rfl, rfl, trivial⟩ ?_
        | refine Chk.mk ⟨rfl, rfl, rfl, rfl, rfl, rfl, rfl, rfl, rfl, rfl, trivial⟩ ?_
        | refine Chk.mk ⟨rfl, rfl, rfl, rfl, rfl, rfl, rfl, rfl, rfl, rfl, rfl, trivial⟩ ?_
        | refine Chk.mk ⟨rfl, rfl, rfl, rfl, rfl, rfl, rfl, rfl, rfl, rfl, rfl, rfl, trivial⟩ ?_)
      refine Tri.free (vn_Broken J _ (hN J (Imm.le_refl _))) ?_
      rintro r _ _ hJ ⟨rfl, rfl⟩
      repeat (first
        | refine LoadD.own 0 rfl _ rfl rfl ?_
        | refine LoadP.at 0 rfl _ rfl rfl ?_
        | refine StoreD.st 0 rfl rfl rfl ?_
        | refine CmpD.yes rfl ?_
        | refine CmpD.yes (by decide) ?_
        | refine CmpD.no (by decide) ?_
        | refine Chk.mk ⟨rfl, trivial⟩ ?_
        | refine Chk.mk ⟨rfl, rfl, trivial⟩ ?_
        | refine Chk.mk ⟨rfl, rfl, rfl, trivial⟩ ?_
        | refine Chk.mk ⟨rfl, rfl, rfl, rfl, trivial⟩ ?_
        | refine Chk.mk ⟨rfl, rfl, rfl, rfl, rfl, trivial⟩ ?_
        | refine Chk.mk ⟨rfl, rfl, rfl, rfl, rfl, rfl, trivial⟩ ?_
        | refine Chk.mk ⟨rfl, rfl, rfl, rfl, rfl, rfl, rfl, trivial⟩ ?_
        | refine Chk.mk ⟨rfl, rfl, rfl, rfl, rfl, rfl, rfl, rfl, trivial⟩ ?_
        | refine Chk.mk ⟨rfl, rfl, rfl, rfl, rfl, rfl, rfl, rfl, rfl, trivial⟩ ?_
        | refine Chk.mk ⟨rfl, rfl, rfl, rfl, rfl, rfl, rfl, rfl, rfl, rfl, trivial⟩ ?_
        | refine Chk.mk ⟨rfl, rfl, rfl, rfl, rfl, rfl, rfl, rfl, rfl, rfl, rfl, trivial⟩ ?_
        | refine Chk.mk ⟨rfl, rfl, rfl, rfl, rfl, rfl, rfl, rfl, rfl, rfl, rfl, rfl, trivial⟩ ?_)
      refine Tri.free (vn_Layout J _ (hN J (Imm.le_refl _))) ?_
      rintro r _ _ hJ ⟨rfl, rfl⟩
      repeat (first
        | refine LoadD.own 0 rfl _ rfl rfl ?_
        | refine LoadP.at 0 rfl _ rfl rfl ?_
        | refine StoreD.st 0 rfl rfl rfl ?_
        | refine CmpD.yes rfl ?_
        | refine CmpD.yes (by decide) ?_
        | refine CmpD.no (by decide) ?_
        | refine Chk.mk ⟨rfl, trivial⟩ ?_
        | refine Chk.mk ⟨rfl, rfl, trivial⟩ ?_
        | refine Chk.mk ⟨rfl, rfl, rfl, trivial⟩ ?_
        | refine Chk.mk ⟨rfl, rfl, rfl, rfl, trivial⟩ ?_
        | refine Chk.mk ⟨rfl, rfl, rfl, rfl, rfl, trivial⟩ ?_
        | refine Chk.mk ⟨rfl, rfl, rfl, rfl, rfl, rfl, trivial⟩ ?_
        | refine Chk.mk ⟨rfl, rfl, rfl, rfl, rfl, rfl, rfl, trivial⟩ ?_
        | refine Chk.mk ⟨rfl, rfl, rfl, rfl, rfl, rfl, rfl, rfl, trivial⟩ ?_
        | refine Chk.mk ⟨rfl, rfl, rfl, rfl, rfl, rfl, rfl, rfl, rfl, trivial⟩ ?_
        | refine Chk.mk ⟨rfl, rfl, rfl, rfl, rfl, rfl, rfl, rfl, rfl, rfl, trivial⟩ ?_
        | refine Chk.mk ⟨rfl, rfl, rfl, rfl, rfl, rfl, rfl, rfl, rfl, rfl, rfl, trivial⟩ ?_
        | refine Chk.mk ⟨rfl, rfl, rfl, rfl, rfl, rfl, rfl, rfl, rfl, rfl, rfl, rfl, trivial⟩ ?_)
      refine lay_cmp ⟨0, 0, 0, 0, 0, 0, 0⟩ ⟨0, 0, 0, 0, 0, 0, 0⟩ rfl (.inr rfl) rfl rfl ?_
      refine CmpD.yes rfl ?_
      refine ToD.to (((k + 1 : Nat)) : Int) (by rw [wrap_i64 (by omega) (by omega)]; omega) ?_
      refine ⟨_, Drop.refl _, ⟨k + 1, by omega, hle, rfl⟩, ?_⟩
      show ((2 : Int) - ((k + 1 : Nat) : Int)).toNat < ((2 : Int) - (k : Int)).toNat; omega
    · refine Tri.free (vn_Read J _ (hN J (Imm.le_refl _)) n) ?_
      rintro r _ _ hJ ⟨rfl, rfl⟩
      repeat (first
        | refine LoadD.own 0 rfl _ rfl rfl ?_
        | refine LoadP.at 0 rfl _ rfl rfl ?_
        | refine StoreD.st 0 rfl rfl rfl ?_
        | refine CmpD.yes rfl ?_
        | refine CmpD.yes (by decide) ?_
        | refine CmpD.no (by decide) ?_
        | refine Chk.mk ⟨rfl, trivial⟩ ?_
        | refine Chk.mk ⟨rfl, rfl, trivial⟩ ?_
        | refine Chk.mk ⟨rfl, rfl, rfl, trivial⟩ ?_
        | refine Chk.mk ⟨rfl, rfl, rfl, rfl, trivial⟩ ?_
        | refine Chk.mk ⟨rfl, rfl, rfl, rfl, rfl, trivial⟩ ?_
        | refine Chk.mk ⟨rfl, rfl, rfl, rfl, rfl, rfl, trivial⟩ ?_
        | refine Chk.mk ⟨rfl, rfl, rfl, rfl, rfl, rfl, rfl, trivial⟩ ?_
        | refine Chk.mk ⟨rfl, rfl, rfl, rfl, rfl, rfl, rfl, rfl, trivial⟩ ?_
        | refine Chk.mk ⟨rfl, rfl, rfl, rfl, rfl, rfl, rfl, rfl, rfl, trivial⟩ ?_
        | refine Chk.mk ⟨rfl, rfl, rfl, rfl, rfl, rfl, rfl, rfl, rfl, rfl, trivial⟩ ?_
        | refine Chk.mk ⟨rfl, rfl, rfl, rfl, rfl, rfl, rfl, rfl, rfl, rfl, rfl, trivial⟩ ?_
        | refine Chk.mk ⟨rfl, rfl, rfl, rfl, rfl, rfl, rfl, rfl, rfl, rfl, rfl, rfl, trivial⟩ ?_)
      refine Tri.free (vn_Commit J _ (hN J (Imm.le_refl _))) ?_
      rintro r _ _ hJ ⟨rfl, rfl⟩
      repeat (first
        | refine LoadD.own 0 rfl _ rfl rfl ?_
        | refine LoadP.at 0 rfl _ rfl rfl ?_
        | refine StoreD.st 0 rfl rfl rfl ?_
        | refine CmpD.yes rfl ?_
        | refine CmpD.yes (by decide) ?_
        | refine CmpD.no (by decide) ?_
        | refine Chk.mk ⟨rfl, trivial⟩ ?_
        | refine Chk.mk ⟨rfl, rfl, trivial⟩ ?_
        | refine Chk.mk ⟨rfl, rfl, rfl, trivial⟩ ?_
        | refine Chk.mk ⟨rfl, rfl, rfl, rfl, trivial⟩ ?_
        | refine Chk.mk ⟨rfl, rfl, rfl, rfl, rfl, trivial⟩ ?_
        | refine Chk.mk ⟨rfl, rfl, rfl, rfl, rfl, rfl, trivial⟩ ?_
        | refine Chk.mk ⟨rfl, rfl, rfl, rfl, rfl, rfl, rfl, trivial⟩ ?_
        | refine Chk.mk ⟨rfl, rfl, rfl, rfl, rfl, rfl, rfl, rfl, trivial⟩ ?_
        | refine Chk.mk ⟨rfl, rfl, rfl, rfl, rfl, rfl, rfl, rfl, rfl, trivial⟩ ?_
        | refine Chk.mk ⟨rfl, rfl, rfl, rfl, rfl, rfl, rfl, rfl, rfl, rfl, trivial⟩ ?_
        | refine Chk.mk ⟨rfl, rfl, rfl, rfl, rfl, rfl, rfl, rfl, rfl, rfl, rfl, trivial⟩ ?_
        | refine Chk.mk ⟨rfl, rfl, rfl, rfl, rfl, rfl, rfl, rfl, rfl, rfl, rfl, rfl, trivial⟩ ?_)
      refine Tri.free (vn_Sync J _ (hN J (Imm.le_refl _))) ?_
      rintro r _ _ hJ ⟨rfl, rfl⟩
      repeat (first
        | refine LoadD.own 0 rfl _ rfl rfl ?_
        | refine LoadP.at 0 rfl _ rfl rfl ?_
        | refine StoreD.st 0 rfl rfl rfl ?_
        | refine CmpD.yes rfl ?_
        | refine CmpD.yes (by decide) ?_
        | refine CmpD.no (by decide) ?_
        | refine Chk.mk ⟨rfl, trivial⟩ ?_
        | refine Chk.mk ⟨rfl, rfl, trivial⟩ ?_
        | refine Chk.mk ⟨rfl, rfl, rfl, trivial⟩ ?_
        | refine Chk.mk ⟨rfl, rfl, rfl, rfl, trivial⟩ ?_
        | refine Chk.mk ⟨rfl, rfl, rfl, rfl, rfl, trivial⟩ ?_
        | refine Chk.mk ⟨rfl, rfl, rfl, rfl, rfl, rfl, trivial⟩ ?_
        | refine Chk.mk ⟨rfl, rfl, rfl, rfl, rfl, rfl, rfl, trivial⟩ ?_
        | refine Chk.mk ⟨rfl, rfl, rfl, rfl, rfl, rfl, rfl, rfl, trivial⟩ ?_
        | refine Chk.mk ⟨rfl, rfl, rfl, rfl, rfl, rfl, rfl, rfl, rfl, trivial⟩ ?_
        | refine Chk.mk ⟨rfl, rfl, rfl, rfl, rfl, rfl, rfl, rfl, rfl, rfl, trivial⟩ ?_
        | refine Chk.mk ⟨rfl, rfl, rfl, rfl, rfl, rfl, rfl, rfl, rfl, rfl, rfl, trivial⟩ ?_
        | refine Chk.mk ⟨rfl, rfl, rfl, rfl, rfl, rfl, rfl, rfl, rfl, rfl, rfl, rfl, trivial⟩ ?_)
      refine Tri.free (vn_Checkpoint J _ (hN J (Imm.le_refl _))) ?_
      rintro r _ _ hJ ⟨rfl, rfl⟩
      repeat (first
        | refine LoadD.own 0 rfl _ rfl rfl ?_
        | refine LoadP.at 0 rfl _ rfl rfl ?_
        | refine StoreD.st 0 rfl rfl rfl ?_
        | refine CmpD.yes rfl ?_
        | refine CmpD.yes (by decide) ?_
        | refine CmpD.no (by decide) ?_
        | refine Chk.mk ⟨rfl, trivial⟩ ?_
        | refine Chk.mk ⟨rfl, rfl, trivial⟩ ?_
        | refine Chk.mk ⟨rfl, rfl, rfl, trivial⟩ ?_
        | refine Chk.mk ⟨rfl, rfl, rfl, rfl, trivial⟩ ?_
        | refine Chk.mk ⟨rfl, rfl, rfl, rfl, rfl, trivial⟩ ?_
        | refine Chk.mk ⟨rfl, rfl, rfl, rfl, rfl, rfl, trivial⟩ ?_
        | refine Chk.mk ⟨rfl, rfl, rfl, rfl, rfl, rfl, rfl, trivial⟩ ?_
        | refine Chk.mk ⟨rfl, rfl, rfl, rfl, rfl, rfl, rfl, rfl, trivial⟩ ?_
        | refine Chk.mk ⟨rfl, rfl, rfl, rfl, rfl, rfl, rfl, rfl, rfl, trivial⟩ ?_
        | refine Chk.mk ⟨rfl, rfl, rfl, rfl, rfl, rfl, rfl, rfl, rfl, rfl, trivial⟩ ?_
        | refine Chk.mk ⟨rfl, rfl, rfl, rfl, rfl, rfl, rfl, rfl, rfl, rfl, rfl, trivial⟩ ?_
        | refine Chk.mk ⟨rfl, rfl, rfl, rfl, rfl, rfl, rfl, rfl, rfl, rfl, rfl, rfl, trivial⟩ ?_)
      refine Tri.free (vn_Next J _ (hN J (Imm.le_refl _))) ?_
      rintro r _ _ hJ ⟨rfl, rfl⟩
      repeat (first
        | refine LoadD.own 0 rfl _ rfl rfl ?_
        | refine LoadP.at 0 rfl _ rfl rfl ?_
        | refine StoreD.st 0 rfl rfl rfl ?_
        | refine CmpD.yes rfl ?_
        | refine CmpD.yes (by decide) ?_
        | refine CmpD.no (by decide) ?_
        | refine Chk.mk ⟨rfl, trivial⟩ ?_
        | refine Chk.mk ⟨rfl, rfl, trivial⟩ ?_
        | refine Chk.mk ⟨rfl, rfl, rfl, trivial⟩ ?_
        | refine Chk.mk ⟨rfl, rfl, rfl, rfl, trivial⟩ ?_
        | refine Chk.mk ⟨rfl, rfl, rfl, rfl, rfl, trivial⟩ ?_
        | refine Chk.mk ⟨rfl, rfl, rfl, rfl, rfl, rfl, trivial⟩ ?_
        | refine Chk.mk ⟨rfl, rfl, rfl, rfl, rfl, rfl, rfl, trivial⟩ ?_
        | refine Chk.mk ⟨rfl, rfl, rfl, rfl, rfl, rfl, rfl, rfl, trivial⟩ ?_
        | refine Chk.mk ⟨rfl, rfl, rfl, rfl, rfl, rfl, rfl, rfl, rfl, trivial⟩ ?_
        | refine Chk.mk ⟨rfl, rfl, rfl, rfl, rfl, rfl, rfl, rfl, rfl, rfl, trivial⟩ ?_
        | refine Chk.mk ⟨rfl, rfl, rfl, rfl, rfl, rfl, rfl, rfl, rfl, rfl, rfl, trivial⟩ ?_
        | refine Chk.mk ⟨rfl, rfl, rfl, rfl, rfl, rfl, rfl, rfl, rfl, rfl, rfl, rfl, trivial⟩ ?_)
      refine Tri.free (vn_Synced J _ (hN J (Imm.le_refl _))) ?_
      rintro r _ _ hJ ⟨rfl, rfl⟩
      repeat (first
        | refine LoadD.own 0 rfl _ rfl rfl ?_
        | refine LoadP.at 0 rfl _ rfl rfl ?_
        | refine StoreD.st 0 rfl rfl rfl ?_
        | refine CmpD.yes rfl ?_
        | refine CmpD.yes (by decide) ?_
        | refine CmpD.no (by decide) ?_
        | refine Chk.mk ⟨rfl, trivial⟩ ?_
        | refine Chk.mk ⟨rfl, rfl, trivial⟩ ?_
        | refine Chk.mk ⟨rfl, rfl, rfl, trivial⟩ ?_
        | refine Chk.mk ⟨rfl, rfl, rfl, rfl, trivial⟩ ?_
        | refine Chk.mk ⟨rfl, rfl, rfl, rfl, rfl, trivial⟩ ?_
        | refine Chk.mk ⟨rfl, rfl, rfl, rfl, rfl, rfl, trivial⟩ ?_
        | refine Chk.mk ⟨rfl, rfl, rfl, rfl, rfl, rfl, rfl, trivial⟩ ?_
        | refine Chk.mk ⟨rfl, rfl, rfl, rfl, rfl, rfl, rfl, rfl, trivial⟩ ?_
        | refine Chk.mk ⟨rfl, rfl, rfl, rfl, rfl, rfl, rfl, rfl, rfl, trivial⟩ ?_
        | refine Chk.mk ⟨rfl, rfl, rfl, rfl, rfl, rfl, rfl, rfl, rfl, rfl, trivial⟩ ?_
        | refine Chk.mk ⟨rfl, rfl, rfl, rfl, rfl, rfl, rfl, rfl, rfl, rfl, rfl, trivial⟩ ?_
        | refine Chk.mk ⟨rfl, rfl, rfl, rfl, rfl, rfl, rfl, rfl, rfl, rfl, rfl, rfl, trivial⟩ ?_)
      refine ToD.to 0 rfl ?_
      repeat (first
        | refine LoadD.own 0 rfl _ rfl rfl ?_
        | refine LoadP.at 0 rfl _ rfl rfl ?_
        | refine StoreD.st 0 rfl rfl rfl ?_
        | refine CmpD.yes rfl ?_
        | refine CmpD.yes (by decide) ?_
        | refine CmpD.no (by decide) ?_
        | refine Chk.mk ⟨rfl, trivial⟩ ?_
        | refine Chk.mk ⟨rfl, rfl, trivial⟩ ?_
        | refine Chk.mk ⟨rfl, rfl, rfl, trivial⟩ ?_
        | refine Chk.mk ⟨rfl, rfl, rfl, rfl, trivial⟩ ?_
        | refine Chk.mk ⟨rfl, rfl, rfl, rfl, rfl, trivial⟩ ?_
        | refine Chk.mk ⟨rfl, rfl, rfl, rfl, rfl, rfl, trivial⟩ ?_
        | refine Chk.mk ⟨rfl, rfl, rfl, rfl, rfl, rfl, rfl, trivial⟩ ?_
        | refine Chk.mk ⟨rfl, rfl, rfl, rfl, rfl, rfl, rfl, rfl, trivial⟩ ?_
        | refine Chk.mk ⟨rfl, rfl, rfl, rfl, rfl, rfl, rfl, rfl, rfl, trivial⟩ ?_
        | refine Chk.mk ⟨rfl, rfl, rfl, rfl, rfl, rfl, rfl, rfl, rfl, rfl, trivial⟩ ?_
        | refine Chk.mk ⟨rfl, rfl, rfl, rfl, rfl, rfl, rfl, rfl, rfl, rfl, rfl, trivial⟩ ?_
        | refine Chk.mk ⟨rfl, rfl, rfl, rfl, rfl, rfl, rfl, rfl, rfl, rfl, rfl, rfl, trivial⟩ ?_)
      refine Tri.free (vn_Fits J _ (hN J (Imm.le_refl _))) ?_
      rintro r _ _ hJ ⟨rfl, rfl⟩
      repeat (first
        | refine LoadD.own 0 rfl _ rfl rfl ?_
        | refine LoadP.at 0 rfl _ rfl rfl ?_
        | refine StoreD.st 0 rfl rfl rfl ?_
        | refine CmpD.yes rfl ?_
        | refine CmpD.yes (by decide) ?_
        | refine CmpD.no (by decide) ?_
        | refine Chk.mk ⟨rfl, trivial⟩ ?_
        | refine Chk.mk ⟨rfl, rfl, trivial⟩ ?_
        | refine Chk.mk ⟨rfl, rfl, rfl, trivial⟩ ?_
        | refine Chk.mk ⟨rfl, rfl, rfl, rfl, trivial⟩ ?_
        | refine Chk.mk ⟨rfl, rfl, rfl, rfl, rfl, trivial⟩ ?_
        | refine Chk.mk ⟨rfl, rfl, rfl, rfl, rfl, rfl, trivial⟩ ?_
        | refine Chk.mk ⟨rfl, rfl, rfl, rfl, rfl, rfl, rfl, trivial⟩ ?_
        | refine Chk.mk ⟨rfl, rfl, rfl, rfl, rfl, rfl, rfl, rfl, trivial⟩ ?_
        | refine Chk.mk ⟨rfl, rfl, rfl, rfl, rfl, rfl, rfl, rfl, rfl, trivial⟩ ?_
        | refine Chk.mk ⟨rfl, rfl, rfl, rfl, rfl, rfl, rfl, rfl, rfl, rfl, trivial⟩ ?_
        | refine Chk.mk ⟨rfl, rfl, rfl, rfl, rfl, rfl, rfl, rfl, rfl, rfl, rfl, trivial⟩ ?_
        | refine Chk.mk ⟨rfl, rfl, rfl, rfl, rfl, rfl, rfl, rfl, rfl, rfl, rfl, rfl, trivial⟩ ?_)
      refine Tri.free (vn_Broken J _ (hN J (Imm.le_refl _))) ?_
      rintro r _ _ hJ ⟨rfl, rfl⟩
      repeat (first
        | refine LoadD.own 0 rfl _ rfl rfl ?_
        | refine LoadP.at 0 rfl _ rfl rfl ?_
        | refine StoreD.st 0 rfl rfl rfl ?_
        | refine CmpD.yes rfl ?_
        | refine CmpD.yes (by decide) ?_
        | refine CmpD.no (by decide) ?_
        | refine Chk.mk ⟨rfl, trivial⟩ ?_
        | refine Chk.mk ⟨rfl, rfl, trivial⟩ ?_
        | refine Chk.mk ⟨rfl, rfl, rfl, trivial⟩ ?_
        | refine Chk.mk ⟨rfl, rfl, rfl, rfl, trivial⟩ ?_
        | refine Chk.mk ⟨rfl, rfl, rfl, rfl, rfl, trivial⟩ ?_
        | refine Chk.mk ⟨rfl, rfl, rfl, rfl, rfl, rfl, trivial⟩ ?_
        | refine Chk.mk ⟨rfl, rfl, rfl, rfl, rfl, rfl, rfl, trivial⟩ ?_
        | refine Chk.mk ⟨rfl, rfl, rfl, rfl, rfl, rfl, rfl, rfl, trivial⟩ ?_
        | refine Chk.mk ⟨rfl, rfl, rfl, rfl, rfl, rfl, rfl, rfl, rfl, trivial⟩ ?_
        | refine Chk.mk ⟨rfl, rfl, rfl, rfl, rfl, rfl, rfl, rfl, rfl, rfl, trivial⟩ ?_
        | refine Chk.mk ⟨rfl, rfl, rfl, rfl, rfl, rfl, rfl, rfl, rfl, rfl, rfl, trivial⟩ ?_
        | refine Chk.mk ⟨rfl, rfl, rfl, rfl, rfl, rfl, rfl, rfl, rfl, rfl, rfl, rfl, trivial⟩ ?_)
      refine Tri.free (vn_Layout J _ (hN J (Imm.le_refl _))) ?_
      rintro r _ _ hJ ⟨rfl, rfl⟩
      repeat (first
        | refine LoadD.own 0 rfl _ rfl rfl ?_
        | refine LoadP.at 0 rfl _ rfl rfl ?_
        | refine StoreD.st 0 rfl rfl rfl ?_
        | refine CmpD.yes rfl ?_
        | refine CmpD.yes (by decide) ?_
        | refine CmpD.no (by decide) ?_
        | refine Chk.mk ⟨rfl, trivial⟩ ?_
        | refine Chk.mk ⟨rfl, rfl, trivial⟩ ?_
        | refine Chk.mk ⟨rfl, rfl, rfl, trivial⟩ ?_
        | refine Chk.mk ⟨rfl, rfl, rfl, rfl, trivial⟩ ?_
        | refine Chk.mk ⟨rfl, rfl, rfl, rfl, rfl, trivial⟩ ?_
        | refine Chk.mk ⟨rfl, rfl, rfl, rfl, rfl, rfl, trivial⟩ ?_
        | refine Chk.mk ⟨rfl, rfl, rfl, rfl, rfl, rfl, rfl, trivial⟩ ?_
        | refine Chk.mk ⟨rfl, rfl, rfl, rfl, rfl, rfl, rfl, rfl, trivial⟩ ?_
        | refine Chk.mk ⟨rfl, rfl, rfl, rfl, rfl, rfl, rfl, rfl, rfl, trivial⟩ ?_
        | refine Chk.mk ⟨rfl, rfl, rfl, rfl, rfl, rfl, rfl, rfl, rfl, rfl, trivial⟩ ?_
        | refine Chk.mk ⟨rfl, rfl, rfl, rfl, rfl, rfl, rfl, rfl, rfl, rfl, rfl, trivial⟩ ?_
        | refine Chk.mk ⟨rfl, rfl, rfl, rfl, rfl, rfl, rfl, rfl, rfl, rfl, rfl, rfl, trivial⟩ ?_)
      refine lay_cmp ⟨0, 0, 0, 0, 0, 0, 0⟩ ⟨0, 0, 0, 0, 0, 0, 0⟩ rfl (.inr rfl) rfl rfl ?_
      refine CmpD.yes rfl ?_
      refine ToD.to (((k + 1 : Nat)) : Int) (by rw [wrap_i64 (by omega) (by omega)]; omega) ?_
      refine ⟨_, Drop.refl _, ⟨k + 1, by omega, hle, rfl⟩, ?_⟩
      show ((2 : Int) - ((k + 1 : Nat) : Int)).toNat < ((2 : Int) - (k : Int)).toNat; omega
  · refine Tri.mono (awake11 J S') ?_
    rintro r J4 S4 hJ4 rfl
    exact Done.mk rfl
end Go.Proofs.YtegdcjnjnoeinaaGreat

/- Texts of this claim laid together: ReplayTells, R6a, R6b, R6g, R6c, R6d, R6e, R6f, R9a, Written, Same9, ScanAny, SameG, Num9, Torn, Crash, KeptP, AgainP, AgainL, Mount2, Format, Commit, AwP, Img11, Awake11. -/
import Derived.Test.YtegdcjnjnoeinaaGreatBVolumeNone6
import Derived.Test.YtegdcjnjnoeinaaGreatBVolumeNone5
import Derived.Test.YtegdcjnjnoeinaaGreatBVolumeNone4
import Derived.Test.YtegdcjnjnoeinaaGreatBVolumeNone3
import Derived.Test.YtegdcjnjnoeinaaGreatBVolumeNone2
import Derived.Test.YtegdcjnjnoeinaaGreatBVolumeNone1
namespace Go.Proofs.YtegdcjnjnoeinaaGreat
open Go.RowKit Go.Sl
set_option maxRecDepth 20000

theorem own_mem : ∀ {cs : List (List Blk)} {gs : List Img} {J : Imm}, OwnImgs cs gs → (∀ x ∈ cs.flatten, J x.1 = some x.2) → ∀ g ∈ gs, Rds J g.a g.len (bts g.data)
  | [], [], _, _, _, g, hg => by simp at hg
  | c :: cs, x :: gs, J, h, hm, g, hg => by
    rcases List.mem_cons.1 hg with rfl | hg
    · exact Rds.of_own h.1 fun y hy => hm y (by simp [hy])
    · exact own_mem h.2 (fun y hy => hm y (by rw [List.flatten_cons]; exact List.mem_append_right _ hy)) g hg
  | [], _ :: _, _, h, _, _, _ => h.elim
  | _ :: _, [], _, h, _, _, _ => h.elim
/-- Home's answer, fixed -/
theorem home_fix {I : Imm} {aG : Option Addr} {capG : Nat} {l : List Grp} (hG : GrpsR I [] aG l) (hl : l.length ≤ 1000000) (hall : (allI l).length ≤ 1000000) (hfew : ∀ g ∈ allI l, g.len ≤ 100000000) (x : Lay) :
    Tri Tryz.prog 108 #[x.v, .slice aG l.length capG] I [] fun v J _ =>
      ((¬ LayOk x ∧ v = .tuple #[.slice none 0 0, .int .i64 2]) ∨
       (LayOk x ∧ ¬ HomeOk x (allP l) ∧ v = .tuple #[.slice none 0 0, .int .i64 90]) ∨
       (LayOk x ∧ HomeOk x (allP l) ∧ ∃ (aO : Option Addr) (capO : Nat) (outs : List Img), v = .tuple #[.slice aO outs.length capO, .int .i64 0] ∧ ImgsR J [] aO outs ∧ outs.map Img.pr = homeP (allP l))) := by
  refine Tri.fixed (Q := fun v _ S' => ∃ ch, S' = [ch] ∧
      ((¬ LayOk x ∧ v = .tuple #[.slice none 0 0, .int .i64 2]) ∨
       (LayOk x ∧ ¬ HomeOk x (allP l) ∧ v = .tuple #[.slice none 0 0, .int .i64 90]) ∨
       (LayOk x ∧ HomeOk x (allP l) ∧ ∃ (aO : Option Addr) (capO : Nat) (chO : List Blk) (chs : List (List Blk)) (outs : List Img), v = .tuple #[.slice aO outs.length capO, .int .i64 0] ∧ OwnC chO 2 aO outs.length capO (imgCells outs) ∧ OwnImgs chs outs ∧ outs.map Img.pr = homeP (allP l) ∧ ch = chO ++ chs.flatten))) ?_ ?_
  · refine Tri.drop (home_any hG hl hall hfew x) ?_
    rintro v J S' hJ (⟨h, rfl, rfl⟩ | ⟨h1, h2, rfl, rfl⟩ | ⟨h1, h2, aO, capO, chO, chs, outs, rfl, hO, hcs, hpr, rfl⟩)
    · exact ⟨[[]], Drop.flat rfl, [], rfl, .inl ⟨h, rfl⟩⟩
    · exact ⟨[[]], Drop.flat rfl, [], rfl, .inr (.inl ⟨h1, h2, rfl⟩)⟩
    · exact ⟨[chO ++ chs.flatten], Drop.flat (by simp), _, rfl, .inr (.inr ⟨h1, h2, aO, capO, chO, chs, outs, rfl, hO, hcs, hpr, rfl⟩)⟩
  · rintro v J S' hJ ⟨ch, rfl, h⟩
    refine ⟨0, ch, rfl, fun J' hJ' hm => ?_⟩
    rcases h with ⟨h, rfl⟩ | ⟨h1, h2, rfl⟩ | ⟨h1, h2, aO, capO, chO, chs, outs, rfl, hO, hcs, hpr, rfl⟩
    · exact .inl ⟨h, rfl⟩
    · exact .inr (.inl ⟨h1, h2, rfl⟩)
    · refine .inr (.inr ⟨h1, h2, aO, capO, outs, rfl, ⟨(Rds.of_ownS hO fun y hy => hm y (List.mem_append_left _ hy)).slC, fun g hg => ⟨(own_mem hcs (fun y hy => hm y (List.mem_append_right _ hy)) g hg).slC⟩⟩, hpr⟩)
theorem doP_few {d : DSt} {k : Nat} (h : d.Few k) (l : List PImg) (s : Sup) (slot : Int) : (doP d l s slot).1.Few (k + l.length + 1) := by
  have h1 := wrImgs_few l d k h
  unfold doP
  split
  · exact h.mono (by omega)
  split
  · exact h1.mono (by omega)
  split
  · exact h1.flush.mono (by omega)
  unfold lastWr
  split
  · exact h1.flush.write _ _
  · exact (h1.flush.write _ _).flush
end Go.Proofs.YtegdcjnjnoeinaaGreat
namespace Go.Proofs.YtegdcjnjnoeinaaGreat
open Go.RowKit Go.Sl
set_option maxRecDepth 20000

end Go.Proofs.YtegdcjnjnoeinaaGreat
namespace Go.Proofs.YtegdcjnjnoeinaaGreat
open Go.RowKit Go.Sl
set_option maxRecDepth 20000

end Go.Proofs.YtegdcjnjnoeinaaGreat
namespace Go.Proofs.YtegdcjnjnoeinaaGreat
open Go.RowKit Go.Sl
set_option maxRecDepth 20000

theorem noughts_get {j : Nat} (h : j < 4096) : noughts[j]? = some 0 := by
  unfold noughts
  rw [List.getElem?_replicate, if_pos h]
end Go.Proofs.YtegdcjnjnoeinaaGreat
namespace Go.Proofs.YtegdcjnjnoeinaaGreat
open Go.RowKit Go.Sl
set_option maxRecDepth 20000

theorem ImgsR.imm {I J : Imm} {S : St} {a : Option Addr} {gs : List Img} (h : ImgsR I S a gs) (hJ : I.le J) : ImgsR J S a gs := ⟨h.sl.imm hJ, fun g hg => ⟨(h.each g hg).rd.imm hJ⟩⟩
theorem ImgsR.mores {I : Imm} {S : St} {a : Option Addr} {gs : List Img} (h : ImgsR I S a gs) (L : St) : ImgsR I (S ++ L) a gs := ⟨h.sl.mores L, fun g hg => ⟨(h.each g hg).rd.mores L⟩⟩
def BkIn (ch : List Blk) (b : Bk) : Prop := ∃ bz pre post T, b.a = some ⟨bz, pre.length, none⟩ ∧ (bz, row (pre ++ bts b.data ++ post) T) ∈ ch ∧ b.data.length = 4096
theorem BkIn.ok {ch : List Blk} {b : Bk} (h : BkIn ch b) {J : Imm} (hm : ∀ x ∈ ch, J x.1 = some x.2) : BkOk J b := by
  obtain ⟨bz, pre, post, T, ha, hx, hl⟩ := h
  have hl' : (bts b.data).length = 4096 := by rw [bts_length, hl]
  refine ⟨hl', .inr ⟨bz, pre.length, _, T, (0, 0), ha, hm _ hx, ?_⟩⟩
  rw [List.append_assoc, List.drop_left, ← hl', List.take_left]
theorem BkIn.of {ch : List Blk} {a : Option Addr} {cap : Nat} {l : Dat} (h : OwnB ch a 4096 cap l) : BkIn ch ⟨a, cap, l⟩ := by
  have hl : l.length = 4096 := by have := h.n; rw [bts_length] at this; omega
  rcases h.at' with q0 | ⟨b6, pre, post, T6, h1, h2, _⟩
  · have := h.le; omega
  · exact ⟨b6, pre, post, T6, h1, by rw [h2]; simp, hl⟩
theorem BkIn.more {ch : List Blk} {b : Bk} (h : BkIn ch b) (c2 : List Blk) : BkIn (ch ++ c2) b := by
  obtain ⟨bz, pre, post, T, ha, hx, hl⟩ := h
  exact ⟨bz, pre, post, T, ha, List.mem_append_left _ hx, hl⟩
end Go.Proofs.YtegdcjnjnoeinaaGreat
namespace Go.Proofs.YtegdcjnjnoeinaaGreat
open Go.RowKit Go.Sl
set_option maxRecDepth 20000

/-- an image whose data lies in a block of its own -/
structure DI where
  blk : Int
  b : Nat
  data : Dat
end Go.Proofs.YtegdcjnjnoeinaaGreat
namespace Go.Proofs.YtegdcjnjnoeinaaGreat
open Go.RowKit Go.Sl
set_option maxRecDepth 20000

end Go.Proofs.YtegdcjnjnoeinaaGreat
namespace Go.Proofs.YtegdcjnjnoeinaaGreat
open Go.RowKit Go.Sl
set_option maxRecDepth 20000

end Go.Proofs.YtegdcjnjnoeinaaGreat
namespace Go.Proofs.YtegdcjnjnoeinaaGreat
open Go.RowKit Go.Sl
set_option maxRecDepth 20000

end Go.Proofs.YtegdcjnjnoeinaaGreat
namespace Go.Proofs.YtegdcjnjnoeinaaGreat
open Go.RowKit Go.Sl
set_option maxRecDepth 20000

structure ImsAt (J : Imm) (aS : Option Addr) (ms : List Ims) (all : List (List PImg)) : Prop where
  rd : Rds J aS ms.length (ms.map Ims.cell)
  each : ∀ m ∈ ms, ImgsOk J m.a m.gs
  pr : ms.map Ims.pr = all
theorem ImsAt.mono {I J : Imm} {aS : Option Addr} {ms : List Ims} {all : List (List PImg)} (h : ImsAt I aS ms all) (hJ : I.le J) : ImsAt J aS ms all := ⟨h.rd.mono hJ, fun m hm => (h.each m hm).mono hJ, h.pr⟩
end Go.Proofs.YtegdcjnjnoeinaaGreat
namespace Go.Proofs.YtegdcjnjnoeinaaGreat
open Go.RowKit Go.Sl
set_option maxRecDepth 20000

end Go.Proofs.YtegdcjnjnoeinaaGreat
namespace Go.Proofs.YtegdcjnjnoeinaaGreat
open Go.RowKit Go.Sl
set_option maxRecDepth 20000

/-- bytes, as they lie -/
structure Bs where
  a : Option Addr
  len : Nat
  cap : Nat
  data : Dat
@[reducible] def Bs.cell (b : Bs) : Value := .slice b.a b.len b.cap
theorem GrpsOk.at' {J : Imm} {gl : List Grp} {L : List G3} (h : GrpsOk J gl L) (i : Nat) (hi : i < gl.length) : ∃ hl : i < L.length, gl[i].e = (L[i].1 : Int) ∧ gl[i].s = (L[i].2.1 : Int) ∧ gl[i].gs.map Img.pr = L[i].2.2 := by
  have hl : i < L.length := by rw [← h.len]; exact hi
  refine ⟨hl, ?_⟩
  have h3 := h.g3
  have : (gl.map Grp.g3)[i]'(by rw [List.length_map]; exact hi) = (L.map up3)[i]'(by rw [List.length_map]; exact hl) := by simp only [h3]
  rw [List.getElem_map, List.getElem_map] at this
  unfold Grp.g3 up3 at this
  simp only [Prod.mk.injEq] at this
  exact this
end Go.Proofs.YtegdcjnjnoeinaaGreat
namespace Go.Proofs.YtegdcjnjnoeinaaGreat
open Go.RowKit Go.Sl
set_option maxRecDepth 20000

end Go.Proofs.YtegdcjnjnoeinaaGreat
namespace Go.Proofs.YtegdcjnjnoeinaaGreat
open Go.RowKit Go.Sl
set_option maxRecDepth 20000

theorem scanL64 {d : DSt} (hlen : d.now.length = 64) (s : Sup) : scanL d s = scanK (rbP d 2 16) s.epoch 17 s.tail.toNat s.seq 16 := by
  unfold scanL
  rw [hlen]
  show scanK (rbP d 2 (layL (64 : Int)).toNat) s.epoch ((layL (64 : Int)).toNat + 1) s.tail.toNat s.seq (layL (64 : Int)).toNat = _
  rw [layL64]; rfl
@[reducible] def nA : List PImg := im9 1 0
@[reducible] def nB : List PImg := im9 2 1
theorem nA_right : RightP ((1 : Nat) : Int) ((1 : Nat) : Int) nA := im9_right (by decide) (by decide) 1 (by decide) 0
theorem nB_right : RightP ((1 : Nat) : Int) ((2 : Nat) : Int) nB := im9_right (by decide) (by decide) 2 (by decide) 1
theorem nA_len : nA.length = 1 := im9_length _ _
structure Two (rb : Nat → Dat) : Prop where
  a : ∀ (k : Nat) (h : k < (putP 1 1 nA).length), rb (14 + k) = (putP 1 1 nA)[k]
  b : ∀ (k : Nat) (h : k < (putP 1 2 nB).length), rb (0 + k) = (putP 1 2 nB)[k]
  n : rb 3 = noughts
theorem usedB : usedP [nB] = 3 := by simp [usedP, im9_length]
theorem Two.grpA {rb : Nat → Dat} (h : Two rb) : grpP rb 14 16 = some (1, 1, nA) := grpP_put nA_right (by rw [nA_len]; omega) h.a
theorem Two.m {d : DSt} (h : Two (rbP d 2 16)) (hlen : d.now.length = 64) : scanL d ⟨64, 1, 2, 0⟩ = [(1, 2, nB)] := by
  rw [scanL64 hlen]
  show scanK (rbP d 2 16) ((1 : Nat) : Int) 17 0 ((2 : Nat) : Int) 16 = _
  have e : ringB 1 2 [nB] = putP 1 2 nB := by simp [ringB]
  rw [scan_prefix (rbP d 2 16) 1 [nB] 17 0 2 16 (fun i hi => by
      have : i = 0 := by simpa using hi
      subst this; exact nB_right) (by rw [usedB]; omega) (by simp) (fun k hk => by
      have := h.b k (by rw [← e]; exact hk)
      rw [this]; simp only [e])]
  rw [scan_stop, List.append_nil]; · rfl
  intro e s l hg
  rw [usedB, grpP_none (by rw [show 0 + 3 = 3 from rfl, h.n]; exact hd_noughts)] at hg
  cases hg
theorem Two.no {d : DSt} (h : Two (rbP d 2 16)) (hlen : d.now.length = 64) : scanL d ⟨64, 1, 2, 14⟩ = [] := by
  rw [scanL64 hlen]
  refine scan_stop fun e s l hg h' => ?_
  have hg : grpP (rbP d 2 16) 14 16 = some (e, s, l) := hg
  rw [h.grpA] at hg
  cases hg
  have : ((1 : Nat) : Int) = 2 := h'.2
  omega
end Go.Proofs.YtegdcjnjnoeinaaGreat
namespace Go.Proofs.YtegdcjnjnoeinaaGreat
open Go.RowKit Go.Sl
set_option maxRecDepth 20000

theorem shr_nat8 (v s : Nat) (hs : s ≤ 8) : (v : Int).fdiv (2 ^ (min ((s : Int)).toNat IntKind.u8.bits)) = ((v / 2 ^ s : Nat) : Int) := by
  have e : min ((s : Int)).toNat IntKind.u8.bits = s := by
    show min s 8 = s; omega
  rw [e, Int.fdiv_eq_ediv_of_nonneg _ (by exact_mod_cast Nat.zero_le _)]
  norm_cast
def put5 (l m : Dat) (i : Nat) : Dat := l.take (i * 512) ++ m ++ l.drop (i * 512 + 512)
def tornK (old new : Dat) (sec : Nat) : Nat → Dat
  | 0 => old
  | k + 1 => if sec / 2 ^ k % 2 = 1 then put5 (tornK old new sec k) ((new.drop (k * 512)).take 512) k else tornK old new sec k
def tornP (old new : Dat) (sec : Nat) : Dat := tornK old new sec 8
theorem tornK_succ (old new : Dat) (sec k : Nat) : tornK old new sec (k + 1) = if sec / 2 ^ k % 2 = 1 then put5 (tornK old new sec k) ((new.drop (k * 512)).take 512) k else tornK old new sec k := rfl
theorem tornK_length {old new : Dat} (h1 : old.length = 4096) (h2 : new.length = 4096) (sec : Nat) : ∀ k, k ≤ 8 → (tornK old new sec k).length = 4096
  | 0, _ => h1
  | k + 1, h => by
    have ih := tornK_length h1 h2 sec k (by omega)
    rw [tornK_succ]
    split
    · simp only [put5, List.length_append, List.length_take, List.length_drop, ih, h2]; omega
    · exact ih
attribute [irreducible] tornK
theorem bts_put5 (l m : Dat) (i : Nat) : bts (put5 l m i) = (bts l).take (i * 512) ++ bts m ++ (bts l).drop (i * 512 + 512) := by
  simp [bts, put5, List.map_take, List.map_drop]
theorem sector_of (I : Imm) (S : St) (b off cap i : Nat) (hi : i < 8) (hcap : 4096 ≤ cap) :
    Tri Tryz.prog 167 #[.slice (some ⟨b, off, none⟩) 4096 cap, .int .i64 i] I S fun v J S' => v = .slice (some ⟨b, off + i * 512, none⟩) 512 512 ∧ I = J ∧ S' = S := by
  refine Tri.of (args := [.slice (some ⟨b, off, none⟩) 4096 cap, .int .i64 i]) tabOk Tryz.func167 rfl (by kernel_rfl) (by kernel_rfl) ?_
  refine ToD.to ((i * 512 : Nat) : Int) (by rw [wrap_i64 (by omega) (by omega)]; omega) ?_
  refine ToD.to ((i + 1 : Nat) : Int) (by rw [wrap_i64 (by omega) (by omega)]; omega) ?_
  refine ToD.to ((i * 512 + 512 : Nat) : Int) (by rw [wrap_i64 (by omega) (by omega)]; omega) ?_
  refine ToD.to ((i + 1 : Nat) : Int) (by rw [wrap_i64 (by omega) (by omega)]; omega) ?_
  refine ToD.to ((i * 512 + 512 : Nat) : Int) (by rw [wrap_i64 (by omega) (by omega)]; omega) ?_
  refine sliceD tabOk rfl rfl rfl rfl (i * 512) (i * 512 + 512) (i * 512 + 512) ⟨_, rfl⟩ ⟨_, rfl⟩ ⟨_, rfl⟩ (.inr (by simp)) (by omega) ?_
  refine Done.mk ⟨?_, rfl, rfl⟩
  show Value.slice (slAddr (some ⟨b, off, none⟩) (i * 512) (i * 512 + 512) 1) (i * 512 + 512 - i * 512) (i * 512 + 512 - i * 512) = _
  unfold slAddr
  rw [if_neg (by omega), show i * 512 + 512 - i * 512 = 512 by omega]
  simp [add_none]
set_option maxHeartbeats 4000000 in
theorem torn_own (I : Imm) (a1 : Option Addr) (cap1 : Nat) (old : Dat) (h1 : Rds I a1 4096 (bts old)) (a2 : Option Addr) (cap2 : Nat) (new : Dat) (h2 : Rds I a2 4096 (bts new)) (hc2 : 4096 ≤ cap2) (sec : Nat) (hsec : sec < 256) :
    Tri Tryz.prog 101 #[.slice a1 4096 cap1, .slice a2 4096 cap2, .int .u8 sec] I [] fun v J S' => ∃ a cap ch, v = .slice a 4096 cap ∧ OwnB ch a 4096 cap (tornP old new sec) ∧ I = J ∧ S' = [ch] := by
  have hl1 : old.length = 4096 := by rw [← bts_length, h1.len]
  have hl2 : new.length = 4096 := by rw [← bts_length, h2.len]
  refine Tri.drop ?_ (fun _ _ _ _ h => h)
  refine Tri.of (args := [.slice a1 4096 cap1, .slice a2 4096 cap2, .int .u8 sec]) tabOk Tryz.func101 rfl (by kernel_rfl) (by kernel_rfl) ?_
  refine Tri.nf (clone_bytes I [] a1 4096 cap1 (bts old) (by rw [Nat.mul_one]; exact h1.slC) (bts_plain old) (by omega)) ?_
  rintro v J S' hJ ⟨aO, capO, chO, rfl, hO, rfl, rfl⟩
  have hcO := hO.le
  rcases hO.at' with q0 | ⟨bO, pre, post, TO, rfl, rfl, hpost⟩
  · omega
  rcases h2.mem with q0 | ⟨bN, oN, cN, TN, fN, rfl, hIN, hcN⟩
  · omega
  refine CodeF.loopD [1, 2, 7, 11] (fun vs J' S' => ∃ (k : Nat), k ≤ 8 ∧ vs = [.slice (some ⟨bN, oN, none⟩) 4096 cap2, .int .u8 sec, .slice (some ⟨bO, pre.length, none⟩) 4096 capO, .int .i64 k] ∧ I = J' ∧ S' = [[(bO, row (pre ++ bts (tornK old new sec k) ++ post) TO)]])
    (fun vs _ _ => match vs with | [_, _, _, .int _ k] => ((8 : Int) - k).toNat | _ => 0) ?_ ?_
  · exact ⟨_, Drop.refl _, 0, by omega, rfl, rfl, by unfold tornK; rfl⟩
  rintro vs gE J' S' hJ' ⟨k, hk, rfl, rfl, rfl⟩
  have hkl := tornK_length hl1 hl2 sec k hk
  refine CmpD.split (fun c1 => ?_) (fun c1 => ?_)
  · have hdv : sec / 2 ^ k ≤ sec := Nat.div_le_self _ _
    refine Chk.mk (by omega) ?_
    refine ToD.to ((sec / 2 ^ k : Nat) : Int) (shr_nat8 sec k (by omega)) ?_
    refine ToD.to ((sec / 2 ^ k % 2 : Nat) : Int) (by rw [show (1 : Int) = ((1 : Nat) : Int) from rfl, u8_and_nat _ 1 (by omega) (by omega), Nat.and_one_is_mod]) ?_
    refine CmpD.split (fun (c2 : ((sec / 2 ^ k % 2 : Nat) : Int) = 1) => ?_) (fun (c2 : ¬ ((sec / 2 ^ k % 2 : Nat) : Int) = 1) => ?_)
    · refine Tri.nf (sector_of I _ bO pre.length capO k (by omega) hcO) ?_
      rintro v J S' hJ ⟨rfl, rfl, rfl⟩
      refine Tri.nf (sector_of I _ bN oN cap2 k (by omega) hc2) ?_
      rintro v J S' hJ ⟨rfl, rfl, rfl⟩
      have hm : ((new.drop (k * 512)).take 512).length = 512 := by rw [List.length_take, List.length_drop]; omega
      refine copyD tabOk rfl rfl rfl rfl rfl rfl rfl 0 rfl (SrcOk.slice (n := 512) (news := bts ((new.drop (k * 512)).take 512)) tabOk rfl (Rds_part h2 (k * 512) 512 (by omega)).slC (bts_plain _)) (Nat.le_refl _) (by simp only [List.length_append, bts_length, hkl]; show pre.length + k * 512 + 512 * 1 ≤ _; omega) (Nat.le_refl _) ?_
      have hsp : splice (pre ++ bts (tornK old new sec k) ++ post) (pre.length + k * 512) (bts ((new.drop (k * 512)).take 512)) = pre ++ bts (tornK old new sec (k + 1)) ++ post := by
        rw [splice_mid _ _ _ _ _ (by rw [bts_length, bts_length, hkl, hm]; omega), tornK_succ, if_pos (by omega), bts_put5, bts_length, hm]
      rw [hsp]
      refine ToD.i64 (by omega) (by omega) ?_
      refine ⟨_, Drop.refl _, ⟨k + 1, by omega, rfl, rfl, rfl⟩, ?_⟩
      show ((8 : Int) - ((k : Int) + 1)).toNat < ((8 : Int) - (k : Int)).toNat
      omega
    · refine ToD.i64 (by omega) (by omega) ?_
      refine ⟨_, Drop.refl _, ⟨k + 1, by omega, rfl, rfl, by rw [tornK_succ, if_neg (by omega)]⟩, ?_⟩
      show ((8 : Int) - ((k : Int) + 1)).toNat < ((8 : Int) - (k : Int)).toNat
      omega
  · obtain rfl : k = 8 := by omega
    refine Done.mk ⟨_, Drop.refl _, some ⟨bO, pre.length, none⟩, capO, _, rfl, ⟨by rw [bts_length]; exact hkl, hcO, .inr ⟨bO, pre, post, TO, rfl, rfl, hpost⟩⟩, rfl, rfl⟩
theorem torn_fix (I : Imm) (a1 : Option Addr) (cap1 : Nat) (old : Dat) (h1 : Rds I a1 4096 (bts old)) (a2 : Option Addr) (cap2 : Nat) (new : Dat) (h2 : Rds I a2 4096 (bts new)) (hc2 : 4096 ≤ cap2) (sec : Nat) (hsec : sec < 256) :
    Tri Tryz.prog 101 #[.slice a1 4096 cap1, .slice a2 4096 cap2, .int .u8 sec] I [] fun v J _ => ∃ a cap, v = .slice a 4096 cap ∧ Rds J a 4096 (bts (tornP old new sec)) := by
  refine Tri.fixed (torn_own I a1 cap1 old h1 a2 cap2 new h2 hc2 sec hsec) ?_
  rintro v J S' hJ ⟨a, cap, ch, rfl, hO, rfl, rfl⟩
  exact ⟨0, ch, rfl, fun J' hJ' hm => ⟨a, cap, rfl, Rds.of_own hO hm⟩⟩
end Go.Proofs.YtegdcjnjnoeinaaGreat
namespace Go.Proofs.YtegdcjnjnoeinaaGreat
open Go.RowKit Go.Sl
set_option maxRecDepth 20000

/-- what a crash leaves of the blocks -/
def crash1 (keep : List Bool) (tn : Int) (sec i : Nat) (n : Nat) (b : Dat) (s : List Dat) : List Dat :=
  if (i : Int) = tn then s.set n (tornP (s.getD n []) b sec) else if keep.getD i false then s.set n b else s
def crashK (keep : List Bool) (tn : Int) (sec : Nat) : Nat → List (Int × Dat) → List Dat → List Dat
  | _, [], s => s
  | i, w :: ws, s => crashK keep tn sec (i + 1) ws (crash1 keep tn sec i w.1.toNat w.2 s)
theorem crashK_snoc (keep : List Bool) (tn : Int) (sec : Nat) : ∀ (ws : List (Int × Dat)) (i : Nat) (s : List Dat) (w : Int × Dat), crashK keep tn sec i (ws ++ [w]) s = crash1 keep tn sec (i + ws.length) w.1.toNat w.2 (crashK keep tn sec i ws s)
  | [], i, s, w => by simp [crashK]
  | x :: ws, i, s, w => by
    rw [List.cons_append, crashK, crashK_snoc keep tn sec ws, crashK, List.length_cons, show i + 1 + ws.length = i + (ws.length + 1) by omega]
theorem crash1_length (keep : List Bool) (tn : Int) (sec i n : Nat) (b : Dat) (s : List Dat) : (crash1 keep tn sec i n b s).length = s.length := by
  unfold crash1; split
  · simp
  · split <;> simp
theorem crash1_mem {keep : List Bool} {tn : Int} {sec i n : Nat} {b : Dat} {s : List Dat} (hb : b.length = 4096) (hs : ∀ x ∈ s, x.length = 4096) (hn : n < s.length) : ∀ x ∈ crash1 keep tn sec i n b s, x.length = 4096 := by
  intro x hx
  unfold crash1 at hx
  split at hx
  · rcases List.mem_or_eq_of_mem_set hx with hx | rfl
    · exact hs x hx
    · refine tornK_length ?_ hb sec 8 (by omega)
      rw [List.getD_eq_getElem?_getD, List.getElem?_eq_getElem hn]
      exact hs _ (List.getElem_mem hn)
  · split at hx
    · rcases List.mem_or_eq_of_mem_set hx with hx | rfl
      · exact hs x hx
      · exact hb
    · exact hs x hx
theorem crashK_length (keep : List Bool) (tn : Int) (sec : Nat) : ∀ (ws : List (Int × Dat)) (i : Nat) (s : List Dat), (crashK keep tn sec i ws s).length = s.length
  | [], _, _ => rfl
  | w :: ws, i, s => by rw [crashK, crashK_length keep tn sec ws, crash1_length]
theorem crashK_mem {keep : List Bool} {tn : Int} {sec : Nat} : ∀ (ws : List (Int × Dat)) (i : Nat) (s : List Dat), (∀ w ∈ ws, w.1.toNat < s.length ∧ w.2.length = 4096) → (∀ x ∈ s, x.length = 4096) → ∀ x ∈ crashK keep tn sec i ws s, x.length = 4096
  | [], _, _, _, hs => hs
  | w :: ws, i, s, hw, hs => by
    have h1 := hw w (by simp)
    exact crashK_mem ws (i + 1) _ (fun y hy => by rw [crash1_length]; exact hw y (by simp [hy])) (crash1_mem h1.2 hs h1.1)
def DSt.crash (d : DSt) (keep : List Bool) (tn : Int) (sec : Nat) : DSt := ⟨crashK keep tn sec 0 d.writes d.safe, crashK keep tn sec 0 d.writes d.safe, [], d.count, false, ⟨false, 0⟩, ⟨false, 0⟩⟩
theorem DSt.Wf.crash {d : DSt} (h : d.Wf) (keep : List Bool) (tn : Int) (sec : Nat) : (d.crash keep tn sec).Wf := by
  have hl := crashK_length keep tn sec d.writes 0 d.safe
  have hm := crashK_mem (keep := keep) (tn := tn) (sec := sec) d.writes 0 d.safe (fun w hw => by have h1 := h.writes w hw; have h2 := h.len; exact ⟨by omega, h1.2.2⟩) h.safe
  have h1 := h.len
  have h2 := h.range
  exact ⟨rfl, by show 1 ≤ (crashK keep tn sec 0 d.writes d.safe).length ∧ (crashK keep tn sec 0 d.writes d.safe).length ≤ 512; omega, hm, hm, fun w hw => (List.not_mem_nil hw).elim, fun h => (Bool.false_ne_true h).elim, fun h => (Bool.false_ne_true h).elim⟩
def bools (l : List Bool) : List Value := l.map Value.bool
theorem bools_get {l : List Bool} {i : Nat} (h : i < l.length) : (bools l)[i]? = some (.bool (l.getD i false)) := by
  rw [List.getD_eq_getElem?_getD, List.getElem?_eq_getElem h]
  simp [bools, h]
set_option maxHeartbeats 4000000 in
theorem disk_Crash (b : Nat) (d : DRec) (hnl : 1 ≤ d.now.len) (hsl : d.safe.len ≤ 1000000) (hwl : d.writes.len ≤ 1000000) (chS chN chW : List Blk) (safe now : List Bk) (ws : List (Int × Bk)) (I : Imm) (hD : DiskAt I d chS chN chW safe now ws) (hws : ∀ w ∈ ws, 0 ≤ w.1 ∧ w.1 < d.safe.len)
    (aK : Option Addr) (nK capK : Nat) (keep : List Bool) (hK : Rds I aK nK (bools keep)) (tn : Int) (sec : Nat) (hsec : sec < 256) :
    Tri Tryz.prog 34 #[.pointer (some ⟨b, 0, none⟩), .slice aK nK capK, .int .i64 tn, .int .u8 sec] I [dChunk b d, chS, chN, chW] fun v J S' =>
      v = .int .i64 0 ∧ ∃ (hS hN : Hd) (chS' chN' : List Blk) (bks : List Bk), bks.map Bk.data = crashK keep tn sec 0 (ws.map fun w => (w.1, w.2.data)) (safe.map Bk.data) ∧
        S' = [dChunk b ⟨hS, hN, ⟨none, 0, 0⟩, d.count, false, ⟨false, 0⟩, ⟨false, 0⟩⟩, chS', chN', []] ∧ DiskAt J ⟨hS, hN, ⟨none, 0, 0⟩, d.count, false, ⟨false, 0⟩, ⟨false, 0⟩⟩ chS' chN' [] bks bks [] := by
  refine Tri.drop ?_ (fun _ _ _ _ h => h)
  refine Tri.of (args := [.pointer (some ⟨b, 0, none⟩), .slice aK nK capK, .int .i64 tn, .int .u8 sec]) tabOk Tryz.func34 rfl (by kernel_rfl) (by kernel_rfl) ?_
  refine Tri.frame1 0 rfl (disk_none b d I) ?_
  rintro v J S' hJ ⟨rfl, rfl, rfl⟩
  refine ⟨_, rfl, ?_⟩
  rw [decide_eq_false (show ¬ d.now.len = 0 by omega)]
  have hKl : keep.length = nK := by have := hK.len; simpa [bools] using this
  obtain ⟨hSo, hNo, hWo, hokS, _, hokW⟩ := hD
  obtain ⟨⟨sa, sl, sc⟩, ⟨na, nl, nc⟩, ⟨wa, wl, wc⟩, count, down, ⟨ao, al⟩, ⟨fo, fl⟩⟩ := d
  dsimp only at hnl hsl hwl hSo hNo hWo hws
  have hwn : ws.length = wl := by have := hWo.n; rw [wCells_length] at this; omega
  refine LoadD.own 0 rfl [.slice wa wl wc] rfl rfl ?_
  refine CodeF.loopD [0, 1, 2, 3, 16, 17, 18] (fun vs J' S' => ∃ (i : Nat) (chS : List Blk) (bks : List Bk), i ≤ wl ∧ OwnC chS 1 sa sl sc (bks.map Bk.cell) ∧ bks.map Bk.data = crashK keep tn sec 0 ((ws.take i).map fun w => (w.1, w.2.data)) (safe.map Bk.data) ∧ (∀ b ∈ bks, BkOk J' b) ∧ I.le J' ∧
      vs = [.pointer (some ⟨b, 0, none⟩), .slice aK nK capK, .int .i64 tn, .int .u8 sec, .slice wa wl wc, .int .i64 wl, .int .i64 i] ∧ S' = [dChunk b ⟨⟨sa, sl, sc⟩, ⟨na, nl, nc⟩, ⟨wa, wl, wc⟩, count, down, ⟨ao, al⟩, ⟨fo, fl⟩⟩, chS, chN, chW])
    (fun vs _ _ => match vs with | [_, _, _, _, _, _, .int _ i] => ((wl : Int) - i).toNat | _ => 0) ?_ ?_
  · exact ⟨_, Drop.refl _, 0, chS, safe, by omega, hSo, rfl, hokS, Imm.le_refl _, rfl, rfl⟩
  rintro vs gE J' S' hJ' ⟨i, chS, bks, hi, hS, hdat, hbok, hle, rfl, rfl⟩
  have hbl : bks.length = sl := by have := hS.n; rw [List.length_map] at this; omega
  refine CmpD.split (fun (c1 : (i : Int) < wl) => ?_) (fun (c1 : ¬ (i : Int) < wl) => ?_)
  · have hil : i < ws.length := by omega
    have hwi := hws _ (List.getElem_mem hil)
    obtain ⟨hwo, hwc⟩ := hokW _ (List.getElem_mem hil)
    have hcell := wCells_at hil
    have htake : ws.take (i + 1) = ws.take i ++ [ws[i]] := by rw [List.take_add_one, List.getElem?_eq_getElem hil]; rfl
    have hlt : (ws.take i).length = i := by rw [List.length_take]; omega
    obtain ⟨bW, oW, rfl, hcW⟩ := SlC.cells (hWo.slC (I := J') (S := [dChunk b ⟨⟨sa, sl, sc⟩, ⟨na, nl, nc⟩, ⟨wa, wl, wc⟩, count, down, ⟨ao, al⟩, ⟨fo, fl⟩⟩, chS, chN, chW]) 3 rfl) (by omega)
    generalize ws[i] = w at *
    obtain ⟨wn, wb⟩ := w
    dsimp only at hwi hwo hwc hcell
    obtain ⟨n, rfl⟩ : ∃ n : Nat, wn = n := ⟨wn.toNat, by omega⟩
    have hwo' := BkOk.mono hwo hle
    have hnew : ∀ bks' : List Bk, bks'.map Bk.data = crash1 keep tn sec i n wb.data (bks.map Bk.data) → bks'.map Bk.data = crashK keep tn sec 0 ((ws.take (i + 1)).map fun w => (w.1, w.2.data)) (safe.map Bk.data) := by
      intro bks' h
      rw [htake, List.map_append, List.map_singleton, crashK_snoc, List.length_map, hlt, Nat.zero_add, ← hdat, h]; rfl
    refine Chk.mk (by omega) ?_
    refine LoadD.mk [.int .i64 n, wb.cell] (by have := hcW.part (i := i * 2) (m := 2) (by omega); rw [hcell] at this; exact this) ?_
    conv => whnf
    intro b10
    refine StoreD.st 4 rfl rfl rfl ?_
    rcases hS.at' with q0 | ⟨bX, pre, post, TX, rfl, rfl, hpost⟩
    · have := hS.le; omega
    have hnb : n < bks.length := by omega
    have hset : ∀ bk : Bk, splice (pre ++ bks.map Bk.cell ++ post) (pre.length + n) [bk.cell] = pre ++ (bks.set n bk).map Bk.cell ++ post := by
      intro bk
      rw [splice_mid _ _ _ _ _ (by simp; omega), List.map_set, List.set_eq_take_append_cons_drop, if_pos (by simp; omega)]
      simp
    have hown : ∀ bk : Bk, OwnC [(bX, row (pre ++ (bks.set n bk).map Bk.cell ++ post) TX)] 1 (some ⟨bX, pre.length, none⟩) sl sc ((bks.set n bk).map Bk.cell) := fun bk => ⟨by simp [hbl], hS.le, .inr ⟨bX, pre, post, TX, rfl, rfl, hpost⟩⟩
    have hXc : Cells J' [[(bX, row (pre ++ bks.map Bk.cell ++ post) TX)]] bX pre.length sl (bks.map Bk.cell) := ⟨_, TX, (0, 0), .one 0 rfl, by have := own_take pre (bks.map Bk.cell) post; rwa [List.length_map, hbl] at this, by rw [List.length_map, hbl]⟩
    refine CmpD.split (fun (c2 : (i : Int) = tn) => ?_) (fun (c2 : ¬ (i : Int) = tn) => ?_)
    · refine CodeF.sched [[], [0], [0, 1], [0, 1, 2], [], [4], [], [6], [6, 7], [6, 7, 8], [], [10], [6, 7, 8, 9, 10, 11], [6, 7, 8, 9, 10, 11, 12], [], [14], [], [6, 7, 8, 9, 10, 11, 12, 13, 14, 15, 16], [0, 1, 2, 3, 4, 5, 6, 7, 8, 9, 10, 11, 12, 13, 14, 15, 16, 17], [0, 1, 2, 3, 4, 5, 6, 7, 8, 9, 10, 11, 12, 13, 14, 15, 16, 17, 18]] [0, 1, 2, 3, 4, 5, 6, 7, 8, 9, 10, 11, 12, 13, 14, 15, 16, 17, 18, 19] (by kernel_rfl) ?_
      repeat (first
        | refine LoadD.own 0 rfl _ rfl rfl ?_
        | refine LoadD.own 1 rfl _ rfl rfl ?_
        | refine LoadD.own 2 rfl _ rfl rfl ?_
        | refine LoadD.own 3 rfl _ rfl rfl ?_
        | refine LoadD.own 4 rfl _ rfl rfl ?_
        | refine LoadP.at 0 rfl _ rfl rfl ?_
        | refine LoadP.at 1 rfl _ rfl rfl ?_
        | refine LoadP.at 2 rfl _ rfl rfl ?_
        | refine LoadP.at 3 rfl _ rfl rfl ?_
        | refine LoadP.at 4 rfl _ rfl rfl ?_
        | refine StoreD.st 0 rfl rfl rfl ?_
        | refine StoreD.st 1 rfl rfl rfl ?_
        | refine StoreD.st 2 rfl rfl rfl ?_
        | refine StoreD.st 3 rfl rfl rfl ?_
        | refine StoreD.st 4 rfl rfl rfl ?_
        | refine CmpD.yes rfl ?_
        | refine CmpD.yes (by decide) ?_
        | refine CmpD.no (by decide) ?_
        | refine Chk.mk ⟨rfl, trivial⟩ ?_
        | refine Chk.mk ⟨rfl, rfl, trivial⟩ ?_
        | refine Chk.mk ⟨rfl, rfl, rfl, trivial⟩ ?_
        | refine Chk.mk ⟨rfl, rfl, rfl, rfl, trivial⟩ ?_
        | refine Chk.mk ⟨rfl, rfl, rfl, rfl, rfl, trivial⟩ ?_
        | refine Chk.mk ⟨rfl, rfl, rfl, rfl, rfl, rfl, trivial⟩ ?_
        | refine Chk.mk ⟨rfl, rfl, rfl, rfl, rfl, rfl, rfl, trivial⟩ ?_
        | refine Chk.mk ⟨rfl, rfl, rfl, rfl, rfl, rfl, rfl, rfl, trivial⟩ ?_
        | refine Chk.mk ⟨rfl, rfl, rfl, rfl, rfl, rfl, rfl, rfl, rfl, trivial⟩ ?_
        | refine Chk.mk ⟨rfl, rfl, rfl, rfl, rfl, rfl, rfl, rfl, rfl, rfl, trivial⟩ ?_
        | refine Chk.mk ⟨rfl, rfl, rfl, rfl, rfl, rfl, rfl, rfl, rfl, rfl, rfl, trivial⟩ ?_
        | refine Chk.mk ⟨rfl, rfl, rfl, rfl, rfl, rfl, rfl, rfl, rfl, rfl, rfl, rfl, trivial⟩ ?_)
      refine Chk.mk (by omega) ?_
      refine LoadP.own 1 [(bks[n]).cell] (hXc.at (by rw [Int.toNat_natCast, List.getElem?_map, List.getElem?_eq_getElem hnb]; rfl)) ?_
      repeat (first
        | refine LoadD.own 0 rfl _ rfl rfl ?_
        | refine LoadD.own 1 rfl _ rfl rfl ?_
        | refine LoadD.own 2 rfl _ rfl rfl ?_
        | refine LoadD.own 3 rfl _ rfl rfl ?_
        | refine LoadD.own 4 rfl _ rfl rfl ?_
        | refine LoadP.at 0 rfl _ rfl rfl ?_
        | refine LoadP.at 1 rfl _ rfl rfl ?_
        | refine LoadP.at 2 rfl _ rfl rfl ?_
        | refine LoadP.at 3 rfl _ rfl rfl ?_
        | refine LoadP.at 4 rfl _ rfl rfl ?_
        | refine StoreD.st 0 rfl rfl rfl ?_
        | refine StoreD.st 1 rfl rfl rfl ?_
        | refine StoreD.st 2 rfl rfl rfl ?_
        | refine StoreD.st 3 rfl rfl rfl ?_
        | refine StoreD.st 4 rfl rfl rfl ?_
        | refine CmpD.yes rfl ?_
        | refine CmpD.yes (by decide) ?_
        | refine CmpD.no (by decide) ?_
        | refine Chk.mk ⟨rfl, trivial⟩ ?_
        | refine Chk.mk ⟨rfl, rfl, trivial⟩ ?_
        | refine Chk.mk ⟨rfl, rfl, rfl, trivial⟩ ?_
        | refine Chk.mk ⟨rfl, rfl, rfl, rfl, trivial⟩ ?_
        | refine Chk.mk ⟨rfl, rfl, rfl, rfl, rfl, trivial⟩ ?_
        | refine Chk.mk ⟨rfl, rfl, rfl, rfl, rfl, rfl, trivial⟩ ?_
        | refine Chk.mk ⟨rfl, rfl, rfl, rfl, rfl, rfl, rfl, trivial⟩ ?_
        | refine Chk.mk ⟨rfl, rfl, rfl, rfl, rfl, rfl, rfl, rfl, trivial⟩ ?_
        | refine Chk.mk ⟨rfl, rfl, rfl, rfl, rfl, rfl, rfl, rfl, rfl, trivial⟩ ?_
        | refine Chk.mk ⟨rfl, rfl, rfl, rfl, rfl, rfl, rfl, rfl, rfl, rfl, trivial⟩ ?_
        | refine Chk.mk ⟨rfl, rfl, rfl, rfl, rfl, rfl, rfl, rfl, rfl, rfl, rfl, trivial⟩ ?_
        | refine Chk.mk ⟨rfl, rfl, rfl, rfl, rfl, rfl, rfl, rfl, rfl, rfl, rfl, rfl, trivial⟩ ?_)
      have hbo := hbok _ (List.getElem_mem hnb)
      refine Tri.free (torn_fix J' (bks[n]).a (bks[n]).cap (bks[n]).data hbo wb.a wb.cap wb.data hwo' hwc sec hsec) ?_
      rintro v J2 _ hJ2 ⟨aT, capT, rfl, hT⟩
      repeat (first
        | refine LoadD.own 0 rfl _ rfl rfl ?_
        | refine LoadD.own 1 rfl _ rfl rfl ?_
        | refine LoadD.own 2 rfl _ rfl rfl ?_
        | refine LoadD.own 3 rfl _ rfl rfl ?_
        | refine LoadD.own 4 rfl _ rfl rfl ?_
        | refine LoadP.at 0 rfl _ rfl rfl ?_
        | refine LoadP.at 1 rfl _ rfl rfl ?_
        | refine LoadP.at 2 rfl _ rfl rfl ?_
        | refine LoadP.at 3 rfl _ rfl rfl ?_
        | refine LoadP.at 4 rfl _ rfl rfl ?_
        | refine StoreD.st 0 rfl rfl rfl ?_
        | refine StoreD.st 1 rfl rfl rfl ?_
        | refine StoreD.st 2 rfl rfl rfl ?_
        | refine StoreD.st 3 rfl rfl rfl ?_
        | refine StoreD.st 4 rfl rfl rfl ?_
        | refine CmpD.yes rfl ?_
        | refine CmpD.yes (by decide) ?_
        | refine CmpD.no (by decide) ?_
        | refine Chk.mk ⟨rfl, trivial⟩ ?_
        | refine Chk.mk ⟨rfl, rfl, trivial⟩ ?_
        | refine Chk.mk ⟨rfl, rfl, rfl, trivial⟩ ?_
        | refine Chk.mk ⟨rfl, rfl, rfl, rfl, trivial⟩ ?_
        | refine Chk.mk ⟨rfl, rfl, rfl, rfl, rfl, trivial⟩ ?_
        | refine Chk.mk ⟨rfl, rfl, rfl, rfl, rfl, rfl, trivial⟩ ?_
        | refine Chk.mk ⟨rfl, rfl, rfl, rfl, rfl, rfl, rfl, trivial⟩ ?_
        | refine Chk.mk ⟨rfl, rfl, rfl, rfl, rfl, rfl, rfl, rfl, trivial⟩ ?_
        | refine Chk.mk ⟨rfl, rfl, rfl, rfl, rfl, rfl, rfl, rfl, rfl, trivial⟩ ?_
        | refine Chk.mk ⟨rfl, rfl, rfl, rfl, rfl, rfl, rfl, rfl, rfl, rfl, trivial⟩ ?_
        | refine Chk.mk ⟨rfl, rfl, rfl, rfl, rfl, rfl, rfl, rfl, rfl, rfl, rfl, trivial⟩ ?_
        | refine Chk.mk ⟨rfl, rfl, rfl, rfl, rfl, rfl, rfl, rfl, rfl, rfl, rfl, rfl, trivial⟩ ?_)
      refine Chk.mk (by omega) ?_
      refine StoreD.to 1 rfl _ (hset ⟨aT, capT, tornP (bks[n]).data wb.data sec⟩) (by simp only [List.length_append, List.length_map, hbl]; show pre.length + n + 1 ≤ _; omega) (.inr (.inr (Nat.le_refl _))) _ rfl ?_
      refine ToD.i64 (by omega) (by omega) ?_
      refine ⟨_, Drop.pick [0, 1, 2, 3] _ rfl, ⟨i + 1, _, bks.set n ⟨aT, capT, tornP (bks[n]).data wb.data sec⟩, by omega, hown _, hnew _ ?_, ?_, Imm.le_trans hle hJ2, rfl, rfl⟩, ?_⟩
      · rw [crash1, if_pos c2, List.map_set, List.getD_eq_getElem?_getD, List.getElem?_map, List.getElem?_eq_getElem hnb]; rfl
      · intro y hy
        rcases List.mem_or_eq_of_mem_set hy with hy | rfl
        · exact (hbok y hy).mono hJ2
        · exact hT
      · show ((wl : Int) - ((i : Int) + 1)).toNat < ((wl : Int) - (i : Int)).toNat; omega
    · have hskip : keep.getD i false = false → bks.map Bk.data = crash1 keep tn sec i n wb.data (bks.map Bk.data) := fun h => by rw [crash1, if_neg c2, h]; rfl
      refine CmpD.split (fun (c3 : (i : Int) < nK) => ?_) (fun (c3 : ¬ (i : Int) < nK) => ?_)
      · have hkb := bools_get (l := keep) (i := i) (by omega)
        rcases hK.mem with q0 | ⟨bK, oK, cK, TK, fK, rfl, hIK, hcK⟩
        · omega
        refine Chk.mk (by omega) ?_
        refine LoadD.imm (hle _ _ hIK) [.bool (keep.getD i false)] (take_get hcK hkb) rfl ?_
        cases hkv : keep.getD i false with
        | true =>
          repeat (first
            | refine LoadD.own 0 rfl _ rfl rfl ?_
            | refine LoadD.own 1 rfl _ rfl rfl ?_
            | refine LoadD.own 2 rfl _ rfl rfl ?_
            | refine LoadD.own 3 rfl _ rfl rfl ?_
            | refine LoadD.own 4 rfl _ rfl rfl ?_
            | refine LoadP.at 0 rfl _ rfl rfl ?_
            | refine LoadP.at 1 rfl _ rfl rfl ?_
            | refine LoadP.at 2 rfl _ rfl rfl ?_
            | refine LoadP.at 3 rfl _ rfl rfl ?_
            | refine LoadP.at 4 rfl _ rfl rfl ?_
            | refine StoreD.st 0 rfl rfl rfl ?_
            | refine StoreD.st 1 rfl rfl rfl ?_
            | refine StoreD.st 2 rfl rfl rfl ?_
            | refine StoreD.st 3 rfl rfl rfl ?_
            | refine StoreD.st 4 rfl rfl rfl ?_
            | refine CmpD.yes rfl ?_
            | refine CmpD.yes (by decide) ?_
            | refine CmpD.no (by decide) ?_
            | refine Chk.mk ⟨rfl, trivial⟩ ?_
            | refine Chk.mk ⟨rfl, rfl, trivial⟩ ?_
            | refine Chk.mk ⟨rfl, rfl, rfl, trivial⟩ ?_
            | refine Chk.mk ⟨rfl, rfl, rfl, rfl, trivial⟩ ?_
            | refine Chk.mk ⟨rfl, rfl, rfl, rfl, rfl, trivial⟩ ?_
            | refine Chk.mk ⟨rfl, rfl, rfl, rfl, rfl, rfl, trivial⟩ ?_
            | refine Chk.mk ⟨rfl, rfl, rfl, rfl, rfl, rfl, rfl, trivial⟩ ?_
            | refine Chk.mk ⟨rfl, rfl, rfl, rfl, rfl, rfl, rfl, rfl, trivial⟩ ?_
            | refine Chk.mk ⟨rfl, rfl, rfl, rfl, rfl, rfl, rfl, rfl, rfl, trivial⟩ ?_
            | refine Chk.mk ⟨rfl, rfl, rfl, rfl, rfl, rfl, rfl, rfl, rfl, rfl, trivial⟩ ?_
            | refine Chk.mk ⟨rfl, rfl, rfl, rfl, rfl, rfl, rfl, rfl, rfl, rfl, rfl, trivial⟩ ?_
            | refine Chk.mk ⟨rfl, rfl, rfl, rfl, rfl, rfl, rfl, rfl, rfl, rfl, rfl, rfl, trivial⟩ ?_)
          refine CodeF.sched [[], [0], [0, 1], [0, 1, 2], [], [4], [], [6], [0, 1, 2, 3, 4, 5, 6, 7], [0, 1, 2, 3, 4, 5, 6, 7, 8]] [0, 1, 2, 3, 4, 5, 6, 7, 8, 9] (by kernel_rfl) ?_
          repeat (first
            | refine LoadD.own 0 rfl _ rfl rfl ?_
            | refine LoadD.own 1 rfl _ rfl rfl ?_
            | refine LoadD.own 2 rfl _ rfl rfl ?_
            | refine LoadD.own 3 rfl _ rfl rfl ?_
            | refine LoadD.own 4 rfl _ rfl rfl ?_
            | refine LoadP.at 0 rfl _ rfl rfl ?_
            | refine LoadP.at 1 rfl _ rfl rfl ?_
            | refine LoadP.at 2 rfl _ rfl rfl ?_
            | refine LoadP.at 3 rfl _ rfl rfl ?_
            | refine LoadP.at 4 rfl _ rfl rfl ?_
            | refine StoreD.st 0 rfl rfl rfl ?_
            | refine StoreD.st 1 rfl rfl rfl ?_
            | refine StoreD.st 2 rfl rfl rfl ?_
            | refine StoreD.st 3 rfl rfl rfl ?_
            | refine StoreD.st 4 rfl rfl rfl ?_
            | refine CmpD.yes rfl ?_
            | refine CmpD.yes (by decide) ?_
            | refine CmpD.no (by decide) ?_
            | refine Chk.mk ⟨rfl, trivial⟩ ?_
            | refine Chk.mk ⟨rfl, rfl, trivial⟩ ?_
            | refine Chk.mk ⟨rfl, rfl, rfl, trivial⟩ ?_
            | refine Chk.mk ⟨rfl, rfl, rfl, rfl, trivial⟩ ?_
            | refine Chk.mk ⟨rfl, rfl, rfl, rfl, rfl, trivial⟩ ?_
            | refine Chk.mk ⟨rfl, rfl, rfl, rfl, rfl, rfl, trivial⟩ ?_
            | refine Chk.mk ⟨rfl, rfl, rfl, rfl, rfl, rfl, rfl, trivial⟩ ?_
            | refine Chk.mk ⟨rfl, rfl, rfl, rfl, rfl, rfl, rfl, rfl, trivial⟩ ?_
            | refine Chk.mk ⟨rfl, rfl, rfl, rfl, rfl, rfl, rfl, rfl, rfl, trivial⟩ ?_
            | refine Chk.mk ⟨rfl, rfl, rfl, rfl, rfl, rfl, rfl, rfl, rfl, rfl, trivial⟩ ?_
            | refine Chk.mk ⟨rfl, rfl, rfl, rfl, rfl, rfl, rfl, rfl, rfl, rfl, rfl, trivial⟩ ?_
            | refine Chk.mk ⟨rfl, rfl, rfl, rfl, rfl, rfl, rfl, rfl, rfl, rfl, rfl, rfl, trivial⟩ ?_)
          refine Chk.mk (by omega) ?_
          refine StoreD.to 1 rfl _ (hset wb) (by simp only [List.length_append, List.length_map, hbl]; show pre.length + n + 1 ≤ _; omega) (.inr (.inr (Nat.le_refl _))) _ rfl ?_
          refine ToD.i64 (by omega) (by omega) ?_
          refine ⟨_, Drop.pick [0, 1, 2, 3] _ rfl, ⟨i + 1, _, bks.set n wb, by omega, hown _, hnew _ ?_, ?_, hle, rfl, rfl⟩, ?_⟩
          · rw [crash1, if_neg c2, hkv, if_pos rfl, List.map_set]
          · intro y hy
            rcases List.mem_or_eq_of_mem_set hy with hy | rfl
            · exact hbok y hy
            · exact hwo'
          · show ((wl : Int) - ((i : Int) + 1)).toNat < ((wl : Int) - (i : Int)).toNat; omega
        | false =>
          repeat (first
            | refine LoadD.own 0 rfl _ rfl rfl ?_
            | refine LoadD.own 1 rfl _ rfl rfl ?_
            | refine LoadD.own 2 rfl _ rfl rfl ?_
            | refine LoadD.own 3 rfl _ rfl rfl ?_
            | refine LoadD.own 4 rfl _ rfl rfl ?_
            | refine LoadP.at 0 rfl _ rfl rfl ?_
            | refine LoadP.at 1 rfl _ rfl rfl ?_
            | refine LoadP.at 2 rfl _ rfl rfl ?_
            | refine LoadP.at 3 rfl _ rfl rfl ?_
            | refine LoadP.at 4 rfl _ rfl rfl ?_
            | refine StoreD.st 0 rfl rfl rfl ?_
            | refine StoreD.st 1 rfl rfl rfl ?_
            | refine StoreD.st 2 rfl rfl rfl ?_
            | refine StoreD.st 3 rfl rfl rfl ?_
            | refine StoreD.st 4 rfl rfl rfl ?_
            | refine CmpD.yes rfl ?_
            | refine CmpD.yes (by decide) ?_
            | refine CmpD.no (by decide) ?_
            | refine Chk.mk ⟨rfl, trivial⟩ ?_
            | refine Chk.mk ⟨rfl, rfl, trivial⟩ ?_
            | refine Chk.mk ⟨rfl, rfl, rfl, trivial⟩ ?_
            | refine Chk.mk ⟨rfl, rfl, rfl, rfl, trivial⟩ ?_
            | refine Chk.mk ⟨rfl, rfl, rfl, rfl, rfl, trivial⟩ ?_
            | refine Chk.mk ⟨rfl, rfl, rfl, rfl, rfl, rfl, trivial⟩ ?_
            | refine Chk.mk ⟨rfl, rfl, rfl, rfl, rfl, rfl, rfl, trivial⟩ ?_
            | refine Chk.mk ⟨rfl, rfl, rfl, rfl, rfl, rfl, rfl, rfl, trivial⟩ ?_
            | refine Chk.mk ⟨rfl, rfl, rfl, rfl, rfl, rfl, rfl, rfl, rfl, trivial⟩ ?_
            | refine Chk.mk ⟨rfl, rfl, rfl, rfl, rfl, rfl, rfl, rfl, rfl, rfl, trivial⟩ ?_
            | refine Chk.mk ⟨rfl, rfl, rfl, rfl, rfl, rfl, rfl, rfl, rfl, rfl, rfl, trivial⟩ ?_
            | refine Chk.mk ⟨rfl, rfl, rfl, rfl, rfl, rfl, rfl, rfl, rfl, rfl, rfl, rfl, trivial⟩ ?_)
          refine ToD.i64 (by omega) (by omega) ?_
          refine ⟨_, Drop.pick [0, 1, 2, 3] _ rfl, ⟨i + 1, _, bks, by omega, hS, hnew _ (hskip hkv), hbok, hle, rfl, rfl⟩, ?_⟩
          show ((wl : Int) - ((i : Int) + 1)).toNat < ((wl : Int) - (i : Int)).toNat; omega
      · refine ToD.i64 (by omega) (by omega) ?_
        refine ⟨_, Drop.pick [0, 1, 2, 3] _ rfl, ⟨i + 1, _, bks, by omega, hS, hnew _ (hskip (by rw [List.getD_eq_getElem?_getD, List.getElem?_eq_none (by omega)]; rfl)), hbok, hle, rfl, rfl⟩, ?_⟩
        show ((wl : Int) - ((i : Int) + 1)).toNat < ((wl : Int) - (i : Int)).toNat; omega
  · obtain rfl : i = wl := by omega
    rw [← hwn, List.take_length] at hdat
    refine LoadD.own 0 rfl [.slice sa sl sc] rfl rfl ?_
    refine (clone_blocks J' _ sa sl sc (bks.map Bk.cell) (hS.slC 1 rfl) (by intro v hv; obtain ⟨b, _, rfl⟩ := List.mem_map.1 hv; rfl) (by omega)).mono ?_
    rintro v J3 S3 hJ3 ⟨aN, capN, chN', rfl, hN', rfl, rfl⟩
    refine StoreD.st 0 rfl rfl rfl ?_
    refine StoreD.st 0 rfl rfl rfl ?_
    refine StoreD.st 0 rfl rfl rfl ?_
    refine StoreD.st 0 rfl rfl rfl ?_
    refine StoreD.st 0 rfl rfl rfl ?_
    refine Done.mk ⟨[dChunk b ⟨⟨sa, sl, sc⟩, ⟨aN, sl, capN⟩, ⟨none, 0, 0⟩, count, false, ⟨false, 0⟩, ⟨false, 0⟩⟩, chS, chN', []], Drop.and (Drop.pick [0, 1, 4] _ rfl), rfl, ⟨sa, sl, sc⟩, ⟨aN, sl, capN⟩, chS, chN', bks, hdat, rfl, ⟨hS, hN', OwnC.nil _ _, hbok, hbok, by simp⟩⟩
theorem dk_Crash {I : Imm} {bD : Nat} {st : DSt} {ch : List Blk} (h : Dk I bD st ch) (hf : st.Few 1000000) (aK : Option Addr) (nK capK : Nat) (keep : List Bool) (hK : Rds I aK nK (bools keep)) (tn : Int) (sec : Nat) (hsec : sec < 256) :
    Tri Tryz.prog 34 #[.pointer (some ⟨bD, 0, none⟩), .slice aK nK capK, .int .i64 tn, .int .u8 sec] I [ch] fun v J S' => v = .int .i64 0 ∧ ∃ ch', Dk J bD (st.crash keep tn sec) ch' ∧ S' = [ch'] := by
  have hwf := h.wf.crash keep tn sec
  obtain ⟨hw, d, chS, chN, chW, bS, bN, bW, rfl, hD, q1, q2, q3, q4, q5, q6, q7⟩ := h
  have hl := hD.hN.len1
  have hl' : st.now.length = d.now.len := by rw [← q2]; simpa using hl
  have hls := hD.hS.len1
  have hls' : st.safe.length = d.safe.len := by rw [← q1]; simpa using hls
  have hr := hw.range
  have hwl := hw.len
  have hW := hD.hW.n
  rw [wCells_length] at hW
  have hW' : st.writes.length = d.writes.len := by rw [← q3, List.length_map]; omega
  obtain ⟨f1, f2, f3⟩ := hf
  refine Tri.abs (S2 := [dChunk bD d, chS, chN, chW]) (by simp) (disk_Crash bD d (by omega) (by omega) (by omega) chS chN chW bS bN bW I hD (fun w hw2 => by
    have := hw.writes (w.1, w.2.data) (by rw [← q3]; exact List.mem_map.2 ⟨w, hw2, rfl⟩)
    dsimp only at this
    omega) aK nK capK keep hK tn sec hsec) ?_
  rintro v J S' hJ ⟨rfl, hS, hN, chS', chN', bks, hbd, rfl, hDA⟩
  rw [q1, q3] at hbd
  exact ⟨[dChunk bD ⟨hS, hN, ⟨none, 0, 0⟩, d.count, false, ⟨false, 0⟩, ⟨false, 0⟩⟩ ++ (chS' ++ (chN' ++ []))], Drop.flat (by simp), rfl, _, ⟨hwf, _, chS', chN', [], bks, bks, [], rfl, hDA, hbd, hbd, rfl, q4, rfl, rfl, rfl⟩, rfl⟩
end Go.Proofs.YtegdcjnjnoeinaaGreat
namespace Go.Proofs.YtegdcjnjnoeinaaGreat
open Go.RowKit Go.Sl
set_option maxRecDepth 20000

theorem put5_at {l m : Dat} {k j : Nat} (hm : m.length = 512) (hl : l.length = 4096) (hk : k < 8) :
    (put5 l m k)[j]? = if j / 512 = k then m[j % 512]? else l[j]? := by
  unfold put5
  have h1 : (l.take (k * 512)).length = k * 512 := by rw [List.length_take]; omega
  rw [List.append_assoc]
  rcases Nat.lt_or_ge j (k * 512) with g | g
  · rw [List.getElem?_append_left (by omega), List.getElem?_take, if_pos g, if_neg (by omega)]
  rw [List.getElem?_append_right (by omega), h1]
  rcases Nat.lt_or_ge (j - k * 512) 512 with g2 | g2
  · rw [List.getElem?_append_left (by omega), if_pos (by omega)]
    congr 1; omega
  · rw [List.getElem?_append_right (by omega), hm, List.getElem?_drop]
    have e : k * 512 + 512 + (j - k * 512 - 512) = j := by omega
    rw [e, if_neg (by omega)]
theorem tornK_at {old new : Dat} (h1 : old.length = 4096) (h2 : new.length = 4096) (sec : Nat) : ∀ (n : Nat), n ≤ 8 → ∀ j, j < 4096 → (tornK old new sec n)[j]? = if j / 512 < n ∧ sec / 2 ^ (j / 512) % 2 = 1 then new[j]? else old[j]?
  | 0, _, j, _ => by unfold tornK; rw [if_neg (by omega)]
  | n + 1, hn, j, hj => by
    have ih := tornK_at h1 h2 sec n (by omega) j hj
    have hl := tornK_length h1 h2 sec n (by omega)
    rw [tornK_succ]
    by_cases hs : sec / 2 ^ n % 2 = 1
    · rw [if_pos hs, put5_at (by rw [List.length_take, List.length_drop]; omega) hl (by omega), ih]
      by_cases hj2 : j / 512 = n
      · rw [if_pos hj2, if_pos ⟨by omega, by rw [hj2]; exact hs⟩, List.getElem?_take, if_pos (by omega), List.getElem?_drop]
        congr 1; omega
      · rw [if_neg hj2]
        by_cases h3 : j / 512 < n ∧ sec / 2 ^ (j / 512) % 2 = 1
        · rw [if_pos h3, if_pos ⟨by omega, h3.2⟩]
        · rw [if_neg h3, if_neg (fun h => h3 ⟨by omega, h.2⟩)]
    · rw [if_neg hs, ih]
      by_cases h3 : j / 512 < n ∧ sec / 2 ^ (j / 512) % 2 = 1
      · rw [if_pos h3, if_pos ⟨by omega, h3.2⟩]
      · rw [if_neg h3]
        by_cases h4 : j / 512 < n + 1 ∧ sec / 2 ^ (j / 512) % 2 = 1
        · exfalso
          by_cases hj2 : j / 512 = n
          · exact hs (hj2 ▸ h4.2)
          · exact h3 ⟨by omega, h4.2⟩
        · rw [if_neg h4]
end Go.Proofs.YtegdcjnjnoeinaaGreat
namespace Go.Proofs.YtegdcjnjnoeinaaGreat
open Go.RowKit Go.Sl
set_option maxRecDepth 20000

def supA : Dat := supL (superOf 1 7)
def supB : Dat := supL (superOf 2 9)
theorem supB_length : supB.length = 4096 := supL_length _
theorem supL_rest (s : Sup) {j : Nat} (h1 : 44 ≤ j) (h2 : j < 4096) : (supL s)[j]? = some 0 := by
  have := sup44_length s
  rw [supL, List.getElem?_append_right (by omega), List.getElem?_replicate, if_pos (by omega)]
theorem torn_sup (sec : Nat) : tornP noughts supB sec = noughts ∨ tornP noughts supB sec = supB := by
  have hat := tornK_at noughts_length supB_length sec 8 (by omega)
  have hl : (tornP noughts supB sec).length = 4096 := tornK_length noughts_length supB_length sec 8 (by omega)
  have hz : ∀ j, 512 ≤ j → j < 4096 → (tornP noughts supB sec)[j]? = some 0 := by
    intro j h1 h2
    rw [tornP, hat j h2]
    split
    · exact supL_rest _ (by omega) h2
    · exact noughts_get h2
  by_cases h0 : sec / 2 ^ 0 % 2 = 1
  · right
    refine ext4096 hl supB_length fun j hj => ?_
    rcases Nat.lt_or_ge j 512 with g | g
    · rw [tornP, hat j hj, show j / 512 = 0 by omega, if_pos ⟨by omega, h0⟩]
    · rw [hz j g hj]; exact (supL_rest _ (by omega) hj).symm
  · left
    refine ext4096 hl noughts_length fun j hj => ?_
    rcases Nat.lt_or_ge j 512 with g | g
    · rw [tornP, hat j hj, show j / 512 = 0 by omega, if_neg (fun h => h0 h.2)]
    · rw [hz j g hj, noughts_get hj]
theorem torn_same {b : Dat} (hb : b.length = 4096) (sec : Nat) : tornP b b sec = b := by
  refine ext4096 (tornK_length hb hb sec 8 (by omega)) hb fun j hj => ?_
  rw [tornP, tornK_at hb hb sec 8 (by omega) j hj]
  split <;> rfl
/-- blocks that may lie behind any cut -/
structure PB (K : List Int) (l : List Dat) : Prop where
  len : l.length = 64
  z : l[0]? = some supA
  o : l[1]? = some noughts ∨ l[1]? = some supB
  r : ∀ n : Nat, 2 ≤ n → n < 64 → (n : Int) ∉ K → l[n]? = some noughts
def WB (K : List Int) (ws : List (Int × Dat)) : Prop := ∀ w ∈ ws, (w.1 ∈ K ∧ 2 ≤ w.1) ∨ w = (1, supB)
structure QB (K : List Int) (d : DSt) : Prop where
  safe : PB K d.safe
  now : PB K d.now
  ws : WB K d.writes
theorem PB.set {K : List Int} {l : List Dat} (h : PB K l) {n : Int} (hn : n ∈ K ∧ 2 ≤ n) (b : Dat) : PB K (l.set n.toNat b) := by
  refine ⟨by rw [List.length_set]; exact h.len, by rw [List.getElem?_set_ne (by omega)]; exact h.z, ?_, fun m h1 h2 h3 => ?_⟩
  · rw [List.getElem?_set_ne (by omega)]; exact h.o
  · have : n.toNat ≠ m := by
      intro e
      apply h3
      rw [show ((m : Nat) : Int) = n by omega]; exact hn.1
    rw [List.getElem?_set_ne this]; exact h.r m h1 h2 h3
theorem PB.set1 {K : List Int} {l : List Dat} (h : PB K l) {b : Dat} (hb : b = noughts ∨ b = supB) : PB K (l.set 1 b) := by
  have hl := h.len
  refine ⟨by rw [List.length_set]; exact h.len, by rw [List.getElem?_set_ne (by omega)]; exact h.z, ?_, fun m h1 h2 h3 => ?_⟩
  · rw [List.getElem?_set_self (by omega)]
    rcases hb with rfl | rfl
    · exact .inl rfl
    · exact .inr rfl
  · rw [List.getElem?_set_ne (by omega)]; exact h.r m h1 h2 h3
theorem PB.wr {K : List Int} {l : List Dat} (h : PB K l) {n : Int} {b : Dat} (hw : (n ∈ K ∧ 2 ≤ n) ∨ (n, b) = (1, supB)) : PB K (l.set n.toNat b) := by
  rcases hw with hw | hw
  · exact h.set hw b
  · cases hw
    exact h.set1 (.inr rfl)
theorem QB.stop {K : List Int} {d : DSt} (h : QB K d) : QB K d.stop.1 := by
  obtain ⟨e1, e2, e3, _⟩ := d.stop_same
  exact ⟨by rw [e1]; exact h.safe, by rw [e2]; exact h.now, by rw [e3]; exact h.ws⟩
theorem QB.write {K : List Int} {d : DSt} (h : QB K d) {n : Int} {b : Dat} (hw : (n ∈ K ∧ 2 ≤ n) ∨ (n, b) = (1, supB)) : QB K (d.write n b).1 := by
  unfold DSt.write
  split
  · exact h
  split
  · exact h
  split
  · exact h.stop
  obtain ⟨e1, _, _, _⟩ := d.stop_same
  refine ⟨by show PB K d.stop.1.safe; rw [e1]; exact h.safe, h.now.wr hw, ?_⟩
  intro w hm
  have hm : w ∈ d.writes ++ [(n, b)] := hm
  rcases List.mem_append.1 hm with hm | hm
  · exact h.ws w hm
  · simp only [List.mem_singleton] at hm
    subst hm; exact hw
theorem QB.flush {K : List Int} {d : DSt} (h : QB K d) : QB K d.flush.1 := by
  unfold DSt.flush
  split
  · exact h.stop
  obtain ⟨_, e2, _, _⟩ := d.stop_same
  exact ⟨h.now, by show PB K d.stop.1.now; rw [e2]; exact h.now, fun w hm => (List.not_mem_nil hm).elim⟩
theorem QB.imgs {K : List Int} : ∀ (l : List PImg) (d : DSt), QB K d → (∀ g ∈ l, g.1 ∈ K ∧ 2 ≤ g.1) → QB K (wrImgs l d).1
  | [], _, h, _ => h
  | g :: l, d, h, hl => by
    have h1 := h.write (b := g.2) (.inl (hl g (by simp)))
    rw [wrImgs]
    split
    · exact h1
    · exact QB.imgs l _ h1 fun x hx => hl x (by simp [hx])
theorem QB.last {K : List Int} {d : DSt} (h : QB K d) : QB K (lastWr d 1 (superOf 2 9)).1 := by
  have h1 := h.write (n := 1) (b := supB) (.inr rfl)
  unfold lastWr
  split
  · exact h1
  · exact h1.flush
theorem QB.doP {K : List Int} {d : DSt} (h : QB K d) {l : List PImg} (hl : ∀ g ∈ l, g.1 ∈ K ∧ 2 ≤ g.1) : QB K (doP d l (superOf 2 9) 1).1 := by
  have h1 := QB.imgs l d h hl
  unfold Go.Proofs.YtegdcjnjnoeinaaGreat.doP
  split
  · exact h
  split
  · exact h1
  split
  · exact h1.flush
  · exact h1.flush.last
theorem PB.crash {K : List Int} (keep : List Bool) (tn : Int) (sec : Nat) : ∀ (ws : List (Int × Dat)) (i : Nat) (s : List Dat), PB K s → WB K ws → PB K (crashK keep tn sec i ws s)
  | [], _, _, h, _ => h
  | w :: ws, i, s, h, hw => by
    rw [crashK]
    refine PB.crash keep tn sec ws (i + 1) _ ?_ fun x hx => hw x (by simp [hx])
    have h0 := hw w (by simp)
    obtain ⟨n, b⟩ := w
    unfold crash1
    dsimp only at h0 ⊢
    split
    · rcases h0 with h0 | h0
      · exact h.set h0 _
      · cases h0
        refine h.set1 ?_
        rw [show (1 : Int).toNat = 1 from rfl, List.getD_eq_getElem?_getD]
        rcases h.o with ho | ho
        · rw [ho]; exact torn_sup sec
        · rw [ho]; exact .inr (torn_same supB_length sec)
    · split
      · exact h.wr h0
      · exact h
theorem QB.crash {K : List Int} {d : DSt} (h : QB K d) (keep : List Bool) (tn : Int) (sec : Nat) : QB K (d.crash keep tn sec) :=
  ⟨PB.crash keep tn sec _ _ _ h.safe h.ws, PB.crash keep tn sec _ _ _ h.safe h.ws, fun _ hm => (List.not_mem_nil hm).elim⟩
/-! ### the last time, with nothing in the way -/
end Go.Proofs.YtegdcjnjnoeinaaGreat
namespace Go.Proofs.YtegdcjnjnoeinaaGreat
open Go.RowKit Go.Sl
set_option maxRecDepth 20000

theorem lastD_mem : ∀ (l : List PImg) (n : Int) (x : Dat), lastD l n = some x → ∃ g ∈ l, g.1 = n ∧ g.2 = x := by
  intro l
  refine snoc_ind (p := fun l : List PImg => ∀ (n : Int) (x : Dat), lastD l n = some x → ∃ g ∈ l, g.1 = n ∧ g.2 = x) ?_ ?_ l
  · intro n x h; cases h
  · intro l g ih n x h
    rw [lastD_snoc] at h
    split at h
    · rename_i hg
      exact ⟨g, by simp, hg, Option.some.inj h⟩
    · obtain ⟨y, hy, h1⟩ := ih n x h
      exact ⟨y, by simp [hy], h1⟩
structure HomL (l L : List PImg) : Prop where
  ok : ∀ g ∈ L, 18 ≤ g.1 ∧ g.1 < 64 ∧ g.2.length = 4096
  last : ∀ n, lastD L n = lastD l n
  few : L.length ≤ 46
theorem getD_some {l : List Dat} {n : Nat} {x : Dat} (h : l[n]? = some x) : l.getD n [] = x := by rw [List.getD_eq_getElem?_getD, h]; rfl
end Go.Proofs.YtegdcjnjnoeinaaGreat
namespace Go.Proofs.YtegdcjnjnoeinaaGreat
open Go.RowKit Go.Sl
set_option maxRecDepth 20000

theorem scanK_right {rb : Nat → Dat} {ep : Int} : ∀ (f at_ : Nat) (seq : Int) (room : Nat), ∀ g ∈ scanK rb ep f at_ seq room, RightP g.1 g.2.1 g.2.2
  | 0, _, _, _, g, hg => by simp [scanK] at hg
  | f + 1, at_, seq, room, g, hg => by
    rw [scanK] at hg
    cases hp : grpP rb at_ room with
    | none => rw [hp] at hg; simp at hg
    | some p =>
      obtain ⟨e, s, l⟩ := p
      rw [hp] at hg
      dsimp only at hg
      split at hg
      · rcases List.mem_cons.1 hg with rfl | hg
        · unfold grpP at hp
          split at hp
          · cases hp
          · split at hp
            · exact (getP_some hp).1
            · cases hp
        · exact scanK_right f _ _ _ g hg
      · simp at hg
theorem home_mem {l : List PImg} {g : PImg} (h : g ∈ homeP l) : g ∈ l := by
  unfold homeP at h
  obtain ⟨n, hn, rfl⟩ := List.mem_map.1 h
  have h1 := (sortI_perm _).mem_iff.1 hn
  have h2 := (mem_lastP l n).1 h1
  rw [lookup_lastP]
  cases hd : lastD l n with
  | none => rw [hd] at h2; simp at h2
  | some x =>
    obtain ⟨g, hg, h3, h4⟩ := lastD_mem l n x hd
    show (n, x) ∈ l
    rw [← h3, ← h4]
    exact hg
theorem homeP_len (l : List PImg) : (homeP l).length ≤ l.length := by
  have e2 : (homeP l).length = (lastP l).length := by unfold homeP; rw [List.length_map, (sortI_perm _).length_eq, List.length_map]
  have h : ∀ (l ms : List PImg), (l.foldl pput ms).length ≤ ms.length + l.length := by
    intro l
    induction l with
    | nil => intro ms; simp
    | cons g l ih =>
      intro ms
      have h1 := ih (pput ms g)
      have h2 : (pput ms g).length ≤ ms.length + 1 := by unfold pput; split <;> simp
      rw [List.foldl_cons, List.length_cons]; omega
  have := h l []
  rw [e2]; simpa [lastP] using this
theorem choose_right {a b : Option Sup} {s : Sup} {slot : Int} (ha : ∀ x, a = some x → RightS x) (hb : ∀ x, b = some x → RightS x) (h : chooseP a b = (s, slot, true)) : RightS s ∧ (slot = 0 ∨ slot = 1) := by
  cases a with
  | none =>
    cases b with
    | none => simp [chooseP] at h
    | some y =>
      simp only [chooseP, Prod.mk.injEq] at h
      obtain ⟨rfl, rfl, _⟩ := h
      exact ⟨hb _ rfl, .inr rfl⟩
  | some x =>
    cases b with
    | none =>
      simp only [chooseP, Prod.mk.injEq] at h
      obtain ⟨rfl, rfl, _⟩ := h
      exact ⟨ha _ rfl, .inl rfl⟩
    | some y =>
      simp only [chooseP] at h
      split at h
      · simp only [Prod.mk.injEq] at h
        obtain ⟨rfl, rfl, _⟩ := h
        exact ⟨ha _ rfl, .inl rfl⟩
      · simp only [Prod.mk.injEq] at h
        obtain ⟨rfl, rfl, _⟩ := h
        exact ⟨hb _ rfl, .inr rfl⟩
theorem getS_right (b : Dat) : ∀ x, getS b = some x → RightS x := fun _ h => (getS_some.1 h).1
theorem found_ok {d : DSt} (h : (foundP d).2.2 = 0) : d.down = false ∧ RightS (foundP d).1 ∧ ((foundP d).2.1 = 0 ∨ (foundP d).2.1 = 1) ∧ (foundP d).1.blocks = d.now.length ∧ (foundP d).1.tail < layL d.now.length ∧ (foundP d).1.epoch < 8388608 := by
  have hc := @choose_right (getS (d.now.getD 0 [])) (getS (d.now.getD 1 [])) 
  unfold foundP at h ⊢
  generalize chooseP (getS (d.now.getD 0 [])) (getS (d.now.getD 1 [])) = cp at *
  obtain ⟨s, slot, ok⟩ := cp
  by_cases hd : d.down = true
  · rw [if_pos hd] at h; simp at h
  rw [if_neg hd] at h ⊢
  dsimp only at h ⊢
  split at h
  · simp at h
  · rename_i hn
    rw [if_neg hn]
    have h1 : ok = true := by
      cases ok
      · exact absurd (.inl rfl) hn
      · rfl
    subst h1
    obtain ⟨r1, r2⟩ := hc (getS_right _) (getS_right _) rfl
    refine ⟨by simpa using hd, r1, r2, ?_, ?_, ?_⟩
    · exact Classical.byContradiction fun h => hn (.inr (.inl h))
    · exact Classical.byContradiction fun h => hn (.inr (.inr (.inl (by have h : ¬ s.tail < layL d.now.length := h; omega))))
    · exact Classical.byContradiction fun h => hn (.inr (.inr (.inr (by have h : ¬ s.epoch < 8388608 := h; omega))))
theorem allP_allG {J : Imm} {gl : List Grp} {l : List G3} (h : GrpsOk J gl l) : allP gl = allG l := by
  have e := congrArg (fun x => x.flatMap fun p : Int × Int × List PImg => p.2.2) h.g3
  simp only [List.flatMap_map] at e
  exact e
theorem DSt.stop_len (d : DSt) : d.stop.1.now.length = d.now.length := by rw [d.stop_same.2.1]
theorem DSt.write_len (d : DSt) (n : Int) (b : Dat) : (d.write n b).1.now.length = d.now.length := by
  unfold DSt.write
  split
  · rfl
  · split
    · rfl
    · split
      · exact d.stop_len
      · show (d.now.set _ _).length = _; rw [List.length_set]
theorem DSt.flush_len (d : DSt) : d.flush.1.now.length = d.now.length := by
  unfold DSt.flush
  split
  · exact d.stop_len
  · exact d.stop_len
theorem wrImgs_len : ∀ (l : List PImg) (d : DSt), (wrImgs l d).1.now.length = d.now.length
  | [], _ => rfl
  | g :: l, d => by
    rw [wrImgs]
    split
    · exact d.write_len _ _
    · rw [wrImgs_len l, d.write_len]
theorem doP_len (d : DSt) (l : List PImg) (s : Sup) (slot : Int) : (doP d l s slot).1.now.length = d.now.length := by
  unfold doP
  split
  · rfl
  split
  · exact wrImgs_len _ _
  split
  · rw [DSt.flush_len, wrImgs_len]
  · unfold lastWr
    split
    · rw [DSt.write_len, DSt.flush_len, wrImgs_len]
    · rw [DSt.flush_len, DSt.write_len, DSt.flush_len, wrImgs_len]
def MountQ (J : Imm) (bD : Nat) (M : DSt × Int × Option VSt) (r : Value) (S' : St) : Prop := ∃ chD', Dk J bD M.1 chD' ∧
  ((M.2.1 ≠ 0 ∧ M.2.2 = none ∧ r = .tuple #[.pointer none, .int .i64 M.2.1] ∧ S' = [chD']) ∨
   (M.2.1 = 0 ∧ ∃ v bV chV, M.2.2 = some v ∧ r = .tuple #[.pointer (some ⟨bV, 0, none⟩), .int .i64 0] ∧ Vk J bV bD v chV ∧ S' = [chD', chV]))
set_option maxHeartbeats 4000000 in
theorem vk_Mount {I : Imm} {bD : Nat} {d : DSt} {chD : List Blk} (hD : Dk I bD d chD) (hf : d.Few 700000) :
    Tri Tryz.prog 38 #[.pointer (some ⟨bD, 0, none⟩)] I [chD] fun r J S' => MountQ J bD (mountP d) r S' := by
  have hr := hD.wf.range
  refine Tri.drop ?_ (fun _ _ _ _ h => h)
  refine Tri.of (args := [.pointer (some ⟨bD, 0, none⟩)]) tabOk Tryz.func38 rfl (by kernel_rfl) (by kernel_rfl) ?_
  refine Tri.frame1 0 rfl (dk_Size hD) ?_
  rintro r _ A' hJ ⟨rfl, rfl, rfl⟩
  refine ⟨_, rfl, ?_⟩
  refine CmpD.no (by show ((d.now.length : Nat) : Int) ≠ 0; omega) ?_
  refine Tri.frame1 0 rfl (dk_Size hD) ?_
  rintro r _ A' hJ ⟨rfl, rfl, rfl⟩
  refine ⟨_, rfl, ?_⟩
  refine Tri.free (layout_Of d.now.length I) ?_
  rintro r _ _ hJ ⟨rfl, rfl⟩
  unfold mountP
  by_cases h64 : d.now.length < 64
  · rw [if_pos h64, layA, if_pos (by omega)]
    conv => whnf
    intro b4
    repeat (first
      | refine LoadD.own 0 rfl _ rfl rfl ?_
      | refine LoadD.own 1 rfl _ rfl rfl ?_
      | refine LoadP.at 0 rfl _ rfl rfl ?_
      | refine LoadP.at 1 rfl _ rfl rfl ?_
      | refine StoreD.st 0 rfl rfl rfl ?_
      | refine StoreD.st 1 rfl rfl rfl ?_
      | refine CmpD.yes rfl ?_
      | refine CmpD.yes (by decide) ?_
      | refine CmpD.no (by decide) ?_
      | refine Chk.mk ⟨rfl, trivial⟩ ?_
      | refine Chk.mk ⟨rfl, rfl, trivial⟩ ?_
      | refine Chk.mk ⟨rfl, rfl, rfl, trivial⟩ ?_
      | refine Chk.mk ⟨rfl, rfl, rfl, rfl, trivial⟩ ?_
      | refine Chk.mk ⟨rfl, rfl, rfl, rfl, rfl, trivial⟩ ?_
      | refine Chk.mk ⟨rfl, rfl, rfl, rfl, rfl, rfl, trivial⟩ ?_
      | refine Chk.mk ⟨rfl, rfl, rfl, rfl, rfl, rfl, rfl, trivial⟩ ?_
      | refine Chk.mk ⟨rfl, rfl, rfl, rfl, rfl, rfl, rfl, rfl, trivial⟩ ?_
      | refine Chk.mk ⟨rfl, rfl, rfl, rfl, rfl, rfl, rfl, rfl, rfl, trivial⟩ ?_
      | refine Chk.mk ⟨rfl, rfl, rfl, rfl, rfl, rfl, rfl, rfl, rfl, rfl, trivial⟩ ?_
      | refine Chk.mk ⟨rfl, rfl, rfl, rfl, rfl, rfl, rfl, rfl, rfl, rfl, rfl, trivial⟩ ?_
      | refine Chk.mk ⟨rfl, rfl, rfl, rfl, rfl, rfl, rfl, rfl, rfl, rfl, rfl, rfl, trivial⟩ ?_)
    exact Done.mk ⟨_, Drop.pick [0] _ rfl, chD, hD, .inl ⟨by simp, rfl, rfl, rfl⟩⟩
  rw [if_neg h64, layA, if_neg (by omega)]
  conv => whnf
  intro b4
  repeat (first
    | refine LoadD.own 0 rfl _ rfl rfl ?_
    | refine LoadD.own 1 rfl _ rfl rfl ?_
    | refine LoadP.at 0 rfl _ rfl rfl ?_
    | refine LoadP.at 1 rfl _ rfl rfl ?_
    | refine StoreD.st 0 rfl rfl rfl ?_
    | refine StoreD.st 1 rfl rfl rfl ?_
    | refine CmpD.yes rfl ?_
    | refine CmpD.yes (by decide) ?_
    | refine CmpD.no (by decide) ?_
    | refine Chk.mk ⟨rfl, trivial⟩ ?_
    | refine Chk.mk ⟨rfl, rfl, trivial⟩ ?_
    | refine Chk.mk ⟨rfl, rfl, rfl, trivial⟩ ?_
    | refine Chk.mk ⟨rfl, rfl, rfl, rfl, trivial⟩ ?_
    | refine Chk.mk ⟨rfl, rfl, rfl, rfl, rfl, trivial⟩ ?_
    | refine Chk.mk ⟨rfl, rfl, rfl, rfl, rfl, rfl, trivial⟩ ?_
    | refine Chk.mk ⟨rfl, rfl, rfl, rfl, rfl, rfl, rfl, trivial⟩ ?_
    | refine Chk.mk ⟨rfl, rfl, rfl, rfl, rfl, rfl, rfl, rfl, trivial⟩ ?_
    | refine Chk.mk ⟨rfl, rfl, rfl, rfl, rfl, rfl, rfl, rfl, rfl, trivial⟩ ?_
    | refine Chk.mk ⟨rfl, rfl, rfl, rfl, rfl, rfl, rfl, rfl, rfl, rfl, trivial⟩ ?_
    | refine Chk.mk ⟨rfl, rfl, rfl, rfl, rfl, rfl, rfl, rfl, rfl, rfl, rfl, trivial⟩ ?_
    | refine Chk.mk ⟨rfl, rfl, rfl, rfl, rfl, rfl, rfl, rfl, rfl, rfl, rfl, rfl, trivial⟩ ?_)
  refine Tri.frame1 0 rfl (v_found hD (by omega)) ?_
  have hfo := found_ok (d := d)
  obtain ⟨fp, hfp⟩ : ∃ fp, fp = foundP d := ⟨_, rfl⟩
  rw [← hfp] at hfo ⊢
  obtain ⟨s, slot, e⟩ := fp
  dsimp only at hfo ⊢
  rintro r J1 A' hJ1 ⟨rfl, hD1, rfl⟩
  refine ⟨_, rfl, ?_⟩
  conv => whnf
  intro b6
  repeat (first
    | refine LoadD.own 0 rfl _ rfl rfl ?_
    | refine LoadD.own 1 rfl _ rfl rfl ?_
    | refine LoadD.own 2 rfl _ rfl rfl ?_
    | refine LoadP.at 0 rfl _ rfl rfl ?_
    | refine LoadP.at 1 rfl _ rfl rfl ?_
    | refine LoadP.at 2 rfl _ rfl rfl ?_
    | refine StoreD.st 0 rfl rfl rfl ?_
    | refine StoreD.st 1 rfl rfl rfl ?_
    | refine StoreD.st 2 rfl rfl rfl ?_
    | refine CmpD.yes rfl ?_
    | refine CmpD.yes (by decide) ?_
    | refine CmpD.no (by decide) ?_
    | refine Chk.mk ⟨rfl, trivial⟩ ?_
    | refine Chk.mk ⟨rfl, rfl, trivial⟩ ?_
    | refine Chk.mk ⟨rfl, rfl, rfl, trivial⟩ ?_
    | refine Chk.mk ⟨rfl, rfl, rfl, rfl, trivial⟩ ?_
    | refine Chk.mk ⟨rfl, rfl, rfl, rfl, rfl, trivial⟩ ?_
    | refine Chk.mk ⟨rfl, rfl, rfl, rfl, rfl, rfl, trivial⟩ ?_
    | refine Chk.mk ⟨rfl, rfl, rfl, rfl, rfl, rfl, rfl, trivial⟩ ?_
    | refine Chk.mk ⟨rfl, rfl, rfl, rfl, rfl, rfl, rfl, rfl, trivial⟩ ?_
    | refine Chk.mk ⟨rfl, rfl, rfl, rfl, rfl, rfl, rfl, rfl, rfl, trivial⟩ ?_
    | refine Chk.mk ⟨rfl, rfl, rfl, rfl, rfl, rfl, rfl, rfl, rfl, rfl, trivial⟩ ?_
    | refine Chk.mk ⟨rfl, rfl, rfl, rfl, rfl, rfl, rfl, rfl, rfl, rfl, rfl, trivial⟩ ?_
    | refine Chk.mk ⟨rfl, rfl, rfl, rfl, rfl, rfl, rfl, rfl, rfl, rfl, rfl, rfl, trivial⟩ ?_)
  by_cases he : e ≠ 0
  · rw [if_pos he]
    refine CmpD.no he ?_
    repeat (first
      | refine LoadD.own 0 rfl _ rfl rfl ?_
      | refine LoadD.own 1 rfl _ rfl rfl ?_
      | refine LoadD.own 2 rfl _ rfl rfl ?_
      | refine LoadP.at 0 rfl _ rfl rfl ?_
      | refine LoadP.at 1 rfl _ rfl rfl ?_
      | refine LoadP.at 2 rfl _ rfl rfl ?_
      | refine StoreD.st 0 rfl rfl rfl ?_
      | refine StoreD.st 1 rfl rfl rfl ?_
      | refine StoreD.st 2 rfl rfl rfl ?_
      | refine CmpD.yes rfl ?_
      | refine CmpD.yes (by decide) ?_
      | refine CmpD.no (by decide) ?_
      | refine Chk.mk ⟨rfl, trivial⟩ ?_
      | refine Chk.mk ⟨rfl, rfl, trivial⟩ ?_
      | refine Chk.mk ⟨rfl, rfl, rfl, trivial⟩ ?_
      | refine Chk.mk ⟨rfl, rfl, rfl, rfl, trivial⟩ ?_
      | refine Chk.mk ⟨rfl, rfl, rfl, rfl, rfl, trivial⟩ ?_
      | refine Chk.mk ⟨rfl, rfl, rfl, rfl, rfl, rfl, trivial⟩ ?_
      | refine Chk.mk ⟨rfl, rfl, rfl, rfl, rfl, rfl, rfl, trivial⟩ ?_
      | refine Chk.mk ⟨rfl, rfl, rfl, rfl, rfl, rfl, rfl, rfl, trivial⟩ ?_
      | refine Chk.mk ⟨rfl, rfl, rfl, rfl, rfl, rfl, rfl, rfl, rfl, trivial⟩ ?_
      | refine Chk.mk ⟨rfl, rfl, rfl, rfl, rfl, rfl, rfl, rfl, rfl, rfl, trivial⟩ ?_
      | refine Chk.mk ⟨rfl, rfl, rfl, rfl, rfl, rfl, rfl, rfl, rfl, rfl, rfl, trivial⟩ ?_
      | refine Chk.mk ⟨rfl, rfl, rfl, rfl, rfl, rfl, rfl, rfl, rfl, rfl, rfl, rfl, trivial⟩ ?_)
    exact Done.mk ⟨_, Drop.pick [0] _ rfl, chD, hD1, .inl ⟨he, rfl, rfl, rfl⟩⟩
  rw [if_neg he]
  obtain rfl : e = 0 := by omega
  obtain ⟨hdn, hR, hsl, hb, htl, hep⟩ := hfo rfl
  obtain ⟨n, hn⟩ : ∃ n, n = d.now.length := ⟨_, rfl⟩
  rw [← hn] at hr h64 hb htl ⊢
  have hR' := hR
  obtain ⟨r1, r2, r3, r4, r5, r6, r7, r8⟩ := hR'
  have hlr := layL_range (n := (n : Int)) (by omega)
  repeat (first
    | refine LoadD.own 0 rfl _ rfl rfl ?_
    | refine LoadD.own 1 rfl _ rfl rfl ?_
    | refine LoadD.own 2 rfl _ rfl rfl ?_
    | refine LoadP.at 0 rfl _ rfl rfl ?_
    | refine LoadP.at 1 rfl _ rfl rfl ?_
    | refine LoadP.at 2 rfl _ rfl rfl ?_
    | refine StoreD.st 0 rfl rfl rfl ?_
    | refine StoreD.st 1 rfl rfl rfl ?_
    | refine StoreD.st 2 rfl rfl rfl ?_
    | refine CmpD.yes rfl ?_
    | refine CmpD.yes (by decide) ?_
    | refine CmpD.no (by decide) ?_
    | refine Chk.mk ⟨rfl, trivial⟩ ?_
    | refine Chk.mk ⟨rfl, rfl, trivial⟩ ?_
    | refine Chk.mk ⟨rfl, rfl, rfl, trivial⟩ ?_
    | refine Chk.mk ⟨rfl, rfl, rfl, rfl, trivial⟩ ?_
    | refine Chk.mk ⟨rfl, rfl, rfl, rfl, rfl, trivial⟩ ?_
    | refine Chk.mk ⟨rfl, rfl, rfl, rfl, rfl, rfl, trivial⟩ ?_
    | refine Chk.mk ⟨rfl, rfl, rfl, rfl, rfl, rfl, rfl, trivial⟩ ?_
    | refine Chk.mk ⟨rfl, rfl, rfl, rfl, rfl, rfl, rfl, rfl, trivial⟩ ?_
    | refine Chk.mk ⟨rfl, rfl, rfl, rfl, rfl, rfl, rfl, rfl, rfl, trivial⟩ ?_
    | refine Chk.mk ⟨rfl, rfl, rfl, rfl, rfl, rfl, rfl, rfl, rfl, rfl, trivial⟩ ?_
    | refine Chk.mk ⟨rfl, rfl, rfl, rfl, rfl, rfl, rfl, rfl, rfl, rfl, rfl, trivial⟩ ?_
    | refine Chk.mk ⟨rfl, rfl, rfl, rfl, rfl, rfl, rfl, rfl, rfl, rfl, rfl, rfl, trivial⟩ ?_)
  refine Tri.frame1 0 rfl (scan_Groups hD1 (layOf n) s) ?_
  have hsok : ScanOk d.now.length (layOf n) s := by
    rw [← hn]
    exact ⟨by omega, rfl, hb, r7, htl, r3, r4, r5, r6⟩
  have hbd := scan_bound (rb := rbP d 2 (layL (d.now.length : Int)).toNat) (ep := s.epoch) ((layL (d.now.length : Int)).toNat + 1) s.tail.toNat s.seq (layL (d.now.length : Int)).toNat
  have hrt := scanK_right (rb := rbP d 2 (layL (d.now.length : Int)).toNat) (ep := s.epoch) ((layL (d.now.length : Int)).toNat + 1) s.tail.toNat s.seq (layL (d.now.length : Int)).toNat
  rw [show scanK (rbP d 2 (layL (d.now.length : Int)).toNat) s.epoch ((layL (d.now.length : Int)).toNat + 1) s.tail.toNat s.seq (layL (d.now.length : Int)).toNat = scanL d s from rfl] at hbd hrt
  rw [← hn] at hbd
  obtain ⟨L, hL⟩ : ∃ L, L = scanL d s := ⟨_, rfl⟩
  rw [← hL] at hbd hrt ⊢
  rintro r J2 A' hJ2 ⟨rfl, (⟨h, _⟩ | ⟨_, h, _⟩ | ⟨_, _, aO, capO, gl, rfl, hG, hGk⟩)⟩
  · exact absurd hsok h
  · rw [hdn] at h; exact Bool.noConfusion h
  refine ⟨_, rfl, ?_⟩
  have hpl : allP gl = allG L := allP_allG hGk
  have hgl := hGk.len
  rw [← hn]
  obtain ⟨pl, hplc⟩ : ∃ pl, pl = placeP (layL (n : Int)).toNat s.tail.toNat L := ⟨_, rfl⟩
  rw [← hplc]
  have hpl16 : pl < (layL (n : Int)).toNat := by rw [hplc]; exact Nat.mod_lt _ (by omega)
  have hsum : ∀ (l : List G3), (allG l).length ≤ (l.map fun g => g.2.2.length + 1).sum := by
    intro l
    induction l with
    | nil => simp [allG]
    | cons g l ih => simp [allG] at ih ⊢; omega
  have hall : (allI gl).length ≤ 1000 := by
    have h1 : (allP gl).length = (allI gl).length := by rw [allP_eq, List.length_map]
    have h2 := hsum L
    rw [← hpl] at h2
    omega
  have h4 : ∀ g ∈ allG L, g.2.length = 4096 := by
    intro g hg
    obtain ⟨q, hq, hgq⟩ := List.mem_flatMap.1 hg
    exact ((hrt q hq).2.2.2.2.2.2.1 g hgq).2.2
  have hIo : ∀ g ∈ allI gl, ImgOk J2 g := by
    intro g hg
    obtain ⟨q, hq, hgq⟩ := List.mem_flatMap.1 hg
    exact (hGk.each q hq).2 g hgq
  have hfew : ∀ g ∈ allI gl, g.len ≤ 100000000 := by
    intro g hg
    have h1 := (hIo g hg).2.len
    rw [bts_length] at h1
    have h2 := h4 g.pr (by rw [← hpl, allP_eq]; exact List.mem_map_of_mem hg)
    have h3 : g.data.length = 4096 := h2
    omega
  have hGR : GrpsR J2 [] aO gl := ⟨hG.slC, fun g hg => ⟨⟨(hGk.each g hg).1.slC, fun q hq => ⟨((hGk.each g hg).2 q hq).2.slC⟩⟩, by
    have : g.gs.length ≤ (allI gl).length := by
      obtain ⟨x, y, rfl⟩ := List.append_of_mem hg
      simp [allI]; omega
    omega⟩⟩
  have hgll : gl.length ≤ 64 := by omega
  repeat (first
    | refine LoadD.own 0 rfl _ rfl rfl ?_
    | refine LoadD.own 1 rfl _ rfl rfl ?_
    | refine LoadD.own 2 rfl _ rfl rfl ?_
    | refine LoadP.at 0 rfl _ rfl rfl ?_
    | refine LoadP.at 1 rfl _ rfl rfl ?_
    | refine LoadP.at 2 rfl _ rfl rfl ?_
    | refine StoreD.st 0 rfl rfl rfl ?_
    | refine StoreD.st 1 rfl rfl rfl ?_
    | refine StoreD.st 2 rfl rfl rfl ?_
    | refine CmpD.yes rfl ?_
    | refine CmpD.yes (by decide) ?_
    | refine CmpD.no (by decide) ?_
    | refine Chk.mk ⟨rfl, trivial⟩ ?_
    | refine Chk.mk ⟨rfl, rfl, trivial⟩ ?_
    | refine Chk.mk ⟨rfl, rfl, rfl, trivial⟩ ?_
    | refine Chk.mk ⟨rfl, rfl, rfl, rfl, trivial⟩ ?_
    | refine Chk.mk ⟨rfl, rfl, rfl, rfl, rfl, trivial⟩ ?_
    | refine Chk.mk ⟨rfl, rfl, rfl, rfl, rfl, rfl, trivial⟩ ?_
    | refine Chk.mk ⟨rfl, rfl, rfl, rfl, rfl, rfl, rfl, trivial⟩ ?_
    | refine Chk.mk ⟨rfl, rfl, rfl, rfl, rfl, rfl, rfl, rfl, trivial⟩ ?_
    | refine Chk.mk ⟨rfl, rfl, rfl, rfl, rfl, rfl, rfl, rfl, rfl, trivial⟩ ?_
    | refine Chk.mk ⟨rfl, rfl, rfl, rfl, rfl, rfl, rfl, rfl, rfl, rfl, trivial⟩ ?_
    | refine Chk.mk ⟨rfl, rfl, rfl, rfl, rfl, rfl, rfl, rfl, rfl, rfl, rfl, trivial⟩ ?_
    | refine Chk.mk ⟨rfl, rfl, rfl, rfl, rfl, rfl, rfl, rfl, rfl, rfl, rfl, rfl, trivial⟩ ?_)
  refine Tri.free (home_fix hGR (by omega) (by omega) hfew (layOf n)) ?_
  rw [hpl]
  have hLayOk : LayOk (layOf n) := ⟨by show (64 : Int) ≤ n; omega, by show (n : Int) ≤ 512; omega, rfl⟩
  unfold mountL
  rw [← hplc]
  rintro r J3 _ hJ3 (⟨h, _⟩ | ⟨_, hno, rfl⟩ | ⟨_, hhok, aI, capI, outs, rfl, hoR, hopr⟩)
  · exact absurd hLayOk h
  · rw [if_pos (.inl hno)]
    repeat (first
      | refine LoadD.own 0 rfl _ rfl rfl ?_
      | refine LoadD.own 1 rfl _ rfl rfl ?_
      | refine LoadD.own 2 rfl _ rfl rfl ?_
      | refine LoadP.at 0 rfl _ rfl rfl ?_
      | refine LoadP.at 1 rfl _ rfl rfl ?_
      | refine LoadP.at 2 rfl _ rfl rfl ?_
      | refine StoreD.st 0 rfl rfl rfl ?_
      | refine StoreD.st 1 rfl rfl rfl ?_
      | refine StoreD.st 2 rfl rfl rfl ?_
      | refine CmpD.yes rfl ?_
      | refine CmpD.yes (by decide) ?_
      | refine CmpD.no (by decide) ?_
      | refine Chk.mk ⟨rfl, trivial⟩ ?_
      | refine Chk.mk ⟨rfl, rfl, trivial⟩ ?_
      | refine Chk.mk ⟨rfl, rfl, rfl, trivial⟩ ?_
      | refine Chk.mk ⟨rfl, rfl, rfl, rfl, trivial⟩ ?_
      | refine Chk.mk ⟨rfl, rfl, rfl, rfl, rfl, trivial⟩ ?_
      | refine Chk.mk ⟨rfl, rfl, rfl, rfl, rfl, rfl, trivial⟩ ?_
      | refine Chk.mk ⟨rfl, rfl, rfl, rfl, rfl, rfl, rfl, trivial⟩ ?_
      | refine Chk.mk ⟨rfl, rfl, rfl, rfl, rfl, rfl, rfl, rfl, trivial⟩ ?_
      | refine Chk.mk ⟨rfl, rfl, rfl, rfl, rfl, rfl, rfl, rfl, rfl, trivial⟩ ?_
      | refine Chk.mk ⟨rfl, rfl, rfl, rfl, rfl, rfl, rfl, rfl, rfl, rfl, trivial⟩ ?_
      | refine Chk.mk ⟨rfl, rfl, rfl, rfl, rfl, rfl, rfl, rfl, rfl, rfl, rfl, trivial⟩ ?_
      | refine Chk.mk ⟨rfl, rfl, rfl, rfl, rfl, rfl, rfl, rfl, rfl, rfl, rfl, rfl, trivial⟩ ?_)
    exact Done.mk ⟨_, Drop.pick [0] _ rfl, chD, hD1.mono (Imm.le_trans hJ2 hJ3), .inl ⟨by simp, rfl, rfl, rfl⟩⟩
  have hle3 := Imm.le_trans hJ2 hJ3
  have hLl : L.length ≤ 64 := by omega
  rw [hgl]
  repeat (first
    | refine LoadD.own 0 rfl _ rfl rfl ?_
    | refine LoadD.own 1 rfl _ rfl rfl ?_
    | refine LoadD.own 2 rfl _ rfl rfl ?_
    | refine LoadP.at 0 rfl _ rfl rfl ?_
    | refine LoadP.at 1 rfl _ rfl rfl ?_
    | refine LoadP.at 2 rfl _ rfl rfl ?_
    | refine StoreD.st 0 rfl rfl rfl ?_
    | refine StoreD.st 1 rfl rfl rfl ?_
    | refine StoreD.st 2 rfl rfl rfl ?_
    | refine CmpD.yes rfl ?_
    | refine CmpD.yes (by decide) ?_
    | refine CmpD.no (by decide) ?_
    | refine Chk.mk ⟨rfl, trivial⟩ ?_
    | refine Chk.mk ⟨rfl, rfl, trivial⟩ ?_
    | refine Chk.mk ⟨rfl, rfl, rfl, trivial⟩ ?_
    | refine Chk.mk ⟨rfl, rfl, rfl, rfl, trivial⟩ ?_
    | refine Chk.mk ⟨rfl, rfl, rfl, rfl, rfl, trivial⟩ ?_
    | refine Chk.mk ⟨rfl, rfl, rfl, rfl, rfl, rfl, trivial⟩ ?_
    | refine Chk.mk ⟨rfl, rfl, rfl, rfl, rfl, rfl, rfl, trivial⟩ ?_
    | refine Chk.mk ⟨rfl, rfl, rfl, rfl, rfl, rfl, rfl, rfl, trivial⟩ ?_
    | refine Chk.mk ⟨rfl, rfl, rfl, rfl, rfl, rfl, rfl, rfl, rfl, trivial⟩ ?_
    | refine Chk.mk ⟨rfl, rfl, rfl, rfl, rfl, rfl, rfl, rfl, rfl, rfl, trivial⟩ ?_
    | refine Chk.mk ⟨rfl, rfl, rfl, rfl, rfl, rfl, rfl, rfl, rfl, rfl, rfl, trivial⟩ ?_
    | refine Chk.mk ⟨rfl, rfl, rfl, rfl, rfl, rfl, rfl, rfl, rfl, rfl, rfl, rfl, trivial⟩ ?_)
  refine ToD.to (549755813888 - (L.length : Int)) (wrap_i64 (by omega) (by omega)) ?_
  refine CmpD.split (fun (c1 : 549755813888 - (L.length : Int) < s.seq) => ?_) (fun (c1 : ¬ 549755813888 - (L.length : Int) < s.seq) => ?_)
  · rw [if_pos (.inr c1)]
    repeat (first
      | refine LoadD.own 0 rfl _ rfl rfl ?_
      | refine LoadD.own 1 rfl _ rfl rfl ?_
      | refine LoadD.own 2 rfl _ rfl rfl ?_
      | refine LoadP.at 0 rfl _ rfl rfl ?_
      | refine LoadP.at 1 rfl _ rfl rfl ?_
      | refine LoadP.at 2 rfl _ rfl rfl ?_
      | refine StoreD.st 0 rfl rfl rfl ?_
      | refine StoreD.st 1 rfl rfl rfl ?_
      | refine StoreD.st 2 rfl rfl rfl ?_
      | refine CmpD.yes rfl ?_
      | refine CmpD.yes (by decide) ?_
      | refine CmpD.no (by decide) ?_
      | refine Chk.mk ⟨rfl, trivial⟩ ?_
      | refine Chk.mk ⟨rfl, rfl, trivial⟩ ?_
      | refine Chk.mk ⟨rfl, rfl, rfl, trivial⟩ ?_
      | refine Chk.mk ⟨rfl, rfl, rfl, rfl, trivial⟩ ?_
      | refine Chk.mk ⟨rfl, rfl, rfl, rfl, rfl, trivial⟩ ?_
      | refine Chk.mk ⟨rfl, rfl, rfl, rfl, rfl, rfl, trivial⟩ ?_
      | refine Chk.mk ⟨rfl, rfl, rfl, rfl, rfl, rfl, rfl, trivial⟩ ?_
      | refine Chk.mk ⟨rfl, rfl, rfl, rfl, rfl, rfl, rfl, rfl, trivial⟩ ?_
      | refine Chk.mk ⟨rfl, rfl, rfl, rfl, rfl, rfl, rfl, rfl, rfl, trivial⟩ ?_
      | refine Chk.mk ⟨rfl, rfl, rfl, rfl, rfl, rfl, rfl, rfl, rfl, rfl, trivial⟩ ?_
      | refine Chk.mk ⟨rfl, rfl, rfl, rfl, rfl, rfl, rfl, rfl, rfl, rfl, rfl, trivial⟩ ?_
      | refine Chk.mk ⟨rfl, rfl, rfl, rfl, rfl, rfl, rfl, rfl, rfl, rfl, rfl, rfl, trivial⟩ ?_)
    exact Done.mk ⟨_, Drop.pick [0] _ rfl, chD, hD1.mono hle3, .inl ⟨by simp, rfl, rfl, rfl⟩⟩
  rw [if_neg (by rintro (h | h); exact h hhok; exact c1 h)]
  repeat (first
    | refine LoadD.own 0 rfl _ rfl rfl ?_
    | refine LoadD.own 1 rfl _ rfl rfl ?_
    | refine LoadD.own 2 rfl _ rfl rfl ?_
    | refine LoadP.at 0 rfl _ rfl rfl ?_
    | refine LoadP.at 1 rfl _ rfl rfl ?_
    | refine LoadP.at 2 rfl _ rfl rfl ?_
    | refine StoreD.st 0 rfl rfl rfl ?_
    | refine StoreD.st 1 rfl rfl rfl ?_
    | refine StoreD.st 2 rfl rfl rfl ?_
    | refine CmpD.yes rfl ?_
    | refine CmpD.yes (by decide) ?_
    | refine CmpD.no (by decide) ?_
    | refine Chk.mk ⟨rfl, trivial⟩ ?_
    | refine Chk.mk ⟨rfl, rfl, trivial⟩ ?_
    | refine Chk.mk ⟨rfl, rfl, rfl, trivial⟩ ?_
    | refine Chk.mk ⟨rfl, rfl, rfl, rfl, trivial⟩ ?_
    | refine Chk.mk ⟨rfl, rfl, rfl, rfl, rfl, trivial⟩ ?_
    | refine Chk.mk ⟨rfl, rfl, rfl, rfl, rfl, rfl, trivial⟩ ?_
    | refine Chk.mk ⟨rfl, rfl, rfl, rfl, rfl, rfl, rfl, trivial⟩ ?_
    | refine Chk.mk ⟨rfl, rfl, rfl, rfl, rfl, rfl, rfl, rfl, trivial⟩ ?_
    | refine Chk.mk ⟨rfl, rfl, rfl, rfl, rfl, rfl, rfl, rfl, rfl, trivial⟩ ?_
    | refine Chk.mk ⟨rfl, rfl, rfl, rfl, rfl, rfl, rfl, rfl, rfl, rfl, trivial⟩ ?_
    | refine Chk.mk ⟨rfl, rfl, rfl, rfl, rfl, rfl, rfl, rfl, rfl, rfl, rfl, trivial⟩ ?_
    | refine Chk.mk ⟨rfl, rfl, rfl, rfl, rfl, rfl, rfl, rfl, rfl, rfl, rfl, rfl, trivial⟩ ?_)
  refine ToD.to (s.epoch + 1) (wrap_i64 (by omega) (by omega)) ?_
  repeat (first
    | refine LoadD.own 0 rfl _ rfl rfl ?_
    | refine LoadD.own 1 rfl _ rfl rfl ?_
    | refine LoadD.own 2 rfl _ rfl rfl ?_
    | refine LoadP.at 0 rfl _ rfl rfl ?_
    | refine LoadP.at 1 rfl _ rfl rfl ?_
    | refine LoadP.at 2 rfl _ rfl rfl ?_
    | refine StoreD.st 0 rfl rfl rfl ?_
    | refine StoreD.st 1 rfl rfl rfl ?_
    | refine StoreD.st 2 rfl rfl rfl ?_
    | refine CmpD.yes rfl ?_
    | refine CmpD.yes (by decide) ?_
    | refine CmpD.no (by decide) ?_
    | refine Chk.mk ⟨rfl, trivial⟩ ?_
    | refine Chk.mk ⟨rfl, rfl, trivial⟩ ?_
    | refine Chk.mk ⟨rfl, rfl, rfl, trivial⟩ ?_
    | refine Chk.mk ⟨rfl, rfl, rfl, rfl, trivial⟩ ?_
    | refine Chk.mk ⟨rfl, rfl, rfl, rfl, rfl, trivial⟩ ?_
    | refine Chk.mk ⟨rfl, rfl, rfl, rfl, rfl, rfl, trivial⟩ ?_
    | refine Chk.mk ⟨rfl, rfl, rfl, rfl, rfl, rfl, rfl, trivial⟩ ?_
    | refine Chk.mk ⟨rfl, rfl, rfl, rfl, rfl, rfl, rfl, rfl, trivial⟩ ?_
    | refine Chk.mk ⟨rfl, rfl, rfl, rfl, rfl, rfl, rfl, rfl, rfl, trivial⟩ ?_
    | refine Chk.mk ⟨rfl, rfl, rfl, rfl, rfl, rfl, rfl, rfl, rfl, rfl, trivial⟩ ?_
    | refine Chk.mk ⟨rfl, rfl, rfl, rfl, rfl, rfl, rfl, rfl, rfl, rfl, rfl, trivial⟩ ?_
    | refine Chk.mk ⟨rfl, rfl, rfl, rfl, rfl, rfl, rfl, rfl, rfl, rfl, rfl, rfl, trivial⟩ ?_)
  refine ToD.to (s.seq + L.length) (wrap_i64 (by omega) (by omega)) ?_
  repeat (first
    | refine LoadD.own 0 rfl _ rfl rfl ?_
    | refine LoadD.own 1 rfl _ rfl rfl ?_
    | refine LoadD.own 2 rfl _ rfl rfl ?_
    | refine LoadP.at 0 rfl _ rfl rfl ?_
    | refine LoadP.at 1 rfl _ rfl rfl ?_
    | refine LoadP.at 2 rfl _ rfl rfl ?_
    | refine StoreD.st 0 rfl rfl rfl ?_
    | refine StoreD.st 1 rfl rfl rfl ?_
    | refine StoreD.st 2 rfl rfl rfl ?_
    | refine CmpD.yes rfl ?_
    | refine CmpD.yes (by decide) ?_
    | refine CmpD.no (by decide) ?_
    | refine Chk.mk ⟨rfl, trivial⟩ ?_
    | refine Chk.mk ⟨rfl, rfl, trivial⟩ ?_
    | refine Chk.mk ⟨rfl, rfl, rfl, trivial⟩ ?_
    | refine Chk.mk ⟨rfl, rfl, rfl, rfl, trivial⟩ ?_
    | refine Chk.mk ⟨rfl, rfl, rfl, rfl, rfl, trivial⟩ ?_
    | refine Chk.mk ⟨rfl, rfl, rfl, rfl, rfl, rfl, trivial⟩ ?_
    | refine Chk.mk ⟨rfl, rfl, rfl, rfl, rfl, rfl, rfl, trivial⟩ ?_
    | refine Chk.mk ⟨rfl, rfl, rfl, rfl, rfl, rfl, rfl, rfl, trivial⟩ ?_
    | refine Chk.mk ⟨rfl, rfl, rfl, rfl, rfl, rfl, rfl, rfl, rfl, trivial⟩ ?_
    | refine Chk.mk ⟨rfl, rfl, rfl, rfl, rfl, rfl, rfl, rfl, rfl, rfl, trivial⟩ ?_
    | refine Chk.mk ⟨rfl, rfl, rfl, rfl, rfl, rfl, rfl, rfl, rfl, rfl, rfl, trivial⟩ ?_
    | refine Chk.mk ⟨rfl, rfl, rfl, rfl, rfl, rfl, rfl, rfl, rfl, rfl, rfl, rfl, trivial⟩ ?_)
  refine ToD.to (1 - slot) (wrap_i64 (by omega) (by omega)) ?_
  have hol : outs.length ≤ 1000 := by
    have h1 := homeP_len (allG L)
    rw [← hopr, List.length_map] at h1
    have h2 := hsum L
    omega
  have himg : ImgsOk J3 aI outs := by
    refine ⟨SlC.rds hoR.sl, fun g hg => ?_⟩
    have hm := home_mem (l := allG L) (g := g.pr) (by rw [← hopr]; exact List.mem_map_of_mem hg)
    have hb2 := hhok _ hm
    refine ⟨?_, SlC.rds (hoR.each g hg).rd⟩
    have e1 : (layOf (n : Int)).bi = 2 + layL n := rfl
    have e2 : (layOf (n : Int)).b = n := rfl
    rw [e1, e2] at hb2
    have e3 : g.pr.1 = g.blk := rfl
    rw [e3] at hb2
    unfold In64; omega
  refine Tri.frame1 0 rfl (dk_Do (hD1.mono hle3) 700000 hf aI capI outs himg (by omega) ⟨s.blocks, s.epoch + 1, s.seq + L.length, pl⟩ (1 - slot)) ?_
  rw [hopr]
  have hlen2 := doP_len d (homeP (allG L)) ⟨s.blocks, s.epoch + 1, s.seq + L.length, pl⟩ (1 - slot)
  rw [← hn] at hlen2
  generalize doP d (homeP (allG L)) ⟨s.blocks, s.epoch + 1, s.seq + L.length, pl⟩ (1 - slot) = dp at *
  obtain ⟨d2, e2⟩ := dp
  dsimp only at hlen2 ⊢
  rintro r J4 A' hJ4 ⟨rfl, chD2, hD2, rfl⟩
  refine ⟨_, rfl, ?_⟩
  by_cases he2 : e2 ≠ 0
  · rw [if_pos he2]
    refine CmpD.no he2 ?_
    repeat (first
      | refine LoadD.own 0 rfl _ rfl rfl ?_
      | refine LoadD.own 1 rfl _ rfl rfl ?_
      | refine LoadD.own 2 rfl _ rfl rfl ?_
      | refine LoadP.at 0 rfl _ rfl rfl ?_
      | refine LoadP.at 1 rfl _ rfl rfl ?_
      | refine LoadP.at 2 rfl _ rfl rfl ?_
      | refine StoreD.st 0 rfl rfl rfl ?_
      | refine StoreD.st 1 rfl rfl rfl ?_
      | refine StoreD.st 2 rfl rfl rfl ?_
      | refine CmpD.yes rfl ?_
      | refine CmpD.yes (by decide) ?_
      | refine CmpD.no (by decide) ?_
      | refine Chk.mk ⟨rfl, trivial⟩ ?_
      | refine Chk.mk ⟨rfl, rfl, trivial⟩ ?_
      | refine Chk.mk ⟨rfl, rfl, rfl, trivial⟩ ?_
      | refine Chk.mk ⟨rfl, rfl, rfl, rfl, trivial⟩ ?_
      | refine Chk.mk ⟨rfl, rfl, rfl, rfl, rfl, trivial⟩ ?_
      | refine Chk.mk ⟨rfl, rfl, rfl, rfl, rfl, rfl, trivial⟩ ?_
      | refine Chk.mk ⟨rfl, rfl, rfl, rfl, rfl, rfl, rfl, trivial⟩ ?_
      | refine Chk.mk ⟨rfl, rfl, rfl, rfl, rfl, rfl, rfl, rfl, trivial⟩ ?_
      | refine Chk.mk ⟨rfl, rfl, rfl, rfl, rfl, rfl, rfl, rfl, rfl, trivial⟩ ?_
      | refine Chk.mk ⟨rfl, rfl, rfl, rfl, rfl, rfl, rfl, rfl, rfl, rfl, trivial⟩ ?_
      | refine Chk.mk ⟨rfl, rfl, rfl, rfl, rfl, rfl, rfl, rfl, rfl, rfl, rfl, trivial⟩ ?_
      | refine Chk.mk ⟨rfl, rfl, rfl, rfl, rfl, rfl, rfl, rfl, rfl, rfl, rfl, rfl, trivial⟩ ?_)
    exact Done.mk ⟨_, Drop.pick [0] _ rfl, chD2, hD2, .inl ⟨he2, rfl, rfl, rfl⟩⟩
  rw [if_neg he2]
  obtain rfl : e2 = 0 := by omega
  repeat (first
    | refine LoadD.own 0 rfl _ rfl rfl ?_
    | refine LoadD.own 1 rfl _ rfl rfl ?_
    | refine LoadD.own 2 rfl _ rfl rfl ?_
    | refine LoadP.at 0 rfl _ rfl rfl ?_
    | refine LoadP.at 1 rfl _ rfl rfl ?_
    | refine LoadP.at 2 rfl _ rfl rfl ?_
    | refine StoreD.st 0 rfl rfl rfl ?_
    | refine StoreD.st 1 rfl rfl rfl ?_
    | refine StoreD.st 2 rfl rfl rfl ?_
    | refine CmpD.yes rfl ?_
    | refine CmpD.yes (by decide) ?_
    | refine CmpD.no (by decide) ?_
    | refine Chk.mk ⟨rfl, trivial⟩ ?_
    | refine Chk.mk ⟨rfl, rfl, trivial⟩ ?_
    | refine Chk.mk ⟨rfl, rfl, rfl, trivial⟩ ?_
    | refine Chk.mk ⟨rfl, rfl, rfl, rfl, trivial⟩ ?_
    | refine Chk.mk ⟨rfl, rfl, rfl, rfl, rfl, trivial⟩ ?_
    | refine Chk.mk ⟨rfl, rfl, rfl, rfl, rfl, rfl, trivial⟩ ?_
    | refine Chk.mk ⟨rfl, rfl, rfl, rfl, rfl, rfl, rfl, trivial⟩ ?_
    | refine Chk.mk ⟨rfl, rfl, rfl, rfl, rfl, rfl, rfl, rfl, trivial⟩ ?_
    | refine Chk.mk ⟨rfl, rfl, rfl, rfl, rfl, rfl, rfl, rfl, rfl, trivial⟩ ?_
    | refine Chk.mk ⟨rfl, rfl, rfl, rfl, rfl, rfl, rfl, rfl, rfl, rfl, trivial⟩ ?_
    | refine Chk.mk ⟨rfl, rfl, rfl, rfl, rfl, rfl, rfl, rfl, rfl, rfl, rfl, trivial⟩ ?_
    | refine Chk.mk ⟨rfl, rfl, rfl, rfl, rfl, rfl, rfl, rfl, rfl, rfl, rfl, rfl, trivial⟩ ?_)
  have hopk : OpenOk n (layOf n) (s.epoch + 1) (s.seq + L.length) pl := ⟨rfl, by omega, by omega, by omega, by omega, by omega, by omega⟩
  refine Tri.frameX (jk_Open hD2 n hlen2 (by omega) (layOf n) (s.epoch + 1) (s.seq + L.length) pl (by unfold In64; omega)) [0] rfl rfl ?_
  rintro r _ A' hJ5 (⟨h, _⟩ | ⟨_, rfl, bJ, chJ, rfl, hj, rfl⟩)
  · exact absurd hopk h
  repeat (first
    | refine LoadD.own 0 rfl _ rfl rfl ?_
    | refine LoadD.own 1 rfl _ rfl rfl ?_
    | refine LoadD.own 2 rfl _ rfl rfl ?_
    | refine LoadD.own 3 rfl _ rfl rfl ?_
    | refine LoadD.own 4 rfl _ rfl rfl ?_
    | refine LoadP.at 0 rfl _ rfl rfl ?_
    | refine LoadP.at 1 rfl _ rfl rfl ?_
    | refine LoadP.at 2 rfl _ rfl rfl ?_
    | refine LoadP.at 3 rfl _ rfl rfl ?_
    | refine LoadP.at 4 rfl _ rfl rfl ?_
    | refine StoreD.st 0 rfl rfl rfl ?_
    | refine StoreD.st 1 rfl rfl rfl ?_
    | refine StoreD.st 2 rfl rfl rfl ?_
    | refine StoreD.st 3 rfl rfl rfl ?_
    | refine StoreD.st 4 rfl rfl rfl ?_
    | refine CmpD.yes rfl ?_
    | refine CmpD.yes (by decide) ?_
    | refine CmpD.no (by decide) ?_
    | refine Chk.mk ⟨rfl, trivial⟩ ?_
    | refine Chk.mk ⟨rfl, rfl, trivial⟩ ?_
    | refine Chk.mk ⟨rfl, rfl, rfl, trivial⟩ ?_
    | refine Chk.mk ⟨rfl, rfl, rfl, rfl, trivial⟩ ?_
    | refine Chk.mk ⟨rfl, rfl, rfl, rfl, rfl, trivial⟩ ?_
    | refine Chk.mk ⟨rfl, rfl, rfl, rfl, rfl, rfl, trivial⟩ ?_
    | refine Chk.mk ⟨rfl, rfl, rfl, rfl, rfl, rfl, rfl, trivial⟩ ?_
    | refine Chk.mk ⟨rfl, rfl, rfl, rfl, rfl, rfl, rfl, rfl, trivial⟩ ?_
    | refine Chk.mk ⟨rfl, rfl, rfl, rfl, rfl, rfl, rfl, rfl, rfl, trivial⟩ ?_
    | refine Chk.mk ⟨rfl, rfl, rfl, rfl, rfl, rfl, rfl, rfl, rfl, rfl, trivial⟩ ?_
    | refine Chk.mk ⟨rfl, rfl, rfl, rfl, rfl, rfl, rfl, rfl, rfl, rfl, rfl, trivial⟩ ?_
    | refine Chk.mk ⟨rfl, rfl, rfl, rfl, rfl, rfl, rfl, rfl, rfl, rfl, rfl, rfl, trivial⟩ ?_)
  refine makeMapD rfl ?_
  intro bM
  conv => whnf
  intro bV
  refine Done.mk ⟨[chD2, vChunk bV bD bJ bM (layOf n) (s.epoch + 1) slot false ++ ((bM, .map #[] 0) :: chJ)], (Drop.pick [3, 6, 5, 4] _ rfl).trans (Drop.flat ?_), chD2, hD2, .inr ⟨rfl, ⟨openJ n (s.epoch + 1) (s.seq + L.length) pl, s.epoch + 1, slot, [], false⟩, bV, _, rfl, rfl, ⟨bJ, bM, _, chJ, [], rfl, hj, MapR.nil, by simp, rfl⟩, rfl⟩⟩
  simp [St.at]
  rfl
end Go.Proofs.YtegdcjnjnoeinaaGreat
namespace Go.Proofs.YtegdcjnjnoeinaaGreat
open Go.RowKit Go.Sl
set_option maxRecDepth 20000

/-- noughts to the blocks from k on, n of them -/
def blankP : Nat → Nat → DSt → DSt × Int
  | 0, _, d => (d, 0)
  | n + 1, k, d => if (d.write k noughts).2 ≠ 0 then d.write k noughts else blankP n (k + 1) (d.write k noughts).1
def fmtS (m : Nat) (s : Sup) (d : DSt) : DSt × Int :=
  if (blankP m 1 d).2 ≠ 0 then blankP m 1 d else
  if (blankP m 1 d).1.flush.2 ≠ 0 then (blankP m 1 d).1.flush else
  if ((blankP m 1 d).1.flush.1.write 0 (supL s)).2 ≠ 0 then (blankP m 1 d).1.flush.1.write 0 (supL s) else
  ((blankP m 1 d).1.flush.1.write 0 (supL s)).1.flush
def formatP (d : DSt) : DSt × Int :=
  if d.now.length < 64 then (d, 2) else fmtS ((layOf d.now.length).d.toNat - 1) ⟨d.now.length, 1, 1, 0⟩ d
theorem blankP_few : ∀ (n k : Nat) (d : DSt) (q : Nat), d.Few q → (blankP n k d).1.Few (q + n)
  | 0, _, _, _, h => h
  | n + 1, k, d, q, h => by
    have h1 := h.write (k : Int) noughts
    rw [blankP]
    split
    · exact h1.mono (by omega)
    · exact (blankP_few n (k + 1) _ _ h1).mono (by omega)
theorem noughts_bts : bts noughts = rows 4096 [Value.int .u8 0] := by
  show bts (List.replicate 4096 0) = _
  exact (zeros_bts 4096).symm
theorem fmt1 {I : Imm} {b1 b2 b3 bD : Nat} {x : Lay} {d : DSt} {chD : List Blk} (hD : Dk I bD d chD) (hf : d.Few 500000) (hx : 1 ≤ x.d ∧ x.d ≤ 1000) (aN : Option Addr) (capN : Nat) (hN : Rds I aN 4096 (bts noughts)) :
    Tri Tryz.prog 123 #[.pointer (some ⟨b1, 0, none⟩), .pointer (some ⟨b2, 0, none⟩), .pointer (some ⟨b3, 0, none⟩)] I [[(b1, row x.vals 45)], pBox b2 (.pointer (some ⟨bD, 0, none⟩)) 22, pBox b3 (.slice aN 4096 capN) 32, chD]
      fun r J S' => r = .int .i64 (blankP (x.d.toNat - 1) 1 d).2 ∧ ∃ chD', Dk J bD (blankP (x.d.toNat - 1) 1 d).1 chD' ∧ S' = [[(b1, row x.vals 45)], pBox b2 (.pointer (some ⟨bD, 0, none⟩)) 22, pBox b3 (.slice aN 4096 capN) 32, chD'] := by
  obtain ⟨l1, l2, l3, l4, l5, l6, l7⟩ := x
  dsimp only at hx ⊢
  obtain ⟨e, rfl⟩ : ∃ e : Nat, l7 = e := ⟨l7.toNat, by omega⟩
  rw [Int.toNat_natCast]
  refine Tri.of (args := [.pointer (some ⟨b1, 0, none⟩), .pointer (some ⟨b2, 0, none⟩), .pointer (some ⟨b3, 0, none⟩)]) tabOk Tryz.func123 rfl (by kernel_rfl) (by kernel_rfl) ?_
  refine CodeF.loopD [0, 1, 2, 4] (fun vs J' S' => ∃ (k : Nat) (d2 : DSt) (chD2 : List Blk), 1 ≤ k ∧ k ≤ e ∧ blankP (e - 1) 1 d = blankP (e - k) k d2 ∧ d2.Few (500000 + k) ∧ Dk J' bD d2 chD2 ∧ I.le J' ∧
      vs = [.pointer (some ⟨b1, 0, none⟩), .pointer (some ⟨b2, 0, none⟩), .pointer (some ⟨b3, 0, none⟩), .int .i64 k] ∧ S' = [[(b1, row [.int .i64 l1, .int .i64 l2, .int .i64 l3, .int .i64 l4, .int .i64 l5, .int .i64 l6, .int .i64 e] 45)], pBox b2 (.pointer (some ⟨bD, 0, none⟩)) 22, pBox b3 (.slice aN 4096 capN) 32, chD2])
    (fun vs _ _ => match vs with | [_, _, _, .int _ k] => ((e : Int) - k).toNat | _ => 0) ?_ ?_
  · exact ⟨_, Drop.refl _, 1, d, chD, by omega, by omega, rfl, hf.mono (by omega), hD, Imm.le_refl _, rfl, rfl⟩
  rintro vs gE J' S' hJ' ⟨k, d2, chD2, hk1, hk, hbl, hf2, hD2, hle, rfl, rfl⟩
  repeat (first
    | refine LoadD.own 0 rfl _ rfl rfl ?_
    | refine LoadD.own 1 rfl _ rfl rfl ?_
    | refine LoadD.own 2 rfl _ rfl rfl ?_
    | refine LoadD.own 3 rfl _ rfl rfl ?_
    | refine LoadP.at 0 rfl _ rfl rfl ?_
    | refine LoadP.at 1 rfl _ rfl rfl ?_
    | refine LoadP.at 2 rfl _ rfl rfl ?_
    | refine LoadP.at 3 rfl _ rfl rfl ?_
    | refine StoreD.st 0 rfl rfl rfl ?_
    | refine StoreD.st 1 rfl rfl rfl ?_
    | refine StoreD.st 2 rfl rfl rfl ?_
    | refine StoreD.st 3 rfl rfl rfl ?_
    | refine CmpD.yes rfl ?_
    | refine CmpD.yes (by decide) ?_
    | refine CmpD.no (by decide) ?_
    | refine Chk.mk ⟨rfl, trivial⟩ ?_
    | refine Chk.mk ⟨rfl, rfl, trivial⟩ ?_
    | refine Chk.mk ⟨rfl, rfl, rfl, trivial⟩ ?_
    | refine Chk.mk ⟨rfl, rfl, rfl, rfl, trivial⟩ ?_
    | refine Chk.mk ⟨rfl, rfl, rfl, rfl, rfl, trivial⟩ ?_
    | refine Chk.mk ⟨rfl, rfl, rfl, rfl, rfl, rfl, trivial⟩ ?_
    | refine Chk.mk ⟨rfl, rfl, rfl, rfl, rfl, rfl, rfl, trivial⟩ ?_
    | refine Chk.mk ⟨rfl, rfl, rfl, rfl, rfl, rfl, rfl, rfl, trivial⟩ ?_
    | refine Chk.mk ⟨rfl, rfl, rfl, rfl, rfl, rfl, rfl, rfl, rfl, trivial⟩ ?_
    | refine Chk.mk ⟨rfl, rfl, rfl, rfl, rfl, rfl, rfl, rfl, rfl, rfl, trivial⟩ ?_
    | refine Chk.mk ⟨rfl, rfl, rfl, rfl, rfl, rfl, rfl, rfl, rfl, rfl, rfl, trivial⟩ ?_
    | refine Chk.mk ⟨rfl, rfl, rfl, rfl, rfl, rfl, rfl, rfl, rfl, rfl, rfl, rfl, trivial⟩ ?_)
  refine CmpD.split (fun (c1 : (k : Int) < e) => ?_) (fun (c1 : ¬ (k : Int) < e) => ?_)
  · rw [show e - k = (e - (k + 1)) + 1 by omega, blankP] at hbl
    repeat (first
      | refine LoadD.own 0 rfl _ rfl rfl ?_
      | refine LoadD.own 1 rfl _ rfl rfl ?_
      | refine LoadD.own 2 rfl _ rfl rfl ?_
      | refine LoadD.own 3 rfl _ rfl rfl ?_
      | refine LoadP.at 0 rfl _ rfl rfl ?_
      | refine LoadP.at 1 rfl _ rfl rfl ?_
      | refine LoadP.at 2 rfl _ rfl rfl ?_
      | refine LoadP.at 3 rfl _ rfl rfl ?_
      | refine StoreD.st 0 rfl rfl rfl ?_
      | refine StoreD.st 1 rfl rfl rfl ?_
      | refine StoreD.st 2 rfl rfl rfl ?_
      | refine StoreD.st 3 rfl rfl rfl ?_
      | refine CmpD.yes rfl ?_
      | refine CmpD.yes (by decide) ?_
      | refine CmpD.no (by decide) ?_
      | refine Chk.mk ⟨rfl, trivial⟩ ?_
      | refine Chk.mk ⟨rfl, rfl, trivial⟩ ?_
      | refine Chk.mk ⟨rfl, rfl, rfl, trivial⟩ ?_
      | refine Chk.mk ⟨rfl, rfl, rfl, rfl, trivial⟩ ?_
      | refine Chk.mk ⟨rfl, rfl, rfl, rfl, rfl, trivial⟩ ?_
      | refine Chk.mk ⟨rfl, rfl, rfl, rfl, rfl, rfl, trivial⟩ ?_
      | refine Chk.mk ⟨rfl, rfl, rfl, rfl, rfl, rfl, rfl, trivial⟩ ?_
      | refine Chk.mk ⟨rfl, rfl, rfl, rfl, rfl, rfl, rfl, rfl, trivial⟩ ?_
      | refine Chk.mk ⟨rfl, rfl, rfl, rfl, rfl, rfl, rfl, rfl, rfl, trivial⟩ ?_
      | refine Chk.mk ⟨rfl, rfl, rfl, rfl, rfl, rfl, rfl, rfl, rfl, rfl, trivial⟩ ?_
      | refine Chk.mk ⟨rfl, rfl, rfl, rfl, rfl, rfl, rfl, rfl, rfl, rfl, rfl, trivial⟩ ?_
      | refine Chk.mk ⟨rfl, rfl, rfl, rfl, rfl, rfl, rfl, rfl, rfl, rfl, rfl, rfl, trivial⟩ ?_)
    refine Tri.frame1 3 rfl (dk_Write hD2 (hf2.mono (by omega)) k aN 4096 capN noughts (hN.mono hle)) ?_
    have hf3 := hf2.write (k : Int) noughts
    generalize d2.write (k : Int) noughts = dw at *
    obtain ⟨d3, e3⟩ := dw
    dsimp only at hbl hf3 ⊢
    rintro r J3 A' hJ3 ⟨rfl, chD3, hD3, rfl⟩
    refine ⟨_, rfl, ?_⟩
    by_cases he : e3 ≠ 0
    · rw [if_pos he] at hbl
      refine CmpD.no he ?_
      repeat (first
        | refine LoadD.own 0 rfl _ rfl rfl ?_
        | refine LoadD.own 1 rfl _ rfl rfl ?_
        | refine LoadD.own 2 rfl _ rfl rfl ?_
        | refine LoadD.own 3 rfl _ rfl rfl ?_
        | refine LoadP.at 0 rfl _ rfl rfl ?_
        | refine LoadP.at 1 rfl _ rfl rfl ?_
        | refine LoadP.at 2 rfl _ rfl rfl ?_
        | refine LoadP.at 3 rfl _ rfl rfl ?_
        | refine StoreD.st 0 rfl rfl rfl ?_
        | refine StoreD.st 1 rfl rfl rfl ?_
        | refine StoreD.st 2 rfl rfl rfl ?_
        | refine StoreD.st 3 rfl rfl rfl ?_
        | refine CmpD.yes rfl ?_
        | refine CmpD.yes (by decide) ?_
        | refine CmpD.no (by decide) ?_
        | refine Chk.mk ⟨rfl, trivial⟩ ?_
        | refine Chk.mk ⟨rfl, rfl, trivial⟩ ?_
        | refine Chk.mk ⟨rfl, rfl, rfl, trivial⟩ ?_
        | refine Chk.mk ⟨rfl, rfl, rfl, rfl, trivial⟩ ?_
        | refine Chk.mk ⟨rfl, rfl, rfl, rfl, rfl, trivial⟩ ?_
        | refine Chk.mk ⟨rfl, rfl, rfl, rfl, rfl, rfl, trivial⟩ ?_
        | refine Chk.mk ⟨rfl, rfl, rfl, rfl, rfl, rfl, rfl, trivial⟩ ?_
        | refine Chk.mk ⟨rfl, rfl, rfl, rfl, rfl, rfl, rfl, rfl, trivial⟩ ?_
        | refine Chk.mk ⟨rfl, rfl, rfl, rfl, rfl, rfl, rfl, rfl, rfl, trivial⟩ ?_
        | refine Chk.mk ⟨rfl, rfl, rfl, rfl, rfl, rfl, rfl, rfl, rfl, rfl, trivial⟩ ?_
        | refine Chk.mk ⟨rfl, rfl, rfl, rfl, rfl, rfl, rfl, rfl, rfl, rfl, rfl, trivial⟩ ?_
        | refine Chk.mk ⟨rfl, rfl, rfl, rfl, rfl, rfl, rfl, rfl, rfl, rfl, rfl, rfl, trivial⟩ ?_)
      rw [hbl]
      exact Done.mk ⟨rfl, chD3, hD3, rfl⟩
    · rw [if_neg he] at hbl
      obtain rfl : e3 = 0 := by omega
      repeat (first
        | refine LoadD.own 0 rfl _ rfl rfl ?_
        | refine LoadD.own 1 rfl _ rfl rfl ?_
        | refine LoadD.own 2 rfl _ rfl rfl ?_
        | refine LoadD.own 3 rfl _ rfl rfl ?_
        | refine LoadP.at 0 rfl _ rfl rfl ?_
        | refine LoadP.at 1 rfl _ rfl rfl ?_
        | refine LoadP.at 2 rfl _ rfl rfl ?_
        | refine LoadP.at 3 rfl _ rfl rfl ?_
        | refine StoreD.st 0 rfl rfl rfl ?_
        | refine StoreD.st 1 rfl rfl rfl ?_
        | refine StoreD.st 2 rfl rfl rfl ?_
        | refine StoreD.st 3 rfl rfl rfl ?_
        | refine CmpD.yes rfl ?_
        | refine CmpD.yes (by decide) ?_
        | refine CmpD.no (by decide) ?_
        | refine Chk.mk ⟨rfl, trivial⟩ ?_
        | refine Chk.mk ⟨rfl, rfl, trivial⟩ ?_
        | refine Chk.mk ⟨rfl, rfl, rfl, trivial⟩ ?_
        | refine Chk.mk ⟨rfl, rfl, rfl, rfl, trivial⟩ ?_
        | refine Chk.mk ⟨rfl, rfl, rfl, rfl, rfl, trivial⟩ ?_
        | refine Chk.mk ⟨rfl, rfl, rfl, rfl, rfl, rfl, trivial⟩ ?_
        | refine Chk.mk ⟨rfl, rfl, rfl, rfl, rfl, rfl, rfl, trivial⟩ ?_
        | refine Chk.mk ⟨rfl, rfl, rfl, rfl, rfl, rfl, rfl, rfl, trivial⟩ ?_
        | refine Chk.mk ⟨rfl, rfl, rfl, rfl, rfl, rfl, rfl, rfl, rfl, trivial⟩ ?_
        | refine Chk.mk ⟨rfl, rfl, rfl, rfl, rfl, rfl, rfl, rfl, rfl, rfl, trivial⟩ ?_
        | refine Chk.mk ⟨rfl, rfl, rfl, rfl, rfl, rfl, rfl, rfl, rfl, rfl, rfl, trivial⟩ ?_
        | refine Chk.mk ⟨rfl, rfl, rfl, rfl, rfl, rfl, rfl, rfl, rfl, rfl, rfl, rfl, trivial⟩ ?_)
      refine ToD.to (((k + 1 : Nat)) : Int) (by rw [wrap_i64 (by omega) (by omega)]; omega) ?_
      refine ⟨_, Drop.refl _, ⟨k + 1, d3, chD3, by omega, by omega, hbl, hf3.mono (by omega), hD3, Imm.le_trans hle hJ3, rfl, rfl⟩, ?_⟩
      show ((e : Int) - ((k + 1 : Nat) : Int)).toNat < ((e : Int) - (k : Int)).toNat; omega
  · obtain rfl : k = e := by omega
    repeat (first
      | refine LoadD.own 0 rfl _ rfl rfl ?_
      | refine LoadD.own 1 rfl _ rfl rfl ?_
      | refine LoadD.own 2 rfl _ rfl rfl ?_
      | refine LoadD.own 3 rfl _ rfl rfl ?_
      | refine LoadP.at 0 rfl _ rfl rfl ?_
      | refine LoadP.at 1 rfl _ rfl rfl ?_
      | refine LoadP.at 2 rfl _ rfl rfl ?_
      | refine LoadP.at 3 rfl _ rfl rfl ?_
      | refine StoreD.st 0 rfl rfl rfl ?_
      | refine StoreD.st 1 rfl rfl rfl ?_
      | refine StoreD.st 2 rfl rfl rfl ?_
      | refine StoreD.st 3 rfl rfl rfl ?_
      | refine CmpD.yes rfl ?_
      | refine CmpD.yes (by decide) ?_
      | refine CmpD.no (by decide) ?_
      | refine Chk.mk ⟨rfl, trivial⟩ ?_
      | refine Chk.mk ⟨rfl, rfl, trivial⟩ ?_
      | refine Chk.mk ⟨rfl, rfl, rfl, trivial⟩ ?_
      | refine Chk.mk ⟨rfl, rfl, rfl, rfl, trivial⟩ ?_
      | refine Chk.mk ⟨rfl, rfl, rfl, rfl, rfl, trivial⟩ ?_
      | refine Chk.mk ⟨rfl, rfl, rfl, rfl, rfl, rfl, trivial⟩ ?_
      | refine Chk.mk ⟨rfl, rfl, rfl, rfl, rfl, rfl, rfl, trivial⟩ ?_
      | refine Chk.mk ⟨rfl, rfl, rfl, rfl, rfl, rfl, rfl, rfl, trivial⟩ ?_
      | refine Chk.mk ⟨rfl, rfl, rfl, rfl, rfl, rfl, rfl, rfl, rfl, trivial⟩ ?_
      | refine Chk.mk ⟨rfl, rfl, rfl, rfl, rfl, rfl, rfl, rfl, rfl, rfl, trivial⟩ ?_
      | refine Chk.mk ⟨rfl, rfl, rfl, rfl, rfl, rfl, rfl, rfl, rfl, rfl, rfl, trivial⟩ ?_
      | refine Chk.mk ⟨rfl, rfl, rfl, rfl, rfl, rfl, rfl, rfl, rfl, rfl, rfl, rfl, trivial⟩ ?_)
    rw [hbl, Nat.sub_self]
    exact Done.mk ⟨rfl, chD2, hD2, rfl⟩
theorem fmt2 {I : Imm} {b1 b2 bD : Nat} {d : DSt} {chD : List Blk} (hD : Dk I bD d chD) (hf : d.Few 900000) (aN : Option Addr) (capN : Nat) (b : Dat) (hN : Rds I aN 4096 (bts b)) :
    Tri Tryz.prog 126 #[.pointer (some ⟨b1, 0, none⟩), .pointer (some ⟨b2, 0, none⟩)] I [pBox b1 (.pointer (some ⟨bD, 0, none⟩)) 22, pBox b2 (.slice aN 4096 capN) 32, chD]
      fun r J S' => r = .int .i64 (d.write 0 b).2 ∧ ∃ chD', Dk J bD (d.write 0 b).1 chD' ∧ S' = [pBox b1 (.pointer (some ⟨bD, 0, none⟩)) 22, pBox b2 (.slice aN 4096 capN) 32, chD'] := by
  refine Tri.of (args := [.pointer (some ⟨b1, 0, none⟩), .pointer (some ⟨b2, 0, none⟩)]) tabOk Tryz.func126 rfl (by kernel_rfl) (by kernel_rfl) ?_
  repeat (first
    | refine LoadD.own 0 rfl _ rfl rfl ?_
    | refine LoadD.own 1 rfl _ rfl rfl ?_
    | refine LoadD.own 2 rfl _ rfl rfl ?_
    | refine LoadP.at 0 rfl _ rfl rfl ?_
    | refine LoadP.at 1 rfl _ rfl rfl ?_
    | refine LoadP.at 2 rfl _ rfl rfl ?_
    | refine StoreD.st 0 rfl rfl rfl ?_
    | refine StoreD.st 1 rfl rfl rfl ?_
    | refine StoreD.st 2 rfl rfl rfl ?_
    | refine CmpD.yes rfl ?_
    | refine CmpD.yes (by decide) ?_
    | refine CmpD.no (by decide) ?_
    | refine Chk.mk ⟨rfl, trivial⟩ ?_
    | refine Chk.mk ⟨rfl, rfl, trivial⟩ ?_
    | refine Chk.mk ⟨rfl, rfl, rfl, trivial⟩ ?_
    | refine Chk.mk ⟨rfl, rfl, rfl, rfl, trivial⟩ ?_
    | refine Chk.mk ⟨rfl, rfl, rfl, rfl, rfl, trivial⟩ ?_
    | refine Chk.mk ⟨rfl, rfl, rfl, rfl, rfl, rfl, trivial⟩ ?_
    | refine Chk.mk ⟨rfl, rfl, rfl, rfl, rfl, rfl, rfl, trivial⟩ ?_
    | refine Chk.mk ⟨rfl, rfl, rfl, rfl, rfl, rfl, rfl, rfl, trivial⟩ ?_
    | refine Chk.mk ⟨rfl, rfl, rfl, rfl, rfl, rfl, rfl, rfl, rfl, trivial⟩ ?_
    | refine Chk.mk ⟨rfl, rfl, rfl, rfl, rfl, rfl, rfl, rfl, rfl, rfl, trivial⟩ ?_
    | refine Chk.mk ⟨rfl, rfl, rfl, rfl, rfl, rfl, rfl, rfl, rfl, rfl, rfl, trivial⟩ ?_
    | refine Chk.mk ⟨rfl, rfl, rfl, rfl, rfl, rfl, rfl, rfl, rfl, rfl, rfl, rfl, trivial⟩ ?_)
  refine Tri.frame1 2 rfl (dk_Write hD (hf.mono (by omega)) 0 aN 4096 capN b hN) ?_
  rintro r J3 A' hJ3 ⟨rfl, chD3, hD3, rfl⟩
  refine ⟨_, rfl, ?_⟩
  exact Done.mk ⟨rfl, chD3, hD3, rfl⟩
theorem fmt_steps {I : Imm} {bD b1 b3 b5 b7 bN bF : Nat} {x : Lay} {s : Sup} {d : DSt} {chD : List Blk} (hD : Dk I bD d chD) (hf : d.Few 500000) (hld : 1 ≤ x.d ∧ x.d ≤ 1000) (hN : Rds I (some ⟨bN, 0, none⟩) 4096 (bts noughts)) (aS : Option Addr) (capS : Nat) (hS : Rds I aS 4096 (bts (supL s)))
    (hfs : Rds I (some ⟨bF, 0, none⟩) 4 [.func (.func 123) #[] #[.pointer (some ⟨b3, 0, none⟩), .pointer (some ⟨b1, 0, none⟩), .pointer (some ⟨b5, 0, none⟩)], .func (.func 125) #[.pointer (some ⟨bD, 0, none⟩)] #[],
      .func (.func 126) #[] #[.pointer (some ⟨b1, 0, none⟩), .pointer (some ⟨b7, 0, none⟩)], .func (.func 125) #[.pointer (some ⟨bD, 0, none⟩)] #[]]) :
    Tri Tryz.prog 91 #[.slice (some ⟨bF, 0, none⟩) 4 4] I [chD, pBox b1 (.pointer (some ⟨bD, 0, none⟩)) 22, [(b3, row x.vals 45)], pBox b5 (.slice (some ⟨bN, 0, none⟩) 4096 4096) 32, pBox b7 (.slice aS 4096 capS) 32]
      fun r J S' => r = .int .i64 (fmtS (x.d.toNat - 1) s d).2 ∧ ∃ chD' R, Dk J bD (fmtS (x.d.toNat - 1) s d).1 chD' ∧ S' = [chD', pBox b1 (.pointer (some ⟨bD, 0, none⟩)) 22, [(b3, row x.vals 45)], pBox b5 (.slice (some ⟨bN, 0, none⟩) 4096 4096) 32, pBox b7 (.slice aS 4096 capS) 32] ∧ R = chD' := by
  refine vol_first (some ⟨bF, 0, none⟩) 4 4 _ (by omega) hfs ?_
  have hf1 := blankP_few (x.d.toNat - 1) 1 d _ hf
  unfold fmtS
  refine ⟨_, [], [.pointer (some ⟨b3, 0, none⟩), .pointer (some ⟨b1, 0, none⟩), .pointer (some ⟨b5, 0, none⟩)], rfl, ?_⟩
  refine Tri.frame (fmt1 (x := x) hD hf hld (some ⟨bN, 0, none⟩) 4096 hN) [2, 1, 3, 0] rfl rfl ?_
  generalize blankP (x.d.toNat - 1) 1 d = bl at hf1 ⊢
  obtain ⟨d1, e1⟩ := bl
  dsimp only at hf1 ⊢
  rintro r J2 A' hJ2 ⟨rfl, chD1, hD1, rfl⟩
  refine ⟨Nat.le_refl _, ?_⟩
  refine ⟨_, rfl, fun he => ?_, fun he => ?_⟩
  · rw [if_pos he]
    exact ⟨rfl, chD1, _, hD1, rfl, rfl⟩
  rw [if_neg (by simpa using he)]
  refine ⟨_, [.pointer (some ⟨bD, 0, none⟩)], [], rfl, ?_⟩
  refine Tri.frame1 0 rfl (dk_Flush hD1) ?_
  have hf2 := hf1.flush
  generalize d1.flush = fl at hf2 ⊢
  obtain ⟨d2, e2⟩ := fl
  dsimp only at hf2 ⊢
  rintro r J3 A' hJ3 ⟨rfl, chD2, hD2, rfl⟩
  refine ⟨_, rfl, ?_⟩
  refine ⟨_, rfl, fun he => ?_, fun he => ?_⟩
  · rw [if_pos he]
    exact ⟨rfl, chD2, _, hD2, rfl, rfl⟩
  rw [if_neg (by simpa using he)]
  refine ⟨_, [], [.pointer (some ⟨b1, 0, none⟩), .pointer (some ⟨b7, 0, none⟩)], rfl, ?_⟩
  refine Tri.frame (fmt2 hD2 (hf2.mono (by omega)) aS capS (supL s) (hS.mono (Imm.le_trans hJ2 hJ3))) [1, 4, 0] rfl rfl ?_
  generalize d2.write 0 (supL s) = wr
  obtain ⟨d3, e3⟩ := wr
  dsimp only
  rintro r J4 A' hJ4 ⟨rfl, chD3, hD3, rfl⟩
  refine ⟨Nat.le_refl _, ?_⟩
  refine ⟨_, rfl, fun he => ?_, fun he => ?_⟩
  · rw [if_pos he]
    exact ⟨rfl, chD3, _, hD3, rfl, rfl⟩
  rw [if_neg (by simpa using he)]
  refine ⟨_, [.pointer (some ⟨bD, 0, none⟩)], [], rfl, ?_⟩
  refine Tri.frame1 0 rfl (dk_Flush hD3) ?_
  generalize d3.flush = fl
  obtain ⟨d4, e4⟩ := fl
  dsimp only
  rintro r J5 A' hJ5 ⟨rfl, chD4, hD4, rfl⟩
  refine ⟨_, rfl, ?_⟩
  refine ⟨_, rfl, fun he => ?_, fun he => ?_⟩
  · exact ⟨rfl, chD4, _, hD4, rfl, rfl⟩
  · obtain rfl := he
    exact ⟨rfl, chD4, _, hD4, rfl, rfl⟩
set_option maxHeartbeats 4000000 in
theorem vk_Format {I : Imm} {bD : Nat} {d : DSt} {chD : List Blk} (hD : Dk I bD d chD) (hf : d.Few 500000) :
    Tri Tryz.prog 55 #[.pointer (some ⟨bD, 0, none⟩)] I [chD] fun r J S' => r = .int .i64 (formatP d).2 ∧ ∃ chD', Dk J bD (formatP d).1 chD' ∧ S' = [chD'] := by
  have hr := hD.wf.range
  refine Tri.drop ?_ (fun _ _ _ _ h => h)
  refine Tri.of (args := [.pointer (some ⟨bD, 0, none⟩)]) tabOk Tryz.func55 rfl (by kernel_rfl) (by kernel_rfl) ?_
  conv => whnf
  intro b1
  repeat (first
    | refine LoadD.own 0 rfl _ rfl rfl ?_
    | refine LoadD.own 1 rfl _ rfl rfl ?_
    | refine LoadP.at 0 rfl _ rfl rfl ?_
    | refine LoadP.at 1 rfl _ rfl rfl ?_
    | refine StoreD.st 0 rfl rfl rfl ?_
    | refine StoreD.st 1 rfl rfl rfl ?_
    | refine CmpD.yes rfl ?_
    | refine CmpD.yes (by decide) ?_
    | refine CmpD.no (by decide) ?_
    | refine Chk.mk ⟨rfl, trivial⟩ ?_
    | refine Chk.mk ⟨rfl, rfl, trivial⟩ ?_
    | refine Chk.mk ⟨rfl, rfl, rfl, trivial⟩ ?_
    | refine Chk.mk ⟨rfl, rfl, rfl, rfl, trivial⟩ ?_
    | refine Chk.mk ⟨rfl, rfl, rfl, rfl, rfl, trivial⟩ ?_
    | refine Chk.mk ⟨rfl, rfl, rfl, rfl, rfl, rfl, trivial⟩ ?_
    | refine Chk.mk ⟨rfl, rfl, rfl, rfl, rfl, rfl, rfl, trivial⟩ ?_
    | refine Chk.mk ⟨rfl, rfl, rfl, rfl, rfl, rfl, rfl, rfl, trivial⟩ ?_
    | refine Chk.mk ⟨rfl, rfl, rfl, rfl, rfl, rfl, rfl, rfl, rfl, trivial⟩ ?_
    | refine Chk.mk ⟨rfl, rfl, rfl, rfl, rfl, rfl, rfl, rfl, rfl, rfl, trivial⟩ ?_
    | refine Chk.mk ⟨rfl, rfl, rfl, rfl, rfl, rfl, rfl, rfl, rfl, rfl, rfl, trivial⟩ ?_
    | refine Chk.mk ⟨rfl, rfl, rfl, rfl, rfl, rfl, rfl, rfl, rfl, rfl, rfl, rfl, trivial⟩ ?_)
  refine Tri.frame1 0 rfl (dk_Size hD) ?_
  rintro r _ A' hJ ⟨rfl, rfl, rfl⟩
  refine ⟨_, rfl, ?_⟩
  refine CmpD.no (by show ((d.now.length : Nat) : Int) ≠ 0; omega) ?_
  repeat (first
    | refine LoadD.own 0 rfl _ rfl rfl ?_
    | refine LoadD.own 1 rfl _ rfl rfl ?_
    | refine LoadP.at 0 rfl _ rfl rfl ?_
    | refine LoadP.at 1 rfl _ rfl rfl ?_
    | refine StoreD.st 0 rfl rfl rfl ?_
    | refine StoreD.st 1 rfl rfl rfl ?_
    | refine CmpD.yes rfl ?_
    | refine CmpD.yes (by decide) ?_
    | refine CmpD.no (by decide) ?_
    | refine Chk.mk ⟨rfl, trivial⟩ ?_
    | refine Chk.mk ⟨rfl, rfl, trivial⟩ ?_
    | refine Chk.mk ⟨rfl, rfl, rfl, trivial⟩ ?_
    | refine Chk.mk ⟨rfl, rfl, rfl, rfl, trivial⟩ ?_
    | refine Chk.mk ⟨rfl, rfl, rfl, rfl, rfl, trivial⟩ ?_
    | refine Chk.mk ⟨rfl, rfl, rfl, rfl, rfl, rfl, trivial⟩ ?_
    | refine Chk.mk ⟨rfl, rfl, rfl, rfl, rfl, rfl, rfl, trivial⟩ ?_
    | refine Chk.mk ⟨rfl, rfl, rfl, rfl, rfl, rfl, rfl, rfl, trivial⟩ ?_
    | refine Chk.mk ⟨rfl, rfl, rfl, rfl, rfl, rfl, rfl, rfl, rfl, trivial⟩ ?_
    | refine Chk.mk ⟨rfl, rfl, rfl, rfl, rfl, rfl, rfl, rfl, rfl, rfl, trivial⟩ ?_
    | refine Chk.mk ⟨rfl, rfl, rfl, rfl, rfl, rfl, rfl, rfl, rfl, rfl, rfl, trivial⟩ ?_
    | refine Chk.mk ⟨rfl, rfl, rfl, rfl, rfl, rfl, rfl, rfl, rfl, rfl, rfl, rfl, trivial⟩ ?_)
  refine Tri.frame1 0 rfl (dk_Size hD) ?_
  rintro r _ A' hJ ⟨rfl, rfl, rfl⟩
  refine ⟨_, rfl, ?_⟩
  refine Tri.free (layout_Of d.now.length I) ?_
  rintro r _ _ hJ ⟨rfl, rfl⟩
  unfold formatP
  by_cases h64 : d.now.length < 64
  · rw [if_pos h64, layA, if_pos (by omega)]
    conv => whnf
    intro b3
    repeat (first
      | refine LoadD.own 0 rfl _ rfl rfl ?_
      | refine LoadD.own 1 rfl _ rfl rfl ?_
      | refine LoadD.own 2 rfl _ rfl rfl ?_
      | refine LoadP.at 0 rfl _ rfl rfl ?_
      | refine LoadP.at 1 rfl _ rfl rfl ?_
      | refine LoadP.at 2 rfl _ rfl rfl ?_
      | refine StoreD.st 0 rfl rfl rfl ?_
      | refine StoreD.st 1 rfl rfl rfl ?_
      | refine StoreD.st 2 rfl rfl rfl ?_
      | refine CmpD.yes rfl ?_
      | refine CmpD.yes (by decide) ?_
      | refine CmpD.no (by decide) ?_
      | refine Chk.mk ⟨rfl, trivial⟩ ?_
      | refine Chk.mk ⟨rfl, rfl, trivial⟩ ?_
      | refine Chk.mk ⟨rfl, rfl, rfl, trivial⟩ ?_
      | refine Chk.mk ⟨rfl, rfl, rfl, rfl, trivial⟩ ?_
      | refine Chk.mk ⟨rfl, rfl, rfl, rfl, rfl, trivial⟩ ?_
      | refine Chk.mk ⟨rfl, rfl, rfl, rfl, rfl, rfl, trivial⟩ ?_
      | refine Chk.mk ⟨rfl, rfl, rfl, rfl, rfl, rfl, rfl, trivial⟩ ?_
      | refine Chk.mk ⟨rfl, rfl, rfl, rfl, rfl, rfl, rfl, rfl, trivial⟩ ?_
      | refine Chk.mk ⟨rfl, rfl, rfl, rfl, rfl, rfl, rfl, rfl, rfl, trivial⟩ ?_
      | refine Chk.mk ⟨rfl, rfl, rfl, rfl, rfl, rfl, rfl, rfl, rfl, rfl, trivial⟩ ?_
      | refine Chk.mk ⟨rfl, rfl, rfl, rfl, rfl, rfl, rfl, rfl, rfl, rfl, rfl, trivial⟩ ?_
      | refine Chk.mk ⟨rfl, rfl, rfl, rfl, rfl, rfl, rfl, rfl, rfl, rfl, rfl, rfl, trivial⟩ ?_)
    exact Done.mk ⟨_, Drop.pick [0] _ rfl, rfl, chD, hD, rfl⟩
  rw [if_neg h64, layA, if_neg (by omega)]
  conv => whnf
  intro b3
  repeat (first
    | refine LoadD.own 0 rfl _ rfl rfl ?_
    | refine LoadD.own 1 rfl _ rfl rfl ?_
    | refine LoadD.own 2 rfl _ rfl rfl ?_
    | refine LoadP.at 0 rfl _ rfl rfl ?_
    | refine LoadP.at 1 rfl _ rfl rfl ?_
    | refine LoadP.at 2 rfl _ rfl rfl ?_
    | refine StoreD.st 0 rfl rfl rfl ?_
    | refine StoreD.st 1 rfl rfl rfl ?_
    | refine StoreD.st 2 rfl rfl rfl ?_
    | refine CmpD.yes rfl ?_
    | refine CmpD.yes (by decide) ?_
    | refine CmpD.no (by decide) ?_
    | refine Chk.mk ⟨rfl, trivial⟩ ?_
    | refine Chk.mk ⟨rfl, rfl, trivial⟩ ?_
    | refine Chk.mk ⟨rfl, rfl, rfl, trivial⟩ ?_
    | refine Chk.mk ⟨rfl, rfl, rfl, rfl, trivial⟩ ?_
    | refine Chk.mk ⟨rfl, rfl, rfl, rfl, rfl, trivial⟩ ?_
    | refine Chk.mk ⟨rfl, rfl, rfl, rfl, rfl, rfl, trivial⟩ ?_
    | refine Chk.mk ⟨rfl, rfl, rfl, rfl, rfl, rfl, rfl, trivial⟩ ?_
    | refine Chk.mk ⟨rfl, rfl, rfl, rfl, rfl, rfl, rfl, rfl, trivial⟩ ?_
    | refine Chk.mk ⟨rfl, rfl, rfl, rfl, rfl, rfl, rfl, rfl, rfl, trivial⟩ ?_
    | refine Chk.mk ⟨rfl, rfl, rfl, rfl, rfl, rfl, rfl, rfl, rfl, rfl, trivial⟩ ?_
    | refine Chk.mk ⟨rfl, rfl, rfl, rfl, rfl, rfl, rfl, rfl, rfl, rfl, rfl, trivial⟩ ?_
    | refine Chk.mk ⟨rfl, rfl, rfl, rfl, rfl, rfl, rfl, rfl, rfl, rfl, rfl, rfl, trivial⟩ ?_)
  refine makeH tabOk rfl rfl rfl 4096 4096 rfl rfl (Nat.le_refl _) (by show 1 * 4096 ≤ _; decide) (by decide) (by show 4096 * 1 ≤ _; decide) rfl (by decide) ?_
  intro bN NB hNB
  conv => whnf
  intro b5
  repeat (first
    | refine LoadD.own 0 rfl _ rfl rfl ?_
    | refine LoadD.own 1 rfl _ rfl rfl ?_
    | refine LoadD.own 2 rfl _ rfl rfl ?_
    | refine LoadD.own 3 rfl _ rfl rfl ?_
    | refine LoadD.own 4 rfl _ rfl rfl ?_
    | refine LoadP.at 0 rfl _ rfl rfl ?_
    | refine LoadP.at 1 rfl _ rfl rfl ?_
    | refine LoadP.at 2 rfl _ rfl rfl ?_
    | refine LoadP.at 3 rfl _ rfl rfl ?_
    | refine LoadP.at 4 rfl _ rfl rfl ?_
    | refine StoreD.st 0 rfl rfl rfl ?_
    | refine StoreD.st 1 rfl rfl rfl ?_
    | refine StoreD.st 2 rfl rfl rfl ?_
    | refine StoreD.st 3 rfl rfl rfl ?_
    | refine StoreD.st 4 rfl rfl rfl ?_
    | refine CmpD.yes rfl ?_
    | refine CmpD.yes (by decide) ?_
    | refine CmpD.no (by decide) ?_
    | refine Chk.mk ⟨rfl, trivial⟩ ?_
    | refine Chk.mk ⟨rfl, rfl, trivial⟩ ?_
    | refine Chk.mk ⟨rfl, rfl, rfl, trivial⟩ ?_
    | refine Chk.mk ⟨rfl, rfl, rfl, rfl, trivial⟩ ?_
    | refine Chk.mk ⟨rfl, rfl, rfl, rfl, rfl, trivial⟩ ?_
    | refine Chk.mk ⟨rfl, rfl, rfl, rfl, rfl, rfl, trivial⟩ ?_
    | refine Chk.mk ⟨rfl, rfl, rfl, rfl, rfl, rfl, rfl, trivial⟩ ?_
    | refine Chk.mk ⟨rfl, rfl, rfl, rfl, rfl, rfl, rfl, rfl, trivial⟩ ?_
    | refine Chk.mk ⟨rfl, rfl, rfl, rfl, rfl, rfl, rfl, rfl, rfl, trivial⟩ ?_
    | refine Chk.mk ⟨rfl, rfl, rfl, rfl, rfl, rfl, rfl, rfl, rfl, rfl, trivial⟩ ?_
    | refine Chk.mk ⟨rfl, rfl, rfl, rfl, rfl, rfl, rfl, rfl, rfl, rfl, rfl, trivial⟩ ?_
    | refine Chk.mk ⟨rfl, rfl, rfl, rfl, rfl, rfl, rfl, rfl, rfl, rfl, rfl, rfl, trivial⟩ ?_)
  obtain ⟨n, hn⟩ : ∃ n, n = d.now.length := ⟨_, rfl⟩
  rw [← hn] at hr h64 ⊢
  have hlr := layL_range (n := (n : Int)) (by omega)
  refine Tri.free (super_PutF ⟨n, 1, 1, 0⟩ I) ?_
  have hR : RightS ⟨n, 1, 1, 0⟩ := ⟨by show (64 : Int) ≤ n; omega, by show (n : Int) ≤ 512; omega, by show (1 : Int) ≤ 1; decide, by show (1 : Int) ≤ 8388608; decide, by show (1 : Int) ≤ 1; decide, by show (1 : Int) ≤ 549755813888; decide, by show (0 : Int) ≤ 0; decide, by show (0 : Int) ≤ 511; decide⟩
  rintro r J1 _ hJ1 (⟨h, _⟩ | ⟨_, aS, capS, rfl, hSup⟩)
  · exact absurd hR h
  conv => whnf
  intro b7
  repeat (first
    | refine LoadD.own 0 rfl _ rfl rfl ?_
    | refine LoadD.own 1 rfl _ rfl rfl ?_
    | refine LoadD.own 2 rfl _ rfl rfl ?_
    | refine LoadD.own 3 rfl _ rfl rfl ?_
    | refine LoadD.own 4 rfl _ rfl rfl ?_
    | refine LoadD.own 5 rfl _ rfl rfl ?_
    | refine LoadP.at 0 rfl _ rfl rfl ?_
    | refine LoadP.at 1 rfl _ rfl rfl ?_
    | refine LoadP.at 2 rfl _ rfl rfl ?_
    | refine LoadP.at 3 rfl _ rfl rfl ?_
    | refine LoadP.at 4 rfl _ rfl rfl ?_
    | refine LoadP.at 5 rfl _ rfl rfl ?_
    | refine StoreD.st 0 rfl rfl rfl ?_
    | refine StoreD.st 1 rfl rfl rfl ?_
    | refine StoreD.st 2 rfl rfl rfl ?_
    | refine StoreD.st 3 rfl rfl rfl ?_
    | refine StoreD.st 4 rfl rfl rfl ?_
    | refine StoreD.st 5 rfl rfl rfl ?_
    | refine CmpD.yes rfl ?_
    | refine CmpD.yes (by decide) ?_
    | refine CmpD.no (by decide) ?_
    | refine Chk.mk ⟨rfl, trivial⟩ ?_
    | refine Chk.mk ⟨rfl, rfl, trivial⟩ ?_
    | refine Chk.mk ⟨rfl, rfl, rfl, trivial⟩ ?_
    | refine Chk.mk ⟨rfl, rfl, rfl, rfl, trivial⟩ ?_
    | refine Chk.mk ⟨rfl, rfl, rfl, rfl, rfl, trivial⟩ ?_
    | refine Chk.mk ⟨rfl, rfl, rfl, rfl, rfl, rfl, trivial⟩ ?_
    | refine Chk.mk ⟨rfl, rfl, rfl, rfl, rfl, rfl, rfl, trivial⟩ ?_
    | refine Chk.mk ⟨rfl, rfl, rfl, rfl, rfl, rfl, rfl, rfl, trivial⟩ ?_
    | refine Chk.mk ⟨rfl, rfl, rfl, rfl, rfl, rfl, rfl, rfl, rfl, trivial⟩ ?_
    | refine Chk.mk ⟨rfl, rfl, rfl, rfl, rfl, rfl, rfl, rfl, rfl, rfl, trivial⟩ ?_
    | refine Chk.mk ⟨rfl, rfl, rfl, rfl, rfl, rfl, rfl, rfl, rfl, rfl, rfl, trivial⟩ ?_
    | refine Chk.mk ⟨rfl, rfl, rfl, rfl, rfl, rfl, rfl, rfl, rfl, rfl, rfl, rfl, trivial⟩ ?_)
  conv => whnf
  intro bF
  refine Tri.fix 3 rfl fun I5 hI5 hNm => ?_
  refine Tri.fix 6 rfl fun I6 hI6 hFm => ?_
  have hD := hD.mono (Imm.le_trans hJ1 (Imm.le_trans hI5 hI6))
  have hN : Rds I6 (some ⟨bN, 0, none⟩) 4096 (bts noughts) := by
    rw [noughts_bts]
    exact (Rds.of_own (cap := 4096) (by rw [hNB]; show OwnC [(bN, row (rows 4096 [Value.int .u8 0]) _)] 1 _ _ _ _; exact OwnC.whole (by rw [rows_length]; rfl)) hNm).mono hI6
  have hS6 := hSup.mono (Imm.le_trans hI5 hI6)
  have hfs : Rds I6 (some ⟨bF, 0, none⟩) 4 [.func (.func 123) #[] #[.pointer (some ⟨b3, 0, none⟩), .pointer (some ⟨b1, 0, none⟩), .pointer (some ⟨b5, 0, none⟩)], .func (.func 125) #[.pointer (some ⟨bD, 0, none⟩)] #[],
      .func (.func 126) #[] #[.pointer (some ⟨b1, 0, none⟩), .pointer (some ⟨b7, 0, none⟩)], .func (.func 125) #[.pointer (some ⟨bD, 0, none⟩)] #[]] :=
    ⟨rfl, .inr ⟨bF, 0, _, _, _, rfl, hFm _ (List.mem_singleton.2 rfl), rfl⟩⟩
  obtain ⟨x, hx⟩ : ∃ x : Lay, x = layOf (n : Int) := ⟨_, rfl⟩
  have hld : 1 ≤ x.d ∧ x.d ≤ 1000 := by rw [hx]; show 1 ≤ 3 + layL n + (n : Int) / 16 ∧ 3 + layL n + (n : Int) / 16 ≤ 1000; omega
  have hxv : row (layOf (n : Int)).vals 45 = row x.vals 45 := by rw [hx]
  obtain ⟨s, hs⟩ : ∃ s : Sup, s = ⟨n, 1, 1, 0⟩ := ⟨_, rfl⟩
  rw [← hs] at hS6
  refine Tri.frameX (fmt_steps (x := x) (s := s) hD hf hld hN aS capS hS6 hfs) [0, 1, 2, 4, 5] rfl (by rw [hx]; rfl) ?_
  rw [hx, hs]
  rintro r J A' hJ ⟨rfl, chD4, _, hD4, rfl, _⟩
  exact Done.mk ⟨_, Drop.pick [7] _ rfl, rfl, chD4, hD4, rfl⟩
end Go.Proofs.YtegdcjnjnoeinaaGreat
namespace Go.Proofs.YtegdcjnjnoeinaaGreat
open Go.RowKit Go.Sl
set_option maxRecDepth 20000

theorem sortP_length (l : List PImg) : (sortP l).length = l.length := by unfold sortP; rw [List.length_map, (sortI_perm _).length_eq, List.length_map]
theorem release_groups {j : JSt} (hw : j.Wf) (q : Int) : (j.release q).1.groups.length ≤ j.groups.length := by
  unfold JSt.release
  split
  · exact Nat.le_refl _
  split
  · exact Nat.le_refl _
  generalize hq : relAll q j.groups j.s j.t j.u j.h = w
  obtain ⟨gs, s, t, u, h, e⟩ := w
  obtain ⟨_, k, rfl⟩ := relAll_mid q _ _ _ _ _ _ _ _ _ _ _ hw.ring hq
  show (j.groups.drop k).length ≤ _
  rw [List.length_drop]; omega
theorem flush_groups (j : JSt) (d : DSt) : (j.flush d).1.groups = j.groups := by
  unfold JSt.flush
  split
  · rfl
  · split <;> rfl
theorem ckS_wf {v : VSt} {d : DSt} (hw : v.j.Wf) : (v.ckS d).2.1.Wf ∧ (v.ckS d).2.1.groups.length ≤ v.j.groups.length := by
  unfold VSt.ckS
  have h1 := hw.flush d
  have h2 := flush_groups v.j d
  split
  · exact ⟨h1, by rw [h2]; exact Nat.le_refl _⟩
  split
  · exact ⟨h1, by rw [h2]; exact Nat.le_refl _⟩
  · exact ⟨h1.release _, by have := release_groups h1 (v.j.flush d).1.synced; rw [h2] at this; exact this⟩
theorem ckS_few {v : VSt} {d : DSt} {k : Nat} (hf : d.Few k) : (v.ckS d).2.2.Few (k + v.fresh.length + 1) := by
  unfold VSt.ckS
  have h1 := jflush_few (j := v.j) hf
  have h2 := doP_few h1 (sortP v.fresh) v.sup v.slot
  rw [sortP_length] at h2
  split
  · exact h1.mono (by omega)
  split
  · exact h2
  · exact h2
theorem v_Fits (bV bD bJ bM : Nat) (v : VSt) (I : Imm) (S : St) (k : Nat) (br : Bool) (hk : S[k]? = some (vChunk bV bD bJ bM v.j.lay v.epoch v.slot br)) (n : Int) : Tri Tryz.prog 27 #[.pointer (some ⟨bV, 0, none⟩), .int .i64 n] I S fun r J S' => r = .bool (v.fits n) ∧ I = J ∧ S' = S := by
  refine Tri.of (args := [.pointer (some ⟨bV, 0, none⟩), .int .i64 n]) tabOk Tryz.func27 rfl (by kernel_rfl) (by kernel_rfl) ?_
  refine Tri.free (record_Blocks n I []) ?_
  rintro r _ _ hJ ⟨rfl, rfl, rfl⟩
  refine Tri.mono (v_none bV bD bJ bM _ _ _ _ I S k hk) ?_
  rintro r _ _ hJ ⟨rfl, rfl, rfl⟩
  unfold VSt.fits
  refine CmpD.split (fun c1 => ?_) (fun c1 => ?_)
  · refine LoadD.own k hk [.int .i64 v.j.lay.lb] rfl rfl ?_
    refine CmpD.split (fun c2 => ?_) (fun c2 => ?_)
    · rw [decide_eq_true ⟨c1, c2⟩]
      exact Done.mk ⟨rfl, rfl, rfl⟩
    · rw [decide_eq_false (fun h => c2 h.2)]
      exact Done.mk ⟨rfl, rfl, rfl⟩
  · rw [decide_eq_false (fun h => c1 h.1)]
    exact Done.mk ⟨rfl, rfl, rfl⟩
theorem append_lay (j : JSt) (d : DSt) (l : List PImg) (b : Bool) : (j.appendB d l b).1.lay = j.lay := by
  unfold JSt.appendB
  split
  · rfl
  unfold JSt.append
  split
  · rfl
  split
  · rfl
  generalize putS j.s j.t j.u j.h (l.length + 1) (if b = true then l.length + 1 else 0) = q
  obtain ⟨⟨s, t, u, h, e⟩, a⟩ := q
  dsimp only
  split
  · rfl
  split <;> rfl
/-- a volume, laid out -/
structure VAt (J : Imm) (bD bJ bM : Nat) (v : VSt) (ob : Obj) (chJ : List Blk) (gs : List Img) : Prop where
  j : Jk bJ bD v.j chJ
  m : MapR ob (gs.map hdr)
  ok : ∀ g ∈ gs, ImgOk J g
  pr : gs.map Img.pr = v.fresh
theorem VAt.mono {I J : Imm} {bD bJ bM : Nat} {v : VSt} {ob : Obj} {chJ : List Blk} {gs : List Img} (h : VAt I bD bJ bM v ob chJ gs) (hJ : I.le J) : VAt J bD bJ bM v ob chJ gs := ⟨h.j, h.m, fun g hg => (h.ok g hg).mono hJ, h.pr⟩
theorem homeOk_snoc {x : Lay} {l : List PImg} {g : PImg} (h : HomeOk x l) (hg : x.bi ≤ g.1 ∧ g.1 < x.b) : HomeOk x (l ++ [g]) := by
  intro y hy
  rcases List.mem_append.1 hy with hy | hy
  · exact h y hy
  · simp only [List.mem_singleton] at hy; subst hy; exact hg
set_option maxHeartbeats 8000000 in
theorem vk_Commit {bV bD : Nat} {v : VSt} {ch : List Blk} {I : Imm} (h : Vk I bV bD v ch) (hw : v.j.Wf) (hep : v.epoch = v.j.epoch) (hsl : 0 ≤ v.slot ∧ v.slot ≤ 1) (hfr : v.fresh.length ≤ 1000) (hgr : v.j.groups.length ≤ 800000) {d : DSt} {chD : List Blk} (hD : Dk I bD d chD) (hf : d.Few 700000)
    (aL : Option Addr) (capL : Nat) (ls : List Img) (hi : ImgsOk I aL ls) (hll : ls.length ≤ 1000000) :
    Tri Tryz.prog 16 #[.pointer (some ⟨bV, 0, none⟩), .slice aL ls.length capL] I [ch, chD] fun r J S' =>
      r = .tuple #[.int .i64 (v.commit d (ls.map Img.pr)).2.2.1, .int .i64 (v.commit d (ls.map Img.pr)).2.2.2] ∧ ∃ ch' chD', Vk J bV bD (v.commit d (ls.map Img.pr)).1 ch' ∧ Dk J bD (v.commit d (ls.map Img.pr)).2.1 chD' ∧ S' = [ch', chD'] := by
  have h0 := h
  obtain ⟨bJ, bM, ob, chJ, gs, rfl, hj, hM, hg, hp⟩ := h
  have hA : VAt I bD bJ bM v ob chJ gs := ⟨hj, hM, hg, hp⟩
  have hring := hw.ring
  unfold Ok at hring
  have hlog := hw.log
  refine Tri.lay (S2 := [vChunk bV bD bJ bM v.j.lay v.epoch v.slot v.broken, [(bM, ob)], chJ, chD]) (vk_lay2 ..) ?_
  refine Tri.drop ?_ (fun _ _ _ _ h => h)
  refine Tri.ofF (args := [.pointer (some ⟨bV, 0, none⟩), .slice aL ls.length capL]) tabOk Tryz.func16 rfl (by kernel_rfl) (by kernel_rfl) ?_
  refine CodeF.stepD ?_
  refine CodeF.stepD ?_
  refine Tri.nf (v_wrong bV bD bJ bM _ _ _ _ I _ 0 rfl) ?_
  rintro r _ _ hJ ⟨rfl, rfl, rfl⟩
  unfold VSt.commit
  cases hb : v.broken
  rotate_left
  · repeat (first
      | refine LoadD.own 0 rfl _ rfl rfl ?_
      | refine LoadD.own 1 rfl _ rfl rfl ?_
      | refine LoadD.own 2 rfl _ rfl rfl ?_
      | refine LoadD.own 3 rfl _ rfl rfl ?_
      | refine LoadP.at 0 rfl _ rfl rfl ?_
      | refine LoadP.at 1 rfl _ rfl rfl ?_
      | refine LoadP.at 2 rfl _ rfl rfl ?_
      | refine LoadP.at 3 rfl _ rfl rfl ?_
      | refine StoreD.st 0 rfl rfl rfl ?_
      | refine StoreD.st 1 rfl rfl rfl ?_
      | refine StoreD.st 2 rfl rfl rfl ?_
      | refine StoreD.st 3 rfl rfl rfl ?_
      | refine CmpD.yes rfl ?_
      | refine CmpD.yes (by decide) ?_
      | refine CmpD.no (by decide) ?_
      | refine Chk.mk ⟨rfl, trivial⟩ ?_
      | refine Chk.mk ⟨rfl, rfl, trivial⟩ ?_
      | refine Chk.mk ⟨rfl, rfl, rfl, trivial⟩ ?_
      | refine Chk.mk ⟨rfl, rfl, rfl, rfl, trivial⟩ ?_
      | refine Chk.mk ⟨rfl, rfl, rfl, rfl, rfl, trivial⟩ ?_
      | refine Chk.mk ⟨rfl, rfl, rfl, rfl, rfl, rfl, trivial⟩ ?_
      | refine Chk.mk ⟨rfl, rfl, rfl, rfl, rfl, rfl, rfl, trivial⟩ ?_
      | refine Chk.mk ⟨rfl, rfl, rfl, rfl, rfl, rfl, rfl, rfl, trivial⟩ ?_
      | refine Chk.mk ⟨rfl, rfl, rfl, rfl, rfl, rfl, rfl, rfl, rfl, trivial⟩ ?_
      | refine Chk.mk ⟨rfl, rfl, rfl, rfl, rfl, rfl, rfl, rfl, rfl, rfl, trivial⟩ ?_
      | refine Chk.mk ⟨rfl, rfl, rfl, rfl, rfl, rfl, rfl, rfl, rfl, rfl, rfl, trivial⟩ ?_
      | refine Chk.mk ⟨rfl, rfl, rfl, rfl, rfl, rfl, rfl, rfl, rfl, rfl, rfl, rfl, trivial⟩ ?_)
    rw [if_pos rfl]
    exact Done.mk ⟨_, Drop.flat (by simp [hb]), rfl, _, chD, h0, hD, rfl⟩
  repeat (first
    | refine LoadD.own 0 rfl _ rfl rfl ?_
    | refine LoadD.own 1 rfl _ rfl rfl ?_
    | refine LoadD.own 2 rfl _ rfl rfl ?_
    | refine LoadD.own 3 rfl _ rfl rfl ?_
    | refine LoadP.at 0 rfl _ rfl rfl ?_
    | refine LoadP.at 1 rfl _ rfl rfl ?_
    | refine LoadP.at 2 rfl _ rfl rfl ?_
    | refine LoadP.at 3 rfl _ rfl rfl ?_
    | refine StoreD.st 0 rfl rfl rfl ?_
    | refine StoreD.st 1 rfl rfl rfl ?_
    | refine StoreD.st 2 rfl rfl rfl ?_
    | refine StoreD.st 3 rfl rfl rfl ?_
    | refine CmpD.yes rfl ?_
    | refine CmpD.yes (by decide) ?_
    | refine CmpD.no (by decide) ?_
    | refine Chk.mk ⟨rfl, trivial⟩ ?_
    | refine Chk.mk ⟨rfl, rfl, trivial⟩ ?_
    | refine Chk.mk ⟨rfl, rfl, rfl, trivial⟩ ?_
    | refine Chk.mk ⟨rfl, rfl, rfl, rfl, trivial⟩ ?_
    | refine Chk.mk ⟨rfl, rfl, rfl, rfl, rfl, trivial⟩ ?_
    | refine Chk.mk ⟨rfl, rfl, rfl, rfl, rfl, rfl, trivial⟩ ?_
    | refine Chk.mk ⟨rfl, rfl, rfl, rfl, rfl, rfl, rfl, trivial⟩ ?_
    | refine Chk.mk ⟨rfl, rfl, rfl, rfl, rfl, rfl, rfl, rfl, trivial⟩ ?_
    | refine Chk.mk ⟨rfl, rfl, rfl, rfl, rfl, rfl, rfl, rfl, rfl, trivial⟩ ?_
    | refine Chk.mk ⟨rfl, rfl, rfl, rfl, rfl, rfl, rfl, rfl, rfl, rfl, trivial⟩ ?_
    | refine Chk.mk ⟨rfl, rfl, rfl, rfl, rfl, rfl, rfl, rfl, rfl, rfl, rfl, trivial⟩ ?_
    | refine Chk.mk ⟨rfl, rfl, rfl, rfl, rfl, rfl, rfl, rfl, rfl, rfl, rfl, rfl, trivial⟩ ?_)
  rw [if_neg (by simp)]
  have same : ∀ (J : Imm), I.le J → ∃ ch' chD', Vk J bV bD v ch' ∧ Dk J bD d chD' ∧ [vChunk bV bD bJ bM v.j.lay v.epoch v.slot false ++ ((bM, ob) :: chJ), chD] = [ch', chD'] := fun J hJ => ⟨_, chD, by have := h0.mono hJ; rw [hb] at this; exact this, hD.mono hJ, rfl⟩
  have flat0 : ∀ (R : St), Drop ([vChunk bV bD bJ bM v.j.lay v.epoch v.slot false, [(bM, ob)], chJ, chD] ++ R) [vChunk bV bD bJ bM v.j.lay v.epoch v.slot false ++ ((bM, ob) :: chJ), chD] := fun R => ⟨R.flatten, by simp⟩
  refine CodeF.stepD ?_
  obtain ⟨n, hn⟩ : ∃ n, n = ls.length := ⟨_, rfl⟩
  rw [← hn] at hll ⊢
  refine CodeF.loopD [0, 1, 20, 21, 22] (fun vs J' S' => ∃ (i : Nat), i ≤ n ∧ HomeOk v.j.lay ((ls.map Img.pr).take i) ∧ I = J' ∧ vs = [.pointer (some ⟨bV, 0, none⟩), .slice aL n capL, .slice aL n capL, .int .i64 n, .int .i64 i] ∧ S' = [vChunk bV bD bJ bM v.j.lay v.epoch v.slot false, [(bM, ob)], chJ, chD])
    (fun vs _ _ => match vs with | [_, _, _, _, .int _ i] => ((n : Int) - i).toNat | _ => 0) ?_ ?_
  · exact ⟨_, Drop.refl _, 0, by omega, by intro g hg; simp at hg, rfl, rfl, rfl⟩
  rintro vs gE J' S' hJ' ⟨i, hi1, hho, rfl, rfl, rfl⟩
  refine CmpD.split (fun (c1 : (i : Int) < n) => ?_) (fun (c1 : ¬ (i : Int) < n) => ?_)
  · have hil : i < ls.length := by omega
    have htk : (ls.map Img.pr).take (i + 1) = (ls.map Img.pr).take i ++ [ls[i].pr] := by rw [List.take_add_one, List.getElem?_map, List.getElem?_eq_getElem hil]; rfl
    have hcell := imgCells_at hil
    have hpre : ∀ g ∈ (ls.map Img.pr).take (i + 1), g ∈ ls.map Img.pr := fun g hg => List.mem_of_mem_take hg
    rcases hi.1.mem with q0 | ⟨bL, oL, cL, TL, fL, rfl, hIL, hcL⟩
    · omega
    have hsrc : (cL.drop (oL + i * 2)).take 2 = [.int .i64 ls[i].blk, .slice ls[i].a ls[i].len ls[i].cap] := by
      rw [take_part hcL (by omega), hcell]
    refine Chk.mk (by omega) ?_
    refine LoadD.imm hIL [.int .i64 ls[i].blk, .slice ls[i].a ls[i].len ls[i].cap] hsrc rfl ?_
    conv => whnf
    intro b8
    refine StoreD.st 4 rfl rfl rfl ?_
    refine CodeF.sched [[], [0], [], [2], [2, 3], [2, 3, 4], [2, 3, 4, 5], [0, 1, 2, 3, 4, 5, 6], [0, 1, 2, 3, 4, 5, 6, 7], [0, 1, 2, 3, 4, 5, 6, 7, 8], [0, 1, 2, 3, 4, 5, 6, 7, 8, 9], [0, 1, 2, 3, 4, 5, 6, 7, 8], [0, 1, 2, 3, 4, 5, 6, 7, 8, 11], [0, 1, 2, 3, 4, 5, 6, 7, 8, 11, 12], [0, 1, 2, 3, 4, 5, 6, 7, 8, 11, 12, 13], [0, 1, 2, 3, 4, 5, 6, 7, 8, 11, 12, 13, 14], [0, 1, 2, 3, 4, 5, 6, 7, 8, 9, 10, 11, 12, 13, 14, 15], [0, 1, 2, 3, 4, 5, 6, 7, 8, 9, 10, 11, 12, 13, 14, 15, 16]] [0, 1, 2, 3, 4, 5, 6, 7, 8, 9, 10, 11, 12, 13, 14, 15, 16, 17] (by kernel_rfl) ?_
    repeat (first
      | refine LoadD.own 0 rfl _ rfl rfl ?_
      | refine LoadD.own 1 rfl _ rfl rfl ?_
      | refine LoadD.own 2 rfl _ rfl rfl ?_
      | refine LoadD.own 3 rfl _ rfl rfl ?_
      | refine LoadD.own 4 rfl _ rfl rfl ?_
      | refine LoadP.at 0 rfl _ rfl rfl ?_
      | refine LoadP.at 1 rfl _ rfl rfl ?_
      | refine LoadP.at 2 rfl _ rfl rfl ?_
      | refine LoadP.at 3 rfl _ rfl rfl ?_
      | refine LoadP.at 4 rfl _ rfl rfl ?_
      | refine StoreD.st 0 rfl rfl rfl ?_
      | refine StoreD.st 1 rfl rfl rfl ?_
      | refine StoreD.st 2 rfl rfl rfl ?_
      | refine StoreD.st 3 rfl rfl rfl ?_
      | refine StoreD.st 4 rfl rfl rfl ?_
      | refine CmpD.yes rfl ?_
      | refine CmpD.yes (by decide) ?_
      | refine CmpD.no (by decide) ?_
      | refine Chk.mk ⟨rfl, trivial⟩ ?_
      | refine Chk.mk ⟨rfl, rfl, trivial⟩ ?_
      | refine Chk.mk ⟨rfl, rfl, rfl, trivial⟩ ?_
      | refine Chk.mk ⟨rfl, rfl, rfl, rfl, trivial⟩ ?_
      | refine Chk.mk ⟨rfl, rfl, rfl, rfl, rfl, trivial⟩ ?_
      | refine Chk.mk ⟨rfl, rfl, rfl, rfl, rfl, rfl, trivial⟩ ?_
      | refine Chk.mk ⟨rfl, rfl, rfl, rfl, rfl, rfl, rfl, trivial⟩ ?_
      | refine Chk.mk ⟨rfl, rfl, rfl, rfl, rfl, rfl, rfl, rfl, trivial⟩ ?_
      | refine Chk.mk ⟨rfl, rfl, rfl, rfl, rfl, rfl, rfl, rfl, rfl, trivial⟩ ?_
      | refine Chk.mk ⟨rfl, rfl, rfl, rfl, rfl, rfl, rfl, rfl, rfl, rfl, trivial⟩ ?_
      | refine Chk.mk ⟨rfl, rfl, rfl, rfl, rfl, rfl, rfl, rfl, rfl, rfl, rfl, trivial⟩ ?_
      | refine Chk.mk ⟨rfl, rfl, rfl, rfl, rfl, rfl, rfl, rfl, rfl, rfl, rfl, rfl, trivial⟩ ?_)
    have bad : ¬ (v.j.lay.bi ≤ ls[i].blk ∧ ls[i].blk < v.j.lay.b) → ¬ HomeOk v.j.lay (ls.map Img.pr) := fun h hh => h (hh ls[i].pr (List.mem_map_of_mem (List.getElem_mem hil)))
    refine CmpD.split (fun (c2 : ls[i].blk < v.j.lay.bi) => ?_) (fun (c2 : ¬ ls[i].blk < v.j.lay.bi) => ?_)
    · repeat (first
        | refine LoadD.own 0 rfl _ rfl rfl ?_
        | refine LoadD.own 1 rfl _ rfl rfl ?_
        | refine LoadD.own 2 rfl _ rfl rfl ?_
        | refine LoadD.own 3 rfl _ rfl rfl ?_
        | refine LoadD.own 4 rfl _ rfl rfl ?_
        | refine LoadP.at 0 rfl _ rfl rfl ?_
        | refine LoadP.at 1 rfl _ rfl rfl ?_
        | refine LoadP.at 2 rfl _ rfl rfl ?_
        | refine LoadP.at 3 rfl _ rfl rfl ?_
        | refine LoadP.at 4 rfl _ rfl rfl ?_
        | refine StoreD.st 0 rfl rfl rfl ?_
        | refine StoreD.st 1 rfl rfl rfl ?_
        | refine StoreD.st 2 rfl rfl rfl ?_
        | refine StoreD.st 3 rfl rfl rfl ?_
        | refine StoreD.st 4 rfl rfl rfl ?_
        | refine CmpD.yes rfl ?_
        | refine CmpD.yes (by decide) ?_
        | refine CmpD.no (by decide) ?_
        | refine Chk.mk ⟨rfl, trivial⟩ ?_
        | refine Chk.mk ⟨rfl, rfl, trivial⟩ ?_
        | refine Chk.mk ⟨rfl, rfl, rfl, trivial⟩ ?_
        | refine Chk.mk ⟨rfl, rfl, rfl, rfl, trivial⟩ ?_
        | refine Chk.mk ⟨rfl, rfl, rfl, rfl, rfl, trivial⟩ ?_
        | refine Chk.mk ⟨rfl, rfl, rfl, rfl, rfl, rfl, trivial⟩ ?_
        | refine Chk.mk ⟨rfl, rfl, rfl, rfl, rfl, rfl, rfl, trivial⟩ ?_
        | refine Chk.mk ⟨rfl, rfl, rfl, rfl, rfl, rfl, rfl, rfl, trivial⟩ ?_
        | refine Chk.mk ⟨rfl, rfl, rfl, rfl, rfl, rfl, rfl, rfl, rfl, trivial⟩ ?_
        | refine Chk.mk ⟨rfl, rfl, rfl, rfl, rfl, rfl, rfl, rfl, rfl, rfl, trivial⟩ ?_
        | refine Chk.mk ⟨rfl, rfl, rfl, rfl, rfl, rfl, rfl, rfl, rfl, rfl, rfl, trivial⟩ ?_
        | refine Chk.mk ⟨rfl, rfl, rfl, rfl, rfl, rfl, rfl, rfl, rfl, rfl, rfl, rfl, trivial⟩ ?_)
      rw [if_pos (by simpa using bad (fun h => by omega))]
      obtain ⟨ch', chD', k1, k2, k3⟩ := same I (Imm.le_refl _)
      exact Done.mk ⟨_, flat0 [_], rfl, ch', chD', k1, k2, k3⟩
    repeat (first
      | refine LoadD.own 0 rfl _ rfl rfl ?_
      | refine LoadD.own 1 rfl _ rfl rfl ?_
      | refine LoadD.own 2 rfl _ rfl rfl ?_
      | refine LoadD.own 3 rfl _ rfl rfl ?_
      | refine LoadD.own 4 rfl _ rfl rfl ?_
      | refine LoadP.at 0 rfl _ rfl rfl ?_
      | refine LoadP.at 1 rfl _ rfl rfl ?_
      | refine LoadP.at 2 rfl _ rfl rfl ?_
      | refine LoadP.at 3 rfl _ rfl rfl ?_
      | refine LoadP.at 4 rfl _ rfl rfl ?_
      | refine StoreD.st 0 rfl rfl rfl ?_
      | refine StoreD.st 1 rfl rfl rfl ?_
      | refine StoreD.st 2 rfl rfl rfl ?_
      | refine StoreD.st 3 rfl rfl rfl ?_
      | refine StoreD.st 4 rfl rfl rfl ?_
      | refine CmpD.yes rfl ?_
      | refine CmpD.yes (by decide) ?_
      | refine CmpD.no (by decide) ?_
      | refine Chk.mk ⟨rfl, trivial⟩ ?_
      | refine Chk.mk ⟨rfl, rfl, trivial⟩ ?_
      | refine Chk.mk ⟨rfl, rfl, rfl, trivial⟩ ?_
      | refine Chk.mk ⟨rfl, rfl, rfl, rfl, trivial⟩ ?_
      | refine Chk.mk ⟨rfl, rfl, rfl, rfl, rfl, trivial⟩ ?_
      | refine Chk.mk ⟨rfl, rfl, rfl, rfl, rfl, rfl, trivial⟩ ?_
      | refine Chk.mk ⟨rfl, rfl, rfl, rfl, rfl, rfl, rfl, trivial⟩ ?_
      | refine Chk.mk ⟨rfl, rfl, rfl, rfl, rfl, rfl, rfl, rfl, trivial⟩ ?_
      | refine Chk.mk ⟨rfl, rfl, rfl, rfl, rfl, rfl, rfl, rfl, rfl, trivial⟩ ?_
      | refine Chk.mk ⟨rfl, rfl, rfl, rfl, rfl, rfl, rfl, rfl, rfl, rfl, trivial⟩ ?_
      | refine Chk.mk ⟨rfl, rfl, rfl, rfl, rfl, rfl, rfl, rfl, rfl, rfl, rfl, trivial⟩ ?_
      | refine Chk.mk ⟨rfl, rfl, rfl, rfl, rfl, rfl, rfl, rfl, rfl, rfl, rfl, rfl, trivial⟩ ?_)
    refine CmpD.split (fun (c3 : v.j.lay.b ≤ ls[i].blk) => ?_) (fun (c3 : ¬ v.j.lay.b ≤ ls[i].blk) => ?_)
    · repeat (first
        | refine LoadD.own 0 rfl _ rfl rfl ?_
        | refine LoadD.own 1 rfl _ rfl rfl ?_
        | refine LoadD.own 2 rfl _ rfl rfl ?_
        | refine LoadD.own 3 rfl _ rfl rfl ?_
        | refine LoadD.own 4 rfl _ rfl rfl ?_
        | refine LoadP.at 0 rfl _ rfl rfl ?_
        | refine LoadP.at 1 rfl _ rfl rfl ?_
        | refine LoadP.at 2 rfl _ rfl rfl ?_
        | refine LoadP.at 3 rfl _ rfl rfl ?_
        | refine LoadP.at 4 rfl _ rfl rfl ?_
        | refine StoreD.st 0 rfl rfl rfl ?_
        | refine StoreD.st 1 rfl rfl rfl ?_
        | refine StoreD.st 2 rfl rfl rfl ?_
        | refine StoreD.st 3 rfl rfl rfl ?_
        | refine StoreD.st 4 rfl rfl rfl ?_
        | refine CmpD.yes rfl ?_
        | refine CmpD.yes (by decide) ?_
        | refine CmpD.no (by decide) ?_
        | refine Chk.mk ⟨rfl, trivial⟩ ?_
        | refine Chk.mk ⟨rfl, rfl, trivial⟩ ?_
        | refine Chk.mk ⟨rfl, rfl, rfl, trivial⟩ ?_
        | refine Chk.mk ⟨rfl, rfl, rfl, rfl, trivial⟩ ?_
        | refine Chk.mk ⟨rfl, rfl, rfl, rfl, rfl, trivial⟩ ?_
        | refine Chk.mk ⟨rfl, rfl, rfl, rfl, rfl, rfl, trivial⟩ ?_
        | refine Chk.mk ⟨rfl, rfl, rfl, rfl, rfl, rfl, rfl, trivial⟩ ?_
        | refine Chk.mk ⟨rfl, rfl, rfl, rfl, rfl, rfl, rfl, rfl, trivial⟩ ?_
        | refine Chk.mk ⟨rfl, rfl, rfl, rfl, rfl, rfl, rfl, rfl, rfl, trivial⟩ ?_
        | refine Chk.mk ⟨rfl, rfl, rfl, rfl, rfl, rfl, rfl, rfl, rfl, rfl, trivial⟩ ?_
        | refine Chk.mk ⟨rfl, rfl, rfl, rfl, rfl, rfl, rfl, rfl, rfl, rfl, rfl, trivial⟩ ?_
        | refine Chk.mk ⟨rfl, rfl, rfl, rfl, rfl, rfl, rfl, rfl, rfl, rfl, rfl, rfl, trivial⟩ ?_)
      rw [if_pos (by simpa using bad (fun h => by omega))]
      obtain ⟨ch', chD', k1, k2, k3⟩ := same I (Imm.le_refl _)
      exact Done.mk ⟨_, flat0 [_], rfl, ch', chD', k1, k2, k3⟩
    refine ToD.to (((i + 1 : Nat)) : Int) (by rw [wrap_i64 (by omega) (by omega)]; omega) ?_
    refine ⟨_, Drop.pick [0, 1, 2, 3] _ rfl, ⟨i + 1, by omega, ?_, rfl, rfl, rfl⟩, ?_⟩
    · rw [htk]
      exact homeOk_snoc hho ⟨by show v.j.lay.bi ≤ ls[i].blk; omega, by show ls[i].blk < v.j.lay.b; omega⟩
    · show ((n : Int) - ((i + 1 : Nat) : Int)).toNat < ((n : Int) - (i : Int)).toNat; omega
  obtain rfl : i = n := by omega
  rw [List.take_of_length_le (by rw [List.length_map]; omega)] at hho
  rw [if_neg (by simpa using hho)]
  refine CodeF.stepD ?_
  refine CodeF.sched [[], [0], [0, 1], [0, 1, 2], [], [4], [4, 5], [4, 5, 6], [4, 5, 6, 7], [], [0, 1, 2, 3, 4, 5, 6, 7, 8, 9], [0, 1, 2, 3, 4, 5, 6, 7, 8, 9, 10], [0, 1, 2, 3, 4, 5, 6, 7, 8, 9, 10, 11], [0, 1, 2, 3, 4, 5, 6, 7, 8, 9, 10, 11, 12], [0, 1, 2, 3, 4, 5, 6, 7, 8, 9, 10, 11, 12], [0, 1, 2, 3, 4, 5, 6, 7, 8, 9, 10, 11, 12, 13], [0, 1, 2, 3, 4, 5, 6, 7, 8, 9, 10, 11, 12, 13, 14, 15]] [0, 1, 2, 3, 4, 5, 6, 7, 9, 8, 10, 11, 12, 13, 14, 15, 16] (by kernel_rfl) ?_
  repeat (first
    | refine LoadD.own 0 rfl _ rfl rfl ?_
    | refine LoadD.own 1 rfl _ rfl rfl ?_
    | refine LoadD.own 2 rfl _ rfl rfl ?_
    | refine LoadD.own 3 rfl _ rfl rfl ?_
    | refine LoadP.at 0 rfl _ rfl rfl ?_
    | refine LoadP.at 1 rfl _ rfl rfl ?_
    | refine LoadP.at 2 rfl _ rfl rfl ?_
    | refine LoadP.at 3 rfl _ rfl rfl ?_
    | refine StoreD.st 0 rfl rfl rfl ?_
    | refine StoreD.st 1 rfl rfl rfl ?_
    | refine StoreD.st 2 rfl rfl rfl ?_
    | refine StoreD.st 3 rfl rfl rfl ?_
    | refine CmpD.yes rfl ?_
    | refine CmpD.yes (by decide) ?_
    | refine CmpD.no (by decide) ?_
    | refine Chk.mk ⟨rfl, trivial⟩ ?_
    | refine Chk.mk ⟨rfl, rfl, trivial⟩ ?_
    | refine Chk.mk ⟨rfl, rfl, rfl, trivial⟩ ?_
    | refine Chk.mk ⟨rfl, rfl, rfl, rfl, trivial⟩ ?_
    | refine Chk.mk ⟨rfl, rfl, rfl, rfl, rfl, trivial⟩ ?_
    | refine Chk.mk ⟨rfl, rfl, rfl, rfl, rfl, rfl, trivial⟩ ?_
    | refine Chk.mk ⟨rfl, rfl, rfl, rfl, rfl, rfl, rfl, trivial⟩ ?_
    | refine Chk.mk ⟨rfl, rfl, rfl, rfl, rfl, rfl, rfl, rfl, trivial⟩ ?_
    | refine Chk.mk ⟨rfl, rfl, rfl, rfl, rfl, rfl, rfl, rfl, rfl, trivial⟩ ?_
    | refine Chk.mk ⟨rfl, rfl, rfl, rfl, rfl, rfl, rfl, rfl, rfl, rfl, trivial⟩ ?_
    | refine Chk.mk ⟨rfl, rfl, rfl, rfl, rfl, rfl, rfl, rfl, rfl, rfl, rfl, trivial⟩ ?_
    | refine Chk.mk ⟨rfl, rfl, rfl, rfl, rfl, rfl, rfl, rfl, rfl, rfl, rfl, rfl, trivial⟩ ?_)
  refine Tri.frame1 2 rfl (jk_Next hj I) ?_
  rintro r _ A' hJ2 ⟨rfl, rfl, rfl⟩
  refine ⟨_, rfl, ?_⟩
  repeat (first
    | refine LoadD.own 0 rfl _ rfl rfl ?_
    | refine LoadD.own 1 rfl _ rfl rfl ?_
    | refine LoadD.own 2 rfl _ rfl rfl ?_
    | refine LoadD.own 3 rfl _ rfl rfl ?_
    | refine LoadP.at 0 rfl _ rfl rfl ?_
    | refine LoadP.at 1 rfl _ rfl rfl ?_
    | refine LoadP.at 2 rfl _ rfl rfl ?_
    | refine LoadP.at 3 rfl _ rfl rfl ?_
    | refine StoreD.st 0 rfl rfl rfl ?_
    | refine StoreD.st 1 rfl rfl rfl ?_
    | refine StoreD.st 2 rfl rfl rfl ?_
    | refine StoreD.st 3 rfl rfl rfl ?_
    | refine CmpD.yes rfl ?_
    | refine CmpD.yes (by decide) ?_
    | refine CmpD.no (by decide) ?_
    | refine Chk.mk ⟨rfl, trivial⟩ ?_
    | refine Chk.mk ⟨rfl, rfl, trivial⟩ ?_
    | refine Chk.mk ⟨rfl, rfl, rfl, trivial⟩ ?_
    | refine Chk.mk ⟨rfl, rfl, rfl, rfl, trivial⟩ ?_
    | refine Chk.mk ⟨rfl, rfl, rfl, rfl, rfl, trivial⟩ ?_
    | refine Chk.mk ⟨rfl, rfl, rfl, rfl, rfl, rfl, trivial⟩ ?_
    | refine Chk.mk ⟨rfl, rfl, rfl, rfl, rfl, rfl, rfl, trivial⟩ ?_
    | refine Chk.mk ⟨rfl, rfl, rfl, rfl, rfl, rfl, rfl, rfl, trivial⟩ ?_
    | refine Chk.mk ⟨rfl, rfl, rfl, rfl, rfl, rfl, rfl, rfl, rfl, trivial⟩ ?_
    | refine Chk.mk ⟨rfl, rfl, rfl, rfl, rfl, rfl, rfl, rfl, rfl, rfl, trivial⟩ ?_
    | refine Chk.mk ⟨rfl, rfl, rfl, rfl, rfl, rfl, rfl, rfl, rfl, rfl, rfl, trivial⟩ ?_
    | refine Chk.mk ⟨rfl, rfl, rfl, rfl, rfl, rfl, rfl, rfl, rfl, rfl, rfl, rfl, trivial⟩ ?_)
  rw [hn]
  refine Tri.free (put_of v.epoch v.j.next ⟨by rw [hep]; exact hw.epoch, by have := hw.next; unfold In64; omega⟩ aL capL ls I hi (by omega)) ?_
  rw [← hn]
  rintro r J2 _ hJ2 (⟨hno, rfl⟩ | ⟨hR, aO, capO, bs, rfl, _, _, _⟩)
  · rw [if_pos hno]
    repeat (first
      | refine LoadD.own 0 rfl _ rfl rfl ?_
      | refine LoadD.own 1 rfl _ rfl rfl ?_
      | refine LoadD.own 2 rfl _ rfl rfl ?_
      | refine LoadD.own 3 rfl _ rfl rfl ?_
      | refine LoadP.at 0 rfl _ rfl rfl ?_
      | refine LoadP.at 1 rfl _ rfl rfl ?_
      | refine LoadP.at 2 rfl _ rfl rfl ?_
      | refine LoadP.at 3 rfl _ rfl rfl ?_
      | refine StoreD.st 0 rfl rfl rfl ?_
      | refine StoreD.st 1 rfl rfl rfl ?_
      | refine StoreD.st 2 rfl rfl rfl ?_
      | refine StoreD.st 3 rfl rfl rfl ?_
      | refine CmpD.yes rfl ?_
      | refine CmpD.yes (by decide) ?_
      | refine CmpD.no (by decide) ?_
      | refine Chk.mk ⟨rfl, trivial⟩ ?_
      | refine Chk.mk ⟨rfl, rfl, trivial⟩ ?_
      | refine Chk.mk ⟨rfl, rfl, rfl, trivial⟩ ?_
      | refine Chk.mk ⟨rfl, rfl, rfl, rfl, trivial⟩ ?_
      | refine Chk.mk ⟨rfl, rfl, rfl, rfl, rfl, trivial⟩ ?_
      | refine Chk.mk ⟨rfl, rfl, rfl, rfl, rfl, rfl, trivial⟩ ?_
      | refine Chk.mk ⟨rfl, rfl, rfl, rfl, rfl, rfl, rfl, trivial⟩ ?_
      | refine Chk.mk ⟨rfl, rfl, rfl, rfl, rfl, rfl, rfl, rfl, trivial⟩ ?_
      | refine Chk.mk ⟨rfl, rfl, rfl, rfl, rfl, rfl, rfl, rfl, rfl, trivial⟩ ?_
      | refine Chk.mk ⟨rfl, rfl, rfl, rfl, rfl, rfl, rfl, rfl, rfl, rfl, trivial⟩ ?_
      | refine Chk.mk ⟨rfl, rfl, rfl, rfl, rfl, rfl, rfl, rfl, rfl, rfl, rfl, trivial⟩ ?_
      | refine Chk.mk ⟨rfl, rfl, rfl, rfl, rfl, rfl, rfl, rfl, rfl, rfl, rfl, rfl, trivial⟩ ?_)
    refine CodeF.stepD ?_
    repeat (first
      | refine LoadD.own 0 rfl _ rfl rfl ?_
      | refine LoadD.own 1 rfl _ rfl rfl ?_
      | refine LoadD.own 2 rfl _ rfl rfl ?_
      | refine LoadD.own 3 rfl _ rfl rfl ?_
      | refine LoadP.at 0 rfl _ rfl rfl ?_
      | refine LoadP.at 1 rfl _ rfl rfl ?_
      | refine LoadP.at 2 rfl _ rfl rfl ?_
      | refine LoadP.at 3 rfl _ rfl rfl ?_
      | refine StoreD.st 0 rfl rfl rfl ?_
      | refine StoreD.st 1 rfl rfl rfl ?_
      | refine StoreD.st 2 rfl rfl rfl ?_
      | refine StoreD.st 3 rfl rfl rfl ?_
      | refine CmpD.yes rfl ?_
      | refine CmpD.yes (by decide) ?_
      | refine CmpD.no (by decide) ?_
      | refine Chk.mk ⟨rfl, trivial⟩ ?_
      | refine Chk.mk ⟨rfl, rfl, trivial⟩ ?_
      | refine Chk.mk ⟨rfl, rfl, rfl, trivial⟩ ?_
      | refine Chk.mk ⟨rfl, rfl, rfl, rfl, trivial⟩ ?_
      | refine Chk.mk ⟨rfl, rfl, rfl, rfl, rfl, trivial⟩ ?_
      | refine Chk.mk ⟨rfl, rfl, rfl, rfl, rfl, rfl, trivial⟩ ?_
      | refine Chk.mk ⟨rfl, rfl, rfl, rfl, rfl, rfl, rfl, trivial⟩ ?_
      | refine Chk.mk ⟨rfl, rfl, rfl, rfl, rfl, rfl, rfl, rfl, trivial⟩ ?_
      | refine Chk.mk ⟨rfl, rfl, rfl, rfl, rfl, rfl, rfl, rfl, rfl, trivial⟩ ?_
      | refine Chk.mk ⟨rfl, rfl, rfl, rfl, rfl, rfl, rfl, rfl, rfl, rfl, trivial⟩ ?_
      | refine Chk.mk ⟨rfl, rfl, rfl, rfl, rfl, rfl, rfl, rfl, rfl, rfl, rfl, trivial⟩ ?_
      | refine Chk.mk ⟨rfl, rfl, rfl, rfl, rfl, rfl, rfl, rfl, rfl, rfl, rfl, rfl, trivial⟩ ?_)
    obtain ⟨ch', chD', k1, k2, k3⟩ := same J2 hJ2
    exact Done.mk ⟨_, flat0 [], rfl, ch', chD', k1, k2, k3⟩
  rw [if_neg (by simpa using hR)]
  repeat (first
    | refine LoadD.own 0 rfl _ rfl rfl ?_
    | refine LoadD.own 1 rfl _ rfl rfl ?_
    | refine LoadD.own 2 rfl _ rfl rfl ?_
    | refine LoadD.own 3 rfl _ rfl rfl ?_
    | refine LoadP.at 0 rfl _ rfl rfl ?_
    | refine LoadP.at 1 rfl _ rfl rfl ?_
    | refine LoadP.at 2 rfl _ rfl rfl ?_
    | refine LoadP.at 3 rfl _ rfl rfl ?_
    | refine StoreD.st 0 rfl rfl rfl ?_
    | refine StoreD.st 1 rfl rfl rfl ?_
    | refine StoreD.st 2 rfl rfl rfl ?_
    | refine StoreD.st 3 rfl rfl rfl ?_
    | refine CmpD.yes rfl ?_
    | refine CmpD.yes (by decide) ?_
    | refine CmpD.no (by decide) ?_
    | refine Chk.mk ⟨rfl, trivial⟩ ?_
    | refine Chk.mk ⟨rfl, rfl, trivial⟩ ?_
    | refine Chk.mk ⟨rfl, rfl, rfl, trivial⟩ ?_
    | refine Chk.mk ⟨rfl, rfl, rfl, rfl, trivial⟩ ?_
    | refine Chk.mk ⟨rfl, rfl, rfl, rfl, rfl, trivial⟩ ?_
    | refine Chk.mk ⟨rfl, rfl, rfl, rfl, rfl, rfl, trivial⟩ ?_
    | refine Chk.mk ⟨rfl, rfl, rfl, rfl, rfl, rfl, rfl, trivial⟩ ?_
    | refine Chk.mk ⟨rfl, rfl, rfl, rfl, rfl, rfl, rfl, rfl, trivial⟩ ?_
    | refine Chk.mk ⟨rfl, rfl, rfl, rfl, rfl, rfl, rfl, rfl, rfl, trivial⟩ ?_
    | refine Chk.mk ⟨rfl, rfl, rfl, rfl, rfl, rfl, rfl, rfl, rfl, rfl, trivial⟩ ?_
    | refine Chk.mk ⟨rfl, rfl, rfl, rfl, rfl, rfl, rfl, rfl, rfl, rfl, rfl, trivial⟩ ?_
    | refine Chk.mk ⟨rfl, rfl, rfl, rfl, rfl, rfl, rfl, rfl, rfl, rfl, rfl, rfl, trivial⟩ ?_)
  refine CodeF.stepD ?_
  repeat (first
    | refine LoadD.own 0 rfl _ rfl rfl ?_
    | refine LoadD.own 1 rfl _ rfl rfl ?_
    | refine LoadD.own 2 rfl _ rfl rfl ?_
    | refine LoadD.own 3 rfl _ rfl rfl ?_
    | refine LoadP.at 0 rfl _ rfl rfl ?_
    | refine LoadP.at 1 rfl _ rfl rfl ?_
    | refine LoadP.at 2 rfl _ rfl rfl ?_
    | refine LoadP.at 3 rfl _ rfl rfl ?_
    | refine StoreD.st 0 rfl rfl rfl ?_
    | refine StoreD.st 1 rfl rfl rfl ?_
    | refine StoreD.st 2 rfl rfl rfl ?_
    | refine StoreD.st 3 rfl rfl rfl ?_
    | refine CmpD.yes rfl ?_
    | refine CmpD.yes (by decide) ?_
    | refine CmpD.no (by decide) ?_
    | refine Chk.mk ⟨rfl, trivial⟩ ?_
    | refine Chk.mk ⟨rfl, rfl, trivial⟩ ?_
    | refine Chk.mk ⟨rfl, rfl, rfl, trivial⟩ ?_
    | refine Chk.mk ⟨rfl, rfl, rfl, rfl, trivial⟩ ?_
    | refine Chk.mk ⟨rfl, rfl, rfl, rfl, rfl, trivial⟩ ?_
    | refine Chk.mk ⟨rfl, rfl, rfl, rfl, rfl, rfl, trivial⟩ ?_
    | refine Chk.mk ⟨rfl, rfl, rfl, rfl, rfl, rfl, rfl, trivial⟩ ?_
    | refine Chk.mk ⟨rfl, rfl, rfl, rfl, rfl, rfl, rfl, rfl, trivial⟩ ?_
    | refine Chk.mk ⟨rfl, rfl, rfl, rfl, rfl, rfl, rfl, rfl, rfl, trivial⟩ ?_
    | refine Chk.mk ⟨rfl, rfl, rfl, rfl, rfl, rfl, rfl, rfl, rfl, rfl, trivial⟩ ?_
    | refine Chk.mk ⟨rfl, rfl, rfl, rfl, rfl, rfl, rfl, rfl, rfl, rfl, rfl, trivial⟩ ?_
    | refine Chk.mk ⟨rfl, rfl, rfl, rfl, rfl, rfl, rfl, rfl, rfl, rfl, rfl, rfl, trivial⟩ ?_)
  refine Tri.nf (v_Fits bV bD bJ bM v J2 _ 0 false rfl (i : Int)) ?_
  rintro r _ _ hJ3 ⟨rfl, rfl, rfl⟩
  have hll2 : (ls.map Img.pr).length = i := by rw [List.length_map, hn]
  rw [hll2]
  have hR6 := hR.2.2.2.2
  rw [hll2] at hR6
  cases hfit : v.fits (i : Int)
  · rw [if_pos rfl]
    repeat (first
      | refine LoadD.own 0 rfl _ rfl rfl ?_
      | refine LoadD.own 1 rfl _ rfl rfl ?_
      | refine LoadD.own 2 rfl _ rfl rfl ?_
      | refine LoadD.own 3 rfl _ rfl rfl ?_
      | refine LoadP.at 0 rfl _ rfl rfl ?_
      | refine LoadP.at 1 rfl _ rfl rfl ?_
      | refine LoadP.at 2 rfl _ rfl rfl ?_
      | refine LoadP.at 3 rfl _ rfl rfl ?_
      | refine StoreD.st 0 rfl rfl rfl ?_
      | refine StoreD.st 1 rfl rfl rfl ?_
      | refine StoreD.st 2 rfl rfl rfl ?_
      | refine StoreD.st 3 rfl rfl rfl ?_
      | refine CmpD.yes rfl ?_
      | refine CmpD.yes (by decide) ?_
      | refine CmpD.no (by decide) ?_
      | refine Chk.mk ⟨rfl, trivial⟩ ?_
      | refine Chk.mk ⟨rfl, rfl, trivial⟩ ?_
      | refine Chk.mk ⟨rfl, rfl, rfl, trivial⟩ ?_
      | refine Chk.mk ⟨rfl, rfl, rfl, rfl, trivial⟩ ?_
      | refine Chk.mk ⟨rfl, rfl, rfl, rfl, rfl, trivial⟩ ?_
      | refine Chk.mk ⟨rfl, rfl, rfl, rfl, rfl, rfl, trivial⟩ ?_
      | refine Chk.mk ⟨rfl, rfl, rfl, rfl, rfl, rfl, rfl, trivial⟩ ?_
      | refine Chk.mk ⟨rfl, rfl, rfl, rfl, rfl, rfl, rfl, rfl, trivial⟩ ?_
      | refine Chk.mk ⟨rfl, rfl, rfl, rfl, rfl, rfl, rfl, rfl, rfl, trivial⟩ ?_
      | refine Chk.mk ⟨rfl, rfl, rfl, rfl, rfl, rfl, rfl, rfl, rfl, rfl, trivial⟩ ?_
      | refine Chk.mk ⟨rfl, rfl, rfl, rfl, rfl, rfl, rfl, rfl, rfl, rfl, rfl, trivial⟩ ?_
      | refine Chk.mk ⟨rfl, rfl, rfl, rfl, rfl, rfl, rfl, rfl, rfl, rfl, rfl, rfl, trivial⟩ ?_)
    obtain ⟨ch', chD', k1, k2, k3⟩ := same J2 hJ2
    exact Done.mk ⟨_, flat0 [], rfl, ch', chD', k1, k2, k3⟩
  rw [if_neg (by simp)]
  repeat (first
    | refine LoadD.own 0 rfl _ rfl rfl ?_
    | refine LoadD.own 1 rfl _ rfl rfl ?_
    | refine LoadD.own 2 rfl _ rfl rfl ?_
    | refine LoadD.own 3 rfl _ rfl rfl ?_
    | refine LoadP.at 0 rfl _ rfl rfl ?_
    | refine LoadP.at 1 rfl _ rfl rfl ?_
    | refine LoadP.at 2 rfl _ rfl rfl ?_
    | refine LoadP.at 3 rfl _ rfl rfl ?_
    | refine StoreD.st 0 rfl rfl rfl ?_
    | refine StoreD.st 1 rfl rfl rfl ?_
    | refine StoreD.st 2 rfl rfl rfl ?_
    | refine StoreD.st 3 rfl rfl rfl ?_
    | refine CmpD.yes rfl ?_
    | refine CmpD.yes (by decide) ?_
    | refine CmpD.no (by decide) ?_
    | refine Chk.mk ⟨rfl, trivial⟩ ?_
    | refine Chk.mk ⟨rfl, rfl, trivial⟩ ?_
    | refine Chk.mk ⟨rfl, rfl, rfl, trivial⟩ ?_
    | refine Chk.mk ⟨rfl, rfl, rfl, rfl, trivial⟩ ?_
    | refine Chk.mk ⟨rfl, rfl, rfl, rfl, rfl, trivial⟩ ?_
    | refine Chk.mk ⟨rfl, rfl, rfl, rfl, rfl, rfl, trivial⟩ ?_
    | refine Chk.mk ⟨rfl, rfl, rfl, rfl, rfl, rfl, rfl, trivial⟩ ?_
    | refine Chk.mk ⟨rfl, rfl, rfl, rfl, rfl, rfl, rfl, rfl, trivial⟩ ?_
    | refine Chk.mk ⟨rfl, rfl, rfl, rfl, rfl, rfl, rfl, rfl, rfl, trivial⟩ ?_
    | refine Chk.mk ⟨rfl, rfl, rfl, rfl, rfl, rfl, rfl, rfl, rfl, rfl, trivial⟩ ?_
    | refine Chk.mk ⟨rfl, rfl, rfl, rfl, rfl, rfl, rfl, rfl, rfl, rfl, rfl, trivial⟩ ?_
    | refine Chk.mk ⟨rfl, rfl, rfl, rfl, rfl, rfl, rfl, rfl, rfl, rfl, rfl, rfl, trivial⟩ ?_)
  have hbn : blocksN (i : Int) = (i : Int) + 1 := by unfold blocksN; rw [if_neg (by omega)]
  rw [hbn]
  obtain ⟨W, hW⟩ : ∃ W : VSt × DSt × Int × Int, W = (if v.j.s - v.j.u - v.j.h < (i : Int) + 1 then (if (v.ckpt d).2.2 ≠ 0 then ((v.ckpt d).1, (v.ckpt d).2.1, 0, (v.ckpt d).2.2) else (v.ckpt d).1.app (v.ckpt d).2.1 (ls.map Img.pr)) else v.app d (ls.map Img.pr)) := ⟨_, rfl⟩
  rw [← hW]
  refine CodeF.join [0, 1] (fun vs J3 S' => ∃ (v2 : VSt) (d2 : DSt) (bJ2 bM2 : Nat) (ob2 : Obj) (chJ2 : List Blk) (gs2 : List Img) (chD2 : List Blk), W = v2.app d2 (ls.map Img.pr) ∧ VAt J3 bD bJ2 bM2 v2 ob2 chJ2 gs2 ∧ Dk J3 bD d2 chD2 ∧ v2.j.Wf ∧ v2.j.groups.length ≤ 800000 ∧ d2.Few 800000 ∧ v2.broken = false ∧ J2.le J3 ∧
      vs = [.pointer (some ⟨bV, 0, none⟩), .slice aL i capL] ∧ S' = [vChunk bV bD bJ2 bM2 v2.j.lay v2.epoch v2.slot false, [(bM2, ob2)], chJ2, chD2]) ?_ ?_
  · refine CodeF.den ?_
    repeat (first
      | refine LoadD.own 0 rfl _ rfl rfl ?_
      | refine LoadD.own 1 rfl _ rfl rfl ?_
      | refine LoadD.own 2 rfl _ rfl rfl ?_
      | refine LoadD.own 3 rfl _ rfl rfl ?_
      | refine LoadP.at 0 rfl _ rfl rfl ?_
      | refine LoadP.at 1 rfl _ rfl rfl ?_
      | refine LoadP.at 2 rfl _ rfl rfl ?_
      | refine LoadP.at 3 rfl _ rfl rfl ?_
      | refine StoreD.st 0 rfl rfl rfl ?_
      | refine StoreD.st 1 rfl rfl rfl ?_
      | refine StoreD.st 2 rfl rfl rfl ?_
      | refine StoreD.st 3 rfl rfl rfl ?_
      | refine CmpD.yes rfl ?_
      | refine CmpD.yes (by decide) ?_
      | refine CmpD.no (by decide) ?_
      | refine Chk.mk ⟨rfl, trivial⟩ ?_
      | refine Chk.mk ⟨rfl, rfl, trivial⟩ ?_
      | refine Chk.mk ⟨rfl, rfl, rfl, trivial⟩ ?_
      | refine Chk.mk ⟨rfl, rfl, rfl, rfl, trivial⟩ ?_
      | refine Chk.mk ⟨rfl, rfl, rfl, rfl, rfl, trivial⟩ ?_
      | refine Chk.mk ⟨rfl, rfl, rfl, rfl, rfl, rfl, trivial⟩ ?_
      | refine Chk.mk ⟨rfl, rfl, rfl, rfl, rfl, rfl, rfl, trivial⟩ ?_
      | refine Chk.mk ⟨rfl, rfl, rfl, rfl, rfl, rfl, rfl, rfl, trivial⟩ ?_
      | refine Chk.mk ⟨rfl, rfl, rfl, rfl, rfl, rfl, rfl, rfl, rfl, trivial⟩ ?_
      | refine Chk.mk ⟨rfl, rfl, rfl, rfl, rfl, rfl, rfl, rfl, rfl, rfl, trivial⟩ ?_
      | refine Chk.mk ⟨rfl, rfl, rfl, rfl, rfl, rfl, rfl, rfl, rfl, rfl, rfl, trivial⟩ ?_
      | refine Chk.mk ⟨rfl, rfl, rfl, rfl, rfl, rfl, rfl, rfl, rfl, rfl, rfl, rfl, trivial⟩ ?_)
    refine Tri.frame1 2 rfl (jk_Ring hj J2) ?_
    rintro r _ A' hJ4 ⟨rfl, rfl, rfl⟩
    refine ⟨_, rfl, ?_⟩
    refine Tri.free (ring_Free v.j.s v.j.t v.j.u v.j.h J2 (by unfold In64; omega) (by unfold In64; omega) (by unfold In64; omega) (by unfold In64; omega)) ?_
    rintro r _ _ hJ5 ⟨rfl, rfl⟩
    rw [if_pos hw.ring]
    refine Tri.free (record_Blocks (i : Int) J2 []) ?_
    rintro r _ _ hJ6 ⟨rfl, rfl, rfl⟩
    rw [hbn]
    refine CmpD.split (fun (c1 : v.j.s - v.j.u - v.j.h < (i : Int) + 1) => ?_) (fun (c1 : ¬ v.j.s - v.j.u - v.j.h < (i : Int) + 1) => ?_)
    · rw [if_pos c1] at hW
      have hcw := ckS_wf (d := d) hw
      have hcf := ckS_few (v := v) hf
      refine Tri.lay (S2 := [vChunk bV bD bJ bM v.j.lay v.epoch v.slot false ++ ((bM, ob) :: chJ), chD]) (by simp) ?_
      refine Tri.drop (vk_Checkpoint (v := v) (by have := h0.mono hJ2; rw [hb] at this; exact this) hw hsl hfr (hD.mono hJ2) (hf.mono (by omega))) ?_
      rintro r J3 S' hJ3 ⟨rfl, ch2, chD2, ⟨bJ2, bM2, ob2, chJ2, gs2, rfl, hj2, hM2, hg2, hp2⟩, hD2, rfl⟩
      have hbr : (v.ckpt d).2.2 = 0 → (v.ckpt d).1.broken = false := by
        unfold VSt.ckpt
        rw [if_neg (by rw [hb]; simp)]
        split
        · intro h; exact absurd h (by assumption)
        · intro _; exact hb
      have hcj : (v.ckpt d).1.j = (v.ckS d).2.1 ∧ (v.ckpt d).2.1 = (v.ckS d).2.2 := by
        unfold VSt.ckpt
        rw [if_neg (by rw [hb]; simp)]
        split <;> exact ⟨rfl, rfl⟩
      rw [← hcj.1] at hcw
      rw [← hcj.2] at hcf
      generalize v.ckpt d = ck at *
      obtain ⟨v3, d3, e3⟩ := ck
      dsimp only at *
      refine ⟨[vChunk bV bD bJ2 bM2 v3.j.lay v3.epoch v3.slot v3.broken, [(bM2, ob2)], chJ2, chD2], Drop.flat (by simp), ?_⟩
      by_cases he : e3 ≠ 0
      · rw [if_pos he] at hW
        refine CmpD.no he ?_
        repeat (first
          | refine LoadD.own 0 rfl _ rfl rfl ?_
          | refine LoadD.own 1 rfl _ rfl rfl ?_
          | refine LoadD.own 2 rfl _ rfl rfl ?_
          | refine LoadD.own 3 rfl _ rfl rfl ?_
          | refine LoadP.at 0 rfl _ rfl rfl ?_
          | refine LoadP.at 1 rfl _ rfl rfl ?_
          | refine LoadP.at 2 rfl _ rfl rfl ?_
          | refine LoadP.at 3 rfl _ rfl rfl ?_
          | refine StoreD.st 0 rfl rfl rfl ?_
          | refine StoreD.st 1 rfl rfl rfl ?_
          | refine StoreD.st 2 rfl rfl rfl ?_
          | refine StoreD.st 3 rfl rfl rfl ?_
          | refine CmpD.yes rfl ?_
          | refine CmpD.yes (by decide) ?_
          | refine CmpD.no (by decide) ?_
          | refine Chk.mk ⟨rfl, trivial⟩ ?_
          | refine Chk.mk ⟨rfl, rfl, trivial⟩ ?_
          | refine Chk.mk ⟨rfl, rfl, rfl, trivial⟩ ?_
          | refine Chk.mk ⟨rfl, rfl, rfl, rfl, trivial⟩ ?_
          | refine Chk.mk ⟨rfl, rfl, rfl, rfl, rfl, trivial⟩ ?_
          | refine Chk.mk ⟨rfl, rfl, rfl, rfl, rfl, rfl, trivial⟩ ?_
          | refine Chk.mk ⟨rfl, rfl, rfl, rfl, rfl, rfl, rfl, trivial⟩ ?_
          | refine Chk.mk ⟨rfl, rfl, rfl, rfl, rfl, rfl, rfl, rfl, trivial⟩ ?_
          | refine Chk.mk ⟨rfl, rfl, rfl, rfl, rfl, rfl, rfl, rfl, rfl, trivial⟩ ?_
          | refine Chk.mk ⟨rfl, rfl, rfl, rfl, rfl, rfl, rfl, rfl, rfl, rfl, trivial⟩ ?_
          | refine Chk.mk ⟨rfl, rfl, rfl, rfl, rfl, rfl, rfl, rfl, rfl, rfl, rfl, trivial⟩ ?_
          | refine Chk.mk ⟨rfl, rfl, rfl, rfl, rfl, rfl, rfl, rfl, rfl, rfl, rfl, rfl, trivial⟩ ?_)
        rw [hW]
        exact Done.mk ⟨_, Drop.flat (vk_lay2 ..).symm, rfl, _, chD2, ⟨bJ2, bM2, ob2, chJ2, gs2, rfl, hj2, hM2, hg2, hp2⟩, hD2, rfl⟩
      · rw [if_neg he] at hW
        obtain rfl : e3 = 0 := by omega
        rw [hbr rfl]
        repeat (first
          | refine LoadD.own 0 rfl _ rfl rfl ?_
          | refine LoadD.own 1 rfl _ rfl rfl ?_
          | refine LoadD.own 2 rfl _ rfl rfl ?_
          | refine LoadD.own 3 rfl _ rfl rfl ?_
          | refine LoadP.at 0 rfl _ rfl rfl ?_
          | refine LoadP.at 1 rfl _ rfl rfl ?_
          | refine LoadP.at 2 rfl _ rfl rfl ?_
          | refine LoadP.at 3 rfl _ rfl rfl ?_
          | refine StoreD.st 0 rfl rfl rfl ?_
          | refine StoreD.st 1 rfl rfl rfl ?_
          | refine StoreD.st 2 rfl rfl rfl ?_
          | refine StoreD.st 3 rfl rfl rfl ?_
          | refine CmpD.yes rfl ?_
          | refine CmpD.yes (by decide) ?_
          | refine CmpD.no (by decide) ?_
          | refine Chk.mk ⟨rfl, trivial⟩ ?_
          | refine Chk.mk ⟨rfl, rfl, trivial⟩ ?_
          | refine Chk.mk ⟨rfl, rfl, rfl, trivial⟩ ?_
          | refine Chk.mk ⟨rfl, rfl, rfl, rfl, trivial⟩ ?_
          | refine Chk.mk ⟨rfl, rfl, rfl, rfl, rfl, trivial⟩ ?_
          | refine Chk.mk ⟨rfl, rfl, rfl, rfl, rfl, rfl, trivial⟩ ?_
          | refine Chk.mk ⟨rfl, rfl, rfl, rfl, rfl, rfl, rfl, trivial⟩ ?_
          | refine Chk.mk ⟨rfl, rfl, rfl, rfl, rfl, rfl, rfl, rfl, trivial⟩ ?_
          | refine Chk.mk ⟨rfl, rfl, rfl, rfl, rfl, rfl, rfl, rfl, rfl, trivial⟩ ?_
          | refine Chk.mk ⟨rfl, rfl, rfl, rfl, rfl, rfl, rfl, rfl, rfl, rfl, trivial⟩ ?_
          | refine Chk.mk ⟨rfl, rfl, rfl, rfl, rfl, rfl, rfl, rfl, rfl, rfl, rfl, trivial⟩ ?_
          | refine Chk.mk ⟨rfl, rfl, rfl, rfl, rfl, rfl, rfl, rfl, rfl, rfl, rfl, rfl, trivial⟩ ?_)
        exact ⟨_, Drop.refl _, v3, d3, bJ2, bM2, ob2, chJ2, gs2, chD2, hW, ⟨hj2, hM2, hg2, hp2⟩, hD2, hcw.1, by omega, hcf.mono (by omega), hbr rfl, hJ3, rfl, rfl⟩
    · rw [if_neg c1] at hW
      exact ⟨_, Drop.refl _, v, d, bJ, bM, ob, chJ, gs, chD, hW, hA.mono hJ2, hD.mono hJ2, hw, hgr, hf.mono (by omega), hb, Imm.le_refl _, rfl, rfl⟩
  rintro vs gE3 J3 S3 hJ3 ⟨v2, d2, bJ2, bM2, ob2, chJ2, gs2, chD2, hW2, hA2, hD2, hw2, hgr2, hf2, hb2, hle3, rfl, rfl⟩
  refine CodeF.den ?_
  repeat (first
    | refine LoadD.own 0 rfl _ rfl rfl ?_
    | refine LoadD.own 1 rfl _ rfl rfl ?_
    | refine LoadD.own 2 rfl _ rfl rfl ?_
    | refine LoadD.own 3 rfl _ rfl rfl ?_
    | refine LoadP.at 0 rfl _ rfl rfl ?_
    | refine LoadP.at 1 rfl _ rfl rfl ?_
    | refine LoadP.at 2 rfl _ rfl rfl ?_
    | refine LoadP.at 3 rfl _ rfl rfl ?_
    | refine StoreD.st 0 rfl rfl rfl ?_
    | refine StoreD.st 1 rfl rfl rfl ?_
    | refine StoreD.st 2 rfl rfl rfl ?_
    | refine StoreD.st 3 rfl rfl rfl ?_
    | refine CmpD.yes rfl ?_
    | refine CmpD.yes (by decide) ?_
    | refine CmpD.no (by decide) ?_
    | refine Chk.mk ⟨rfl, trivial⟩ ?_
    | refine Chk.mk ⟨rfl, rfl, trivial⟩ ?_
    | refine Chk.mk ⟨rfl, rfl, rfl, trivial⟩ ?_
    | refine Chk.mk ⟨rfl, rfl, rfl, rfl, trivial⟩ ?_
    | refine Chk.mk ⟨rfl, rfl, rfl, rfl, rfl, trivial⟩ ?_
    | refine Chk.mk ⟨rfl, rfl, rfl, rfl, rfl, rfl, trivial⟩ ?_
    | refine Chk.mk ⟨rfl, rfl, rfl, rfl, rfl, rfl, rfl, trivial⟩ ?_
    | refine Chk.mk ⟨rfl, rfl, rfl, rfl, rfl, rfl, rfl, rfl, trivial⟩ ?_
    | refine Chk.mk ⟨rfl, rfl, rfl, rfl, rfl, rfl, rfl, rfl, rfl, trivial⟩ ?_
    | refine Chk.mk ⟨rfl, rfl, rfl, rfl, rfl, rfl, rfl, rfl, rfl, rfl, trivial⟩ ?_
    | refine Chk.mk ⟨rfl, rfl, rfl, rfl, rfl, rfl, rfl, rfl, rfl, rfl, rfl, trivial⟩ ?_
    | refine Chk.mk ⟨rfl, rfl, rfl, rfl, rfl, rfl, rfl, rfl, rfl, rfl, rfl, rfl, trivial⟩ ?_)
  rw [hn]
  refine Tri.frame (jk_Append hA2.j hw2 hD2 (hf2.mono (by omega)) (by omega) aL capL ls (hi.mono (Imm.le_trans hJ2 hle3)) (by omega) false) [2, 3] rfl rfl ?_
  unfold VSt.app at hW2
  have hlay : (v2.j.appendB d2 (ls.map Img.pr) false).1.lay = v2.j.lay := append_lay _ _ _ _
  generalize v2.j.appendB d2 (ls.map Img.pr) false = ap at *
  obtain ⟨j4, d4, n4, e4⟩ := ap
  dsimp only at hW2 hlay ⊢
  rintro r J4 A' hJ4 ⟨rfl, chJ4, chD4, hj4, hD4, rfl⟩
  refine ⟨Nat.le_refl _, ?_⟩
  repeat (first
    | refine LoadD.own 0 rfl _ rfl rfl ?_
    | refine LoadD.own 1 rfl _ rfl rfl ?_
    | refine LoadD.own 2 rfl _ rfl rfl ?_
    | refine LoadD.own 3 rfl _ rfl rfl ?_
    | refine LoadP.at 0 rfl _ rfl rfl ?_
    | refine LoadP.at 1 rfl _ rfl rfl ?_
    | refine LoadP.at 2 rfl _ rfl rfl ?_
    | refine LoadP.at 3 rfl _ rfl rfl ?_
    | refine StoreD.st 0 rfl rfl rfl ?_
    | refine StoreD.st 1 rfl rfl rfl ?_
    | refine StoreD.st 2 rfl rfl rfl ?_
    | refine StoreD.st 3 rfl rfl rfl ?_
    | refine CmpD.yes rfl ?_
    | refine CmpD.yes (by decide) ?_
    | refine CmpD.no (by decide) ?_
    | refine Chk.mk ⟨rfl, trivial⟩ ?_
    | refine Chk.mk ⟨rfl, rfl, trivial⟩ ?_
    | refine Chk.mk ⟨rfl, rfl, rfl, trivial⟩ ?_
    | refine Chk.mk ⟨rfl, rfl, rfl, rfl, trivial⟩ ?_
    | refine Chk.mk ⟨rfl, rfl, rfl, rfl, rfl, trivial⟩ ?_
    | refine Chk.mk ⟨rfl, rfl, rfl, rfl, rfl, rfl, trivial⟩ ?_
    | refine Chk.mk ⟨rfl, rfl, rfl, rfl, rfl, rfl, rfl, trivial⟩ ?_
    | refine Chk.mk ⟨rfl, rfl, rfl, rfl, rfl, rfl, rfl, rfl, trivial⟩ ?_
    | refine Chk.mk ⟨rfl, rfl, rfl, rfl, rfl, rfl, rfl, rfl, rfl, trivial⟩ ?_
    | refine Chk.mk ⟨rfl, rfl, rfl, rfl, rfl, rfl, rfl, rfl, rfl, rfl, trivial⟩ ?_
    | refine Chk.mk ⟨rfl, rfl, rfl, rfl, rfl, rfl, rfl, rfl, rfl, rfl, rfl, trivial⟩ ?_
    | refine Chk.mk ⟨rfl, rfl, rfl, rfl, rfl, rfl, rfl, rfl, rfl, rfl, rfl, rfl, trivial⟩ ?_)
  refine Tri.frame1 0 rfl (v_did bV bD bJ2 bM2 v2.j.lay v2.epoch v2.slot false J4 e4) ?_
  rintro r _ A' hJ5 ⟨rfl, rfl, rfl⟩
  refine ⟨_, rfl, ?_⟩
  have hA4 := hA2.mono hJ4
  by_cases he : e4 ≠ 0
  · rw [if_pos he] at hW2
    refine CmpD.no he ?_
    repeat (first
      | refine LoadD.own 0 rfl _ rfl rfl ?_
      | refine LoadD.own 1 rfl _ rfl rfl ?_
      | refine LoadD.own 2 rfl _ rfl rfl ?_
      | refine LoadD.own 3 rfl _ rfl rfl ?_
      | refine LoadP.at 0 rfl _ rfl rfl ?_
      | refine LoadP.at 1 rfl _ rfl rfl ?_
      | refine LoadP.at 2 rfl _ rfl rfl ?_
      | refine LoadP.at 3 rfl _ rfl rfl ?_
      | refine StoreD.st 0 rfl rfl rfl ?_
      | refine StoreD.st 1 rfl rfl rfl ?_
      | refine StoreD.st 2 rfl rfl rfl ?_
      | refine StoreD.st 3 rfl rfl rfl ?_
      | refine CmpD.yes rfl ?_
      | refine CmpD.yes (by decide) ?_
      | refine CmpD.no (by decide) ?_
      | refine Chk.mk ⟨rfl, trivial⟩ ?_
      | refine Chk.mk ⟨rfl, rfl, trivial⟩ ?_
      | refine Chk.mk ⟨rfl, rfl, rfl, trivial⟩ ?_
      | refine Chk.mk ⟨rfl, rfl, rfl, rfl, trivial⟩ ?_
      | refine Chk.mk ⟨rfl, rfl, rfl, rfl, rfl, trivial⟩ ?_
      | refine Chk.mk ⟨rfl, rfl, rfl, rfl, rfl, rfl, trivial⟩ ?_
      | refine Chk.mk ⟨rfl, rfl, rfl, rfl, rfl, rfl, rfl, trivial⟩ ?_
      | refine Chk.mk ⟨rfl, rfl, rfl, rfl, rfl, rfl, rfl, rfl, trivial⟩ ?_
      | refine Chk.mk ⟨rfl, rfl, rfl, rfl, rfl, rfl, rfl, rfl, rfl, trivial⟩ ?_
      | refine Chk.mk ⟨rfl, rfl, rfl, rfl, rfl, rfl, rfl, rfl, rfl, rfl, trivial⟩ ?_
      | refine Chk.mk ⟨rfl, rfl, rfl, rfl, rfl, rfl, rfl, rfl, rfl, rfl, rfl, trivial⟩ ?_
      | refine Chk.mk ⟨rfl, rfl, rfl, rfl, rfl, rfl, rfl, rfl, rfl, rfl, rfl, rfl, trivial⟩ ?_)
    rw [hW2, decide_eq_true he]
    exact Done.mk ⟨[vChunk bV bD bJ2 bM2 v2.j.lay v2.epoch v2.slot true ++ ((bM2, ob2) :: chJ4), chD4], Drop.flat (by simp), rfl, _, chD4, ⟨bJ2, bM2, ob2, chJ4, gs2, by rw [hlay], hj4, hA4.m, hA4.ok, hA4.pr⟩, hD4, rfl⟩
  rw [if_neg he] at hW2
  obtain rfl : e4 = 0 := by omega
  rw [show (false || decide ((0 : Int) ≠ 0)) = false from rfl]
  repeat (first
    | refine LoadD.own 0 rfl _ rfl rfl ?_
    | refine LoadD.own 1 rfl _ rfl rfl ?_
    | refine LoadD.own 2 rfl _ rfl rfl ?_
    | refine LoadD.own 3 rfl _ rfl rfl ?_
    | refine LoadP.at 0 rfl _ rfl rfl ?_
    | refine LoadP.at 1 rfl _ rfl rfl ?_
    | refine LoadP.at 2 rfl _ rfl rfl ?_
    | refine LoadP.at 3 rfl _ rfl rfl ?_
    | refine StoreD.st 0 rfl rfl rfl ?_
    | refine StoreD.st 1 rfl rfl rfl ?_
    | refine StoreD.st 2 rfl rfl rfl ?_
    | refine StoreD.st 3 rfl rfl rfl ?_
    | refine CmpD.yes rfl ?_
    | refine CmpD.yes (by decide) ?_
    | refine CmpD.no (by decide) ?_
    | refine Chk.mk ⟨rfl, trivial⟩ ?_
    | refine Chk.mk ⟨rfl, rfl, trivial⟩ ?_
    | refine Chk.mk ⟨rfl, rfl, rfl, trivial⟩ ?_
    | refine Chk.mk ⟨rfl, rfl, rfl, rfl, trivial⟩ ?_
    | refine Chk.mk ⟨rfl, rfl, rfl, rfl, rfl, trivial⟩ ?_
    | refine Chk.mk ⟨rfl, rfl, rfl, rfl, rfl, rfl, trivial⟩ ?_
    | refine Chk.mk ⟨rfl, rfl, rfl, rfl, rfl, rfl, rfl, trivial⟩ ?_
    | refine Chk.mk ⟨rfl, rfl, rfl, rfl, rfl, rfl, rfl, rfl, trivial⟩ ?_
    | refine Chk.mk ⟨rfl, rfl, rfl, rfl, rfl, rfl, rfl, rfl, rfl, trivial⟩ ?_
    | refine Chk.mk ⟨rfl, rfl, rfl, rfl, rfl, rfl, rfl, rfl, rfl, rfl, trivial⟩ ?_
    | refine Chk.mk ⟨rfl, rfl, rfl, rfl, rfl, rfl, rfl, rfl, rfl, rfl, rfl, trivial⟩ ?_
    | refine Chk.mk ⟨rfl, rfl, rfl, rfl, rfl, rfl, rfl, rfl, rfl, rfl, rfl, rfl, trivial⟩ ?_)
  rw [← hn]
  have hi4 := hi.mono (Imm.le_trans hJ2 (Imm.le_trans hle3 hJ4))
  have hlen4 : ∀ g ∈ ls, g.data.length = 4096 := fun g hg => (hR6.2.2.1 g.pr (List.mem_map_of_mem hg)).2.2
  refine CodeF.loopD [0, 12, 99, 100, 101] (fun vs J' S' => ∃ (k : Nat) (ob3 : Obj) (gs3 : List Img), k ≤ i ∧ MapR ob3 (gs3.map hdr) ∧ (∀ g ∈ gs3, ImgOk J' g) ∧ gs3.map Img.pr = ((ls.map Img.pr).take k).foldl pput v2.fresh ∧ J4.le J' ∧
      vs = [.pointer (some ⟨bV, 0, none⟩), .int .i64 n4, .slice aL i capL, .int .i64 i, .int .i64 k] ∧ S' = [vChunk bV bD bJ2 bM2 v2.j.lay v2.epoch v2.slot false, [(bM2, ob3)], chJ4, chD4])
    (fun vs _ _ => match vs with | [_, _, _, _, .int _ k] => ((i : Int) - k).toNat | _ => 0) ?_ ?_
  · exact ⟨_, Drop.refl _, 0, ob2, gs2, by omega, hA4.m, hA4.ok, hA4.pr, Imm.le_refl _, rfl, rfl⟩
  rintro vs gE4 J5 S5 hJ5 ⟨k, ob3, gs3, hk, hM3, hg3, hp3, hle5, rfl, rfl⟩
  refine CmpD.split (fun (c1 : (k : Int) < i) => ?_) (fun (c1 : ¬ (k : Int) < i) => ?_)
  · have hil : k < ls.length := by omega
    have htk : (ls.map Img.pr).take (k + 1) = (ls.map Img.pr).take k ++ [ls[k].pr] := by rw [List.take_add_one, List.getElem?_map, List.getElem?_eq_getElem hil]; rfl
    have hcell := imgCells_at hil
    have hgm := List.getElem_mem hil
    have hi5 := hi4.mono hle5
    rcases hi5.1.mem with q0 | ⟨bL, oL, cL, TL, fL, rfl, hIL, hcL⟩
    · omega
    have hsrc : (cL.drop (oL + k * 2)).take 2 = [.int .i64 ls[k].blk, .slice ls[k].a ls[k].len ls[k].cap] := by
      rw [take_part hcL (by omega), hcell]
    have hgk := hi5.2 _ hgm
    have hgd := hlen4 _ hgm
    generalize ls[k] = g at *
    have hgl : g.len = 4096 := by have := hgk.2.len; rw [bts_length] at this; omega
    refine Chk.mk (by omega) ?_
    refine LoadD.imm hIL [.int .i64 g.blk, .slice g.a g.len g.cap] hsrc rfl ?_
    conv => whnf
    intro b8
    refine StoreD.st 4 rfl rfl rfl ?_
    refine CodeF.sched [[], [0], [0, 1], [0, 1, 2], [], [4], [], [6], [6, 7], [0, 1, 2, 3, 4, 5, 6, 7, 8]] [0, 1, 2, 3, 4, 5, 6, 7, 8, 9] (by kernel_rfl) ?_
    repeat (first
      | refine LoadD.own 0 rfl _ rfl rfl ?_
      | refine LoadD.own 1 rfl _ rfl rfl ?_
      | refine LoadD.own 2 rfl _ rfl rfl ?_
      | refine LoadD.own 3 rfl _ rfl rfl ?_
      | refine LoadD.own 4 rfl _ rfl rfl ?_
      | refine LoadP.at 0 rfl _ rfl rfl ?_
      | refine LoadP.at 1 rfl _ rfl rfl ?_
      | refine LoadP.at 2 rfl _ rfl rfl ?_
      | refine LoadP.at 3 rfl _ rfl rfl ?_
      | refine LoadP.at 4 rfl _ rfl rfl ?_
      | refine StoreD.st 0 rfl rfl rfl ?_
      | refine StoreD.st 1 rfl rfl rfl ?_
      | refine StoreD.st 2 rfl rfl rfl ?_
      | refine StoreD.st 3 rfl rfl rfl ?_
      | refine StoreD.st 4 rfl rfl rfl ?_
      | refine CmpD.yes rfl ?_
      | refine CmpD.yes (by decide) ?_
      | refine CmpD.no (by decide) ?_
      | refine Chk.mk ⟨rfl, trivial⟩ ?_
      | refine Chk.mk ⟨rfl, rfl, trivial⟩ ?_
      | refine Chk.mk ⟨rfl, rfl, rfl, trivial⟩ ?_
      | refine Chk.mk ⟨rfl, rfl, rfl, rfl, trivial⟩ ?_
      | refine Chk.mk ⟨rfl, rfl, rfl, rfl, rfl, trivial⟩ ?_
      | refine Chk.mk ⟨rfl, rfl, rfl, rfl, rfl, rfl, trivial⟩ ?_
      | refine Chk.mk ⟨rfl, rfl, rfl, rfl, rfl, rfl, rfl, trivial⟩ ?_
      | refine Chk.mk ⟨rfl, rfl, rfl, rfl, rfl, rfl, rfl, rfl, trivial⟩ ?_
      | refine Chk.mk ⟨rfl, rfl, rfl, rfl, rfl, rfl, rfl, rfl, rfl, trivial⟩ ?_
      | refine Chk.mk ⟨rfl, rfl, rfl, rfl, rfl, rfl, rfl, rfl, rfl, rfl, trivial⟩ ?_
      | refine Chk.mk ⟨rfl, rfl, rfl, rfl, rfl, rfl, rfl, rfl, rfl, rfl, rfl, trivial⟩ ?_
      | refine Chk.mk ⟨rfl, rfl, rfl, rfl, rfl, rfl, rfl, rfl, rfl, rfl, rfl, rfl, trivial⟩ ?_)
    refine Tri.free (clone_fix J5 g.a g.len g.cap g.data hgk.2 (by omega)) ?_
    rintro r J6 _ hJ6 ⟨a', cap', rfl, hcl⟩
    repeat (first
      | refine LoadD.own 0 rfl _ rfl rfl ?_
      | refine LoadD.own 1 rfl _ rfl rfl ?_
      | refine LoadD.own 2 rfl _ rfl rfl ?_
      | refine LoadD.own 3 rfl _ rfl rfl ?_
      | refine LoadD.own 4 rfl _ rfl rfl ?_
      | refine LoadP.at 0 rfl _ rfl rfl ?_
      | refine LoadP.at 1 rfl _ rfl rfl ?_
      | refine LoadP.at 2 rfl _ rfl rfl ?_
      | refine LoadP.at 3 rfl _ rfl rfl ?_
      | refine LoadP.at 4 rfl _ rfl rfl ?_
      | refine StoreD.st 0 rfl rfl rfl ?_
      | refine StoreD.st 1 rfl rfl rfl ?_
      | refine StoreD.st 2 rfl rfl rfl ?_
      | refine StoreD.st 3 rfl rfl rfl ?_
      | refine StoreD.st 4 rfl rfl rfl ?_
      | refine CmpD.yes rfl ?_
      | refine CmpD.yes (by decide) ?_
      | refine CmpD.no (by decide) ?_
      | refine Chk.mk ⟨rfl, trivial⟩ ?_
      | refine Chk.mk ⟨rfl, rfl, trivial⟩ ?_
      | refine Chk.mk ⟨rfl, rfl, rfl, trivial⟩ ?_
      | refine Chk.mk ⟨rfl, rfl, rfl, rfl, trivial⟩ ?_
      | refine Chk.mk ⟨rfl, rfl, rfl, rfl, rfl, trivial⟩ ?_
      | refine Chk.mk ⟨rfl, rfl, rfl, rfl, rfl, rfl, trivial⟩ ?_
      | refine Chk.mk ⟨rfl, rfl, rfl, rfl, rfl, rfl, rfl, trivial⟩ ?_
      | refine Chk.mk ⟨rfl, rfl, rfl, rfl, rfl, rfl, rfl, rfl, trivial⟩ ?_
      | refine Chk.mk ⟨rfl, rfl, rfl, rfl, rfl, rfl, rfl, rfl, rfl, trivial⟩ ?_
      | refine Chk.mk ⟨rfl, rfl, rfl, rfl, rfl, rfl, rfl, rfl, rfl, rfl, trivial⟩ ?_
      | refine Chk.mk ⟨rfl, rfl, rfl, rfl, rfl, rfl, rfl, rfl, rfl, rfl, rfl, trivial⟩ ?_
      | refine Chk.mk ⟨rfl, rfl, rfl, rfl, rfl, rfl, rfl, rfl, rfl, rfl, rfl, rfl, trivial⟩ ?_)
    refine mapUpdateD tabOk rfl rfl rfl rfl rfl 1 rfl hM3 ?_
    intro ob4 hM4
    refine ToD.to (((k + 1 : Nat)) : Int) (by rw [wrap_i64 (by omega) (by omega)]; omega) ?_
    have hM5 : MapR ob4 ((iput gs3 ⟨g.blk, a', g.len, cap', g.data⟩).map hdr) := by rw [iput_hdr]; exact hM4
    refine ⟨_, Drop.pick [0, 1, 2, 3] _ rfl, ⟨k + 1, ob4, iput gs3 ⟨g.blk, a', g.len, cap', g.data⟩, by omega, hM5, ?_, ?_, Imm.le_trans hle5 hJ6, rfl, rfl⟩, ?_⟩
    · intro y hy
      rcases iput_mem hy with rfl | hy
      · exact ⟨hgk.1, hcl⟩
      · exact (hg3 y hy).mono hJ6
    · rw [iput_pr, hp3, htk, List.foldl_append]; rfl
    · show ((i : Int) - ((k + 1 : Nat) : Int)).toNat < ((i : Int) - (k : Int)).toNat; omega
  obtain rfl : k = i := by omega
  rw [List.take_of_length_le (by omega)] at hp3
  repeat (first
    | refine LoadD.own 0 rfl _ rfl rfl ?_
    | refine LoadD.own 1 rfl _ rfl rfl ?_
    | refine LoadD.own 2 rfl _ rfl rfl ?_
    | refine LoadD.own 3 rfl _ rfl rfl ?_
    | refine LoadP.at 0 rfl _ rfl rfl ?_
    | refine LoadP.at 1 rfl _ rfl rfl ?_
    | refine LoadP.at 2 rfl _ rfl rfl ?_
    | refine LoadP.at 3 rfl _ rfl rfl ?_
    | refine StoreD.st 0 rfl rfl rfl ?_
    | refine StoreD.st 1 rfl rfl rfl ?_
    | refine StoreD.st 2 rfl rfl rfl ?_
    | refine StoreD.st 3 rfl rfl rfl ?_
    | refine CmpD.yes rfl ?_
    | refine CmpD.yes (by decide) ?_
    | refine CmpD.no (by decide) ?_
    | refine Chk.mk ⟨rfl, trivial⟩ ?_
    | refine Chk.mk ⟨rfl, rfl, trivial⟩ ?_
    | refine Chk.mk ⟨rfl, rfl, rfl, trivial⟩ ?_
    | refine Chk.mk ⟨rfl, rfl, rfl, rfl, trivial⟩ ?_
    | refine Chk.mk ⟨rfl, rfl, rfl, rfl, rfl, trivial⟩ ?_
    | refine Chk.mk ⟨rfl, rfl, rfl, rfl, rfl, rfl, trivial⟩ ?_
    | refine Chk.mk ⟨rfl, rfl, rfl, rfl, rfl, rfl, rfl, trivial⟩ ?_
    | refine Chk.mk ⟨rfl, rfl, rfl, rfl, rfl, rfl, rfl, rfl, trivial⟩ ?_
    | refine Chk.mk ⟨rfl, rfl, rfl, rfl, rfl, rfl, rfl, rfl, rfl, trivial⟩ ?_
    | refine Chk.mk ⟨rfl, rfl, rfl, rfl, rfl, rfl, rfl, rfl, rfl, rfl, trivial⟩ ?_
    | refine Chk.mk ⟨rfl, rfl, rfl, rfl, rfl, rfl, rfl, rfl, rfl, rfl, rfl, trivial⟩ ?_
    | refine Chk.mk ⟨rfl, rfl, rfl, rfl, rfl, rfl, rfl, rfl, rfl, rfl, rfl, rfl, trivial⟩ ?_)
  rw [hW2]
  exact Done.mk ⟨[vChunk bV bD bJ2 bM2 v2.j.lay v2.epoch v2.slot false ++ ((bM2, ob3) :: chJ4), chD4], Drop.flat (by simp), rfl, _, chD4, ⟨bJ2, bM2, ob3, chJ4, gs3, by rw [hlay, hb2], hj4, hM3, hg3, hp3⟩, hD4.mono hle5, rfl⟩
end Go.Proofs.YtegdcjnjnoeinaaGreat
namespace Go.Proofs.YtegdcjnjnoeinaaGreat
open Go.RowKit Go.Sl
set_option maxRecDepth 20000

theorem DSt.flush_calm {d : DSt} (h : d.Calm) : d.flush = ({ d with safe := d.now, writes := [] }, 0) := by
  unfold DSt.flush
  rw [DSt.stop_calm h]
  simp
/-- noughts over noughts -/
theorem blank_calm : ∀ (n k : Nat) (d : DSt), d.Calm → k + n ≤ d.now.length → (∀ i, k ≤ i → i < k + n → d.now[i]? = some noughts) → ∃ ws, blankP n k d = ({ d with writes := ws, count := d.count + n }, 0)
  | 0, k, d, _, _, _ => ⟨d.writes, by rw [blankP]; simp⟩
  | n + 1, k, d, hc, hl, hz => by
    have hw := DSt.write_calm hc (n := (k : Int)) (b := noughts) (by omega) noughts_length
    have hset : d.now.set k noughts = d.now := by
      apply List.ext_getElem?
      intro i
      by_cases hi : k = i
      · subst hi; rw [List.getElem?_set_self (by omega), hz k (by omega) (by omega)]
      · rw [List.getElem?_set_ne hi]
    have hput : d.put (k : Int) noughts = { d with writes := d.writes ++ [((k : Int), noughts)], count := d.count + 1 } := by
      show ({ d with now := d.now.set (k : Int).toNat noughts, writes := _, count := _ } : DSt) = _
      rw [Int.toNat_natCast, hset]
    obtain ⟨ws, ih⟩ := blank_calm n (k + 1) { d with writes := d.writes ++ [((k : Int), noughts)], count := d.count + 1 } hc (by show k + 1 + n ≤ d.now.length; omega) (fun i h1 h2 => hz i (by omega) (by omega))
    refine ⟨ws, ?_⟩
    rw [blankP, hw, if_neg (by simp)]
    show blankP n (k + 1) (d.put (k : Int) noughts) = _
    rw [hput, ih]
    show (({ d with writes := ws, count := d.count + 1 + n } : DSt), (0 : Int)) = _
    congr 2
    push_cast
    omega
/-- a disk of 64 blocks: two superblocks, and noughts -/
def zL (a b : Dat) : List Dat := a :: b :: List.replicate 62 noughts
def dz (a b : Dat) (c : Int) : DSt := ⟨zL a b, zL a b, [], c, false, ⟨false, 0⟩, ⟨false, 0⟩⟩
theorem zL_length (a b : Dat) : (zL a b).length = 64 := by simp [zL]
theorem dz_calm (a b : Dat) (c : Int) : (dz a b c).Calm := ⟨rfl, rfl, rfl⟩
theorem zL_get (a b : Dat) (i : Nat) (h : 2 ≤ i) (h2 : i < 64) : (zL a b)[i]? = some noughts := by
  obtain ⟨j, rfl⟩ : ∃ j, i = j + 2 := ⟨i - 2, by omega⟩
  show (List.replicate 62 noughts)[j]? = _
  rw [List.getElem?_replicate, if_pos (by omega)]
theorem dz_wf {a b : Dat} (ha : a.length = 4096) (hb : b.length = 4096) (c : Int) : (dz a b c).Wf := by
  have hm : ∀ x ∈ zL a b, x.length = 4096 := by
    intro x hx
    rcases List.mem_cons.1 hx with rfl | hx
    · exact ha
    rcases List.mem_cons.1 hx with rfl | hx
    · exact hb
    rw [(List.mem_replicate.1 hx).2]; exact noughts_length
  exact ⟨rfl, by show 1 ≤ (zL a b).length ∧ (zL a b).length ≤ 512; rw [zL_length]; omega, hm, hm, fun w hw => (List.not_mem_nil hw).elim, fun h => (Bool.false_ne_true h).elim, fun h => (Bool.false_ne_true h).elim⟩
theorem dz_few (a b : Dat) (c : Nat) : (dz a b c).Few c := ⟨Nat.zero_le _, by show (0 : Int) ≤ c; omega, by show (c : Int) ≤ c; omega⟩
theorem format_new : formatP (DSt.of (List.replicate 64 noughts)) = (dz (supL ⟨64, 1, 1, 0⟩) noughts 23, 0) := by
  have e0 : DSt.of (List.replicate 64 noughts) = dz noughts noughts 0 := rfl
  have hc := dz_calm noughts noughts 0
  have hl : (dz noughts noughts 0).now.length = 64 := zL_length _ _
  have hall : ∀ i, 1 ≤ i → i < 1 + 22 → (dz noughts noughts 0).now[i]? = some noughts := by
    intro i h1 h2
    by_cases h : i = 1
    · subst h; rfl
    · exact zL_get _ _ i (by omega) (by omega)
  rw [e0]
  generalize hd : dz noughts noughts 0 = d0 at *
  obtain ⟨ws, hb⟩ := blank_calm 22 1 d0 hc (by omega) hall
  unfold formatP
  rw [if_neg (by omega), hl, show (layOf ((64 : Nat) : Int)).d.toNat - 1 = 22 from by decide]
  unfold fmtS
  rw [hb]
  dsimp only
  have hc1 : ({ d0 with writes := ws, count := d0.count + (22 : Nat) } : DSt).Calm := hc
  rw [if_neg (by simp), DSt.flush_calm hc1]
  dsimp only
  rw [if_neg (by simp)]
  have hc2 : ({ d0 with safe := d0.now, writes := [], count := d0.count + (22 : Nat) } : DSt).Calm := hc
  rw [DSt.write_calm (d := { d0 with safe := d0.now, writes := [], count := d0.count + (22 : Nat) }) hc2 (n := 0) (b := supL ⟨(64 : Nat), 1, 1, 0⟩) (by show (0 : Int) ≤ 0 ∧ (0 : Int) < (d0.now.length : Nat); omega) (supL_length _)]
  dsimp only
  rw [if_neg (by simp), DSt.flush_calm (by exact hc)]
  subst hd
  rfl
theorem rb_dz (a b : Dat) (c : Int) (o : Nat) : rbP (dz a b c) 2 16 o = noughts := by
  unfold rbP
  show (zL a b).getD _ _ = _
  rw [List.getD_eq_getElem?_getD, zL_get a b _ (by omega) (by omega)]; rfl
theorem scan_dz (a b : Dat) (c : Int) (s : Sup) : scanL (dz a b c) s = [] := by
  rw [scanL64 (zL_length a b)]
  refine scan_stop ?_
  intro e q l h
  rw [grpP_none (by rw [rb_dz]; exact hd_noughts)] at h
  cases h
theorem do_empty {d : DSt} (hc : d.Calm) (_hw : d.writes = [] ∧ d.safe = d.now) {s : Sup} (hR : RightS s) (slot : Nat) (hs : slot ≤ 1) (hl : 2 ≤ d.now.length) : doP d [] s slot = ({ d with safe := d.now.set slot (supL s), now := d.now.set slot (supL s), writes := [], count := d.count + 1 }, 0) := by
  have hd : DoOk d [] := by intro g hg; simp at hg
  unfold doP
  rw [if_neg (by rintro (h | h | h | h); exact h hR; omega; omega; exact h hd)]
  rw [show wrImgs [] d = (d, 0) from rfl]
  dsimp only
  rw [if_neg (by simp), DSt.flush_calm hc]
  dsimp only
  rw [if_neg (by simp)]
  unfold lastWr
  have hc2 : ({ d with safe := d.now, writes := [] } : DSt).Calm := hc
  rw [DSt.write_calm hc2 (n := (slot : Int)) (b := supL s) (by show (0 : Int) ≤ slot ∧ (slot : Int) < d.now.length; omega) (supL_length _)]
  dsimp only
  rw [if_neg (by simp), DSt.flush_calm (by exact hc)]
  show (({ d with safe := d.now.set (slot : Int).toNat (supL s), now := d.now.set (slot : Int).toNat (supL s), writes := [], count := d.count + 1 } : DSt), (0 : Int)) = _
  rw [Int.toNat_natCast]
/-- mounting a disk whose ring is empty -/
theorem mount_dz {a b : Dat} {c : Int} {s : Sup} {slot : Nat} (hch : chooseP (getS a) (getS b) = (s, (slot : Int), true)) (hR : RightS s) (hb : s.blocks = 64) (ht : s.tail < 16) (he : s.epoch < 8388608) (hs : slot ≤ 1) :
    mountP (dz a b c) = (dz (if slot = 1 then supL ⟨64, s.epoch + 1, s.seq, s.tail⟩ else a) (if slot = 1 then b else supL ⟨64, s.epoch + 1, s.seq, s.tail⟩) (c + 1), 0, some ⟨openJ 64 (s.epoch + 1) s.seq s.tail, s.epoch + 1, slot, [], false⟩) := by
  obtain ⟨sb, se, sq, st⟩ := s
  obtain ⟨r1, r2, r3, r4, r5, r6, r7, r8⟩ := hR
  dsimp only at *
  subst hb
  have hl : (dz a b c).now.length = 64 := zL_length _ _
  have hf : foundP (dz a b c) = (⟨64, se, sq, st⟩, (slot : Int), 0) := by
    unfold foundP
    rw [if_neg (by show ¬ false = true; simp), hl]
    have e1 : (dz a b c).now.getD 0 [] = a := rfl
    have e2 : (dz a b c).now.getD 1 [] = b := rfl
    rw [e1, e2, hch]
    dsimp only
    rw [if_neg (by rintro (h | h | h | h); exact Bool.noConfusion h; exact h rfl; rw [show layL ((64 : Nat) : Int) = 16 from by decide] at h; omega; omega)]
  unfold mountP
  rw [if_neg (by omega), hf]
  dsimp only
  rw [if_neg (by simp), scan_dz]
  unfold mountL
  have h16 : (layL (((dz a b c).now.length : Nat) : Int)).toNat = 16 := by rw [hl]; decide
  rw [h16]
  have hpl : ((placeP 16 st.toNat [] : Nat) : Int) = st := by
    unfold placeP
    simp only [List.map_nil, List.sum_nil, Nat.add_zero]
    omega
  rw [if_neg (by rintro (h | h); exact h (by intro g hg; simp [allG] at hg); simp at h; omega)]
  rw [hpl]
  have hdo := do_empty (d := dz a b c) (dz_calm a b c) ⟨rfl, rfl⟩ (s := ⟨64, se + 1, sq + (([] : List G3).length : Nat), st⟩) ⟨by show (64 : Int) ≤ 64; decide, by show (64 : Int) ≤ 512; decide, by show 1 ≤ se + 1; omega, by show se + 1 ≤ 8388608; omega, by show 1 ≤ sq + ((0 : Nat) : Int); omega, by show sq + ((0 : Nat) : Int) ≤ 549755813888; omega, r7, r8⟩ (1 - slot) (by omega) (by omega)
  have hsl : ((1 - slot : Nat) : Int) = 1 - (slot : Int) := by omega
  rw [hsl] at hdo
  have hho : homeP (allG []) = [] := by
    have := homeP_len (allG [])
    simp [allG] at this
    exact this
  rw [hho, hdo]
  dsimp only
  rw [if_neg (by simp), hl]
  have hsq : sq + (([] : List G3).length : Int) = sq := by simp
  rw [hsq]
  rcases Nat.eq_or_lt_of_le hs with h | h
  · subst h
    simp only [if_true]
    rfl
  · obtain rfl : slot = 0 := by omega
    rw [if_neg (by decide), if_neg (by decide)]
    rfl
theorem crash_none (sec : Nat) : ∀ (ws : List (Int × Dat)) (i : Nat) (s : List Dat), crashK [] (-1) sec i ws s = s
  | [], _, _ => rfl
  | w :: ws, i, s => by
    rw [crashK, crash_none sec ws]
    unfold crash1
    rw [if_neg (by omega), if_neg (by simp)]
end Go.Proofs.YtegdcjnjnoeinaaGreat
namespace Go.Proofs.YtegdcjnjnoeinaaGreat
open Go.RowKit Go.Sl
set_option maxRecDepth 20000
theorem images11_of (aL : Option Addr) (capL : Nat) (z : List Int) (hz : z.length ≤ 40) (hz2 : ∀ x ∈ z, In64 x) (k : Int) (hk : In64 k) (I : Imm) (hL : Rds I aL z.length (ints z)) :
    Tri Tryz.prog 15 #[.slice aL z.length capL, .int .i64 k] I [] fun v J S' => ∃ a cap ch gs, v = .slice a z.length cap ∧ OwnC ch 2 a z.length cap (imgCells gs) ∧ gs.map Img.pr = imgsP z k 0 ∧ (∀ g ∈ gs, ImgOk J g ∧ g.len = 4096) ∧ S' = [ch] := by
  refine Tri.of (args := [.slice aL z.length capL, .int .i64 k]) tabOk Tryz.func15 rfl (by kernel_rfl) (by kernel_rfl) ?_
  refine CodeF.loopD [0, 1, 5, 6] (fun vs J S' => ∃ (i : Nat) (kk : Int) (a : Option Addr) (cap : Nat) (ch : List Blk) (gs : List Img), i ≤ z.length ∧ In64 kk ∧ OwnC ch 2 a i cap (imgCells gs) ∧ gs.length = i ∧ gs.map Img.pr ++ imgsP (z.drop i) kk i = imgsP z k 0 ∧ (∀ g ∈ gs, ImgOk J g ∧ g.len = 4096) ∧ I.le J ∧
      vs = [.slice aL z.length capL, .int .i64 kk, .slice a i cap, .int .i64 i] ∧ S' = [ch])
    (fun vs _ _ => match vs with | [_, _, _, .int _ i] => ((z.length : Int) - i).toNat | _ => 0) ?_ ?_
  · exact ⟨_, Drop.and (Drop.refl _), 0, k, none, 0, [], [], by omega, hk, OwnC.nil _ _, rfl, rfl, by simp, I.le_refl, rfl, rfl⟩
  rintro vs g J S' hJ ⟨i, kk, a, cap, ch, gs, hi, hkk, hown, hgs, hbl, hok, hle, rfl, rfl⟩
  refine CmpD.split (fun c1 => ?_) (fun c1 => ?_)
  · refine CmpD.yes (by omega) ?_
    have hil : i < z.length := by omega
    rcases hL.mem with q0 | ⟨bL, oL, cL, TL, fL, rfl, hIL, hcL⟩
    · omega
    refine CodeF.sched [[], [], [], [1, 2], [1, 2, 3], [], [5], [1, 2, 3, 4, 5, 6], [1, 2, 3, 4, 5, 6, 7], [0, 1, 2, 3, 4, 5, 6, 7, 8], [0, 1, 2, 3, 4, 5, 6, 7, 8, 9]] [0, 1, 2, 3, 4, 5, 6, 7, 8, 9, 10] (by kernel_rfl) ?_
    refine Chk.mk (by omega) ?_
    refine LoadP.imm [.int .i64 z[i]] ⟨cL, TL, fL, .imm (hle _ _ hIL), take_get hcL (ints_get (List.getElem?_eq_getElem hil)), rfl⟩ ?_
    refine Tri.free (made kk 4096 (by omega) J) ?_
    have hdr : z.drop i = z[i] :: z.drop (i + 1) := List.drop_eq_getElem_cons hil
    rw [hdr, imgsP] at hbl
    rintro v J1 _ hJ1 ⟨aD, rfl, hrD⟩
    conv => whnf
    intro bN
    refine appendD tabOk rfl rfl rfl rfl rfl rfl rfl 0 rfl hown (SrcOk.slice (n := 1) (news := imgCells [⟨z[i], aD, 4096, 4096, madeL kk 4096⟩]) tabOk rfl ((OwnC.whole (len := 1) (size := 2) rfl).slC 1 rfl) (by intro v hv; simp [imgCells] at hv; rcases hv with rfl | rfl <;> rfl)) rfl (by show (i + 1) * 32 ≤ _; omega) (by omega) ?_
    intro a2 cap2 ch2 hown2
    refine Chk.mk (by omega) ?_
    have hk2 := tdiv2_range hkk
    refine ToD.i64 (by omega) (by omega) ?_
    refine ToD.i64 (by omega) (by omega) ?_
    refine ToD.i64 (by omega) (by omega) ?_
    refine ⟨_, Drop.pick [0] _ rfl, ⟨i + 1, _, a2, cap2, ch2, gs ++ [⟨z[i], aD, 4096, 4096, madeL kk 4096⟩], by omega, ?_, by rw [imgCells_snoc]; exact hown2, ?_, ?_, ?_, Imm.le_trans hle hJ1, rfl, rfl⟩, ?_⟩
    · unfold In64; omega
    · simp [hgs]
    · rw [List.map_append, List.append_assoc]; exact hbl
    · intro g hg
      rcases List.mem_append.1 hg with hg | hg
      · exact ⟨(hok g hg).1.mono hJ1, (hok g hg).2⟩
      · simp only [List.mem_singleton] at hg
        subst hg
        exact ⟨⟨hz2 _ (List.getElem_mem hil), hrD⟩, rfl⟩
    · show ((z.length : Int) - ((i : Int) + 1)).toNat < ((z.length : Int) - (i : Int)).toNat
      omega
  · obtain rfl : i = z.length := by omega
    refine Done.mk ⟨a, cap, ch, gs, rfl, hown, by rw [← hbl, List.drop_length, imgsP, List.append_nil], hok, rfl⟩
theorem images11_fix (aL : Option Addr) (capL : Nat) (z : List Int) (hz : z.length ≤ 40) (hz2 : ∀ x ∈ z, In64 x) (k : Int) (hk : In64 k) (I : Imm) (hL : Rds I aL z.length (ints z)) :
    Tri Tryz.prog 15 #[.slice aL z.length capL, .int .i64 k] I [] fun v J _ => ∃ a cap gs, v = .slice a gs.length cap ∧ ImgsOk J a gs ∧ gs.map Img.pr = imgsP z k 0 := by
  refine Tri.fixed (images11_of aL capL z hz hz2 k hk I hL) ?_
  rintro v J S' hJ ⟨a, cap, ch, gs, rfl, hown, hgs, hok, rfl⟩
  have hl : gs.length = z.length := by have := congrArg List.length hgs; rw [List.length_map, imgsP_length] at this; exact this
  refine ⟨0, ch, rfl, fun J' hJ' hm => ⟨a, cap, gs, by rw [hl], ⟨?_, fun g hg => (hok g hg).1.mono hJ'⟩, hgs⟩⟩
  rw [hl]
  exact Rds.of_ownS hown hm
end Go.Proofs.YtegdcjnjnoeinaaGreat
namespace Go.Proofs.YtegdcjnjnoeinaaGreat
open Go.RowKit Go.Sl
set_option maxRecDepth 20000

def sE (ep : Int) : Sup := ⟨64, ep, 1, 0⟩
theorem sE_right {ep : Int} (h : 1 ≤ ep ∧ ep ≤ 8388608) : RightS (sE ep) := ⟨by show (64 : Int) ≤ 64; decide, by show (64 : Int) ≤ 512; decide, h.1, h.2, by show (1 : Int) ≤ 1; decide, by show (1 : Int) ≤ 549755813888; decide, by show (0 : Int) ≤ 0; decide, by show (0 : Int) ≤ 511; decide⟩
theorem getS_noughts : getS noughts = none := by
  cases h : getS noughts with
  | none => rfl
  | some s =>
    have h2 := (getS_some.1 h).2
    have h3 := congrArg (·.head?) h2
    simp [supL, sup44, sup40, magicL, noughts] at h3
def v0 : VSt := ⟨openJ 64 2 1 0, 2, 0, [], false⟩
def dV : DSt := dz (supL (sE 1)) (supL (sE 2)) 24
theorem mount_first : mountP (dz (supL (sE 1)) noughts 23) = (dV, 0, some v0) := by
  have h := mount_dz (a := supL (sE 1)) (b := noughts) (c := 23) (s := sE 1) (slot := 0) (by rw [get_supL (sE_right (by omega)), getS_noughts]; rfl) (sE_right (by omega)) rfl (by show (0 : Int) < 16; decide) (by show (1 : Int) < 8388608; decide) (by omega)
  rw [if_neg (by decide), if_neg (by decide)] at h
  exact h
theorem mount_again (c : Int) : mountP (dz (supL (sE 1)) (supL (sE 2)) c) = (dz (supL (sE 3)) (supL (sE 2)) (c + 1), 0, some ⟨openJ 64 3 1 0, 3, 1, [], false⟩) := by
  have h := mount_dz (a := supL (sE 1)) (b := supL (sE 2)) (c := c) (s := sE 2) (slot := 1) (by rw [get_supL (sE_right (by omega)), get_supL (sE_right (by omega))]; rfl) (sE_right (by omega)) rfl (by show (0 : Int) < 16; decide) (by show (2 : Int) < 8388608; decide) (by omega)
  rw [if_pos rfl, if_pos rfl] at h
  exact h
theorem v0_wf : v0.j.Wf := openJ_wf 64 (by omega) ⟨rfl, by omega, by omega, by omega, by omega, by omega, by rw [layL_64']; omega⟩
theorem law_fresh (I : Imm) : Tri Tryz.prog 14 #[] I [] fun r J S' => ∃ bD bV chD chV, r = .tuple #[.pointer (some ⟨bD, 0, none⟩), .pointer (some ⟨bV, 0, none⟩), .bool true] ∧ Dk J bD dV chD ∧ Vk J bV bD v0 chV ∧ S' = [chV, chD] := by
  refine Tri.drop ?_ (fun _ _ _ _ h => h)
  refine Tri.of (args := []) tabOk Tryz.func14 rfl (by kernel_rfl) (by kernel_rfl) ?_
  refine Tri.frameX (dk_New I 64 (by omega)) [] rfl rfl ?_
  rintro r J1 A' hJ1 ⟨bD, chD, rfl, hD, rfl⟩
  repeat (first
    | refine LoadD.own 0 rfl _ rfl rfl ?_
    | refine LoadD.own 1 rfl _ rfl rfl ?_
    | refine LoadP.at 0 rfl _ rfl rfl ?_
    | refine LoadP.at 1 rfl _ rfl rfl ?_
    | refine StoreD.st 0 rfl rfl rfl ?_
    | refine StoreD.st 1 rfl rfl rfl ?_
    | refine CmpD.yes rfl ?_
    | refine CmpD.yes (by decide) ?_
    | refine CmpD.no (by decide) ?_
    | refine Chk.mk ⟨rfl, trivial⟩ ?_
    | refine Chk.mk ⟨rfl, rfl, trivial⟩ ?_
    | refine Chk.mk ⟨rfl, rfl, rfl, trivial⟩ ?_
    | refine Chk.mk ⟨rfl, rfl, rfl, rfl, trivial⟩ ?_
    | refine Chk.mk ⟨rfl, rfl, rfl, rfl, rfl, trivial⟩ ?_
    | refine Chk.mk ⟨rfl, rfl, rfl, rfl, rfl, rfl, trivial⟩ ?_
    | refine Chk.mk ⟨rfl, rfl, rfl, rfl, rfl, rfl, rfl, trivial⟩ ?_
    | refine Chk.mk ⟨rfl, rfl, rfl, rfl, rfl, rfl, rfl, rfl, trivial⟩ ?_
    | refine Chk.mk ⟨rfl, rfl, rfl, rfl, rfl, rfl, rfl, rfl, rfl, trivial⟩ ?_
    | refine Chk.mk ⟨rfl, rfl, rfl, rfl, rfl, rfl, rfl, rfl, rfl, rfl, trivial⟩ ?_
    | refine Chk.mk ⟨rfl, rfl, rfl, rfl, rfl, rfl, rfl, rfl, rfl, rfl, rfl, trivial⟩ ?_
    | refine Chk.mk ⟨rfl, rfl, rfl, rfl, rfl, rfl, rfl, rfl, rfl, rfl, rfl, rfl, trivial⟩ ?_)
  refine Tri.frame1 0 rfl (vk_Format hD ((DSt.of_few _).mono (by omega))) ?_
  rw [format_new]
  rintro r J2 A' hJ2 ⟨rfl, chD2, hD2, rfl⟩
  refine ⟨_, rfl, ?_⟩
  repeat (first
    | refine LoadD.own 0 rfl _ rfl rfl ?_
    | refine LoadD.own 1 rfl _ rfl rfl ?_
    | refine LoadP.at 0 rfl _ rfl rfl ?_
    | refine LoadP.at 1 rfl _ rfl rfl ?_
    | refine StoreD.st 0 rfl rfl rfl ?_
    | refine StoreD.st 1 rfl rfl rfl ?_
    | refine CmpD.yes rfl ?_
    | refine CmpD.yes (by decide) ?_
    | refine CmpD.no (by decide) ?_
    | refine Chk.mk ⟨rfl, trivial⟩ ?_
    | refine Chk.mk ⟨rfl, rfl, trivial⟩ ?_
    | refine Chk.mk ⟨rfl, rfl, rfl, trivial⟩ ?_
    | refine Chk.mk ⟨rfl, rfl, rfl, rfl, trivial⟩ ?_
    | refine Chk.mk ⟨rfl, rfl, rfl, rfl, rfl, trivial⟩ ?_
    | refine Chk.mk ⟨rfl, rfl, rfl, rfl, rfl, rfl, trivial⟩ ?_
    | refine Chk.mk ⟨rfl, rfl, rfl, rfl, rfl, rfl, rfl, trivial⟩ ?_
    | refine Chk.mk ⟨rfl, rfl, rfl, rfl, rfl, rfl, rfl, rfl, trivial⟩ ?_
    | refine Chk.mk ⟨rfl, rfl, rfl, rfl, rfl, rfl, rfl, rfl, rfl, trivial⟩ ?_
    | refine Chk.mk ⟨rfl, rfl, rfl, rfl, rfl, rfl, rfl, rfl, rfl, rfl, trivial⟩ ?_
    | refine Chk.mk ⟨rfl, rfl, rfl, rfl, rfl, rfl, rfl, rfl, rfl, rfl, rfl, trivial⟩ ?_
    | refine Chk.mk ⟨rfl, rfl, rfl, rfl, rfl, rfl, rfl, rfl, rfl, rfl, rfl, rfl, trivial⟩ ?_)
  have hf : (dz (supL ⟨64, 1, 1, 0⟩) noughts 23).Few 700000 := (dz_few _ _ 23).mono (by omega)
  refine Tri.frameX (vk_Mount hD2 hf) [0] rfl rfl ?_
  rw [show mountP (dz (supL ⟨64, 1, 1, 0⟩) noughts 23) = (dV, 0, some v0) from mount_first]
  rintro r J3 A' hJ3 ⟨chD3, hD3, (⟨h, _⟩ | ⟨_, v, bV, chV, hv, rfl, hV, rfl⟩)⟩
  · exact absurd rfl h
  cases hv
  repeat (first
    | refine LoadD.own 0 rfl _ rfl rfl ?_
    | refine LoadD.own 1 rfl _ rfl rfl ?_
    | refine LoadD.own 2 rfl _ rfl rfl ?_
    | refine LoadP.at 0 rfl _ rfl rfl ?_
    | refine LoadP.at 1 rfl _ rfl rfl ?_
    | refine LoadP.at 2 rfl _ rfl rfl ?_
    | refine StoreD.st 0 rfl rfl rfl ?_
    | refine StoreD.st 1 rfl rfl rfl ?_
    | refine StoreD.st 2 rfl rfl rfl ?_
    | refine CmpD.yes rfl ?_
    | refine CmpD.yes (by decide) ?_
    | refine CmpD.no (by decide) ?_
    | refine Chk.mk ⟨rfl, trivial⟩ ?_
    | refine Chk.mk ⟨rfl, rfl, trivial⟩ ?_
    | refine Chk.mk ⟨rfl, rfl, rfl, trivial⟩ ?_
    | refine Chk.mk ⟨rfl, rfl, rfl, rfl, trivial⟩ ?_
    | refine Chk.mk ⟨rfl, rfl, rfl, rfl, rfl, trivial⟩ ?_
    | refine Chk.mk ⟨rfl, rfl, rfl, rfl, rfl, rfl, trivial⟩ ?_
    | refine Chk.mk ⟨rfl, rfl, rfl, rfl, rfl, rfl, rfl, trivial⟩ ?_
    | refine Chk.mk ⟨rfl, rfl, rfl, rfl, rfl, rfl, rfl, rfl, trivial⟩ ?_
    | refine Chk.mk ⟨rfl, rfl, rfl, rfl, rfl, rfl, rfl, rfl, rfl, trivial⟩ ?_
    | refine Chk.mk ⟨rfl, rfl, rfl, rfl, rfl, rfl, rfl, rfl, rfl, rfl, trivial⟩ ?_
    | refine Chk.mk ⟨rfl, rfl, rfl, rfl, rfl, rfl, rfl, rfl, rfl, rfl, rfl, trivial⟩ ?_
    | refine Chk.mk ⟨rfl, rfl, rfl, rfl, rfl, rfl, rfl, rfl, rfl, rfl, rfl, rfl, trivial⟩ ?_)
  exact Done.mk ⟨_, Drop.pick [2, 1] _ rfl, bD, bV, chD3, chV, rfl, hD3, hV, rfl⟩
theorem law_has {bV bD : Nat} {v : VSt} {ch : List Blk} {I : Imm} (h : Vk I bV bD v ch) {d : DSt} {chD : List Blk} (hD : Dk I bD d chD) (hfew : ∀ g ∈ v.fresh, g.2.length ≤ 1000000) (n : Int) (aB : Option Addr) (lB capB : Nat) (b : Dat) (hB : Rds I aB lB (bts b)) :
    Tri Tryz.prog 21 #[.pointer (some ⟨bV, 0, none⟩), .int .i64 n, .slice aB lB capB] I [ch, chD] fun r J S' => r = .bool (decide ((v.read d n).2 = 0 ∧ (v.read d n).1 = b)) ∧ I = J ∧ S' = [ch, chD] := by
  refine Tri.drop ?_ (fun _ _ _ _ h => h)
  refine Tri.of (args := [.pointer (some ⟨bV, 0, none⟩), .int .i64 n, .slice aB lB capB]) tabOk Tryz.func21 rfl (by kernel_rfl) (by kernel_rfl) ?_
  refine Tri.nf (vk_Read h hD hfew n) ?_
  generalize v.read d n = rd
  obtain ⟨x, e⟩ := rd
  dsimp only
  rintro r _ A' hJ ⟨a, cap, chB, rfl, hO, rfl, rfl⟩
  repeat (first
    | refine LoadD.own 0 rfl _ rfl rfl ?_
    | refine LoadD.own 1 rfl _ rfl rfl ?_
    | refine LoadD.own 2 rfl _ rfl rfl ?_
    | refine LoadP.at 0 rfl _ rfl rfl ?_
    | refine LoadP.at 1 rfl _ rfl rfl ?_
    | refine LoadP.at 2 rfl _ rfl rfl ?_
    | refine StoreD.st 0 rfl rfl rfl ?_
    | refine StoreD.st 1 rfl rfl rfl ?_
    | refine StoreD.st 2 rfl rfl rfl ?_
    | refine CmpD.yes rfl ?_
    | refine CmpD.yes (by decide) ?_
    | refine CmpD.no (by decide) ?_
    | refine Chk.mk ⟨rfl, trivial⟩ ?_
    | refine Chk.mk ⟨rfl, rfl, trivial⟩ ?_
    | refine Chk.mk ⟨rfl, rfl, rfl, trivial⟩ ?_
    | refine Chk.mk ⟨rfl, rfl, rfl, rfl, trivial⟩ ?_
    | refine Chk.mk ⟨rfl, rfl, rfl, rfl, rfl, trivial⟩ ?_
    | refine Chk.mk ⟨rfl, rfl, rfl, rfl, rfl, rfl, trivial⟩ ?_
    | refine Chk.mk ⟨rfl, rfl, rfl, rfl, rfl, rfl, rfl, trivial⟩ ?_
    | refine Chk.mk ⟨rfl, rfl, rfl, rfl, rfl, rfl, rfl, rfl, trivial⟩ ?_
    | refine Chk.mk ⟨rfl, rfl, rfl, rfl, rfl, rfl, rfl, rfl, rfl, trivial⟩ ?_
    | refine Chk.mk ⟨rfl, rfl, rfl, rfl, rfl, rfl, rfl, rfl, rfl, rfl, trivial⟩ ?_
    | refine Chk.mk ⟨rfl, rfl, rfl, rfl, rfl, rfl, rfl, rfl, rfl, rfl, rfl, trivial⟩ ?_
    | refine Chk.mk ⟨rfl, rfl, rfl, rfl, rfl, rfl, rfl, rfl, rfl, rfl, rfl, rfl, trivial⟩ ?_)
  refine CmpD.split (fun (c1 : e = 0) => ?_) (fun (c1 : ¬ e = 0) => ?_)
  · repeat (first
      | refine LoadD.own 0 rfl _ rfl rfl ?_
      | refine LoadD.own 1 rfl _ rfl rfl ?_
      | refine LoadD.own 2 rfl _ rfl rfl ?_
      | refine LoadP.at 0 rfl _ rfl rfl ?_
      | refine LoadP.at 1 rfl _ rfl rfl ?_
      | refine LoadP.at 2 rfl _ rfl rfl ?_
      | refine StoreD.st 0 rfl rfl rfl ?_
      | refine StoreD.st 1 rfl rfl rfl ?_
      | refine StoreD.st 2 rfl rfl rfl ?_
      | refine CmpD.yes rfl ?_
      | refine CmpD.yes (by decide) ?_
      | refine CmpD.no (by decide) ?_
      | refine Chk.mk ⟨rfl, trivial⟩ ?_
      | refine Chk.mk ⟨rfl, rfl, trivial⟩ ?_
      | refine Chk.mk ⟨rfl, rfl, rfl, trivial⟩ ?_
      | refine Chk.mk ⟨rfl, rfl, rfl, rfl, trivial⟩ ?_
      | refine Chk.mk ⟨rfl, rfl, rfl, rfl, rfl, trivial⟩ ?_
      | refine Chk.mk ⟨rfl, rfl, rfl, rfl, rfl, rfl, trivial⟩ ?_
      | refine Chk.mk ⟨rfl, rfl, rfl, rfl, rfl, rfl, rfl, trivial⟩ ?_
      | refine Chk.mk ⟨rfl, rfl, rfl, rfl, rfl, rfl, rfl, rfl, trivial⟩ ?_
      | refine Chk.mk ⟨rfl, rfl, rfl, rfl, rfl, rfl, rfl, rfl, rfl, trivial⟩ ?_
      | refine Chk.mk ⟨rfl, rfl, rfl, rfl, rfl, rfl, rfl, rfl, rfl, rfl, trivial⟩ ?_
      | refine Chk.mk ⟨rfl, rfl, rfl, rfl, rfl, rfl, rfl, rfl, rfl, rfl, rfl, trivial⟩ ?_
      | refine Chk.mk ⟨rfl, rfl, rfl, rfl, rfl, rfl, rfl, rfl, rfl, rfl, rfl, rfl, trivial⟩ ?_)
    refine Tri.mono (same_bytes (hO.slC1 2 rfl) hB.slC) ?_
    rintro r _ _ hJ ⟨rfl, rfl, rfl⟩
    by_cases hx : x = b
    · rw [decide_eq_true hx, decide_eq_true ⟨c1, hx⟩]
      exact Done.mk ⟨_, Drop.pick [0, 1] _ rfl, rfl, rfl, rfl⟩
    · rw [decide_eq_false hx, decide_eq_false (fun h => hx h.2)]
      exact Done.mk ⟨_, Drop.pick [0, 1] _ rfl, rfl, rfl, rfl⟩
  · rw [decide_eq_false (fun h => c1 h.1)]
    repeat (first
      | refine LoadD.own 0 rfl _ rfl rfl ?_
      | refine LoadD.own 1 rfl _ rfl rfl ?_
      | refine LoadD.own 2 rfl _ rfl rfl ?_
      | refine LoadP.at 0 rfl _ rfl rfl ?_
      | refine LoadP.at 1 rfl _ rfl rfl ?_
      | refine LoadP.at 2 rfl _ rfl rfl ?_
      | refine StoreD.st 0 rfl rfl rfl ?_
      | refine StoreD.st 1 rfl rfl rfl ?_
      | refine StoreD.st 2 rfl rfl rfl ?_
      | refine CmpD.yes rfl ?_
      | refine CmpD.yes (by decide) ?_
      | refine CmpD.no (by decide) ?_
      | refine Chk.mk ⟨rfl, trivial⟩ ?_
      | refine Chk.mk ⟨rfl, rfl, trivial⟩ ?_
      | refine Chk.mk ⟨rfl, rfl, rfl, trivial⟩ ?_
      | refine Chk.mk ⟨rfl, rfl, rfl, rfl, trivial⟩ ?_
      | refine Chk.mk ⟨rfl, rfl, rfl, rfl, rfl, trivial⟩ ?_
      | refine Chk.mk ⟨rfl, rfl, rfl, rfl, rfl, rfl, trivial⟩ ?_
      | refine Chk.mk ⟨rfl, rfl, rfl, rfl, rfl, rfl, rfl, trivial⟩ ?_
      | refine Chk.mk ⟨rfl, rfl, rfl, rfl, rfl, rfl, rfl, rfl, trivial⟩ ?_
      | refine Chk.mk ⟨rfl, rfl, rfl, rfl, rfl, rfl, rfl, rfl, rfl, trivial⟩ ?_
      | refine Chk.mk ⟨rfl, rfl, rfl, rfl, rfl, rfl, rfl, rfl, rfl, rfl, trivial⟩ ?_
      | refine Chk.mk ⟨rfl, rfl, rfl, rfl, rfl, rfl, rfl, rfl, rfl, rfl, rfl, trivial⟩ ?_
      | refine Chk.mk ⟨rfl, rfl, rfl, rfl, rfl, rfl, rfl, rfl, rfl, rfl, rfl, rfl, trivial⟩ ?_)
    exact Done.mk ⟨_, Drop.pick [0, 1] _ rfl, rfl, rfl, rfl⟩
theorem wrD_rest (f : Nat → Int) : ∀ (bs : List Dat) (i : Nat) (d : DSt), (wrD f bs i d).safe = d.safe ∧ (wrD f bs i d).count = d.count + bs.length
  | [], _, _ => by simp [wrD]
  | b :: bs, i, d => by
    obtain ⟨h1, h2⟩ := wrD_rest f bs (i + 1) (d.put (f i) b)
    rw [wrD, h1, h2]
    refine ⟨rfl, ?_⟩
    show d.count + 1 + (bs.length : Int) = d.count + ((bs.length + 1 : Nat) : Int)
    omega
theorem commit_first {d : DSt} (hc : d.Calm) (hlen : d.now.length = 64) {l : List PImg} (hR : RightP 2 1 l) (hho : HomeOk (layOf 64) l) (hl : l.length + 1 ≤ 16) :
    ∃ (j : JSt) (f : Nat → Int), v0.commit d l = (⟨j, 2, 0, l.foldl pput [], false⟩, wrD f (putP 2 1 l) 0 d, 1, 0) := by
  have h1 := hR.2.2.2.2.1
  have hs : v0.j.s = 16 := layL_64'
  obtain ⟨j', a, _⟩ := JSt.append_next (j := v0.j) (held := false) v0_wf (by show 0 ≤ _; omega) rfl (d := d) (l := l) hR (by rw [hs]; omega) hc (by rw [hs, hlen]; decide) (t := 0) (u := (l.length : Int) + 1) (h := 0) (at_ := 0) (by
    rw [hs]
    show putS 16 0 0 0 ((l.length : Int) + 1) (if false = true then (l.length : Int) + 1 else 0) = _
    unfold putS
    have hok : Ok 16 0 0 0 := by unfold Ok; omega
    rw [if_neg (by simp only [Bool.false_eq_true, if_false]; rintro (h | h | h | h | h); exact h hok; omega; omega; omega; omega), if_neg (by simp only [Bool.false_eq_true, if_false]; omega)]
    simp)
  have hbn : blocksN (l.length : Int) = (l.length : Int) + 1 := by unfold blocksN; rw [if_neg (by omega)]
  refine ⟨j', fun i => 2 + (0 + (i : Int)) % v0.j.s, ?_⟩
  unfold VSt.commit
  rw [if_neg (by show ¬ false = true; simp), if_neg (fun h => h hho), if_neg (fun h => h hR)]
  have hft : v0.fits (l.length : Int) = true := by
    unfold VSt.fits
    rw [hbn]
    exact decide_eq_true ⟨by omega, by show (l.length : Int) + 1 ≤ layL ((64 : Nat) : Int); rw [layL_64']; omega⟩
  rw [if_neg (by rw [hft]; simp), hbn, if_neg (by rw [hs]; show ¬ (16 : Int) - 0 - 0 < _; omega)]
  unfold VSt.app
  rw [a]
  dsimp only
  rw [if_neg (by simp)]
  rfl
set_option maxHeartbeats 4000000 in
theorem awake11 (I : Imm) (S : St) : Tri Tryz.prog 22 #[] I S fun v _ _ => v = .bool true := by
  refine Tri.free (Q := fun v _ _ => v = .bool true) ?_ (fun v J _ _ h => h)
  refine Tri.of (args := []) tabOk Tryz.func22 rfl (by kernel_rfl) (by kernel_rfl) ?_
  refine Tri.frameX (law_fresh I) [] rfl rfl ?_
  rintro r J1 A' hJ1 ⟨bD, bV, chD, chV, rfl, hD, hV, rfl⟩
  repeat (first
    | refine LoadD.own 0 rfl _ rfl rfl ?_
    | refine LoadD.own 1 rfl _ rfl rfl ?_
    | refine LoadP.at 0 rfl _ rfl rfl ?_
    | refine LoadP.at 1 rfl _ rfl rfl ?_
    | refine StoreD.st 0 rfl rfl rfl ?_
    | refine StoreD.st 1 rfl rfl rfl ?_
    | refine CmpD.yes rfl ?_
    | refine CmpD.yes (by decide) ?_
    | refine CmpD.no (by decide) ?_
    | refine Chk.mk ⟨rfl, trivial⟩ ?_
    | refine Chk.mk ⟨rfl, rfl, trivial⟩ ?_
    | refine Chk.mk ⟨rfl, rfl, rfl, trivial⟩ ?_
    | refine Chk.mk ⟨rfl, rfl, rfl, rfl, trivial⟩ ?_
    | refine Chk.mk ⟨rfl, rfl, rfl, rfl, rfl, trivial⟩ ?_
    | refine Chk.mk ⟨rfl, rfl, rfl, rfl, rfl, rfl, trivial⟩ ?_
    | refine Chk.mk ⟨rfl, rfl, rfl, rfl, rfl, rfl, rfl, trivial⟩ ?_
    | refine Chk.mk ⟨rfl, rfl, rfl, rfl, rfl, rfl, rfl, rfl, trivial⟩ ?_
    | refine Chk.mk ⟨rfl, rfl, rfl, rfl, rfl, rfl, rfl, rfl, rfl, trivial⟩ ?_
    | refine Chk.mk ⟨rfl, rfl, rfl, rfl, rfl, rfl, rfl, rfl, rfl, rfl, trivial⟩ ?_
    | refine Chk.mk ⟨rfl, rfl, rfl, rfl, rfl, rfl, rfl, rfl, rfl, rfl, rfl, trivial⟩ ?_
    | refine Chk.mk ⟨rfl, rfl, rfl, rfl, rfl, rfl, rfl, rfl, rfl, rfl, rfl, rfl, trivial⟩ ?_)
  refine Tri.frame1 0 rfl (vk_Next hV) ?_
  rintro r _ A' hJ ⟨rfl, rfl, rfl⟩
  refine ⟨_, rfl, ?_⟩
  repeat (first
    | refine LoadD.own 0 rfl _ rfl rfl ?_
    | refine LoadD.own 1 rfl _ rfl rfl ?_
    | refine LoadP.at 0 rfl _ rfl rfl ?_
    | refine LoadP.at 1 rfl _ rfl rfl ?_
    | refine StoreD.st 0 rfl rfl rfl ?_
    | refine StoreD.st 1 rfl rfl rfl ?_
    | refine CmpD.yes rfl ?_
    | refine CmpD.yes (by decide) ?_
    | refine CmpD.no (by decide) ?_
    | refine Chk.mk ⟨rfl, trivial⟩ ?_
    | refine Chk.mk ⟨rfl, rfl, trivial⟩ ?_
    | refine Chk.mk ⟨rfl, rfl, rfl, trivial⟩ ?_
    | refine Chk.mk ⟨rfl, rfl, rfl, rfl, trivial⟩ ?_
    | refine Chk.mk ⟨rfl, rfl, rfl, rfl, rfl, trivial⟩ ?_
    | refine Chk.mk ⟨rfl, rfl, rfl, rfl, rfl, rfl, trivial⟩ ?_
    | refine Chk.mk ⟨rfl, rfl, rfl, rfl, rfl, rfl, rfl, trivial⟩ ?_
    | refine Chk.mk ⟨rfl, rfl, rfl, rfl, rfl, rfl, rfl, rfl, trivial⟩ ?_
    | refine Chk.mk ⟨rfl, rfl, rfl, rfl, rfl, rfl, rfl, rfl, rfl, trivial⟩ ?_
    | refine Chk.mk ⟨rfl, rfl, rfl, rfl, rfl, rfl, rfl, rfl, rfl, rfl, trivial⟩ ?_
    | refine Chk.mk ⟨rfl, rfl, rfl, rfl, rfl, rfl, rfl, rfl, rfl, rfl, rfl, trivial⟩ ?_
    | refine Chk.mk ⟨rfl, rfl, rfl, rfl, rfl, rfl, rfl, rfl, rfl, rfl, rfl, rfl, trivial⟩ ?_)
  refine Tri.frame1 0 rfl (vk_Synced hV) ?_
  rintro r _ A' hJ ⟨rfl, rfl, rfl⟩
  refine ⟨_, rfl, ?_⟩
  repeat (first
    | refine LoadD.own 0 rfl _ rfl rfl ?_
    | refine LoadD.own 1 rfl _ rfl rfl ?_
    | refine LoadP.at 0 rfl _ rfl rfl ?_
    | refine LoadP.at 1 rfl _ rfl rfl ?_
    | refine StoreD.st 0 rfl rfl rfl ?_
    | refine StoreD.st 1 rfl rfl rfl ?_
    | refine CmpD.yes rfl ?_
    | refine CmpD.yes (by decide) ?_
    | refine CmpD.no (by decide) ?_
    | refine Chk.mk ⟨rfl, trivial⟩ ?_
    | refine Chk.mk ⟨rfl, rfl, trivial⟩ ?_
    | refine Chk.mk ⟨rfl, rfl, rfl, trivial⟩ ?_
    | refine Chk.mk ⟨rfl, rfl, rfl, rfl, trivial⟩ ?_
    | refine Chk.mk ⟨rfl, rfl, rfl, rfl, rfl, trivial⟩ ?_
    | refine Chk.mk ⟨rfl, rfl, rfl, rfl, rfl, rfl, trivial⟩ ?_
    | refine Chk.mk ⟨rfl, rfl, rfl, rfl, rfl, rfl, rfl, trivial⟩ ?_
    | refine Chk.mk ⟨rfl, rfl, rfl, rfl, rfl, rfl, rfl, rfl, trivial⟩ ?_
    | refine Chk.mk ⟨rfl, rfl, rfl, rfl, rfl, rfl, rfl, rfl, rfl, trivial⟩ ?_
    | refine Chk.mk ⟨rfl, rfl, rfl, rfl, rfl, rfl, rfl, rfl, rfl, rfl, trivial⟩ ?_
    | refine Chk.mk ⟨rfl, rfl, rfl, rfl, rfl, rfl, rfl, rfl, rfl, rfl, rfl, trivial⟩ ?_
    | refine Chk.mk ⟨rfl, rfl, rfl, rfl, rfl, rfl, rfl, rfl, rfl, rfl, rfl, rfl, trivial⟩ ?_)
  conv => whnf
  intro bR
  refine Tri.fix 2 rfl fun I2 hI2 hRm => ?_
  have hz : Rds I2 (some ⟨bR, 0, none⟩) 2 (ints (rowL 2)) := ⟨rfl, .inr ⟨bR, 0, _, _, _, rfl, hRm _ (List.mem_singleton.2 rfl), rfl⟩⟩
  refine Tri.free (images11_fix (some ⟨bR, 0, none⟩) 2 (rowL 2) (by decide) (rowL_in 2 (by omega)) 5 (by unfold In64; omega) I2 hz) ?_
  rintro r J3 _ hJ3 ⟨aI, capI, gs, rfl, hI, hgs⟩
  have hgl : gs.length = 2 := by have := congrArg List.length hgs; rwa [List.length_map, imgsP_length, rowL_length] at this
  have hle3 := Imm.le_trans hI2 hJ3
  have hR := right_row (e := 2) (s := 1) (by omega) (by omega) 2 (by omega) 5
  have hho : HomeOk (layOf 64) (imgsP (rowL 2) 5 0) := by
    intro g hg
    have : g.1 ∈ rowL 2 := by rw [← imgsP_fst (rowL 2) 5 0]; exact List.mem_map_of_mem hg
    simp [rowL] at this
    obtain ⟨i, hi, hgi⟩ := this
    show (18 : Int) ≤ g.1 ∧ g.1 < 64
    omega
  obtain ⟨j1, f, hcm⟩ := commit_first (d := dV) (dz_calm _ _ _) (zL_length _ _) hR hho (by rw [imgsP_length, rowL_length]; decide)
  refine Tri.frame (vk_Commit (hV.mono hle3) v0_wf rfl (by show (0 : Int) ≤ 0 ∧ (0 : Int) ≤ 1; omega) (by show 0 ≤ 1000; omega) (by show 0 ≤ _; omega) (hD.mono hle3) ((dz_few _ _ 24).mono (by omega)) aI capI gs hI (by omega)) [0, 1] rfl rfl ?_
  rw [hgs, hcm]
  dsimp only
  rintro r J4 A' hJ4 ⟨rfl, chV4, chD4, hV4, hD4, rfl⟩
  refine ⟨Nat.le_refl _, ?_⟩
  repeat (first
    | refine LoadD.own 0 rfl _ rfl rfl ?_
    | refine LoadD.own 1 rfl _ rfl rfl ?_
    | refine LoadD.own 2 rfl _ rfl rfl ?_
    | refine LoadP.at 0 rfl _ rfl rfl ?_
    | refine LoadP.at 1 rfl _ rfl rfl ?_
    | refine LoadP.at 2 rfl _ rfl rfl ?_
    | refine StoreD.st 0 rfl rfl rfl ?_
    | refine StoreD.st 1 rfl rfl rfl ?_
    | refine StoreD.st 2 rfl rfl rfl ?_
    | refine CmpD.yes rfl ?_
    | refine CmpD.yes (by decide) ?_
    | refine CmpD.no (by decide) ?_
    | refine Chk.mk ⟨rfl, trivial⟩ ?_
    | refine Chk.mk ⟨rfl, rfl, trivial⟩ ?_
    | refine Chk.mk ⟨rfl, rfl, rfl, trivial⟩ ?_
    | refine Chk.mk ⟨rfl, rfl, rfl, rfl, trivial⟩ ?_
    | refine Chk.mk ⟨rfl, rfl, rfl, rfl, rfl, trivial⟩ ?_
    | refine Chk.mk ⟨rfl, rfl, rfl, rfl, rfl, rfl, trivial⟩ ?_
    | refine Chk.mk ⟨rfl, rfl, rfl, rfl, rfl, rfl, rfl, trivial⟩ ?_
    | refine Chk.mk ⟨rfl, rfl, rfl, rfl, rfl, rfl, rfl, rfl, trivial⟩ ?_
    | refine Chk.mk ⟨rfl, rfl, rfl, rfl, rfl, rfl, rfl, rfl, rfl, trivial⟩ ?_
    | refine Chk.mk ⟨rfl, rfl, rfl, rfl, rfl, rfl, rfl, rfl, rfl, rfl, trivial⟩ ?_
    | refine Chk.mk ⟨rfl, rfl, rfl, rfl, rfl, rfl, rfl, rfl, rfl, rfl, rfl, trivial⟩ ?_
    | refine Chk.mk ⟨rfl, rfl, rfl, rfl, rfl, rfl, rfl, rfl, rfl, rfl, rfl, rfl, trivial⟩ ?_)
  refine Tri.free (made 5 4096 (by omega) J4) ?_
  rintro r J5 _ hJ5 ⟨aM, rfl, hM⟩
  repeat (first
    | refine LoadD.own 0 rfl _ rfl rfl ?_
    | refine LoadD.own 1 rfl _ rfl rfl ?_
    | refine LoadD.own 2 rfl _ rfl rfl ?_
    | refine LoadP.at 0 rfl _ rfl rfl ?_
    | refine LoadP.at 1 rfl _ rfl rfl ?_
    | refine LoadP.at 2 rfl _ rfl rfl ?_
    | refine StoreD.st 0 rfl rfl rfl ?_
    | refine StoreD.st 1 rfl rfl rfl ?_
    | refine StoreD.st 2 rfl rfl rfl ?_
    | refine CmpD.yes rfl ?_
    | refine CmpD.yes (by decide) ?_
    | refine CmpD.no (by decide) ?_
    | refine Chk.mk ⟨rfl, trivial⟩ ?_
    | refine Chk.mk ⟨rfl, rfl, trivial⟩ ?_
    | refine Chk.mk ⟨rfl, rfl, rfl, trivial⟩ ?_
    | refine Chk.mk ⟨rfl, rfl, rfl, rfl, trivial⟩ ?_
    | refine Chk.mk ⟨rfl, rfl, rfl, rfl, rfl, trivial⟩ ?_
    | refine Chk.mk ⟨rfl, rfl, rfl, rfl, rfl, rfl, trivial⟩ ?_
    | refine Chk.mk ⟨rfl, rfl, rfl, rfl, rfl, rfl, rfl, trivial⟩ ?_
    | refine Chk.mk ⟨rfl, rfl, rfl, rfl, rfl, rfl, rfl, rfl, trivial⟩ ?_
    | refine Chk.mk ⟨rfl, rfl, rfl, rfl, rfl, rfl, rfl, rfl, rfl, trivial⟩ ?_
    | refine Chk.mk ⟨rfl, rfl, rfl, rfl, rfl, rfl, rfl, rfl, rfl, rfl, trivial⟩ ?_
    | refine Chk.mk ⟨rfl, rfl, rfl, rfl, rfl, rfl, rfl, rfl, rfl, rfl, rfl, trivial⟩ ?_
    | refine Chk.mk ⟨rfl, rfl, rfl, rfl, rfl, rfl, rfl, rfl, rfl, rfl, rfl, rfl, trivial⟩ ?_)
  have hrow : imgsP (rowL 2) 5 0 = [(30, madeL 5 4096), (31, madeL ((5 : Int).tdiv 2 + (0 : Nat)) 4096)] := rfl
  have hfr : (imgsP (rowL 2) 5 0).foldl pput [] = imgsP (rowL 2) 5 0 := by rw [hrow]; simp [pput]
  have hfew : ∀ g ∈ (imgsP (rowL 2) 5 0).foldl pput [], g.2.length ≤ 1000000 := by rw [hfr]; intro g hg; have := imgsP_snd _ _ _ g hg; omega
  refine Tri.frame (law_has (hV4.mono hJ5) (hD4.mono hJ5) hfew 30 aM 4096 4096 (madeL 5 4096) hM) [0, 1] rfl rfl ?_
  have hrd : VSt.read ⟨j1, 2, 0, (imgsP (rowL 2) 5 0).foldl pput [], false⟩ (wrD f (putP 2 1 (imgsP (rowL 2) 5 0)) 0 dV) 30 = (madeL 5 4096, 0) := by
    unfold VSt.read
    rw [if_neg (by simp), hfr, hrow]
    rfl
  rw [hrd, decide_eq_true ⟨rfl, rfl⟩]
  rintro r _ A' hJ6 ⟨rfl, rfl, rfl⟩
  refine ⟨Nat.le_refl _, ?_⟩
  repeat (first
    | refine LoadD.own 0 rfl _ rfl rfl ?_
    | refine LoadD.own 1 rfl _ rfl rfl ?_
    | refine LoadD.own 2 rfl _ rfl rfl ?_
    | refine LoadP.at 0 rfl _ rfl rfl ?_
    | refine LoadP.at 1 rfl _ rfl rfl ?_
    | refine LoadP.at 2 rfl _ rfl rfl ?_
    | refine StoreD.st 0 rfl rfl rfl ?_
    | refine StoreD.st 1 rfl rfl rfl ?_
    | refine StoreD.st 2 rfl rfl rfl ?_
    | refine CmpD.yes rfl ?_
    | refine CmpD.yes (by decide) ?_
    | refine CmpD.no (by decide) ?_
    | refine Chk.mk ⟨rfl, trivial⟩ ?_
    | refine Chk.mk ⟨rfl, rfl, trivial⟩ ?_
    | refine Chk.mk ⟨rfl, rfl, rfl, trivial⟩ ?_
    | refine Chk.mk ⟨rfl, rfl, rfl, rfl, trivial⟩ ?_
    | refine Chk.mk ⟨rfl, rfl, rfl, rfl, rfl, trivial⟩ ?_
    | refine Chk.mk ⟨rfl, rfl, rfl, rfl, rfl, rfl, trivial⟩ ?_
    | refine Chk.mk ⟨rfl, rfl, rfl, rfl, rfl, rfl, rfl, trivial⟩ ?_
    | refine Chk.mk ⟨rfl, rfl, rfl, rfl, rfl, rfl, rfl, rfl, trivial⟩ ?_
    | refine Chk.mk ⟨rfl, rfl, rfl, rfl, rfl, rfl, rfl, rfl, rfl, trivial⟩ ?_
    | refine Chk.mk ⟨rfl, rfl, rfl, rfl, rfl, rfl, rfl, rfl, rfl, rfl, trivial⟩ ?_
    | refine Chk.mk ⟨rfl, rfl, rfl, rfl, rfl, rfl, rfl, rfl, rfl, rfl, rfl, trivial⟩ ?_
    | refine Chk.mk ⟨rfl, rfl, rfl, rfl, rfl, rfl, rfl, rfl, rfl, rfl, rfl, rfl, trivial⟩ ?_)
  obtain ⟨hsafe, hcount⟩ := wrD_rest f (putP 2 1 (imgsP (rowL 2) 5 0)) 0 dV
  have hfew4 : (wrD f (putP 2 1 (imgsP (rowL 2) 5 0)) 0 dV).Few 1000000 := (wrD_few f _ 0 dV 24 (dz_few _ _ 24)).mono (by rw [putP_length, imgsP_length, rowL_length]; omega)
  refine Tri.frame1 1 rfl (dk_Crash (hD4.mono hJ5) hfew4 none 0 0 [] ⟨rfl, .inl rfl⟩ (-1) 0 (by omega)) ?_
  have hcr : (wrD f (putP 2 1 (imgsP (rowL 2) 5 0)) 0 dV).crash [] (-1) 0 = dz (supL (sE 1)) (supL (sE 2)) 27 := by
    unfold DSt.crash
    rw [crash_none, hsafe, hcount, putP_length, imgsP_length, rowL_length]
    rfl
  rw [hcr]
  rintro r J7 A' hJ7 ⟨rfl, chD7, hD7, rfl⟩
  refine ⟨_, rfl, ?_⟩
  repeat (first
    | refine LoadD.own 0 rfl _ rfl rfl ?_
    | refine LoadD.own 1 rfl _ rfl rfl ?_
    | refine LoadD.own 2 rfl _ rfl rfl ?_
    | refine LoadP.at 0 rfl _ rfl rfl ?_
    | refine LoadP.at 1 rfl _ rfl rfl ?_
    | refine LoadP.at 2 rfl _ rfl rfl ?_
    | refine StoreD.st 0 rfl rfl rfl ?_
    | refine StoreD.st 1 rfl rfl rfl ?_
    | refine StoreD.st 2 rfl rfl rfl ?_
    | refine CmpD.yes rfl ?_
    | refine CmpD.yes (by decide) ?_
    | refine CmpD.no (by decide) ?_
    | refine Chk.mk ⟨rfl, trivial⟩ ?_
    | refine Chk.mk ⟨rfl, rfl, trivial⟩ ?_
    | refine Chk.mk ⟨rfl, rfl, rfl, trivial⟩ ?_
    | refine Chk.mk ⟨rfl, rfl, rfl, rfl, trivial⟩ ?_
    | refine Chk.mk ⟨rfl, rfl, rfl, rfl, rfl, trivial⟩ ?_
    | refine Chk.mk ⟨rfl, rfl, rfl, rfl, rfl, rfl, trivial⟩ ?_
    | refine Chk.mk ⟨rfl, rfl, rfl, rfl, rfl, rfl, rfl, trivial⟩ ?_
    | refine Chk.mk ⟨rfl, rfl, rfl, rfl, rfl, rfl, rfl, rfl, trivial⟩ ?_
    | refine Chk.mk ⟨rfl, rfl, rfl, rfl, rfl, rfl, rfl, rfl, rfl, trivial⟩ ?_
    | refine Chk.mk ⟨rfl, rfl, rfl, rfl, rfl, rfl, rfl, rfl, rfl, rfl, trivial⟩ ?_
    | refine Chk.mk ⟨rfl, rfl, rfl, rfl, rfl, rfl, rfl, rfl, rfl, rfl, rfl, trivial⟩ ?_
    | refine Chk.mk ⟨rfl, rfl, rfl, rfl, rfl, rfl, rfl, rfl, rfl, rfl, rfl, rfl, trivial⟩ ?_)
  refine Tri.frameX (vk_Mount hD7 ((dz_few _ _ 27).mono (by omega))) [1] rfl rfl ?_
  rw [mount_again]
  rintro r J8 A' hJ8 ⟨chD8, hD8, (⟨h, _⟩ | ⟨_, v, bV8, chV8, hv, rfl, hV8, rfl⟩)⟩
  · exact absurd rfl h
  cases hv
  repeat (first
    | refine LoadD.own 0 rfl _ rfl rfl ?_
    | refine LoadD.own 1 rfl _ rfl rfl ?_
    | refine LoadD.own 2 rfl _ rfl rfl ?_
    | refine LoadP.at 0 rfl _ rfl rfl ?_
    | refine LoadP.at 1 rfl _ rfl rfl ?_
    | refine LoadP.at 2 rfl _ rfl rfl ?_
    | refine StoreD.st 0 rfl rfl rfl ?_
    | refine StoreD.st 1 rfl rfl rfl ?_
    | refine StoreD.st 2 rfl rfl rfl ?_
    | refine CmpD.yes rfl ?_
    | refine CmpD.yes (by decide) ?_
    | refine CmpD.no (by decide) ?_
    | refine Chk.mk ⟨rfl, trivial⟩ ?_
    | refine Chk.mk ⟨rfl, rfl, trivial⟩ ?_
    | refine Chk.mk ⟨rfl, rfl, rfl, trivial⟩ ?_
    | refine Chk.mk ⟨rfl, rfl, rfl, rfl, trivial⟩ ?_
    | refine Chk.mk ⟨rfl, rfl, rfl, rfl, rfl, trivial⟩ ?_
    | refine Chk.mk ⟨rfl, rfl, rfl, rfl, rfl, rfl, trivial⟩ ?_
    | refine Chk.mk ⟨rfl, rfl, rfl, rfl, rfl, rfl, rfl, trivial⟩ ?_
    | refine Chk.mk ⟨rfl, rfl, rfl, rfl, rfl, rfl, rfl, rfl, trivial⟩ ?_
    | refine Chk.mk ⟨rfl, rfl, rfl, rfl, rfl, rfl, rfl, rfl, rfl, trivial⟩ ?_
    | refine Chk.mk ⟨rfl, rfl, rfl, rfl, rfl, rfl, rfl, rfl, rfl, rfl, trivial⟩ ?_
    | refine Chk.mk ⟨rfl, rfl, rfl, rfl, rfl, rfl, rfl, rfl, rfl, rfl, rfl, trivial⟩ ?_
    | refine Chk.mk ⟨rfl, rfl, rfl, rfl, rfl, rfl, rfl, rfl, rfl, rfl, rfl, rfl, trivial⟩ ?_)
  refine makeH tabOk rfl rfl rfl 4096 4096 rfl rfl (Nat.le_refl _) (by show 1 * 4096 ≤ _; decide) (by decide) (by show 4096 * 1 ≤ _; decide) rfl (by decide) ?_
  intro bN NB hNB
  repeat (first
    | refine LoadD.own 0 rfl _ rfl rfl ?_
    | refine LoadD.own 1 rfl _ rfl rfl ?_
    | refine LoadD.own 2 rfl _ rfl rfl ?_
    | refine LoadD.own 3 rfl _ rfl rfl ?_
    | refine LoadD.own 4 rfl _ rfl rfl ?_
    | refine LoadD.own 5 rfl _ rfl rfl ?_
    | refine LoadP.at 0 rfl _ rfl rfl ?_
    | refine LoadP.at 1 rfl _ rfl rfl ?_
    | refine LoadP.at 2 rfl _ rfl rfl ?_
    | refine LoadP.at 3 rfl _ rfl rfl ?_
    | refine LoadP.at 4 rfl _ rfl rfl ?_
    | refine LoadP.at 5 rfl _ rfl rfl ?_
    | refine StoreD.st 0 rfl rfl rfl ?_
    | refine StoreD.st 1 rfl rfl rfl ?_
    | refine StoreD.st 2 rfl rfl rfl ?_
    | refine StoreD.st 3 rfl rfl rfl ?_
    | refine StoreD.st 4 rfl rfl rfl ?_
    | refine StoreD.st 5 rfl rfl rfl ?_
    | refine CmpD.yes rfl ?_
    | refine CmpD.yes (by decide) ?_
    | refine CmpD.no (by decide) ?_
    | refine Chk.mk ⟨rfl, trivial⟩ ?_
    | refine Chk.mk ⟨rfl, rfl, trivial⟩ ?_
    | refine Chk.mk ⟨rfl, rfl, rfl, trivial⟩ ?_
    | refine Chk.mk ⟨rfl, rfl, rfl, rfl, trivial⟩ ?_
    | refine Chk.mk ⟨rfl, rfl, rfl, rfl, rfl, trivial⟩ ?_
    | refine Chk.mk ⟨rfl, rfl, rfl, rfl, rfl, rfl, trivial⟩ ?_
    | refine Chk.mk ⟨rfl, rfl, rfl, rfl, rfl, rfl, rfl, trivial⟩ ?_
    | refine Chk.mk ⟨rfl, rfl, rfl, rfl, rfl, rfl, rfl, rfl, trivial⟩ ?_
    | refine Chk.mk ⟨rfl, rfl, rfl, rfl, rfl, rfl, rfl, rfl, rfl, trivial⟩ ?_
    | refine Chk.mk ⟨rfl, rfl, rfl, rfl, rfl, rfl, rfl, rfl, rfl, rfl, trivial⟩ ?_
    | refine Chk.mk ⟨rfl, rfl, rfl, rfl, rfl, rfl, rfl, rfl, rfl, rfl, rfl, trivial⟩ ?_
    | refine Chk.mk ⟨rfl, rfl, rfl, rfl, rfl, rfl, rfl, rfl, rfl, rfl, rfl, rfl, trivial⟩ ?_)
  refine Tri.fix 5 rfl fun I9 hI9 hNm => ?_
  have hN : Rds I9 (some ⟨bN, 0, none⟩) 4096 (bts noughts) := by
    rw [noughts_bts]
    exact Rds.of_own (cap := 4096) (by rw [hNB]; show OwnC [(bN, row (rows 4096 [Value.int .u8 0]) _)] 1 _ _ _ _; exact OwnC.whole (by rw [rows_length]; rfl)) hNm
  refine Tri.frame (law_has (hV8.mono hI9) (hD8.mono hI9) (by intro g hg; simp at hg) 30 (some ⟨bN, 0, none⟩) 4096 4096 noughts hN) [4, 3] rfl rfl ?_
  have hrd2 : VSt.read ⟨openJ 64 3 1 0, 3, 1, [], false⟩ (dz (supL (sE 3)) (supL (sE 2)) (27 + 1)) 30 = (noughts, 0) := by
    unfold VSt.read
    rw [if_neg (by simp)]
    show (dz (supL (sE 3)) (supL (sE 2)) (27 + 1)).read ((30 : Nat) : Int) = _
    rw [read_up (dz_wf (supL_length _) (supL_length _) _) rfl (by show 30 < (zL _ _).length; rw [zL_length]; omega)]
    show ((zL _ _).getD 30 [], (0 : Int)) = _
    rw [List.getD_eq_getElem?_getD, zL_get _ _ 30 (by omega) (by omega)]; rfl
  rw [hrd2, decide_eq_true ⟨rfl, rfl⟩]
  rintro r _ A' hJ10 ⟨rfl, rfl, rfl⟩
  refine ⟨Nat.le_refl _, ?_⟩
  repeat (first
    | refine LoadD.own 0 rfl _ rfl rfl ?_
    | refine LoadD.own 1 rfl _ rfl rfl ?_
    | refine LoadD.own 2 rfl _ rfl rfl ?_
    | refine LoadD.own 3 rfl _ rfl rfl ?_
    | refine LoadD.own 4 rfl _ rfl rfl ?_
    | refine LoadD.own 5 rfl _ rfl rfl ?_
    | refine LoadP.at 0 rfl _ rfl rfl ?_
    | refine LoadP.at 1 rfl _ rfl rfl ?_
    | refine LoadP.at 2 rfl _ rfl rfl ?_
    | refine LoadP.at 3 rfl _ rfl rfl ?_
    | refine LoadP.at 4 rfl _ rfl rfl ?_
    | refine LoadP.at 5 rfl _ rfl rfl ?_
    | refine StoreD.st 0 rfl rfl rfl ?_
    | refine StoreD.st 1 rfl rfl rfl ?_
    | refine StoreD.st 2 rfl rfl rfl ?_
    | refine StoreD.st 3 rfl rfl rfl ?_
    | refine StoreD.st 4 rfl rfl rfl ?_
    | refine StoreD.st 5 rfl rfl rfl ?_
    | refine CmpD.yes rfl ?_
    | refine CmpD.yes (by decide) ?_
    | refine CmpD.no (by decide) ?_
    | refine Chk.mk ⟨rfl, trivial⟩ ?_
    | refine Chk.mk ⟨rfl, rfl, trivial⟩ ?_
    | refine Chk.mk ⟨rfl, rfl, rfl, trivial⟩ ?_
    | refine Chk.mk ⟨rfl, rfl, rfl, rfl, trivial⟩ ?_
    | refine Chk.mk ⟨rfl, rfl, rfl, rfl, rfl, trivial⟩ ?_
    | refine Chk.mk ⟨rfl, rfl, rfl, rfl, rfl, rfl, trivial⟩ ?_
    | refine Chk.mk ⟨rfl, rfl, rfl, rfl, rfl, rfl, rfl, trivial⟩ ?_
    | refine Chk.mk ⟨rfl, rfl, rfl, rfl, rfl, rfl, rfl, rfl, trivial⟩ ?_
    | refine Chk.mk ⟨rfl, rfl, rfl, rfl, rfl, rfl, rfl, rfl, rfl, trivial⟩ ?_
    | refine Chk.mk ⟨rfl, rfl, rfl, rfl, rfl, rfl, rfl, rfl, rfl, rfl, trivial⟩ ?_
    | refine Chk.mk ⟨rfl, rfl, rfl, rfl, rfl, rfl, rfl, rfl, rfl, rfl, rfl, trivial⟩ ?_
    | refine Chk.mk ⟨rfl, rfl, rfl, rfl, rfl, rfl, rfl, rfl, rfl, rfl, rfl, rfl, trivial⟩ ?_)
  refine Tri.frame1 4 rfl (vk_Next (hV8.mono hI9)) ?_
  rintro r _ A' hJ11 ⟨rfl, rfl, rfl⟩
  refine ⟨_, rfl, ?_⟩
  repeat (first
    | refine LoadD.own 0 rfl _ rfl rfl ?_
    | refine LoadD.own 1 rfl _ rfl rfl ?_
    | refine LoadD.own 2 rfl _ rfl rfl ?_
    | refine LoadD.own 3 rfl _ rfl rfl ?_
    | refine LoadD.own 4 rfl _ rfl rfl ?_
    | refine LoadD.own 5 rfl _ rfl rfl ?_
    | refine LoadP.at 0 rfl _ rfl rfl ?_
    | refine LoadP.at 1 rfl _ rfl rfl ?_
    | refine LoadP.at 2 rfl _ rfl rfl ?_
    | refine LoadP.at 3 rfl _ rfl rfl ?_
    | refine LoadP.at 4 rfl _ rfl rfl ?_
    | refine LoadP.at 5 rfl _ rfl rfl ?_
    | refine StoreD.st 0 rfl rfl rfl ?_
    | refine StoreD.st 1 rfl rfl rfl ?_
    | refine StoreD.st 2 rfl rfl rfl ?_
    | refine StoreD.st 3 rfl rfl rfl ?_
    | refine StoreD.st 4 rfl rfl rfl ?_
    | refine StoreD.st 5 rfl rfl rfl ?_
    | refine CmpD.yes rfl ?_
    | refine CmpD.yes (by decide) ?_
    | refine CmpD.no (by decide) ?_
    | refine Chk.mk ⟨rfl, trivial⟩ ?_
    | refine Chk.mk ⟨rfl, rfl, trivial⟩ ?_
    | refine Chk.mk ⟨rfl, rfl, rfl, trivial⟩ ?_
    | refine Chk.mk ⟨rfl, rfl, rfl, rfl, trivial⟩ ?_
    | refine Chk.mk ⟨rfl, rfl, rfl, rfl, rfl, trivial⟩ ?_
    | refine Chk.mk ⟨rfl, rfl, rfl, rfl, rfl, rfl, trivial⟩ ?_
    | refine Chk.mk ⟨rfl, rfl, rfl, rfl, rfl, rfl, rfl, trivial⟩ ?_
    | refine Chk.mk ⟨rfl, rfl, rfl, rfl, rfl, rfl, rfl, rfl, trivial⟩ ?_
    | refine Chk.mk ⟨rfl, rfl, rfl, rfl, rfl, rfl, rfl, rfl, rfl, trivial⟩ ?_
    | refine Chk.mk ⟨rfl, rfl, rfl, rfl, rfl, rfl, rfl, rfl, rfl, rfl, trivial⟩ ?_
    | refine Chk.mk ⟨rfl, rfl, rfl, rfl, rfl, rfl, rfl, rfl, rfl, rfl, rfl, trivial⟩ ?_
    | refine Chk.mk ⟨rfl, rfl, rfl, rfl, rfl, rfl, rfl, rfl, rfl, rfl, rfl, rfl, trivial⟩ ?_)
  exact Done.mk rfl
end Go.Proofs.YtegdcjnjnoeinaaGreat

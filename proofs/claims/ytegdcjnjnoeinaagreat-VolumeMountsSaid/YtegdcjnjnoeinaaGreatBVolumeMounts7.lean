/- Texts of this claim laid together: Mount, Ckpt, Rf10c, Rf4c, Rf4d, Rf4e, Rf4f, Rf4g, Rf4h, Rf10d, Ref03b. -/
import Derived.Test.YtegdcjnjnoeinaaGreatBVolumeMounts6
import Derived.Test.YtegdcjnjnoeinaaGreatBVolumeMounts4
import Derived.Test.YtegdcjnjnoeinaaGreatBVolumeMounts5
import Derived.Test.YtegdcjnjnoeinaaGreatBVolumeMounts1
import Derived.Test.YtegdcjnjnoeinaaGreatBVolumeMounts2
import Derived.Test.YtegdcjnjnoeinaaGreatBVolumeMounts3
namespace Go.Proofs.YtegdcjnjnoeinaaGreat
open Go.RowKit Go.Sl
set_option maxRecDepth 20000

theorem dk_ReadDown {I : Imm} {bD : Nat} {st : DSt} {ch : List Blk} (h : Dk I bD st ch) (hdn : st.down = true) (k : Nat) (hk : k < st.now.length) :
    Tri Tryz.prog 39 #[.pointer (some ⟨bD, 0, none⟩), .int .i64 k] I [ch] fun v J S' => ∃ a cap, v = .tuple #[.slice a 0 cap, .int .i64 6] ∧ I = J ∧ S' = [ch] := by
  have hr := dk_Read h (k : Int)
  rw [read_down h.wf hdn hk] at hr
  refine Tri.drop hr ?_
  rintro v J S' hJ ⟨a, cap, chB, rfl, hB, rfl, rfl⟩
  exact ⟨[ch], Drop.pick [0] _ rfl, a, cap, rfl, rfl, rfl⟩
theorem get_data_len {d : DSt} (h : d.Wf) {k : Nat} (hk : k < d.now.length) : (d.now.getD k []).length = 4096 := by
  rw [List.getD_eq_getElem?_getD, List.getElem?_eq_getElem hk]
  exact h.now _ (List.getElem_mem _)
theorem v_found {I : Imm} {bD : Nat} {d : DSt} {chD : List Blk} (hD : Dk I bD d chD) (hlen : 64 ≤ d.now.length) :
    Tri Tryz.prog 106 #[.pointer (some ⟨bD, 0, none⟩), (layOf d.now.length).v] I [chD] fun r J S' => r = .tuple #[(foundP d).1.v, .int .i64 (foundP d).2.1, .int .i64 (foundP d).2.2] ∧ Dk J bD d chD ∧ S' = [chD] := by
  have hr := hD.wf.range
  refine Tri.drop ?_ (fun _ _ _ _ h => h)
  refine Tri.of (args := [.pointer (some ⟨bD, 0, none⟩), (layOf d.now.length).v]) tabOk Tryz.func106 rfl (by kernel_rfl) (by kernel_rfl) ?_
  conv => whnf
  intro b3
  conv => whnf
  intro b4
  unfold foundP
  by_cases hdn : d.down = true
  · rw [if_pos hdn]
    refine Tri.frame1 0 rfl (dk_ReadDown hD hdn 0 (by omega)) ?_
    rintro r _ A' hJ ⟨a, cap, rfl, rfl, rfl⟩
    refine ⟨_, rfl, ?_⟩
    repeat (first | refine LoadD.own 2 rfl _ rfl rfl ?_ | refine StoreD.st 2 rfl rfl rfl ?_ | refine CmpD.no (by decide) ?_)
    exact Done.mk ⟨_, Drop.pick [0] _ rfl, rfl, hD, rfl⟩
  rw [if_neg hdn]
  have hdn : d.down = false := by simpa using hdn
  refine Tri.frame1 0 rfl (dk_ReadK hD hdn 0 (by omega)) ?_
  rintro r J1 A' hJ1 ⟨bk0, rfl, hd0, hk0, hc0, hD1, rfl⟩
  refine ⟨_, rfl, ?_⟩
  repeat (first | refine CmpD.yes rfl ?_)
  refine Tri.frame1 0 rfl (dk_ReadK hD1 hdn 1 (by omega)) ?_
  rintro r J2 A' hJ2 ⟨bk1, rfl, hd1, hk1, hc1, hD2, rfl⟩
  refine ⟨_, rfl, ?_⟩
  repeat (first | refine CmpD.yes rfl ?_)
  refine Tri.free (replay_Choose (hk0.mono hJ2) hk1 (by omega) (by omega)) ?_
  rintro r _ _ hJ3 ⟨rfl, rfl⟩
  rw [hd0, hd1]
  generalize chooseP (getS (d.now.getD 0 [])) (getS (d.now.getD 1 [])) = cp
  obtain ⟨⟨s1, s2, s3, s4⟩, slot, ok⟩ := cp
  dsimp only
  conv => whnf
  intro b10
  repeat (first | refine StoreD.st 3 rfl rfl rfl ?_)
  refine CodeF.sched [[], [0], [0, 1], [0, 1, 2], [0, 1, 2, 3], [0, 1, 2], [0, 1, 2, 5], [0, 1, 2, 3, 4, 5, 6], [0, 1, 2, 3, 4, 5, 6, 7], [0, 1, 2, 3, 4, 5, 6, 7, 8], [0, 1, 2, 3, 4, 5, 6, 7, 8, 9], [0, 1, 2, 3, 4, 5, 6, 7, 8, 9, 10], [0, 1, 2, 3, 4, 5, 6, 7, 8, 9], [0, 1, 2, 3, 4, 5, 6, 7, 8, 9, 12], [0, 1, 2, 3, 4, 5, 6, 7, 8, 9, 10, 11, 12, 13], [0, 1, 2, 3, 4, 5, 6, 7, 8, 9, 10, 11, 12, 13, 14], [0, 1, 2, 3, 4, 5, 6, 7, 8, 9, 10, 11, 12, 13, 14, 15], [0, 1, 2, 3, 4, 5, 6, 7, 8, 9, 10, 11, 12, 13, 14, 15, 16], [0, 1, 2, 3, 4, 5, 6, 7, 8, 9, 10, 11, 12, 13, 14, 15, 16, 17], [0, 1, 2, 3, 4, 5, 6, 7, 8, 9, 10, 11, 12, 13, 14, 15, 16, 17, 18], [0, 1, 2, 3, 4, 5, 6, 7, 8, 9, 10, 11, 12, 13, 14, 15, 16, 17, 18, 19]] [0, 1, 2, 3, 4, 5, 6, 7, 8, 9, 10, 11, 12, 13, 14, 15, 16, 17, 18, 19, 20] (by kernel_rfl) ?_
  have hl7 : (layOf (d.now.length : Int)).lb = layL d.now.length := rfl
  cases ok
  · rw [if_pos (.inl rfl)]
    repeat (first | refine LoadD.own 2 rfl _ rfl rfl ?_ | refine StoreD.st 2 rfl rfl rfl ?_)
    exact Done.mk ⟨_, Drop.pick [0] _ rfl, rfl, hD2, rfl⟩
  repeat (first | refine LoadP.at 3 rfl _ rfl rfl ?_)
  refine Tri.frame1 0 rfl (dk_Size hD2) ?_
  rintro r _ A' hJ4 ⟨rfl, rfl, rfl⟩
  refine ⟨_, rfl, ?_⟩
  repeat (first | refine Chk.mk ⟨rfl, trivial⟩ ?_)
  refine CmpD.split (fun (c1 : s1 = (d.now.length : Int)) => ?_) (fun (c1 : ¬ s1 = (d.now.length : Int)) => ?_)
  rotate_left
  · rw [if_pos (.inr (.inl c1))]
    repeat (first | refine LoadD.own 2 rfl _ rfl rfl ?_ | refine StoreD.st 2 rfl rfl rfl ?_)
    exact Done.mk ⟨_, Drop.pick [0] _ rfl, rfl, hD2, rfl⟩
  repeat (first | refine LoadP.at 1 rfl _ rfl rfl ?_ | refine LoadP.at 3 rfl _ rfl rfl ?_)
  refine CmpD.split (fun (c2 : layL d.now.length ≤ s4) => ?_) (fun (c2 : ¬ layL d.now.length ≤ s4) => ?_)
  · rw [if_pos (.inr (.inr (.inl c2)))]
    repeat (first | refine LoadD.own 2 rfl _ rfl rfl ?_ | refine StoreD.st 2 rfl rfl rfl ?_)
    exact Done.mk ⟨_, Drop.pick [0] _ rfl, rfl, hD2, rfl⟩
  repeat (first | refine LoadP.at 3 rfl _ rfl rfl ?_)
  refine CmpD.split (fun (c3 : 8388608 ≤ s2) => ?_) (fun (c3 : ¬ 8388608 ≤ s2) => ?_)
  · rw [if_pos (.inr (.inr (.inr c3)))]
    repeat (first | refine LoadD.own 2 rfl _ rfl rfl ?_ | refine StoreD.st 2 rfl rfl rfl ?_)
    exact Done.mk ⟨_, Drop.pick [0] _ rfl, rfl, hD2, rfl⟩
  rw [if_neg (by rintro (h | h | h | h); exact Bool.noConfusion h; exact h c1; exact c2 h; exact c3 h)]
  repeat (first | refine LoadD.own 2 rfl _ rfl rfl ?_ | refine LoadD.own 3 rfl _ rfl rfl ?_ | refine StoreD.st 2 rfl rfl rfl ?_)
  exact Done.mk ⟨_, Drop.pick [0] _ rfl, rfl, hD2, rfl⟩
end Go.Proofs.YtegdcjnjnoeinaaGreat
namespace Go.Proofs.YtegdcjnjnoeinaaGreat
open Go.RowKit Go.Sl
set_option maxRecDepth 20000

theorem rel_lay (j : JSt) (q : Int) : (j.release q).1.lay = j.lay := by
  unfold JSt.release
  split
  · rfl
  · split <;> rfl
theorem ckS_lay (v : VSt) (d : DSt) : (v.ckS d).2.1.lay = v.j.lay := by
  unfold VSt.ckS
  split
  · exact flush_lay _ _
  · split
    · exact flush_lay _ _
    · show (JSt.release _ _).1.lay = _
      rw [rel_lay, flush_lay]
theorem jflush_few {j : JSt} {d : DSt} {k : Nat} (h : d.Few k) : (j.flush d).2.1.Few k := by
  unfold JSt.flush
  split
  · exact h
  · split <;> exact h.flush
theorem ck1 {I : Imm} {bV bD bJ bM b1 b4 b8 : Nat} {x : Lay} {ep sl : Int} {br : Bool} {d : DSt} {chD : List Blk} (hD : Dk I bD d chD) (hf : d.Few 800000) (aI : Option Addr) (capI : Nat) (outs : List Img) (hi : ImgsOk I aI outs) (hol : outs.length ≤ 1000) (s : Sup) :
    Tri Tryz.prog 92 #[.pointer (some ⟨b1, 0, none⟩), .pointer (some ⟨b4, 0, none⟩), .pointer (some ⟨b8, 0, none⟩)] I [vChunk bV bD bJ bM x ep sl br, pBox b1 (.pointer (some ⟨bV, 0, none⟩)) 23, pBox b4 (.slice aI outs.length capI) 26, [(b8, row [.int .i64 s.blocks, .int .i64 s.epoch, .int .i64 s.seq, .int .i64 s.tail] 143)], chD]
      fun r J S' => r = .int .i64 (doP d (outs.map Img.pr) s sl).2 ∧ ∃ chD', Dk J bD (doP d (outs.map Img.pr) s sl).1 chD' ∧ S' = [vChunk bV bD bJ bM x ep sl br, pBox b1 (.pointer (some ⟨bV, 0, none⟩)) 23, pBox b4 (.slice aI outs.length capI) 26, [(b8, row [.int .i64 s.blocks, .int .i64 s.epoch, .int .i64 s.seq, .int .i64 s.tail] 143)], chD'] := by
  obtain ⟨l1, l2, l3, l4, l5, l6, l7⟩ := x
  refine Tri.of (args := [.pointer (some ⟨b1, 0, none⟩), .pointer (some ⟨b4, 0, none⟩), .pointer (some ⟨b8, 0, none⟩)]) tabOk Tryz.func92 rfl (by kernel_rfl) (by kernel_rfl) ?_
  refine CodeF.sched [[], [0], [0, 1], [0, 1, 2], [], [], [], [6], [6, 7], [6, 7, 8], [0, 1, 2, 3, 4, 5, 6, 7, 8, 9], [0, 1, 2, 3, 4, 5, 6, 7, 8, 9, 10]] [0, 1, 2, 3, 4, 5, 6, 7, 8, 9, 10, 11] (by kernel_rfl) ?_
  repeat (first | refine LoadP.at 0 rfl _ rfl rfl ?_ | refine LoadP.at 1 rfl _ rfl rfl ?_ | refine LoadP.at 2 rfl _ rfl rfl ?_ | refine LoadP.at 3 rfl _ rfl rfl ?_)
  refine Tri.frame1 4 rfl (dk_Do hD 800000 hf aI capI outs hi (by omega) s sl) ?_
  rintro r J A' hJ ⟨rfl, chD2, hD2, rfl⟩
  refine ⟨_, rfl, ?_⟩
  exact Done.mk ⟨rfl, chD2, hD2, rfl⟩
theorem ck2 {I : Imm} {bV bD bJ bM b1 : Nat} {x : Lay} {ep sl : Int} {br : Bool} {j : JSt} {chJ : List Blk} (hj : Jk bJ bD j chJ) (hw : j.Wf) :
    Tri Tryz.prog 94 #[.pointer (some ⟨b1, 0, none⟩)] I [vChunk bV bD bJ bM x ep sl br, pBox b1 (.pointer (some ⟨bV, 0, none⟩)) 23, chJ]
      fun r J S' => I = J ∧ r = .int .i64 (j.release j.synced).2 ∧ ∃ chJ', Jk bJ bD (j.release j.synced).1 chJ' ∧ S' = [vChunk bV bD bJ bM x ep sl br, pBox b1 (.pointer (some ⟨bV, 0, none⟩)) 23, chJ'] := by
  obtain ⟨l1, l2, l3, l4, l5, l6, l7⟩ := x
  refine Tri.of (args := [.pointer (some ⟨b1, 0, none⟩)]) tabOk Tryz.func94 rfl (by kernel_rfl) (by kernel_rfl) ?_
  refine CodeF.sched [[], [0], [0, 1], [0, 1, 2], [], [4], [4, 5], [4, 5, 6], [4, 5, 6, 7], [0, 1, 2, 3, 4, 5, 6, 7, 8], [0, 1, 2, 3, 4, 5, 6, 7, 8, 9]] [0, 1, 2, 3, 4, 5, 6, 7, 8, 9, 10] (by kernel_rfl) ?_
  repeat (first | refine LoadP.at 0 rfl _ rfl rfl ?_ | refine LoadP.at 1 rfl _ rfl rfl ?_)
  refine Tri.frame1 2 rfl (jk_Synced hj I) ?_
  rintro r _ A' hJ ⟨rfl, rfl, rfl⟩
  refine ⟨_, rfl, ?_⟩
  repeat (first | refine Chk.mk ⟨rfl, rfl, trivial⟩ ?_)
  refine Tri.frame1 2 rfl (jk_Release hj hw j.synced I) ?_
  rintro r _ A' hJ ⟨rfl, rfl, chJ2, hj2, rfl⟩
  refine ⟨_, rfl, ?_⟩
  skip
  exact Done.mk ⟨rfl, rfl, chJ2, hj2, rfl⟩
set_option maxHeartbeats 8000000 in
theorem vk_Checkpoint {bV bD : Nat} {v : VSt} {ch : List Blk} {I : Imm} (h : Vk I bV bD v ch) (hw : v.j.Wf) (hsl : 0 ≤ v.slot ∧ v.slot ≤ 1) (hfr : v.fresh.length ≤ 1000) {d : DSt} {chD : List Blk} (hD : Dk I bD d chD) (hf : d.Few 800000) :
    Tri Tryz.prog 24 #[.pointer (some ⟨bV, 0, none⟩)] I [ch, chD] fun r J S' => r = .int .i64 (v.ckpt d).2.2 ∧ ∃ ch' chD', Vk J bV bD (v.ckpt d).1 ch' ∧ Dk J bD (v.ckpt d).2.1 chD' ∧ S' = [ch', chD'] := by
  have h0 := h
  obtain ⟨bJ, bM, ob, chJ, gs, rfl, hj, hM, hg, hp⟩ := h
  have hgl : gs.length ≤ 1000 := by rw [← hp, List.length_map] at hfr; exact hfr
  refine Tri.lay (S2 := [vChunk bV bD bJ bM v.j.lay v.epoch v.slot v.broken, [(bM, ob)], chJ, chD]) (vk_lay2 ..) ?_
  refine Tri.drop ?_ (fun _ _ _ _ h => h)
  refine Tri.of (args := [.pointer (some ⟨bV, 0, none⟩)]) tabOk Tryz.func24 rfl (by kernel_rfl) (by kernel_rfl) ?_
  conv => whnf
  intro b1
  repeat (first | refine LoadD.own 4 rfl _ rfl rfl ?_)
  refine Tri.nf (v_wrong bV bD bJ bM _ _ _ _ I _ 0 rfl) ?_
  rintro r _ _ hJ ⟨rfl, rfl, rfl⟩
  cases hb : v.broken
  rotate_left
  · repeat (first | refine CmpD.no (by decide) ?_)
    unfold VSt.ckpt
    rw [if_pos hb]
    exact Done.mk ⟨_, (Drop.pick [0, 1, 2, 3] _ rfl).trans (Drop.flat (by simp [St.at, hb])), rfl, _, chD, h0, hD, rfl⟩
  repeat (first | refine CmpD.yes rfl ?_)
  conv => whnf
  intro b4
  repeat (first | refine LoadD.own 0 rfl _ rfl rfl ?_ | refine LoadD.own 4 rfl _ rfl rfl ?_)
  refine Tri.nf (keys_of bM I _) ?_
  rintro r _ S' hJ2 ⟨bk, rfl, rfl, rfl⟩
  refine Tri.frameX (sorted_keys bk bM ob (gs.map hdr) hM (by rw [List.length_map]; omega) I) [6, 1] rfl rfl ?_
  rintro r JK A' hJK ⟨aK, capK, chK, rfl, hK, hleK, rfl⟩
  rw [List.length_map] at hK ⊢
  have hkl : (keysOf (gs.map hdr)).length = gs.length := by rw [keysOf_length, List.length_map]
  have hkm : ∀ n ∈ keysOf (gs.map hdr), n ∈ gs.map Img.blk := by
    intro n hn
    unfold keysOf at hn
    have := (sortI_perm _).mem_iff.1 hn
    rw [List.map_map] at this; exact this
  have hkf : keysOf (gs.map hdr) = sortI (v.fresh.map Prod.fst) := by
    unfold keysOf
    rw [← hp, List.map_map, List.map_map]; rfl
  obtain ⟨KS, hKS⟩ : ∃ KS, KS = keysOf (gs.map hdr) := ⟨_, rfl⟩
  rw [← hKS] at hK hkl hkm hkf
  obtain ⟨n, hn⟩ : ∃ n, n = gs.length := ⟨_, rfl⟩
  rw [← hn] at hK hkl hgl ⊢
  have hg := fun g hgm => (hg g hgm).mono hJK
  have hD := hD.mono hJK
  refine CodeF.loopD [1, 4, 20, 21, 22] (fun vs J' S' => ∃ (k : Nat) (aI : Option Addr) (capI : Nat) (chI : List Blk) (outs : List Img), k ≤ n ∧ outs.length = k ∧ OwnC chI 2 aI k capI (imgCells outs) ∧ (∀ g ∈ outs, ImgOk JK g) ∧ outs.map Img.pr = (KS.take k).map (fun n => (n, (v.fresh.lookup n).getD [])) ∧
      vs = [.pointer (some ⟨b1, 0, none⟩), .pointer (some ⟨b4, 0, none⟩), .slice aK n capK, .int .i64 n, .int .i64 k] ∧ JK = J' ∧ S' = [vChunk bV bD bJ bM v.j.lay v.epoch v.slot false, chJ, chD, pBox b1 (.pointer (some ⟨bV, 0, none⟩)) 23, pBox b4 (.slice aI k capI) 26, [(bM, ob)], chK, chI])
    (fun vs _ _ => match vs with | [_, _, _, _, .int _ k] => ((n : Int) - k).toNat | _ => 0) ?_ ?_
  · exact ⟨_, Drop.and (Drop.pick [0, 2, 3, 4, 5, 7, 8] _ rfl), 0, none, 0, [], [], by omega, rfl, OwnC.nil _ _, by simp, rfl, rfl, rfl, rfl⟩
  rintro vs gE J' S' hJ' ⟨k, aI, capI, chI, outs, hk, hol, hO, hoI, hpr, rfl, rfl, rfl⟩
  refine CmpD.split (fun (c3 : (k : Int) < n) => ?_) (fun (c3 : ¬ (k : Int) < n) => ?_)
  · have hkK : k < KS.length := by omega
    have htk : KS.take (k + 1) = KS.take k ++ [KS[k]] := by rw [List.take_add_one, List.getElem?_eq_getElem hkK]; rfl
    obtain ⟨g, hgm, hgb, hget, hlk⟩ := lookup_both gs KS[k] (hkm _ (List.getElem_mem hkK))
    rw [hp] at hlk
    have hgR := hg g hgm
    have hcell : (ints KS)[k]? = some (.int .i64 KS[k]) := ints_get (List.getElem?_eq_getElem hkK)
    generalize hnk : KS[k] = m at *
    rcases hK.at' with q0 | ⟨bK, pre, post, TK, rfl, rfl, hpost⟩
    · have := hK.le; omega
    refine Chk.mk (by omega) ?_
    refine LoadD.own 6 rfl [.int .i64 m] (take_get (own_take pre (ints KS) post) hcell) rfl ?_
    refine CodeF.sched [[], [], [], [2], [2, 3], [2, 3, 4], [], [2, 3, 4, 5, 6], [1, 2, 3, 4, 5, 6, 7], [1, 2, 3, 4, 5, 6, 7, 8], [0, 1, 2, 3, 4, 5, 6, 7, 8, 9], [0, 1, 2, 3, 4, 5, 6, 7, 8, 9, 10]] [0, 1, 2, 3, 4, 5, 6, 7, 8, 9, 10, 11] (by kernel_rfl) ?_
    repeat (first | refine LoadP.at 0 rfl _ rfl rfl ?_ | refine LoadP.at 3 rfl _ rfl rfl ?_ | refine LoadP.at 4 rfl _ rfl rfl ?_)
    refine lookupD tabOk rfl rfl rfl rfl rfl rfl 5 rfl hM ?_
    rw [hget]
    repeat (first | refine Chk.mk ⟨rfl, trivial⟩ ?_)
    conv => whnf
    intro bN
    repeat (first | refine Chk.mk ⟨rfl, trivial⟩ ?_)
    refine appendD tabOk rfl rfl rfl rfl rfl rfl rfl 7 rfl hO (SrcOk.slice (n := 1) (news := imgCells [⟨m, g.a, g.len, g.cap, g.data⟩]) tabOk rfl ((OwnC.whole (len := 1) (size := 2) rfl).slC 8 rfl) (by intro v hv; simp [imgCells] at hv; rcases hv with rfl | rfl <;> rfl)) rfl (by show (k + 1) * 32 ≤ _; omega) (by omega) ?_
    intro a2 cap2 ch2 hO2
    repeat (first | refine StoreD.st 4 rfl rfl rfl ?_)
    refine ToD.i64 (by omega) (by omega) ?_
    refine ⟨_, Drop.pick [0, 1, 2, 3, 4, 5, 6, 7] _ rfl, ⟨k + 1, a2, cap2, ch2, outs ++ [⟨m, g.a, g.len, g.cap, g.data⟩], by omega, by simp [hol], by rw [imgCells_snoc]; exact hO2, ?_, ?_, rfl, rfl, rfl⟩, ?_⟩
    · intro y hy
      rcases List.mem_append.1 hy with hy | hy
      · exact hoI y hy
      · simp only [List.mem_singleton] at hy
        subst hy
        rw [← hgb]
        exact hgR
    · rw [htk, List.map_append, List.map_append, hpr]
      simp [hlk]
    · show ((n : Int) - ((k : Int) + 1)).toNat < ((n : Int) - (k : Int)).toNat; omega
  obtain rfl : k = n := by omega
  rw [List.take_of_length_le (by omega), hkf] at hpr
  have hpr : outs.map Img.pr = sortP v.fresh := hpr
  repeat (first | refine LoadD.own 0 rfl _ rfl rfl ?_ | refine LoadD.own 3 rfl _ rfl rfl ?_)
  have hring := hw.ring
  unfold Ok at hring
  refine Tri.frame1 1 rfl (jk_Ring hj JK) ?_
  rintro r _ A' hJ3 ⟨rfl, rfl, rfl⟩
  refine ⟨_, rfl, ?_⟩
  conv => whnf
  intro b7
  refine StoreD.st 8 rfl rfl rfl ?_
  refine CodeF.cutD [1, 4, 8] (fun vs J' S' => ∃ b8, JK = J' ∧ vs = [.pointer (some ⟨b1, 0, none⟩), .pointer (some ⟨b4, 0, none⟩), .pointer (some ⟨b8, 0, none⟩)] ∧
      S' = [vChunk bV bD bJ bM v.j.lay v.epoch v.slot false, chJ, chD, pBox b1 (.pointer (some ⟨bV, 0, none⟩)) 23, pBox b4 (.slice aI k capI) 26, [(bM, ob)], chI, [(b8, row [.int .i64 v.sup.blocks, .int .i64 v.sup.epoch, .int .i64 v.sup.seq, .int .i64 v.sup.tail] 143)]]) ?_ ?_
  · refine CodeF.schedT [[], [0], [0, 1], [0, 1, 2], [0, 1, 2, 3], [], [5], [5, 6], [5, 6, 7], [], [9], [9, 10], [9, 10, 11], [9, 10, 11, 12], [], [14], [], [16], [14, 15, 16, 17], [], [19], [14, 15, 16, 17, 18, 19, 20], [0, 1, 2, 3, 4, 5, 6, 7, 8, 9, 10, 11, 12, 13, 14, 15, 16, 17, 18, 19, 20, 21], [], [0, 1, 2, 3, 4, 5, 6, 7, 8, 9, 10, 11, 12, 13, 14, 15, 16, 17, 18, 19, 20, 21, 22, 23]] (.rd 0 (.rd 1 (.rd 2 (.rd 3 (.rd 4 (.rd 5 (.rd 6 (.rd 7 (.rd 8 (.rd 9 (.rd 10 (.rd 11 (.rd 12 (.rd 14 (.rd 15 (.rd 16 (.rd 17 (.rd 18 (.rd 19 (.rd 20 (.rd 21 (.alt (.ef 13 (.rd 22 (.ef 23 (.ef 24 .nil)))) (.ef 23 (.ef 13 (.rd 22 (.ef 24 .nil)))))))))))))))))))))))))) (by kernel_rfl) ?_
    repeat (first | refine LoadP.at 0 rfl _ rfl rfl ?_ | refine LoadP.at 3 rfl _ rfl rfl ?_ | refine LoadP.at 8 rfl _ rfl rfl ?_)
    refine ToD.to (v.j.t + v.j.u) (wrap_i64 (by omega) (by omega)) ?_
    repeat (first | refine LoadP.at 8 rfl _ rfl rfl ?_)
    refine Chk.mk (by show v.j.s ≠ 0; omega) ?_
    refine ToD.to ((v.j.t + v.j.u) % v.j.s) (Int.tmod_eq_emod_of_nonneg (by omega)) ?_
    have fin : ∀ b8, ∃ S0, Drop [vChunk bV bD bJ bM v.j.lay v.epoch v.slot false, chJ, chD, pBox b1 (.pointer (some ⟨bV, 0, none⟩)) 23, pBox b4 (.slice aI k capI) 26, [(bM, ob)], chK, chI, [(b7, row [.int .i64 v.j.s, .int .i64 v.j.t, .int .i64 v.j.u, .int .i64 v.j.h] 83)], [(b8, row [.int .i64 v.j.lay.b, .int .i64 v.epoch, .int .i64 v.j.next, .int .i64 ((v.j.t + v.j.u) % v.j.s)] 143)]] S0 ∧ ∃ b, JK = JK ∧ [Value.pointer (some ⟨b1, 0, none⟩), .pointer (some ⟨b4, 0, none⟩), .pointer (some ⟨b8, 0, none⟩)] = [.pointer (some ⟨b1, 0, none⟩), .pointer (some ⟨b4, 0, none⟩), .pointer (some ⟨b, 0, none⟩)] ∧
        S0 = [vChunk bV bD bJ bM v.j.lay v.epoch v.slot false, chJ, chD, pBox b1 (.pointer (some ⟨bV, 0, none⟩)) 23, pBox b4 (.slice aI k capI) 26, [(bM, ob)], chI, [(b, row [.int .i64 v.sup.blocks, .int .i64 v.sup.epoch, .int .i64 v.sup.seq, .int .i64 v.sup.tail] 143)]] :=
      fun b8 => ⟨_, Drop.pick [0, 1, 2, 3, 4, 5, 7, 9] _ rfl, b8, rfl, rfl, rfl⟩
    refine And.intro ?_ ?_
    · skip
      refine Tri.frame1 1 rfl (jk_Next hj JK) ?_
      rintro r _ A' hJ4 ⟨rfl, rfl, rfl⟩
      refine ⟨_, rfl, ?_⟩
      repeat (first | refine Chk.mk ⟨rfl, rfl, rfl, rfl, rfl, rfl, rfl, trivial⟩ ?_)
      conv => whnf
      intro b8
      repeat (first | refine StoreD.st 9 rfl rfl rfl ?_ | refine Chk.mk ⟨rfl, rfl, rfl, rfl, rfl, rfl, rfl, rfl, rfl, trivial⟩ ?_)
      exact fin b8
    · skip
      conv => whnf
      intro b8
      repeat (first | refine Chk.mk ⟨rfl, rfl, rfl, rfl, rfl, rfl, rfl, rfl, rfl, trivial⟩ ?_)
      refine Tri.frame1 1 rfl (jk_Next hj JK) ?_
      rintro r _ A' hJ4 ⟨rfl, rfl, rfl⟩
      refine ⟨_, rfl, ?_⟩
      repeat (first | refine StoreD.st 9 rfl rfl rfl ?_ | refine Chk.mk ⟨rfl, rfl, rfl, rfl, rfl, rfl, rfl, trivial⟩ ?_)
      exact fin b8
  rintro vs gE2 J2 S2 hJ2 ⟨b8, rfl, rfl, rfl⟩
  repeat (first | refine LoadD.own 0 rfl _ rfl rfl ?_ | refine LoadD.own 3 rfl _ rfl rfl ?_)
  conv => whnf
  intro bS
  refine Tri.fix 6 (ch := chI) rfl fun I5 hI5 hIm => ?_
  refine Tri.fix 8 rfl fun I6 hI6 hSm => ?_
  have hfs : Rds I6 (some ⟨bS, 0, none⟩) 3 [.func (.func 88) #[.pointer (some ⟨bJ, 0, none⟩)] #[], .func (.func 92) #[] #[.pointer (some ⟨b1, 0, none⟩), .pointer (some ⟨b4, 0, none⟩), .pointer (some ⟨b8, 0, none⟩)], .func (.func 94) #[] #[.pointer (some ⟨b1, 0, none⟩)]] :=
    ⟨rfl, .inr ⟨bS, 0, _, _, _, rfl, hSm _ (List.mem_singleton.2 rfl), rfl⟩⟩
  have hI56 := Imm.le_trans hI5 hI6
  have himg : ImgsOk I6 aI outs := ⟨by rw [hol]; exact (Rds.of_ownS hO hIm).mono hI6, fun g hgm => (hoI g hgm).mono hI56⟩
  have hD := hD.mono hI56
  have hg := fun g hgm => (hg g hgm).mono hI56
  refine (vol_first (K := fun r J S' => ∃ chJ2 chD2, r = .int .i64 (v.ckS d).1 ∧ Jk bJ bD (v.ckS d).2.1 chJ2 ∧ Dk J bD (v.ckS d).2.2 chD2 ∧ S' = [vChunk bV bD bJ bM v.j.lay v.epoch v.slot false, chJ2, chD2, pBox b1 (.pointer (some ⟨bV, 0, none⟩)) 23, pBox b4 (.slice aI k capI) 26, [(bM, ob)], [], [(b8, row [.int .i64 v.sup.blocks, .int .i64 v.sup.epoch, .int .i64 v.sup.seq, .int .i64 v.sup.tail] 143)], []]) (some ⟨bS, 0, none⟩) 3 3 _ (by omega) hfs ?_).mono ?_
  · refine ⟨_, [.pointer (some ⟨bJ, 0, none⟩)], [], rfl, ?_⟩
    refine Tri.frame (jk_Flush hj hw hD) [1, 2] rfl rfl ?_
    have hfl := jflush_few (j := v.j) hf
    have hjw := hw.flush d
    unfold VSt.ckS
    rintro r J3 A' hJ3 ⟨rfl, chJ2, chD2, hj2, hD2, rfl⟩
    refine ⟨Nat.le_refl _, ?_⟩
    refine ⟨_, rfl, fun he => ?_, fun he => ?_⟩
    · rw [if_pos he]
      exact ⟨chJ2, chD2, rfl, hj2, hD2, rfl⟩
    rw [if_neg (by simpa using he)]
    refine ⟨_, [], [.pointer (some ⟨b1, 0, none⟩), .pointer (some ⟨b4, 0, none⟩), .pointer (some ⟨b8, 0, none⟩)], rfl, ?_⟩
    rw [← hol]
    refine Tri.frame (ck1 hD2 hfl aI capI outs (himg.mono hJ3) (by omega) v.sup) [0, 3, 4, 7, 2] rfl rfl ?_
    rw [hpr]
    rintro r J4 A' hJ4 ⟨rfl, chD3, hD3, rfl⟩
    refine ⟨Nat.le_refl _, ?_⟩
    refine ⟨_, rfl, fun he2 => ?_, fun he2 => ?_⟩
    · rw [if_pos he2]
      exact ⟨chJ2, chD3, rfl, hj2, hD3, rfl⟩
    rw [if_neg (by simpa using he2)]
    refine ⟨_, [], [.pointer (some ⟨b1, 0, none⟩)], rfl, ?_⟩
    refine Tri.frame (ck2 hj2 hjw) [0, 3, 1] rfl rfl ?_
    rintro r _ A' hJ5 ⟨rfl, rfl, chJ3, hj3, rfl⟩
    refine ⟨Nat.le_refl _, ?_⟩
    refine ⟨_, rfl, fun he3 => ?_, fun he3 => ?_⟩
    · exact ⟨chJ3, chD3, rfl, hj3, hD3, rfl⟩
    · refine ⟨chJ3, chD3, ?_, hj3, hD3, rfl⟩
      show Value.int .i64 0 = .int .i64 _
      rw [he3]
  rintro r J7 S7 hJ7 ⟨chJ2, chD2, rfl, hj2, hD2, rfl⟩
  have hlay := ckS_lay v d
  have hg7 := fun g hgm => (hg g hgm).mono hJ7
  repeat (first | refine LoadD.own 3 rfl _ rfl rfl ?_)
  refine Tri.frame1 0 rfl (v_did bV bD bJ bM v.j.lay v.epoch v.slot false J7 (v.ckS d).1) ?_
  rintro r _ A' hJ8 ⟨rfl, rfl, rfl⟩
  refine ⟨_, rfl, ?_⟩
  unfold VSt.ckpt
  rw [if_neg (by rw [hb]; simp)]
  refine CmpD.split (fun c4 => ?_) (fun c4 => ?_)
  · have c4 : (v.ckS d).1 = 0 := c4
    rw [if_neg (by rw [c4]; simp)]
    refine CodeF.sched [[], [], [1], [1, 2], [1, 2, 3], [1, 2, 3, 4], [0, 1, 2, 3, 4, 5], [0, 1, 2, 3, 4, 5, 6], [0, 1, 2, 3, 4, 5, 6, 7]] [0, 1, 2, 3, 4, 5, 6, 7, 8] (by kernel_rfl) ?_
    repeat (first | refine LoadP.at 0 rfl _ rfl rfl ?_ | refine LoadP.at 3 rfl _ rfl rfl ?_)
    refine ToD.to (1 - v.slot) (wrap_i64 (by omega) (by omega)) ?_
    repeat (first | refine LoadD.own 0 rfl _ rfl rfl ?_ | refine LoadD.own 3 rfl _ rfl rfl ?_ | refine StoreD.st 0 rfl rfl rfl ?_)
    refine clearMapD tabOk rfl rfl rfl rfl rfl rfl 5 rfl hM ?_
    intro ob' hM'
    refine Done.mk ⟨[vChunk bV bD bJ bM v.j.lay v.epoch (1 - v.slot) v.broken ++ ((bM, ob') :: chJ2), chD2], (Drop.pick [0, 5, 1, 2] _ rfl).trans (Drop.flat ?_), rfl, _, chD2, ⟨bJ, bM, ob', chJ2, [], by rw [hlay], hj2, hM', by simp, rfl⟩, hD2, rfl⟩
    rw [hb, c4]
    simp [St.at]
    rfl
  · have c4 : (v.ckS d).1 ≠ 0 := c4
    rw [if_pos c4]
    skip
    refine Done.mk ⟨[vChunk bV bD bJ bM v.j.lay v.epoch v.slot true ++ ((bM, ob) :: chJ2), chD2], (Drop.pick [0, 5, 1, 2] _ rfl).trans (Drop.flat ?_), rfl, _, chD2, ⟨bJ, bM, ob, chJ2, gs, by rw [hlay], hj2, hM, hg7, hp⟩, hD2, rfl⟩
    rw [decide_eq_true c4]
    simp [St.at]
end Go.Proofs.YtegdcjnjnoeinaaGreat
namespace Go.Proofs.YtegdcjnjnoeinaaGreat
open Go.RowKit Go.Sl
set_option maxRecDepth 20000

set_option maxHeartbeats 4000000 in
theorem r10_Home {I : Imm} {aG : Option Addr} {capG : Nat} {l : List Grp} (hG : GrpsR I [] aG l) (hl : l.length ≤ 1000000) (hall : (allI l).length ≤ 1000000) (hfew : ∀ g ∈ allI l, g.len ≤ 100000000) (x : Lay) :
    Tri Tryz.prog 118 #[x.v, .slice aG l.length capG] I [] fun v J _ =>
      ((¬ LayOk x ∧ v = .tuple #[.slice none 0 0, .int .i64 2]) ∨
       (LayOk x ∧ ¬ HomeOk x (allP l) ∧ v = .tuple #[.slice none 0 0, .int .i64 90]) ∨
       (LayOk x ∧ HomeOk x (allP l) ∧ ∃ (aO : Option Addr) (capO : Nat) (outs : List Img), v = .tuple #[.slice aO outs.length capO, .int .i64 0] ∧ ImgsOk J aO outs ∧ outs.map Img.pr = homeP (allP l))) := by
  refine Tri.fixed (Q := fun v J S' => ∃ chO, S' = [chO] ∧
      ((¬ LayOk x ∧ v = .tuple #[.slice none 0 0, .int .i64 2]) ∨
       (LayOk x ∧ ¬ HomeOk x (allP l) ∧ v = .tuple #[.slice none 0 0, .int .i64 90]) ∨
       (LayOk x ∧ HomeOk x (allP l) ∧ ∃ (aO : Option Addr) (capO : Nat) (outs : List Img), v = .tuple #[.slice aO outs.length capO, .int .i64 0] ∧ OwnC chO 2 aO outs.length capO (imgCells outs) ∧ (∀ g ∈ outs, ImgOk J g) ∧ outs.map Img.pr = homeP (allP l)))) ?_ ?_
  rotate_left
  · rintro v J S' hJ ⟨chO, rfl, h⟩
    refine ⟨0, chO, rfl, fun J' hJ' hm => ?_⟩
    rcases h with ⟨h1, rfl⟩ | ⟨h1, h2, rfl⟩ | ⟨h1, h2, aO, capO, outs, rfl, hO, hok, hpr⟩
    · exact .inl ⟨h1, rfl⟩
    · exact .inr (.inl ⟨h1, h2, rfl⟩)
    · exact .inr (.inr ⟨h1, h2, aO, capO, outs, rfl, ⟨Rds.of_ownS hO hm, fun g hg => (hok g hg).mono hJ'⟩, hpr⟩)
  refine Tri.lay (S2 := [[]]) (by simp) ?_
  refine Tri.drop ?_ (fun _ _ _ _ h => h)
  have hsl := hG.sl.rds
  refine Tri.of (args := [x.v, .slice aG l.length capG]) tabOk Tryz.func118 rfl (by kernel_rfl) (by kernel_rfl) ?_
  conv => whnf
  intro b2
  repeat (first | refine LoadD.own 1 rfl _ rfl rfl ?_)
  refine Tri.free (r5_Right x I) ?_
  rintro v J _ hJ ⟨rfl, br, rfl, hbr⟩
  cases br
  · skip
    exact Done.mk ⟨[[]], Drop.pick [0] _ rfl, [], rfl, .inl ⟨fun h => by simpa using hbr.2 h, rfl⟩⟩
  have hX := hbr.1 rfl
  have hXb : (64 ≤ x.b ∧ x.b ≤ 512) ∧ x.bi = 2 + layL x.b := by
    refine ⟨⟨hX.1, hX.2.1⟩, ?_⟩
    have hq := hX.2.2
    have hxb : ((x.b.toNat : Nat) : Int) = x.b := by have := hX.1; omega
    have hq2 := congrArg Lay.bi hq
    rw [hq2]; show 2 + layL ((x.b.toNat : Nat) : Int) = _; rw [hxb]
  have hL := layL_range hXb.1
  skip
  refine CodeF.loopD [1, 2, 6, 7] (fun vs J' S' => ∃ (i : Nat) (aA : Option Addr) (capA : Nat) (chA : List Blk), i ≤ l.length ∧ OwnC chA 2 aA (allI (l.take i)).length capA (imgCells (allI (l.take i))) ∧ vs = [.slice aG l.length capG, .pointer (some ⟨b2, 0, none⟩), .slice aA (allI (l.take i)).length capA, .int .i64 i] ∧ I = J' ∧ S' = [chA, layBox b2 x])
    (fun vs _ _ => match vs with | [_, _, _, .int _ i] => ((l.length : Int) - i).toNat | _ => 0) ?_ ?_
  · exact ⟨_, Drop.pick [0, 1] _ rfl, 0, none, 0, [], by omega, OwnC.nil 2 none, rfl, rfl, rfl⟩
  rintro vs gE J' S' hJ' ⟨i, aA, capA, chA, hi, hA, rfl, rfl, rfl⟩
  have hpl : ∀ gs : List Img, ∀ u ∈ imgCells gs, Plain u = true := by
    intro gs u hu
    unfold imgCells at hu
    obtain ⟨g, _, h⟩ := List.mem_flatMap.1 hu
    simp only [List.mem_cons, List.not_mem_nil, or_false] at h
    rcases h with rfl | rfl <;> rfl
  refine CmpD.split (fun c1 => ?_) (fun c1 => ?_)
  · have hlt : i < l.length := by omega
    have hg := hG.each _ (List.getElem_mem hlt)
    have htk := allI_take l i hlt
    have hlen : (allI (l.take (i + 1))).length ≤ (allI l).length := by
      have e : allI l = allI (l.take (i + 1)) ++ allI (l.drop (i + 1)) := by unfold allI; rw [← List.flatMap_append, List.take_append_drop]
      rw [e, List.length_append]; omega
    rcases hsl.mem with q0 | ⟨bg, off, cg, Tg, fg, rfl, hIg, hcg⟩
    · omega
    have hcell := take_part hcg (i := i * 3) (m := 3) (by omega)
    rw [grpCells_at hlt] at hcell
    have hcell2 : (cg.drop (off + i * 3 + 2)).take 1 = [.slice l[i].a l[i].gs.length l[i].cap] := take_part hcell (i := 2) (m := 1) (by omega)
    generalize hgi : l[i] = gi at *
    rw [htk, List.length_append] at hlen
    refine Chk.mk (by omega) ?_
    refine LoadD.imm hIg [.slice gi.a gi.gs.length gi.cap] hcell2 rfl ?_
    refine appendD tabOk rfl rfl rfl rfl rfl rfl rfl 0 rfl hA (SrcOk.slice (n := gi.gs.length) (news := imgCells gi.gs) tabOk rfl (hg.1.sl.rds.slC) (hpl _)) rfl (by show ((allI (l.take i)).length + gi.gs.length) * 32 ≤ _; omega) (by omega) ?_
    intro a2 cap2 ch2 hO2
    refine ToD.i64 (by omega) (by omega) ?_
    refine ⟨_, Drop.pick [0, 1] _ rfl, ⟨i + 1, a2, cap2, ch2, by omega, ?_, ?_, rfl, rfl⟩, ?_⟩
    · rw [htk, List.length_append]; unfold imgCells; rw [List.flatMap_append]; exact hO2
    · rw [htk, List.length_append]; rfl
    · show ((l.length : Int) - ((i : Int) + 1)).toNat < ((l.length : Int) - i).toNat; omega
  obtain rfl : i = l.length := by omega
  rw [List.take_length] at hA ⊢
  obtain ⟨A, hAe⟩ : ∃ A, A = allI l := ⟨_, rfl⟩
  rw [← hAe] at hA hall hfew ⊢
  have hAp : allP l = A.map Img.pr := by rw [allP_eq, hAe]
  have hAr : ∀ g ∈ A, Rds I g.a g.len (bts g.data) := by
    intro g hg
    rw [hAe] at hg
    unfold allI at hg
    obtain ⟨gr, hgr, hgg⟩ := List.mem_flatMap.1 hg
    exact ((hG.each gr hgr).1.each g hgg).rd.rds
  rw [hAp]
  clear hAe
  refine CodeF.loopD [2, 6, 8] (fun vs J' S' => ∃ i : Nat, i ≤ A.length ∧ HomeOk x ((A.take i).map Img.pr) ∧ vs = [.pointer (some ⟨b2, 0, none⟩), .slice aA A.length capA, .int .i64 i] ∧ I = J' ∧ S' = [chA, layBox b2 x])
    (fun vs _ _ => match vs with | [_, _, .int _ i] => ((A.length : Int) - i).toNat | _ => 0) ?_ ?_
  · exact ⟨_, Drop.pick [0, 1] _ rfl, 0, by omega, by intro g hg; simp at hg, rfl, rfl, rfl⟩
  · rintro vs gE2 J2 S2 hJ2 ⟨i, hi2, hok, rfl, rfl, rfl⟩
    refine CmpD.split (fun c2 => ?_) (fun c2 => ?_)
    · have hlt : i < A.length := by omega
      have htk : A.take (i + 1) = A.take i ++ [A[i]] := by rw [List.take_add_one, List.getElem?_eq_getElem hlt]; rfl
      have hmem : A[i] ∈ A := List.getElem_mem hlt
      have hcell := imgCells_0 hlt
      obtain ⟨bA, oA, rfl, hcA⟩ := hA.cellsP (I := I) (S := [chA, layBox b2 x]) 0 rfl (by omega)
      generalize A[i] = g at *
      refine CodeF.sched [[], [], [0, 1], [0, 1, 2], [0, 1, 2, 3], [], [5], [0, 1, 2, 3, 4, 5, 6], [0, 1, 2, 3, 4, 5, 6, 7], [0, 1, 2, 3, 4, 5, 6, 7, 8], [0, 1, 2, 3, 4, 5, 6, 7, 8], [0, 1, 2, 3, 4, 5, 6, 7, 8, 9, 10], [0, 1, 2, 3, 4, 5, 6, 7, 8, 9, 10, 11], [0, 1, 2, 3, 4, 5, 6, 7, 8, 9, 10, 11, 12], [0, 1, 2, 3, 4, 5, 6, 7, 8], [0, 1, 2, 3, 4, 5, 6, 7, 8, 14], [0, 1, 2, 3, 4, 5, 6, 7, 8, 9, 10, 11, 12, 13, 14, 15], [0, 1, 2, 3, 4, 5, 6, 7, 8, 9, 10, 11, 12, 13, 14, 15, 16]] [0, 1, 2, 3, 4, 5, 6, 7, 8, 9, 10, 11, 12, 13, 14, 15, 16, 17] (by kernel_rfl) ?_
      refine Chk.mk (by omega) ?_
      refine LoadP.own 0 _ (hcA.at hcell) ?_
      refine LoadP.at 1 rfl _ rfl rfl ?_
      have bad : ¬ (x.bi ≤ g.blk ∧ g.blk < x.b) → ∃ S'', Drop [chA, layBox b2 x] S'' ∧ ∃ chO, S'' = [chO] ∧
          ((¬ LayOk x ∧ Value.tuple #[.slice none 0 0, .int .i64 90] = .tuple #[.slice none 0 0, .int .i64 2]) ∨
           (LayOk x ∧ ¬ HomeOk x (A.map Img.pr) ∧ Value.tuple #[.slice none 0 0, .int .i64 90] = .tuple #[.slice none 0 0, .int .i64 90]) ∨
           (LayOk x ∧ HomeOk x (A.map Img.pr) ∧ ∃ (aO : Option Addr) (capO : Nat) (outs : List Img), Value.tuple #[.slice none 0 0, .int .i64 90] = .tuple #[.slice aO outs.length capO, .int .i64 0] ∧ OwnC chO 2 aO outs.length capO (imgCells outs) ∧ (∀ g ∈ outs, ImgOk I g) ∧ outs.map Img.pr = homeP (A.map Img.pr))) :=
        fun h => ⟨[chA], Drop.pick [0] _ rfl, chA, rfl, .inr (.inl ⟨hX, fun h' => h (h' g.pr (List.mem_map_of_mem hmem)), rfl⟩)⟩
      refine CmpD.split (fun c3 => ?_) (fun c3 => ?_)
      · skip
        exact Done.mk (bad (by omega))
      refine Chk.mk (by omega) ?_
      refine LoadP.own 0 _ (hcA.at hcell) ?_
      refine LoadP.at 1 rfl _ rfl rfl ?_
      refine CmpD.split (fun c4 => ?_) (fun c4 => ?_)
      · skip
        exact Done.mk (bad (by omega))
      skip
      refine ToD.i64 (by omega) (by omega) ?_
      refine ⟨_, Drop.pick [0, 1] _ rfl, ⟨i + 1, by omega, ?_, rfl, rfl, rfl⟩, ?_⟩
      · rw [htk, List.map_append]
        intro q hq
        rcases List.mem_append.1 hq with hq | hq
        · exact hok q hq
        · simp only [List.map_cons, List.map_nil, List.mem_singleton] at hq
          subst hq
          exact ⟨by show x.bi ≤ g.blk; omega, by show g.blk < x.b; omega⟩
      · show ((A.length : Int) - ((i : Int) + 1)).toNat < ((A.length : Int) - i).toNat; omega
    obtain rfl : i = A.length := by omega
    rw [List.take_length] at hok
    repeat (first | refine LoadD.own 1 rfl _ rfl rfl ?_)
    have hin : ∀ g ∈ A, x.bi ≤ g.blk ∧ g.blk < x.b := fun g hg => hok g.pr (List.mem_map_of_mem hg)
    obtain ⟨hXb1, hXb2⟩ := hXb
    have hbb : x.bi ≤ x.b := by rw [hXb2]; unfold layL; split <;> omega
    obtain ⟨P, hP⟩ : ∃ P, P = A.map Img.pr := ⟨_, rfl⟩
    rw [← hP] at hok ⊢
    have hPl : P.length = A.length := by rw [hP, List.length_map]
    refine CodeF.loopD [2, 6, 9, 10] (fun vs J' S' => ∃ (k : Nat) (aO : Option Addr) (capO : Nat) (chO : List Blk) (outs : List Img), x.bi + k ≤ x.b ∧ outs.length ≤ k ∧ OwnC chO 2 aO outs.length capO (imgCells outs) ∧ (∀ g ∈ outs, ImgOk J' g) ∧ outs.map Img.pr = homeK x.bi P k ∧ I.le J' ∧
        vs = [.pointer (some ⟨b2, 0, none⟩), .slice aA A.length capA, .slice aO outs.length capO, .int .i64 (x.bi + k)] ∧ S' = [chA, layBox b2 x, chO])
      (fun vs _ _ => match vs with | [_, _, _, .int _ n] => (x.b - n).toNat | _ => 0) ?_ ?_
    · exact ⟨_, Drop.and (Drop.pick [0, 1] _ rfl), 0, none, 0, [], [], by omega, by simp, OwnC.nil 2 none, by simp, rfl, Imm.le_refl _, congrArg (fun z => [Value.pointer (some ⟨b2, 0, none⟩), .slice aA A.length capA, .slice none 0 0, .int .i64 z]) (by omega : x.bi = x.bi + ((0 : Nat) : Int)), rfl⟩
    rintro vs gE3 J3 S3 hJ3 ⟨k, aO, capO, chO, outs, hk, hol, hO, hoks, hpr, hle, rfl, rfl⟩
    refine LoadD.own 1 rfl _ rfl rfl ?_
    refine CmpD.split (fun c5 => ?_) (fun c5 => ?_)
    rotate_left
    · have hbk : x.b = x.bi + k := by omega
      skip
      refine Done.mk ⟨[chO], Drop.pick [2] _ rfl, chO, rfl, .inr (.inr ⟨hX, hok, aO, capO, outs, rfl, hO, hoks, ?_⟩)⟩
      rw [hpr]
      exact homeK_homeP _ _ _ (fun g hg => by have := hok g hg; omega)
    have hkb : k ≤ 512 := by omega
    skip
    refine ToD.i64 (by omega) (by omega) ?_
    have next : ∀ (S4 : St) (J4 : Imm) (aO2 : Option Addr) (capO2 : Nat) (chO2 : List Blk) (outs2 : List Img), Drop S4 [chA, layBox b2 x, chO2] → J3.le J4 → outs2.length ≤ k + 1 → OwnC chO2 2 aO2 outs2.length capO2 (imgCells outs2) → (∀ g ∈ outs2, ImgOk J4 g) → outs2.map Img.pr = homeK x.bi P (k + 1) →
        ToD (IntKind.i64.wrap (x.bi + (k : Int) + 1)) fun m => ∃ S0, Drop S4 S0 ∧ (∃ (k : Nat) (aO : Option Addr) (capO : Nat) (chO : List Blk) (outs : List Img), x.bi + k ≤ x.b ∧ outs.length ≤ k ∧ OwnC chO 2 aO outs.length capO (imgCells outs) ∧ (∀ g ∈ outs, ImgOk J4 g) ∧ outs.map Img.pr = homeK x.bi P k ∧ I.le J4 ∧
          [Value.pointer (some ⟨b2, 0, none⟩), .slice aA A.length capA, .slice aO2 outs2.length capO2, .int .i64 m] = [.pointer (some ⟨b2, 0, none⟩), .slice aA A.length capA, .slice aO outs.length capO, .int .i64 (x.bi + k)] ∧ S0 = [chA, layBox b2 x, chO]) ∧ (x.b - m).toNat < (x.b - (x.bi + (k : Int))).toNat := by
      intro S4 J4 aO2 capO2 chO2 outs2 hd hJ4 h1 h2 h3 h4
      refine ToD.i64 (by omega) (by omega) ?_
      refine ⟨_, hd, ⟨k + 1, aO2, capO2, chO2, outs2, by omega, h1, h2, h3, h4, Imm.le_trans hle hJ4, ?_, rfl⟩, by omega⟩
      rw [show x.bi + (k : Int) + 1 = x.bi + ((k + 1 : Nat) : Int) by omega]
    refine CodeF.loopD [2, 6, 9, 10, 11] (fun vs J' S' => ∃ j : Nat, j ≤ A.length ∧ (∀ i, j ≤ i → (h : i < A.length) → A[i].blk ≠ x.bi + k) ∧ vs = [.pointer (some ⟨b2, 0, none⟩), .slice aA A.length capA, .slice aO outs.length capO, .int .i64 (x.bi + k), .int .i64 ((j : Int) - 1)] ∧ J3 = J' ∧ S' = [chA, layBox b2 x, chO])
      (fun vs _ _ => match vs with | [_, _, _, _, .int _ j] => (j + 1).toNat | _ => 0) ?_ ?_
    · exact ⟨_, Drop.pick [0, 1, 2] _ rfl, A.length, Nat.le_refl _, fun i h1 h2 => by omega, rfl, rfl, rfl⟩
    rintro vs gE4 J4 S4 hJ4 ⟨j, hj, hno, rfl, rfl, rfl⟩
    have lastE : lastD P (x.bi + k) = lastD (P.take j) (x.bi + k) := by
      refine lastD_take P _ j (by omega) ?_
      intro i h1 h2
      have h2' : i < A.length := by omega
      have := hno i h1 h2'
      have e : P[i] = A[i].pr := by simp only [hP, List.getElem_map]
      rw [e]; exact this
    refine CmpD.split (fun c6 => ?_) (fun c6 => ?_)
    rotate_left
    · obtain rfl : j = 0 := by omega
      have hnone : lastD P (x.bi + k) = none := by rw [lastE]; rfl
      exact next _ J3 aO capO chO outs (Drop.refl _) (Imm.le_refl _) (by omega) hO hoks (by rw [homeK, hnone, hpr, List.append_nil])
    have hj1 : 1 ≤ j := by omega
    have hlt : j - 1 < A.length := by omega
    have htk : P.take j = P.take (j - 1) ++ [A[j - 1].pr] := by
      have e : P[j - 1]'(by omega) = A[j - 1].pr := by simp only [hP, List.getElem_map]
      have : P.take (j - 1 + 1) = P.take (j - 1) ++ [P[j - 1]'(by omega)] := by rw [List.take_add_one, List.getElem?_eq_getElem (by omega)]; rfl
      rw [← e, ← this, Nat.sub_add_cancel hj1]
    rw [htk, lastD_snoc] at lastE
    have hmem : A[j - 1] ∈ A := List.getElem_mem hlt
    have hcell0 := imgCells_0 hlt
    have hcell1 := imgCells_1 hlt
    have hno2 : A[j - 1].blk ≠ x.bi + k → ∀ i, j - 1 ≤ i → (h : i < A.length) → A[i].blk ≠ x.bi + k := by
      intro h i h1 h2
      rcases Nat.lt_or_ge (j - 1) i with h3 | h3
      · exact hno i (by omega) h2
      · obtain rfl : i = j - 1 := by omega
        exact h
    obtain ⟨bA, oA, rfl, hcA⟩ := SlC.split (hA.slC (I := J3) (S := [chA, layBox b2 x, chO]) 0 rfl) (by omega)
    generalize A[j - 1] = g at *
    have ej : (((j : Int) - 1)).toNat = j - 1 := by omega
    refine Chk.mk (by omega) ?_
    refine LoadD.mk [.int .i64 g.blk] (by show Cells _ _ _ (oA + (((j : Int) - 1)).toNat * 2) 1 _; rw [ej]; exact hcA.at hcell0) ?_
    refine CmpD.split (fun c7 => ?_) (fun c7 => ?_)
    rotate_left
    · refine ToD.i64 (by omega) (by omega) ?_
      refine ⟨_, Drop.pick [0, 1, 2] _ rfl, ⟨j - 1, by omega, hno2 c7, ?_, rfl, rfl⟩, ?_⟩
      · rw [show ((j : Int) - 1 - 1) = (((j - 1 : Nat) : Int) - 1) by omega]; rfl
      · show ((j : Int) - 1 - 1 + 1).toNat < ((j : Int) - 1 + 1).toNat; omega
    have hlast : lastD P (x.bi + k) = some g.data := by rw [lastE, if_pos c7]
    refine Chk.mk (by omega) ?_
    refine LoadD.mk [.slice g.a g.len g.cap] (by show Cells _ _ _ (oA + (((j : Int) - 1)).toNat * 2 + 1) 1 _; rw [ej]; exact hcA.at hcell1) ?_
    refine Tri.free (copy_fix J3 g.a g.len g.cap g.data ((hAr g hmem).mono hle) (by have := hfew g hmem; omega)) ?_
    rintro v J5 _ hJ5 ⟨aC, capC, rfl, hC⟩
    conv => whnf
    intro b83
    refine appendD tabOk rfl rfl rfl rfl rfl rfl rfl 2 rfl hO (SrcOk.slice (n := 1) (news := imgCells [⟨x.bi + k, aC, g.len, capC, g.data⟩]) tabOk rfl ((OwnC.whole (len := 1) (size := 2) rfl).slC 3 rfl) (by intro v hv; simp [imgCells] at hv; rcases hv with rfl | rfl <;> rfl)) rfl (by show (outs.length + 1) * 32 ≤ _; omega) (by omega) ?_
    intro aM capM chM hM
    have e : (outs ++ [⟨x.bi + k, aC, g.len, capC, g.data⟩] : List Img).length = outs.length + 1 := by simp
    have hn := fun b => next [chA, layBox b2 x, chM, b] J5 aM capM chM (outs ++ [⟨x.bi + k, aC, g.len, capC, g.data⟩]) (Drop.pick [0, 1, 2] _ rfl) hJ5 (by rw [e]; omega) (by rw [e, imgCells_snoc]; exact hM) (by
      intro y hy
      rcases List.mem_append.1 hy with hy | hy
      · exact (hoks y hy).mono hJ5
      · simp only [List.mem_singleton] at hy
        subst hy
        exact ⟨by show In64 (x.bi + k); unfold In64; omega, hC⟩) (by rw [homeK, hlast, List.map_append, hpr]; rfl)
    simp only [e] at hn
    exact hn _
end Go.Proofs.YtegdcjnjnoeinaaGreat
namespace Go.Proofs.YtegdcjnjnoeinaaGreat
open Go.RowKit Go.Sl
set_option maxRecDepth 20000

theorem stop_r4 (d : DSt) (hA : d.arm.Ok) (hF : d.fault.Ok) : opE d.down (gv d.arm) (gv d.fault) = d.stop.2 ∧ (d.down || decide (gv d.arm = 0)) = d.stop.1.down ∧ (if d.down then gv d.arm else dec (gv d.arm)) = gv d.stop.1.arm ∧ (if d.down then gv d.fault else dec (gv d.fault)) = gv d.stop.1.fault := by
  obtain ⟨sf, nw, ws, ct, dn, ⟨ao, al⟩, ⟨fo, fl⟩⟩ := d
  unfold Gate.Ok at hA hF
  dsimp only at hA hF
  unfold DSt.stop opE gv dec Gate.step
  cases dn
  · cases ao <;> cases fo
    · simp
    · have := hF rfl
      rcases Int.lt_or_le 0 fl with h | h
      · have e : 1 ≤ fl := by omega
        simp [e]; omega
      · obtain rfl : fl = 0 := by omega
        simp
    · have := hA rfl
      rcases Int.lt_or_le 0 al with h | h
      · have e : 1 ≤ al := by omega
        simp [e]; omega
      · obtain rfl : al = 0 := by omega
        simp
    · have := hA rfl
      have := hF rfl
      rcases Int.lt_or_le 0 al with h | h <;> rcases Int.lt_or_le 0 fl with h' | h'
      · have e : 1 ≤ al := by omega
        have e' : 1 ≤ fl := by omega
        simp [e, e']; omega
      · have e : 1 ≤ al := by omega
        obtain rfl : fl = 0 := by omega
        simp [e]; omega
      · have e' : 1 ≤ fl := by omega
        obtain rfl : al = 0 := by omega
        simp [e']; omega
      · obtain rfl : fl = 0 := by omega
        obtain rfl : al = 0 := by omega
        simp
  · simp
theorem gv_in {g : Gate} (h : g.Ok) : In64 (gv g) := by
  unfold gv In64
  unfold Gate.Ok at h
  split
  · rename_i e; have := h e; omega
  · omega
structure RDk (I : Imm) (v : Value) (d : DSt) : Prop where
  wf : d.Wf
  snd : ∀ i, i < d.safe.length → d.now[i]? = some (atP (d.safe.getD i []) d.writes i)
  ex : ∃ (s w : Hd) (bS : List Bk) (gs : List Img), v = rV s w d.count d.down (gv d.arm) (gv d.fault) ∧ Rds I s.a s.len (bS.map Bk.cell) ∧ (∀ b ∈ bS, BkOk I b) ∧ bS.map Bk.data = d.safe ∧ ImgsOk I w.a gs ∧ w.len = gs.length ∧ gs.map Img.pr = d.writes
theorem RDk.mono {I J : Imm} {v : Value} {d : DSt} (h : RDk I v d) (hJ : I.le J) : RDk J v d := by
  obtain ⟨s, w, bS, gs, e, h1, h2, h3, h4, h5, h6⟩ := h.ex
  exact ⟨h.wf, h.snd, s, w, bS, gs, e, h1.mono hJ, fun b hb => (h2 b hb).mono hJ, h3, h4.mono hJ, h5, h6⟩
theorem snd_write {d : DSt} (h : d.Wf) (hs : ∀ i, i < d.safe.length → d.now[i]? = some (atP (d.safe.getD i []) d.writes i)) (n : Nat) (b : Dat) :
    ∀ i, i < d.safe.length → (d.now.set n b)[i]? = some (atP (d.safe.getD i []) (d.writes ++ [((n : Int), b)]) i) := by
  intro i hi
  have := h.len
  rw [atP_snoc]
  dsimp only
  by_cases e : n = i
  · subst e
    rw [if_pos rfl, List.getElem?_set_self (by omega)]
  · rw [if_neg (by omega), List.getElem?_set_ne e]
    exact hs i hi
theorem RDk.stop {I : Imm} {s w : Hd} {d : DSt} {bS : List Bk} {gs : List Img} (h : d.Wf) (hs : ∀ i, i < d.safe.length → d.now[i]? = some (atP (d.safe.getD i []) d.writes i)) (h1 : Rds I s.a s.len (bS.map Bk.cell)) (h2 : ∀ b ∈ bS, BkOk I b) (h3 : bS.map Bk.data = d.safe) (h4 : ImgsOk I w.a gs) (h5 : w.len = gs.length) (h6 : gs.map Img.pr = d.writes) :
    RDk I (rV s w d.count d.stop.1.down (gv d.stop.1.arm) (gv d.stop.1.fault)) d.stop.1 := by
  obtain ⟨e1, e2, e3, e4⟩ := d.stop_same
  exact ⟨h.stop, by rw [e1, e2, e3]; exact hs, s, w, bS, gs, by rw [e4], h1, h2, by rw [e1]; exact h3, h4, h5, by rw [e3]; exact h6⟩
end Go.Proofs.YtegdcjnjnoeinaaGreat
namespace Go.Proofs.YtegdcjnjnoeinaaGreat
open Go.RowKit Go.Sl
set_option maxRecDepth 20000

set_option maxHeartbeats 1000000 in
theorem r4_Write {I : Imm} {v : Value} {d : DSt} (hD : RDk I v d) (hf : d.Few 1000000) (n : Int) (aB : Option Addr) (len capB : Nat) (data : Dat) (hB : Rds I aB len (bts data)) (hlen : len ≤ 1000000000) (hn : In64 n) :
    Tri Tryz.prog 46 #[v, .int .i64 n, .slice aB len capB] I [] fun r J _ => ∃ v', r = .tuple #[v', .int .i64 (d.write n data).2] ∧ RDk J v' (d.write n data).1 := by
  refine Tri.fixed (Q := fun r J S' => ∃ v' ch, r = .tuple #[v', .int .i64 (d.write n data).2] ∧ S' = [ch] ∧ ∀ J', J.le J' → (∀ x ∈ ch, J' x.1 = some x.2) → RDk J' v' (d.write n data).1) ?_ ?_
  rotate_left
  · rintro r J S' hJ ⟨v', ch, rfl, rfl, h⟩
    exact ⟨0, ch, rfl, fun J' hJ' hm => ⟨v', rfl, h J' hJ' hm⟩⟩
  have hwf := hD.wf
  have hsnd := hD.snd
  have hwr := hD.wf.write n data
  have hdl : data.length = len := by have := hB.len; rwa [bts_length] at this
  obtain ⟨s, w, bS, gs, rfl, hS, hBk, hbd, hW, hwl, hwp⟩ := hD.ex
  obtain ⟨q1, q2, q3, q4⟩ := stop_r4 d hwf.arm hwf.fault
  have hsl : s.len = d.safe.length := by rw [← hbd, List.length_map]; have := hS.len; rw [List.length_map] at this; exact this.symm
  have hgl : gs.length = d.writes.length := by rw [← hwp, List.length_map]
  obtain ⟨f1, f2, f3⟩ := hf
  have hr := hwf.range
  have hll := hwf.len
  have hst := d.stop_same
  refine Tri.lay (S2 := [[]]) (by simp) ?_
  refine Tri.drop ?_ (fun _ _ _ _ h => h)
  have hop := r4_operation s w d.count d.down (gv d.arm) (gv d.fault) (gv_in hwf.arm) (gv_in hwf.fault)
  rw [q1, q2, q3, q4] at hop
  obtain ⟨sa, sl, sc⟩ := s
  obtain ⟨wa, wl, wc⟩ := w
  dsimp only at hS hW hwl hsl
  subst hwl
  refine Tri.of (args := [rV ⟨sa, sl, sc⟩ ⟨wa, gs.length, wc⟩ d.count d.down (gv d.arm) (gv d.fault), .int .i64 n, .slice aB len capB]) tabOk Tryz.func46 rfl (by kernel_rfl) (by kernel_rfl) ?_
  conv => whnf
  intro b1
  conv => whnf
  intro b2
  have same : ∀ (e : Int) (J : Imm), I.le J → d.write n data = (d, e) → ∃ v' ch, Value.tuple #[rV ⟨sa, sl, sc⟩ ⟨wa, gs.length, wc⟩ d.count d.down (gv d.arm) (gv d.fault), .int .i64 e] = .tuple #[v', .int .i64 (d.write n data).2] ∧ [([] : List Blk)] = [ch] ∧ ∀ J', J.le J' → (∀ x ∈ ch, J' x.1 = some x.2) → RDk J' v' (d.write n data).1 := by
    intro e J hJ he
    rw [he]
    exact ⟨_, [], rfl, rfl, fun J' hJ' _ => hD.mono (Imm.le_trans hJ hJ')⟩
  refine CmpD.split (fun c1 => ?_) (fun c1 => ?_)
  · repeat (first | refine LoadD.own 1 rfl _ rfl rfl ?_ | refine LoadD.own 2 rfl _ rfl rfl ?_ | refine StoreD.st 2 rfl rfl rfl ?_)
    refine Done.mk ⟨[[]], Drop.pick [0] _ rfl, same 70 _ (Imm.le_refl _) ?_⟩
    have hw : wrongE d.now.length n = 70 := by unfold wrongE; rw [if_neg (show ¬ d.now.length = 0 by omega), if_pos (by omega)]
    unfold DSt.write
    rw [hw]; rfl
  repeat (first | refine LoadD.own 1 rfl _ rfl rfl ?_)
  refine CmpD.split (fun c2 => ?_) (fun c2 => ?_)
  · repeat (first | refine LoadD.own 1 rfl _ rfl rfl ?_ | refine LoadD.own 2 rfl _ rfl rfl ?_ | refine StoreD.st 2 rfl rfl rfl ?_)
    refine Done.mk ⟨[[]], Drop.pick [0] _ rfl, same 70 _ (Imm.le_refl _) ?_⟩
    have c2' : (sl : Int) ≤ n := c2
    have hw : wrongE d.now.length n = 70 := by unfold wrongE; rw [if_neg (show ¬ d.now.length = 0 by omega), if_pos (by omega)]
    unfold DSt.write
    rw [hw]; rfl
  skip
  have c2' : ¬ (sl : Int) ≤ n := c2
  have hw0 : wrongE d.now.length n = 0 := by unfold wrongE; rw [if_neg (show ¬ d.now.length = 0 by omega), if_neg (by omega)]
  refine CmpD.split (fun c3 => ?_) (fun c3 => ?_)
  rotate_left
  · repeat (first | refine LoadD.own 1 rfl _ rfl rfl ?_ | refine LoadD.own 2 rfl _ rfl rfl ?_ | refine StoreD.st 2 rfl rfl rfl ?_)
    refine Done.mk ⟨[[]], Drop.pick [0] _ rfl, same 2 _ (Imm.le_refl _) ?_⟩
    unfold DSt.write
    rw [hw0, if_neg (by simp), if_pos (by omega)]
  repeat (first | refine LoadD.own 1 rfl _ rfl rfl ?_)
  refine Tri.free (hop _) ?_
  rintro v J0 _ hJ0 ⟨rfl, rfl⟩
  conv => whnf
  intro b3
  repeat (first | refine StoreD.st 3 rfl rfl rfl ?_)
  refine CmpD.split (fun c4 => ?_) (fun c4 => ?_)
  rotate_left
  · repeat (first | refine LoadD.own 2 rfl _ rfl rfl ?_ | refine LoadD.own 3 rfl _ rfl rfl ?_ | refine StoreD.st 2 rfl rfl rfl ?_)
    have hd : d.write n data = d.stop := by unfold DSt.write; rw [hw0, if_neg (by simp), if_neg (by omega), if_pos c4]
    refine Done.mk ⟨[[]], Drop.pick [0] _ rfl, ?_⟩
    rw [hd]
    exact ⟨_, [], rfl, rfl, fun J' hJ' _ => (RDk.stop hwf hsnd hS hBk hbd hW rfl hwp).mono hJ'⟩
  repeat (first | refine LoadD.own 1 rfl _ rfl rfl ?_)
  have hplain : ∀ u ∈ imgCells gs, Plain u = true := by
    intro u hu
    unfold imgCells at hu
    obtain ⟨g, _, h⟩ := List.mem_flatMap.1 hu
    simp only [List.mem_cons, List.not_mem_nil, or_false] at h
    rcases h with rfl | rfl <;> rfl
  obtain ⟨k, rfl⟩ : ∃ k : Nat, n = k := ⟨n.toNat, by omega⟩
  refine appendD tabOk rfl rfl rfl rfl rfl rfl rfl 0 rfl (OwnC.nil 2 none) (SrcOk.slice (n := gs.length) (news := imgCells gs) tabOk rfl hW.1.slC hplain) rfl (by show (0 + gs.length) * 32 ≤ _; omega) (by omega) ?_
  intro aL capL chL hL
  refine Tri.free (copy_fix _ aB len capB data hB hlen) ?_
  rintro v J1 _ hJ1 ⟨aC, capC, rfl, hC⟩
  conv => whnf
  intro b43
  skip
  refine appendD tabOk rfl rfl rfl rfl rfl rfl rfl 0 rfl hL (SrcOk.slice (n := 1) (news := imgCells [⟨k, aC, len, capC, data⟩]) tabOk rfl ((OwnC.whole (len := 1) (size := 2) rfl).slC 4 rfl) (by intro v hv; simp [imgCells] at hv; rcases hv with rfl | rfl <;> rfl)) rfl (by show (0 + gs.length + 1) * 32 ≤ _; omega) (by omega) ?_
  intro aM capM chM hM
  repeat (first | refine LoadD.own 3 rfl _ rfl rfl ?_ | refine StoreD.st 3 rfl rfl rfl ?_)
  refine ToD.i64 (by omega) (by omega) ?_
  repeat (first | refine LoadD.own 2 rfl _ rfl rfl ?_ | refine LoadD.own 3 rfl _ rfl rfl ?_ | refine StoreD.st 2 rfl rfl rfl ?_ | refine StoreD.st 3 rfl rfl rfl ?_)
  refine Done.mk ⟨[chM], Drop.pick [0] _ rfl, ?_⟩
  have hd : d.write k data = ({ d.stop.1 with now := d.now.set k data, writes := d.writes ++ [((k : Int), data)], count := d.count + 1 }, 0) := by
    unfold DSt.write; rw [hw0, if_neg (by simp), if_neg (by omega), if_neg (by omega)]; rfl
  rw [hd] at hwr ⊢
  refine ⟨rV ⟨sa, sl, sc⟩ ⟨aM, 0 + gs.length + 1, capM⟩ (d.count + 1) d.stop.1.down (gv d.stop.1.arm) (gv d.stop.1.fault), chM, rfl, rfl, fun J' hJ' hm => ⟨hwr, ?_, ⟨sa, sl, sc⟩, ⟨aM, 0 + gs.length + 1, capM⟩, bS, gs ++ [⟨k, aC, len, capC, data⟩], rfl, hS.mono (Imm.le_trans hJ1 hJ'), fun b hb => (hBk b hb).mono (Imm.le_trans hJ1 hJ'), by rw [hst.1]; exact hbd, ⟨?_, ?_⟩, by simp, by simp [hwp]⟩⟩
  · rw [hst.1]; exact snd_write hwf hsnd k data
  · rw [List.length_append, List.length_singleton]
    rw [imgCells_snoc]
    have := Rds.of_ownS hM hm
    rw [List.nil_append, Nat.zero_add] at this
    show Rds J' aM _ _
    exact this
  · intro g hg
    rcases List.mem_append.1 hg with hg | hg
    · exact (hW.2 g hg).mono (Imm.le_trans hJ1 hJ')
    · simp only [List.mem_singleton] at hg
      subst hg
      exact ⟨hn, hC.mono hJ'⟩
end Go.Proofs.YtegdcjnjnoeinaaGreat
namespace Go.Proofs.YtegdcjnjnoeinaaGreat
open Go.RowKit Go.Sl
set_option maxRecDepth 20000

set_option maxHeartbeats 1000000 in
theorem r4_Flush {I : Imm} {v : Value} {d : DSt} (hD : RDk I v d) (hf : d.Few 1000000) :
    Tri Tryz.prog 127 #[v] I [] fun r J _ => ∃ v', r = .tuple #[v', .int .i64 d.flush.2] ∧ RDk J v' d.flush.1 := by
  refine Tri.fixed (Q := fun r J S' => ∃ v' ch, r = .tuple #[v', .int .i64 d.flush.2] ∧ S' = [ch] ∧ ∀ J', J.le J' → (∀ x ∈ ch, J' x.1 = some x.2) → RDk J' v' d.flush.1) ?_ ?_
  rotate_left
  · rintro r J S' hJ ⟨v', ch, rfl, rfl, h⟩
    exact ⟨0, ch, rfl, fun J' hJ' hm => ⟨v', rfl, h J' hJ' hm⟩⟩
  have hwf := hD.wf
  have hsnd := hD.snd
  have hwr := hD.wf.flush
  obtain ⟨s, w, bS, gs, rfl, hS, hBk, hbd, hW, hwl, hwp⟩ := hD.ex
  obtain ⟨q1, q2, q3, q4⟩ := stop_r4 d hwf.arm hwf.fault
  have hsl : s.len = d.safe.length := by rw [← hbd, List.length_map]; have := hS.len; rw [List.length_map] at this; exact this.symm
  have hgl : gs.length = d.writes.length := by rw [← hwp, List.length_map]
  obtain ⟨f1, f2, f3⟩ := hf
  have hr := hwf.range
  have hll := hwf.len
  have hst := d.stop_same
  refine Tri.lay (S2 := [[]]) (by simp) ?_
  refine Tri.drop ?_ (fun _ _ _ _ h => h)
  have hop := r4_operation s w d.count d.down (gv d.arm) (gv d.fault) (gv_in hwf.arm) (gv_in hwf.fault)
  rw [q1, q2, q3, q4] at hop
  have hat := r4_At s w d.count d.down (gv d.arm) (gv d.fault) bS gs
  obtain ⟨sa, sl, sc⟩ := s
  obtain ⟨wa, wl, wc⟩ := w
  dsimp only at hS hW hwl hsl hat
  subst hwl
  refine Tri.of (args := [rV ⟨sa, sl, sc⟩ ⟨wa, gs.length, wc⟩ d.count d.down (gv d.arm) (gv d.fault)]) tabOk Tryz.func127 rfl (by kernel_rfl) (by kernel_rfl) ?_
  conv => whnf
  intro b1
  conv => whnf
  intro b2
  repeat (first | refine LoadD.own 1 rfl _ rfl rfl ?_)
  refine Tri.free (hop _) ?_
  rintro v J0 _ hJ0 ⟨rfl, rfl⟩
  conv => whnf
  intro b3
  repeat (first | refine StoreD.st 3 rfl rfl rfl ?_)
  refine CmpD.split (fun c4 => ?_) (fun c4 => ?_)
  rotate_left
  · repeat (first | refine LoadD.own 2 rfl _ rfl rfl ?_ | refine LoadD.own 3 rfl _ rfl rfl ?_ | refine StoreD.st 2 rfl rfl rfl ?_)
    have hd : d.flush = d.stop := by unfold DSt.flush; rw [if_pos c4]
    refine Done.mk ⟨[[]], Drop.pick [0] _ rfl, ?_⟩
    rw [hd]
    exact ⟨_, [], rfl, rfl, fun J' hJ' _ => (RDk.stop hwf hsnd hS hBk hbd hW rfl hwp).mono hJ'⟩
  skip
  have hst2 := hst.2.1
  refine CodeF.loopD [1, 2, 4, 6, 7] (fun vs J' S' => ∃ (i : Nat) (a : Option Addr) (cap : Nat) (ch : List Blk) (bks : List Bk), i ≤ sl ∧ OwnC ch 1 a i cap (bks.map Bk.cell) ∧ bks.map Bk.data = d.now.take i ∧ (∀ b ∈ bks, BkOk I b) ∧ vs = [.pointer (some ⟨b1, 0, none⟩), .pointer (some ⟨b2, 0, none⟩), .pointer (some ⟨b3, 0, none⟩), .slice a i cap, .int .i64 i] ∧ I = J' ∧
      S' = [ch, [(b1, row [.slice sa sl sc, .slice wa gs.length wc, .int .i64 d.count, .bool d.down, .int .i64 (gv d.arm), .int .i64 (gv d.fault)] 76)], [(b2, row [.slice none 0 0, .slice none 0 0, .int .i64 0, .bool false, .int .i64 0, .int .i64 0] 76)], [(b3, row [.slice sa sl sc, .slice wa gs.length wc, .int .i64 d.count, .bool d.stop.1.down, .int .i64 (gv d.stop.1.arm), .int .i64 (gv d.stop.1.fault)] 76)]])
    (fun vs _ _ => match vs with | [_, _, _, _, .int _ i] => ((sl : Int) - i).toNat | _ => 0) ?_ ?_
  · exact ⟨_, Drop.pick [0, 1, 2, 3] _ rfl, 0, none, 0, [], [], by omega, OwnC.nil 1 none, by simp, by simp, rfl, rfl, rfl⟩
  rintro vs gE J' S' hJ' ⟨i, a, cap, ch, bks, hi, hO, hdat, hok, rfl, rfl, rfl⟩
  refine LoadD.own 1 rfl _ rfl rfl ?_
  refine CmpD.split (fun c1 => ?_) (fun c1 => ?_)
  · have hlt : i < sl := by omega
    have hbi : i < bS.length := by have := congrArg List.length hbd; rw [List.length_map] at this; omega
    have hsafe : d.safe.getD i [] = bS[i].data := by rw [← hbd, List.getD_eq_getElem?_getD, List.getElem?_map, List.getElem?_eq_getElem hbi]; rfl
    have hn : d.now[i]? = some (atP bS[i].data d.writes i) := by have := hsnd i (by omega); rwa [hsafe] at this
    have hln : (atP bS[i].data d.writes i).length = 4096 := hwf.now _ (List.mem_of_getElem? hn)
    have hati := hat I hS (by omega) hW rfl (by omega) i (List.getElem?_eq_getElem hbi) (hBk _ (List.getElem_mem hbi))
    rw [hwp] at hati
    generalize atP bS[i].data d.writes i = dat at *
    repeat (first | refine LoadD.own 1 rfl _ rfl rfl ?_)
    refine Tri.free hati ?_
    rintro v J1 _ hJ1 ⟨rfl, aN, len, capN, rfl, hN⟩
    obtain rfl : len = 4096 := by have := hN.len; rw [bts_length] at this; omega
    conv => whnf
    intro b4
    skip
    refine appendD tabOk rfl rfl rfl rfl rfl rfl rfl 0 rfl hO (SrcOk.slice (n := 1) (news := [.slice aN 4096 capN]) tabOk rfl ((OwnC.whole (len := 1) (size := 1) rfl).slC 4 rfl) (by intro v hv; simp only [List.mem_singleton] at hv; subst hv; rfl)) rfl (by show (i + 1) * 24 ≤ _; omega) (by omega) ?_
    intro a2 cap2 ch2 hO2
    refine ToD.i64 (by omega) (by omega) ?_
    refine ⟨_, Drop.pick [0, 1, 2, 3] _ rfl, ⟨i + 1, a2, cap2, ch2, bks ++ [⟨aN, capN, dat⟩], by omega, by rw [List.map_append]; exact hO2, ?_, ?_, rfl, rfl, rfl⟩, ?_⟩
    · rw [List.map_append, hdat, List.take_add_one, hn]; rfl
    · intro b hb
      rcases List.mem_append.1 hb with hb | hb
      · exact hok b hb
      · simp only [List.mem_singleton] at hb
        subst hb
        exact hN
    · show ((sl : Int) - ((i : Int) + 1)).toNat < ((sl : Int) - i).toNat; omega
  · obtain rfl : i = sl := by omega
    repeat (first | refine LoadD.own 2 rfl _ rfl rfl ?_ | refine LoadD.own 3 rfl _ rfl rfl ?_ | refine StoreD.st 2 rfl rfl rfl ?_ | refine StoreD.st 3 rfl rfl rfl ?_)
    have hd : d.flush = ({ d.stop.1 with safe := d.now, writes := [] }, 0) := by unfold DSt.flush; rw [if_neg (by omega)]
    refine Done.mk ⟨[ch], Drop.pick [0] _ rfl, ?_⟩
    rw [hd] at hwr ⊢
    have htake : d.now.take i = d.now := List.take_of_length_le (by omega)
    rw [htake] at hdat
    refine ⟨rV ⟨a, i, cap⟩ ⟨none, 0, 0⟩ d.count d.stop.1.down (gv d.stop.1.arm) (gv d.stop.1.fault), ch, rfl, rfl, fun J' hJ' hm => ⟨hwr, ?_, ⟨a, i, cap⟩, ⟨none, 0, 0⟩, bks, [], ?_, Rds.of_own hO hm, fun b hb => (hok b hb).mono hJ', hdat, ⟨⟨rfl, .inl rfl⟩, by simp⟩, rfl, rfl⟩⟩
    · intro k hk
      dsimp only at hk ⊢
      rw [hst2]
      show d.now[k]? = some (d.now.getD k [])
      rw [List.getD_eq_getElem?_getD, List.getElem?_eq_getElem hk]; rfl
    · show _ = rV _ _ d.stop.1.count _ _ _
      rw [hst.2.2.2]
end Go.Proofs.YtegdcjnjnoeinaaGreat
namespace Go.Proofs.YtegdcjnjnoeinaaGreat
open Go.RowKit Go.Sl
set_option maxRecDepth 20000

end Go.Proofs.YtegdcjnjnoeinaaGreat
namespace Go.Proofs.YtegdcjnjnoeinaaGreat
open Go.RowKit Go.Sl
set_option maxRecDepth 20000

set_option maxHeartbeats 1000000 in
theorem r4_Image {I : Imm} {v : Value} {d : DSt} (hD : RDk I v d) (hf : d.Few 1000000) :
    Tri Tryz.prog 51 #[v] I [] fun r J S' => ∃ a cap ch, r = .slice a (d.now.length * 4096) cap ∧ OwnB ch a (d.now.length * 4096) cap d.now.flatten ∧ I = J ∧ S' = [ch] := by
  have hwf := hD.wf
  have hsnd := hD.snd
  obtain ⟨s, w, bS, gs, rfl, hS, hBk, hbd, hW, hwl, hwp⟩ := hD.ex
  have hsl : s.len = d.safe.length := by rw [← hbd, List.length_map]; have := hS.len; rw [List.length_map] at this; exact this.symm
  have hgl : gs.length = d.writes.length := by rw [← hwp, List.length_map]
  obtain ⟨f1, f2, f3⟩ := hf
  have hr := hwf.range
  have hll := hwf.len
  refine Tri.lay (S2 := [[]]) (by simp) ?_
  refine Tri.drop ?_ (fun _ _ _ _ h => h)
  have hat := r4_At s w d.count d.down (gv d.arm) (gv d.fault) bS gs
  obtain ⟨sa, sl, sc⟩ := s
  obtain ⟨wa, wl, wc⟩ := w
  dsimp only at hS hW hwl hsl hat
  subst hwl
  refine Tri.of (args := [rV ⟨sa, sl, sc⟩ ⟨wa, gs.length, wc⟩ d.count d.down (gv d.arm) (gv d.fault)]) tabOk Tryz.func51 rfl (by kernel_rfl) (by kernel_rfl) ?_
  conv => whnf
  intro b1
  refine CodeF.loopD [1, 3, 4] (fun vs J' S' => ∃ (i : Nat) (a : Option Addr) (cap : Nat) (ch : List Blk), i ≤ sl ∧ OwnB ch a (i * 4096) cap (d.now.take i).flatten ∧ vs = [.pointer (some ⟨b1, 0, none⟩), .slice a (i * 4096 : Nat) cap, .int .i64 i] ∧ I = J' ∧
      S' = [ch, [(b1, row [.slice sa sl sc, .slice wa gs.length wc, .int .i64 d.count, .bool d.down, .int .i64 (gv d.arm), .int .i64 (gv d.fault)] 76)]])
    (fun vs _ _ => match vs with | [_, _, .int _ i] => ((sl : Int) - i).toNat | _ => 0) ?_ ?_
  · exact ⟨_, Drop.pick [0, 1] _ rfl, 0, none, 0, [], by omega, OwnC.nil 1 none, rfl, rfl, rfl⟩
  rintro vs gE J' S' hJ' ⟨i, a, cap, ch, hi, hO, rfl, rfl, rfl⟩
  refine LoadD.own 1 rfl _ rfl rfl ?_
  refine CmpD.split (fun c1 => ?_) (fun c1 => ?_)
  · have hlt : i < sl := by omega
    have hbi : i < bS.length := by have := congrArg List.length hbd; rw [List.length_map] at this; omega
    have hsafe : d.safe.getD i [] = bS[i].data := by rw [← hbd, List.getD_eq_getElem?_getD, List.getElem?_map, List.getElem?_eq_getElem hbi]; rfl
    have hn : d.now[i]? = some (atP bS[i].data d.writes i) := by have := hsnd i (by omega); rwa [hsafe] at this
    have hln : (atP bS[i].data d.writes i).length = 4096 := hwf.now _ (List.mem_of_getElem? hn)
    have hati := hat I hS (by omega) hW rfl (by omega) i (List.getElem?_eq_getElem hbi) (hBk _ (List.getElem_mem hbi))
    rw [hwp] at hati
    generalize atP bS[i].data d.writes i = dat at *
    repeat (first | refine LoadD.own 1 rfl _ rfl rfl ?_)
    refine Tri.free hati ?_
    rintro v J1 _ hJ1 ⟨rfl, aN, len, capN, rfl, hN⟩
    obtain rfl : len = 4096 := by have := hN.len; rw [bts_length] at this; omega
    refine appendD tabOk rfl rfl rfl rfl rfl rfl rfl 0 rfl hO (SrcOk.slice (n := 4096) (news := bts dat) tabOk rfl (by show SlC _ _ _ (4096 * 1) _; exact hN.slC) (bts_plain _)) rfl (by show (i * 4096 + 4096) * 1 ≤ _; omega) (by omega) ?_
    intro a2 cap2 ch2 hO2
    refine ToD.i64 (by omega) (by omega) ?_
    have e : i * 4096 + 4096 = (i + 1) * 4096 := by omega
    refine ⟨_, Drop.pick [0, 1] _ rfl, ⟨i + 1, a2, cap2, ch2, by omega, ?_, by rw [← e]; rfl, rfl, rfl⟩, ?_⟩
    · have h3 : (d.now.take (i + 1)).flatten = (d.now.take i).flatten ++ dat := by rw [List.take_add_one, hn]; simp
      rw [h3, ← e, OwnB, bts_append]
      exact hO2
    · show ((sl : Int) - ((i : Int) + 1)).toNat < ((sl : Int) - i).toNat; omega
  · obtain rfl : i = sl := by omega
    have htake : d.now.take i = d.now := List.take_of_length_le (by omega)
    rw [htake] at hO
    have e : d.now.length = i := by omega
    rw [e]
    exact Done.mk ⟨[ch], Drop.pick [0] _ rfl, a, cap, ch, rfl, hO, rfl, rfl⟩
end Go.Proofs.YtegdcjnjnoeinaaGreat
namespace Go.Proofs.YtegdcjnjnoeinaaGreat
open Go.RowKit Go.Sl
set_option maxRecDepth 20000

theorem rdk_fresh {I : Imm} {l : List Dat} {bS : List Bk} {a : Option Addr} {n cap : Nat} (hn : 1 ≤ n ∧ n ≤ 512) (hR : Rds I a n (bS.map Bk.cell)) (hok : ∀ b ∈ bS, BkOk I b) (hd : bS.map Bk.data = l) (hl : l.length = n) (h4 : ∀ b ∈ l, b.length = 4096) :
    RDk I (rV ⟨a, n, cap⟩ ⟨none, 0, 0⟩ 0 false (-1) (-1)) (DSt.of l) := by
  refine ⟨⟨rfl, by show 1 ≤ l.length ∧ l.length ≤ 512; omega, h4, h4, fun w hw => (List.not_mem_nil hw).elim, fun h => (Bool.false_ne_true h).elim, fun h => (Bool.false_ne_true h).elim⟩, ?_, ⟨a, n, cap⟩, ⟨none, 0, 0⟩, bS, [], rfl, hR, hok, hd, ⟨⟨rfl, .inl rfl⟩, by simp⟩, rfl, rfl⟩
  intro i hi
  show l[i]? = some (l.getD i [])
  have hi : i < l.length := hi
  rw [List.getD_eq_getElem?_getD, List.getElem?_eq_getElem hi]; rfl
set_option maxHeartbeats 1000000 in
theorem r4_Load {I : Imm} (a : Option Addr) (n cap : Nat) (l : Dat) (hn : 1 ≤ n ∧ n ≤ 512) (h : Rds I a (n * 4096) (bts l)) (hcap : n * 4096 ≤ cap) :
    Tri Tryz.prog 53 #[.slice a (n * 4096 : Nat) cap] I [] fun r J _ => ∃ v', r = .tuple #[v', .int .i64 0] ∧ RDk J v' (DSt.of (blocksOf l n)) := by
  refine Tri.fixed (Q := fun r J S' => ∃ v' ch, r = .tuple #[v', .int .i64 0] ∧ S' = [ch] ∧ ∀ J', J.le J' → (∀ x ∈ ch, J' x.1 = some x.2) → RDk J' v' (DSt.of (blocksOf l n))) ?_ ?_
  rotate_left
  · rintro r J S' hJ ⟨v', ch, rfl, rfl, h⟩
    exact ⟨0, ch, rfl, fun J' hJ' hm => ⟨v', rfl, h J' hJ' hm⟩⟩
  have hll : l.length = n * 4096 := by rw [← bts_length, h.len]
  rcases h.mem with q0 | ⟨b, off, c, T, fr, rfl, hIb, hc⟩
  · omega
  refine Tri.lay (S2 := [[]]) (by simp) ?_
  refine Tri.drop ?_ (fun _ _ _ _ h => h)
  refine Tri.of (args := [.slice (some ⟨b, off, none⟩) (n * 4096 : Nat) cap]) tabOk Tryz.func53 rfl (by kernel_rfl) (by kernel_rfl) ?_
  conv => whnf
  intro b2
  conv => whnf
  intro b4
  repeat (first | refine StoreD.st 2 rfl rfl rfl ?_)
  refine CmpD.no (by omega) ?_
  skip
  refine CmpD.no (by omega) ?_
  skip
  refine Chk.mk (by decide) ?_
  refine ToD.rem (by omega) ?_
  refine CmpD.yes (by omega) ?_
  skip
  refine CodeF.loopD [0, 2, 4, 5] (fun vs J' S' => ∃ (i : Nat) (aS : Option Addr) (capS : Nat) (ch : List Blk) (bks : List Bk), i ≤ n ∧ OwnC ch 1 aS i capS (bks.map Bk.cell) ∧ bks.map Bk.data = blocksOf l i ∧ (∀ b ∈ bks, BkOk J' b) ∧ I.le J' ∧ vs = [.slice (some ⟨b, off, none⟩) (n * 4096 : Nat) cap, .pointer (some ⟨b2, 0, none⟩), .pointer (some ⟨b4, 0, none⟩), .int .i64 (i * 4096 : Nat)] ∧
      S' = [ch, [(b2, row [.slice none 0 0, .slice none 0 0, .int .i64 0, .bool false, .int .i64 0, .int .i64 0] 76)], [(b4, row [.slice aS i capS, .slice none 0 0, .int .i64 0, .bool false, .int .i64 (-1), .int .i64 (-1)] 76)]])
    (fun vs _ _ => match vs with | [_, _, _, .int _ i] => ((n * 4096 : Nat) - i).toNat | _ => 0) ?_ ?_
  · exact ⟨_, Drop.pick [0, 1, 2] _ rfl, 0, none, 0, [], [], by omega, OwnC.nil 1 none, by unfold blocksOf; rfl, by simp, Imm.le_refl _, rfl, rfl⟩
  rintro vs gE J' S' hJ' ⟨i, aS, capS, ch, bks, hi, hO, hdat, hok, hle, rfl, rfl⟩
  refine CmpD.split (fun c1 => ?_) (fun c1 => ?_)
  · have hlt : i < n := by omega
    refine CodeF.sched [[], [0], [], [], [], [4], [2, 3, 4, 5], [2, 3, 4, 5, 6], [2, 3, 4, 5, 6, 7], [0, 1, 2, 3, 4, 5, 6, 7, 8], [0, 1, 2, 3, 4, 5, 6, 7, 8, 9], [0, 1, 2, 3, 4, 5, 6, 7, 8, 9, 10]] [0, 1, 2, 3, 4, 5, 6, 7, 8, 9, 10, 11] (by kernel_rfl) ?_
    refine LoadP.at 2 rfl _ rfl rfl ?_
    refine ToD.to ((i * 4096 + 4096 : Nat) : Int) (by rw [wrap_i64 (by omega) (by omega)]; omega) ?_
    refine sliceD tabOk rfl rfl rfl rfl (i * 4096) (i * 4096 + 4096) cap ⟨_, rfl⟩ ⟨_, rfl⟩ rfl (.inl rfl) (by omega) ?_
    repeat (first | refine Chk.mk ⟨rfl, trivial⟩ ?_)
    have hp := (Rds_part h (i * 4096) 4096 (by omega)).mono hle
    have hx : Value.slice (slAddr (some ⟨b, off, none⟩) (i * 4096) cap 1) (i * 4096 + 4096 - i * 4096) (cap - i * 4096) = .slice (some ⟨b, off + i * 4096, none⟩) 4096 (cap - i * 4096) := by
      unfold slAddr
      rw [if_neg (by omega), Nat.add_sub_cancel_left]
      simp [add_none]
    have hcall := copy_fix J' _ 4096 (cap - i * 4096) _ hp (by omega)
    rw [← hx] at hcall
    refine Tri.free hcall ?_
    rintro v J1 _ hJ1 ⟨aC, capC, rfl, hC⟩
    repeat (first | refine Chk.mk ⟨rfl, trivial⟩ ?_)
    conv => whnf
    intro b36
    repeat (first | refine Chk.mk ⟨rfl, trivial⟩ ?_)
    refine appendD tabOk rfl rfl rfl rfl rfl rfl rfl 0 rfl hO (SrcOk.slice (n := 1) (news := [.slice aC 4096 capC]) tabOk rfl ((OwnC.whole (len := 1) (size := 1) rfl).slC 3 rfl) (by intro v hv; simp only [List.mem_singleton] at hv; subst hv; rfl)) rfl (by show (i + 1) * 24 ≤ _; omega) (by omega) ?_
    intro a2 cap2 ch2 hO2
    repeat (first | refine StoreD.st 2 rfl rfl rfl ?_)
    refine ToD.to ((((i + 1) * 4096 : Nat)) : Int) (by rw [wrap_i64 (by omega) (by omega)]; omega) ?_
    refine ⟨_, Drop.pick [0, 1, 2] _ rfl, ⟨i + 1, a2, cap2, ch2, bks ++ [⟨aC, capC, (l.drop (i * 4096)).take 4096⟩], by omega, by rw [List.map_append]; exact hO2, ?_, ?_, Imm.le_trans hle hJ1, rfl, rfl⟩, ?_⟩
    · rw [List.map_append, hdat, blocksOf_succ]; rfl
    · intro x hx
      rcases List.mem_append.1 hx with hx | hx
      · exact (hok x hx).mono hJ1
      · simp only [List.mem_singleton] at hx
        subst hx
        exact hC
    · show ((n * 4096 : Nat) - ((((i + 1) * 4096 : Nat)) : Int)).toNat < ((n * 4096 : Nat) - (((i * 4096 : Nat)) : Int)).toNat
      omega
  · obtain rfl : i = n := by omega
    repeat (first | refine LoadD.own 1 rfl _ rfl rfl ?_ | refine LoadD.own 2 rfl _ rfl rfl ?_ | refine StoreD.st 1 rfl rfl rfl ?_)
    refine Done.mk ⟨[ch], Drop.pick [0] _ rfl, _, ch, rfl, rfl, fun J2 hJ2 hm => ?_⟩
    refine rdk_fresh hn (Rds.of_own hO hm) (fun x hx => (hok x hx).mono hJ2) hdat (blocksOf_length l i) ?_
    intro x hx
    unfold blocksOf at hx
    obtain ⟨k, hk, rfl⟩ := List.mem_map.1 hx
    have := List.mem_range.1 hk
    rw [List.length_take, List.length_drop]
    omega
theorem blocks_noughts (n : Nat) : blocksOf (List.replicate (n * 4096) 0) n = List.replicate n noughts := by
  unfold blocksOf noughts
  apply List.ext_getElem
  · simp
  · intro i hi _
    simp only [List.length_map, List.length_range] at hi
    simp only [List.getElem_map, List.getElem_range, List.drop_replicate, List.take_replicate, List.getElem_replicate]
    congr 1
    omega
theorem r4_New (I : Imm) (n : Nat) (hn : 1 ≤ n ∧ n ≤ 512) :
    Tri Tryz.prog 43 #[.int .i64 n] I [] fun r J _ => ∃ v', r = .tuple #[v', .int .i64 0] ∧ RDk J v' (DSt.of (List.replicate n noughts)) := by
  refine Tri.of (args := [.int .i64 n]) tabOk Tryz.func43 rfl (by kernel_rfl) (by kernel_rfl) ?_
  conv => whnf
  intro b2
  refine CmpD.no (by omega) ?_
  skip
  refine CmpD.no (by omega) ?_
  skip
  refine ToD.to ((n * 4096 : Nat) : Int) (by rw [wrap_i64 (by omega) (by omega)]; omega) ?_
  refine makeD tabOk rfl rfl rfl (n * 4096) (n * 4096) rfl rfl (Nat.le_refl _) (by show 1 * (n * 4096) ≤ _; omega) (by omega) (by show n * 4096 * 1 ≤ _; omega) rfl (by decide) ?_
  intro bM
  refine Tri.fix 1 rfl fun I' hI' hm => ?_
  have hz := Rds.of_own (cap := n * 4096) (len := n * 4096) (a := some ⟨bM, 0, none⟩) (vs := bts (List.replicate (n * 4096) 0)) (by show OwnC _ 1 _ _ _ _; rw [show bts (List.replicate (n * 4096) 0) = rows (n * 4096) [Value.int .u8 0] from (zeros_bts _).symm]; exact OwnC.whole (by rw [rows_length]; rfl)) hm
  refine Tri.free (r4_Load _ n (n * 4096) _ hn hz (Nat.le_refl _)) ?_
  rintro v J _ hJ ⟨v', rfl, hD⟩
  obtain ⟨s, w, bS, gs, rfl, hex⟩ := id hD.ex
  repeat (first | refine LoadD.own 0 rfl _ rfl rfl ?_ | refine StoreD.st 0 rfl rfl rfl ?_)
  rw [blocks_noughts] at hD
  exact Done.mk ⟨_, rfl, hD⟩
end Go.Proofs.YtegdcjnjnoeinaaGreat
namespace Go.Proofs.YtegdcjnjnoeinaaGreat
open Go.RowKit Go.Sl
set_option maxRecDepth 20000

theorem ref_PutF (s : Sup) (I : Imm) : Tri Tryz.prog 111 #[s.v] I [] fun v J _ =>
    (¬ RightS s ∧ v = .tuple #[.slice none 0 0, .int .i64 2]) ∨ (RightS s ∧ ∃ a cap, v = .tuple #[.slice a 4096 cap, .int .i64 0] ∧ Rds J a 4096 (bts (supL s))) := by
  by_cases hR : RightS s
  · refine Tri.fixed (ref_PutSuper s I) ?_
    rintro v J S' hJ ⟨rfl, ⟨h, _⟩ | ⟨_, a, cap, ch, rfl, hown, rfl⟩⟩
    · exact absurd hR h
    · exact ⟨0, ch, rfl, fun J' hJ' hm => .inr ⟨hR, a, cap, rfl, Rds.of_own hown hm⟩⟩
  · refine (ref_PutSuper s I).mono ?_
    rintro v J S' hJ ⟨rfl, ⟨_, rfl, rfl⟩ | ⟨h, _⟩⟩
    · exact .inl ⟨hR, rfl⟩
    · exact absurd h hR
@[reducible] def rBox (b : Nat) (s w : Hd) (count : Int) (down : Bool) (arm fault : Int) : List Blk := [(b, row [s.v, w.v, .int .i64 count, .bool down, .int .i64 arm, .int .i64 fault] 76)]
@[reducible] def sBox (b : Nat) (s : Sup) : List Blk := [(b, row [.int .i64 s.blocks, .int .i64 s.epoch, .int .i64 s.seq, .int .i64 s.tail] 143)]
set_option maxHeartbeats 4000000 in
theorem r10_Do {I : Imm} {v : Value} {d : DSt} (hD : RDk I v d) (k : Nat) (hf : d.Few k) (aL : Option Addr) (capL : Nat) (gs : List Img) (hi : ImgsOk I aL gs) (hk : k + gs.length ≤ 900000) (s : Sup) (slot : Int) (hslot : In64 slot) :
    Tri Tryz.prog 119 #[v, .slice aL gs.length capL, s.v, .int .i64 slot] I [] fun r J _ => ∃ v', r = .tuple #[v', .int .i64 (doP d (gs.map Img.pr) s slot).2] ∧ RDk J v' (doP d (gs.map Img.pr) s slot).1 := by
  have hr := hD.wf.range
  have hll := hD.wf.len
  obtain ⟨⟨sa, sl, sc⟩, ⟨wa, wl, wc⟩, bS, gW, rfl, hS, hBk, hbd, hex⟩ := id hD.ex
  dsimp only at hS
  have hsl : sl = d.safe.length := by rw [← hbd, List.length_map]; have := hS.len; rw [List.length_map] at this; exact this.symm
  refine Tri.of (args := [rV ⟨sa, sl, sc⟩ ⟨wa, wl, wc⟩ d.count d.down (gv d.arm) (gv d.fault), .slice aL gs.length capL, s.v, .int .i64 slot]) tabOk Tryz.func119 rfl (by kernel_rfl) (by kernel_rfl) ?_
  conv => whnf
  intro b4
  conv => whnf
  intro b6
  conv => whnf
  intro b8
  repeat (first | refine LoadD.own 1 rfl _ rfl rfl ?_)
  unfold doP
  refine Tri.free (ref_PutF s I) ?_
  rintro v J _ hJ (⟨hR, rfl⟩ | ⟨hR, aB, capB, rfl, hB⟩)
  · repeat (first | refine LoadD.own 0 rfl _ rfl rfl ?_ | refine LoadD.own 2 rfl _ rfl rfl ?_ | refine StoreD.st 2 rfl rfl rfl ?_ | refine CmpD.no (by decide) ?_)
    rw [if_pos (.inl hR)]
    exact Done.mk ⟨_, rfl, hD.mono hJ⟩
  have hDJ := hD.mono hJ
  have hiJ := hi.mono hJ
  repeat (first | refine CmpD.yes rfl ?_)
  by_cases hs01 : slot = 0 ∨ slot = 1
  rotate_left
  · refine CmpD.no (fun h => hs01 (.inl h)) ?_
    skip
    refine CmpD.no (fun h => hs01 (.inr h)) ?_
    repeat (first | refine LoadD.own 0 rfl _ rfl rfl ?_ | refine LoadD.own 2 rfl _ rfl rfl ?_ | refine StoreD.st 2 rfl rfl rfl ?_)
    rw [if_pos (by by_cases h : slot < 0; exact .inr (.inl h); exact .inr (.inr (.inl (by omega))))]
    exact Done.mk ⟨_, rfl, hDJ⟩
  rcases hs01 with h01 | h01
  all_goals
    repeat (first | refine CmpD.yes (by omega) ?_ | refine CmpD.no (by omega) ?_)
    refine CodeF.loopD [1, 3, 4, 8, 10, 12] (fun vs J' S' => ∃ i : Nat, i ≤ gs.length ∧ DoOk d ((gs.take i).map Img.pr) ∧ (∀ g ∈ gs.take i, g.len = 4096) ∧ vs = [.slice aL gs.length capL, .int .i64 slot, .pointer (some ⟨b4, 0, none⟩), .pointer (some ⟨b8, 0, none⟩), .slice aB 4096 capB, .int .i64 i] ∧ J = J' ∧
        S' = [rBox b4 ⟨sa, sl, sc⟩ ⟨wa, wl, wc⟩ d.count d.down (gv d.arm) (gv d.fault), rBox b8 ⟨none, 0, 0⟩ ⟨none, 0, 0⟩ 0 false 0 0])
      (fun vs _ _ => match vs with | [_, _, _, _, _, .int _ i] => ((gs.length : Int) - i).toNat | _ => 0) ?_ ?_
    · exact ⟨_, Drop.pick [0, 2] _ rfl, 0, by omega, by intro g hg; simp at hg, by simp, rfl, rfl, rfl⟩
    rintro vs gE J' S' hJ' ⟨i, hil, hok, hlen, rfl, rfl, rfl⟩
    refine CmpD.split (fun c3 => ?_) (fun c3 => ?_)
    · have hlt : i < gs.length := by omega
      rcases hiJ.1.mem with q0 | ⟨bA, oA, cA, TA, fA, rfl, hIA, hcA⟩
      · omega
      have hpair := take_part hcA (i := i * 2) (m := 2) (by omega)
      rw [imgCells_at hlt] at hpair
      have htk : gs.take (i + 1) = gs.take i ++ [gs[i]] := by rw [List.take_add_one, List.getElem?_eq_getElem hlt]; rfl
      have hmem : gs[i] ∈ gs := List.getElem_mem hlt
      have hdl := hiJ.len hmem
      have no : ¬ (2 ≤ gs[i].blk ∧ gs[i].blk < d.now.length ∧ gs[i].len = 4096) → ¬ DoOk d (gs.map Img.pr) := by
        intro h h'
        have := h' gs[i].pr (List.mem_map_of_mem hmem)
        exact h ⟨this.1, this.2.1, by rw [← hdl]; exact this.2.2⟩
      generalize gs[i] = g at *
      refine CodeF.sched [[], [], [0, 1], [0, 1, 2], [0, 1, 2, 3], [0, 1, 2, 3, 4], [0, 1, 2, 3, 4, 5], [0, 1, 2, 3, 4, 5, 6], [0, 1, 2, 3, 4, 5, 6], [0, 1, 2, 3, 4, 5, 6, 7, 8], [0, 1, 2, 3, 4, 5, 6, 7, 8, 9], [0, 1, 2, 3, 4, 5, 6, 7, 8, 9, 10], [0, 1, 2, 3, 4, 5, 6], [0, 1, 2, 3, 4, 5, 6, 12], [0, 1, 2, 3, 4, 5, 6, 12, 13], [0, 1, 2, 3, 4, 5, 6, 7, 8, 9, 10, 11, 12, 13, 14], [0, 1, 2, 3, 4, 5, 6, 7, 8, 9, 10, 11, 12, 13, 14, 15], [0, 1, 2, 3, 4, 5, 6, 7, 8, 9, 10, 11, 12, 13, 14, 15, 16], [0, 1, 2, 3, 4, 5, 6, 7, 8, 9, 10, 11, 12, 13, 14, 15, 16, 17], [0, 1, 2, 3, 4, 5, 6, 7, 8, 9, 10, 11, 12, 13, 14, 15, 16, 17], [0, 1, 2, 3, 4, 5, 6, 7, 8, 9, 10, 11, 12, 13, 14, 15, 16, 17, 18, 19], [0, 1, 2, 3, 4, 5, 6, 7, 8, 9, 10, 11, 12, 13, 14, 15, 16, 17, 18, 19, 20], [0, 1, 2, 3, 4, 5, 6, 7, 8, 9, 10, 11, 12, 13, 14, 15, 16, 17, 18, 19, 20, 21], [0, 1, 2, 3, 4, 5, 6, 7, 8, 9, 10, 11, 12, 13, 14, 15, 16, 17, 18, 19, 20, 21, 22], [0, 1, 2, 3, 4, 5, 6, 7, 8, 9, 10, 11, 12, 13, 14, 15, 16, 17, 18, 19, 20, 21, 22, 23], [0, 1, 2, 3, 4, 5, 6, 7, 8, 9, 10, 11, 12, 13, 14, 15, 16, 17, 18, 19, 20, 21, 22, 23, 24]] [0, 1, 2, 3, 4, 5, 6, 7, 8, 9, 10, 11, 12, 13, 14, 15, 16, 17, 18, 19, 20, 21, 22, 23, 24, 25] (by kernel_rfl) ?_
      refine Chk.mk (by omega) ?_
      refine LoadP.imm [.int .i64 g.blk] ⟨cA, TA, fA, .imm hIA, pair_fst hpair, rfl⟩ ?_
      refine CmpD.split (fun c4 => ?_) (fun c4 => ?_)
      · repeat (first | refine LoadD.own 0 rfl _ rfl rfl ?_ | refine LoadD.own 1 rfl _ rfl rfl ?_ | refine StoreD.st 1 rfl rfl rfl ?_)
        rw [if_pos (.inr (.inr (.inr (no (fun h => by omega)))))]
        exact Done.mk ⟨_, rfl, hDJ⟩
      skip
      refine Chk.mk (by omega) ?_
      refine LoadP.imm [.int .i64 g.blk] ⟨cA, TA, fA, .imm hIA, pair_fst hpair, rfl⟩ ?_
      repeat (first | refine LoadP.at 0 rfl _ rfl rfl ?_)
      refine CmpD.split (fun c5 => ?_) (fun c5 => ?_)
      · have c5 : (sl : Int) ≤ g.blk := c5
        repeat (first | refine LoadD.own 0 rfl _ rfl rfl ?_ | refine LoadD.own 1 rfl _ rfl rfl ?_ | refine StoreD.st 1 rfl rfl rfl ?_)
        rw [if_pos (.inr (.inr (.inr (no (fun h => by omega)))))]
        exact Done.mk ⟨_, rfl, hDJ⟩
      have c5 : ¬ (sl : Int) ≤ g.blk := c5
      skip
      refine Chk.mk (by omega) ?_
      refine LoadP.imm [.slice g.a g.len g.cap] ⟨cA, TA, fA, .imm hIA, pair_snd hpair, rfl⟩ ?_
      refine CmpD.split (fun c6 => ?_) (fun c6 => ?_)
      rotate_left
      · repeat (first | refine LoadD.own 0 rfl _ rfl rfl ?_ | refine LoadD.own 1 rfl _ rfl rfl ?_ | refine StoreD.st 1 rfl rfl rfl ?_)
        rw [if_pos (.inr (.inr (.inr (no (fun h => by omega)))))]
        exact Done.mk ⟨_, rfl, hDJ⟩
      skip
      refine ToD.i64 (by omega) (by omega) ?_
      refine ⟨_, Drop.pick [0, 1] _ rfl, ⟨i + 1, by omega, ?_, ?_, rfl, rfl, rfl⟩, ?_⟩
      · rw [htk, List.map_append]
        intro q hq
        rcases List.mem_append.1 hq with hq | hq
        · exact hok q hq
        · simp only [List.map_cons, List.map_nil, List.mem_singleton] at hq
          subst hq
          exact ⟨by show 2 ≤ g.blk; omega, by show g.blk < _; omega, by show g.data.length = _; omega⟩
      · intro q hq
        rw [htk] at hq
        rcases List.mem_append.1 hq with hq | hq
        · exact hlen q hq
        · simp only [List.mem_singleton] at hq
          subst hq
          omega
      · show ((gs.length : Int) - ((i : Int) + 1)).toNat < ((gs.length : Int) - (i : Int)).toNat
        omega
    obtain rfl : i = gs.length := by omega
    rw [List.take_length] at hok hlen
    rw [if_neg (by rintro (h | h | h | h); exact h hR; omega; omega; exact h hok)]
    obtain ⟨W, hW⟩ : ∃ W, W = wrImgs (gs.map Img.pr) d := ⟨_, rfl⟩
    have hWf : W.1.Few (k + gs.length) := by rw [hW]; have := wrImgs_few (gs.map Img.pr) d k hf; rwa [List.length_map] at this
    rw [← hW]
    refine CodeF.loopD [1, 3, 4, 8, 10, 13] (fun vs J' S' => ∃ (i : Nat) (d' : DSt) (s' w' : Hd), i ≤ gs.length ∧ W = wrImgs ((gs.drop i).map Img.pr) d' ∧ d'.Few (k + i) ∧ RDk J' (rV s' w' d'.count d'.down (gv d'.arm) (gv d'.fault)) d' ∧ J.le J' ∧
        vs = [.slice aL gs.length capL, .int .i64 slot, .pointer (some ⟨b4, 0, none⟩), .pointer (some ⟨b8, 0, none⟩), .slice aB 4096 capB, .int .i64 i] ∧ S' = [rBox b4 s' w' d'.count d'.down (gv d'.arm) (gv d'.fault), rBox b8 ⟨none, 0, 0⟩ ⟨none, 0, 0⟩ 0 false 0 0])
      (fun vs _ _ => match vs with | [_, _, _, _, _, .int _ i] => ((gs.length : Int) - i).toNat | _ => 0) ?_ ?_
    · exact ⟨_, Drop.refl _, 0, d, ⟨sa, sl, sc⟩, ⟨wa, wl, wc⟩, by omega, by rw [hW]; rfl, hf, hDJ, J.le_refl, rfl, rfl⟩
    rintro vs gE2 J2 S2 hJ2 ⟨i, d', ⟨sa', sl', sc'⟩, ⟨wa', wl', wc'⟩, hil2, hWi, hfi, hDi, hle, rfl, rfl⟩
    refine CmpD.split (fun c4 => ?_) (fun c4 => ?_)
    · have hlt : i < gs.length := by omega
      rcases hiJ.1.mem with q0 | ⟨bA, oA, cA, TA, fA, rfl, hIA, hcA⟩
      · omega
      have hpair := take_part hcA (i := i * 2) (m := 2) (by omega)
      rw [imgCells_at hlt] at hpair
      have hmem : gs[i] ∈ gs := List.getElem_mem hlt
      have hdata := hiJ.2 _ hmem
      have hgl := hlen _ hmem
      have hdr : gs.drop i = gs[i] :: gs.drop (i + 1) := List.drop_eq_getElem_cons hlt
      generalize gs[i] = g at *
      rw [hdr, List.map_cons, wrImgs] at hWi
      have hIA2 := hle _ _ hIA
      refine CodeF.sched [[], [], [], [1, 2], [1, 2, 3], [1, 2, 3, 4], [], [], [6, 7], [6, 7, 8], [6, 7, 8, 9], [0, 1, 2, 3, 4, 5, 6, 7, 8, 9, 10], [0, 1, 2, 3, 4, 5, 6, 7, 8, 9, 10, 11], [0, 1, 2, 3, 4, 5, 6, 7, 8, 9, 10, 11, 12], [0, 1, 2, 3, 4, 5, 6, 7, 8, 9, 10, 11, 12], [0, 1, 2, 3, 4, 5, 6, 7, 8, 9, 10, 11, 12, 13], [0, 1, 2, 3, 4, 5, 6, 7, 8, 9, 10, 11, 12, 13, 14, 15]] [0, 1, 2, 3, 4, 5, 6, 7, 8, 9, 10, 11, 12, 13, 14, 15, 16] (by kernel_rfl) ?_
      refine LoadP.at 0 rfl _ rfl rfl ?_
      refine Chk.mk (by omega) ?_
      refine LoadP.imm [.int .i64 g.blk] ⟨cA, TA, fA, .imm hIA2, pair_fst hpair, rfl⟩ ?_
      refine Chk.mk (by omega) ?_
      refine LoadP.imm [.slice g.a g.len g.cap] ⟨cA, TA, fA, .imm hIA2, pair_snd hpair, rfl⟩ ?_
      refine Tri.free (r4_Write hDi (hfi.mono (by omega)) g.blk g.a g.len g.cap g.data (hdata.2.mono hle) (by omega) hdata.1) ?_
      rintro v J3 _ hJ3 ⟨v3, rfl, hD3⟩
      obtain ⟨⟨sa3, sl3, sc3⟩, ⟨wa3, wl3, wc3⟩, _, _, rfl, _⟩ := id hD3.ex
      have hf3 := hfi.write g.blk g.data
      rw [show g.pr.1 = g.blk from rfl, show g.pr.2 = g.data from rfl] at hWi
      generalize hwr : d'.write g.blk g.data = wr at *
      repeat (first | refine StoreD.st 0 rfl rfl rfl ?_)
      refine CmpD.split (fun c5 => ?_) (fun c5 => ?_)
      · rw [if_neg (by simpa using c5)] at hWi
        skip
        refine ToD.i64 (by omega) (by omega) ?_
        refine ⟨_, Drop.pick [0, 1] _ rfl, ⟨i + 1, _, ⟨sa3, sl3, sc3⟩, ⟨wa3, wl3, wc3⟩, by omega, hWi, hf3, hD3, Imm.le_trans hle hJ3, rfl, rfl⟩, ?_⟩
        show ((gs.length : Int) - ((i : Int) + 1)).toNat < ((gs.length : Int) - (i : Int)).toNat
        omega
      · rw [if_pos c5] at hWi
        repeat (first | refine LoadD.own 0 rfl _ rfl rfl ?_ | refine LoadD.own 1 rfl _ rfl rfl ?_ | refine StoreD.st 1 rfl rfl rfl ?_)
        rw [hWi, if_pos c5]
        exact Done.mk ⟨_, rfl, hD3⟩
    obtain rfl : i = gs.length := by omega
    rw [List.drop_length, List.map_nil, wrImgs] at hWi
    subst hWi
    dsimp only at hWf ⊢
    rw [if_neg (by simp)]
    repeat (first | refine LoadD.own 0 rfl _ rfl rfl ?_)
    refine Tri.free (r4_Flush hDi (hWf.mono (by omega))) ?_
    rintro v J3 _ hJ3 ⟨v3, rfl, hD3⟩
    obtain ⟨⟨sa3, sl3, sc3⟩, ⟨wa3, wl3, wc3⟩, _, _, rfl, _⟩ := id hD3.ex
    have hf3 := hWf.flush
    generalize d'.flush = fl at *
    repeat (first | refine StoreD.st 0 rfl rfl rfl ?_)
    refine CmpD.split (fun c5 => ?_) (fun c5 => ?_)
    rotate_left
    · repeat (first | refine LoadD.own 0 rfl _ rfl rfl ?_ | refine LoadD.own 1 rfl _ rfl rfl ?_ | refine StoreD.st 1 rfl rfl rfl ?_)
      rw [if_pos c5]
      exact Done.mk ⟨_, rfl, hD3⟩
    rw [if_neg (by simpa using c5)]
    unfold lastWr
    repeat (first | refine LoadD.own 0 rfl _ rfl rfl ?_)
    refine Tri.free (r4_Write hD3 (hf3.mono (by omega)) slot aB 4096 capB (supL s) (hB.mono (Imm.le_trans hle hJ3)) (by omega) hslot) ?_
    rintro v J4 _ hJ4 ⟨v4, rfl, hD4⟩
    obtain ⟨⟨sa4, sl4, sc4⟩, ⟨wa4, wl4, wc4⟩, _, _, rfl, _⟩ := id hD4.ex
    have hf4 := hf3.write slot (supL s)
    repeat (first | refine StoreD.st 0 rfl rfl rfl ?_)
    refine CmpD.split (fun c6 => ?_) (fun c6 => ?_)
    rotate_left
    · repeat (first | refine LoadD.own 0 rfl _ rfl rfl ?_ | refine LoadD.own 1 rfl _ rfl rfl ?_ | refine StoreD.st 1 rfl rfl rfl ?_)
      rw [if_pos c6]
      exact Done.mk ⟨_, rfl, hD4⟩
    rw [if_neg (by simpa using c6)]
    repeat (first | refine LoadD.own 0 rfl _ rfl rfl ?_)
    refine Tri.free (r4_Flush hD4 (hf4.mono (by omega))) ?_
    rintro v J5 _ hJ5 ⟨v5, rfl, hD5⟩
    obtain ⟨⟨sa5, sl5, sc5⟩, ⟨wa5, wl5, wc5⟩, _, _, rfl, _⟩ := id hD5.ex
    repeat (first | refine LoadD.own 1 rfl _ rfl rfl ?_ | refine StoreD.st 1 rfl rfl rfl ?_)
    exact Done.mk ⟨_, rfl, hD5⟩
end Go.Proofs.YtegdcjnjnoeinaaGreat
namespace Go.Proofs.YtegdcjnjnoeinaaGreat
open Go.RowKit Go.Sl
set_option maxRecDepth 20000

theorem ref_Number {I : Imm} {S : St} {a : Option Addr} {len cap : Nat} {l : List UInt8} (h : SlC I S a len (bts l)) (hlen : len ≤ 1000000000) (at_ : Int) (hat : In64 at_) (n : Nat) (hn : n ≤ 8) :
    Tri Tryz.prog 230 #[.slice a len cap, .int .i64 at_, .int .i64 n] I S fun v J S' => v = .tuple #[.int .u64 (numV l at_ n).1, .bool (numV l at_ n).2] ∧ I = J ∧ S' = S := by
  have hl : l.length = len := by rw [← bts_length, h.len]
  unfold In64 at hat
  unfold numV
  refine Tri.of (args := [.slice a len cap, .int .i64 at_, .int .i64 n]) tabOk Tryz.func230 rfl (by kernel_rfl) (by kernel_rfl) ?_
  refine CmpD.split (fun c1 => ?_) (fun c1 => ?_)
  · rw [if_pos (.inl c1)]; exact Done.mk ⟨rfl, rfl, rfl⟩
  refine CmpD.split (fun c0 => ?_) (fun c0 => ?_)
  · rw [if_pos (.inr (by omega))]; exact Done.mk ⟨rfl, rfl, rfl⟩
  refine ToD.i64 (by omega) (by omega) ?_
  refine CmpD.split (fun c2 => ?_) (fun c2 => ?_)
  · rw [if_pos (.inr (by omega))]; exact Done.mk ⟨rfl, rfl, rfl⟩
  rw [if_neg (by omega)]
  obtain ⟨k, rfl⟩ : ∃ k : Nat, at_ = k := ⟨at_.toNat, by omega⟩
  rw [show ((k : Int)).toNat = k from rfl]
  refine CodeF.loopD [0, 1, 2, 8, 9] (fun vs J' S' => ∃ (i : Nat), i ≤ n ∧ vs = [.slice a len cap, .int .i64 k, .int .i64 n, .int .u64 (nb ((l.drop k).take i) : Nat), .int .i64 i] ∧ I = J' ∧ S' = S)
    (fun vs _ _ => match vs with | [_, _, _, _, .int _ i] => ((n : Int) - i).toNat | _ => 0) ?_ ?_
  · exact ⟨_, Drop.refl _, 0, by omega, rfl, rfl, rfl⟩
  rintro vs g J' S' hJ' ⟨i, hi, rfl, rfl, rfl⟩
  refine CmpD.split (fun c3 => ?_) (fun c3 => ?_)
  · have hin : k + i < l.length := by omega
    rcases h.mem with h0 | ⟨b, off, rfl, hc⟩
    · omega
    have hv := nb_lt ((l.drop k).take i)
    have hvl : ((l.drop k).take i).length ≤ 7 := by rw [List.length_take]; omega
    have hv2 : nb ((l.drop k).take i) < 2 ^ 56 := Nat.lt_of_lt_of_le hv (Nat.pow_le_pow_right (by omega) (by omega))
    have htk : (l.drop k).take (i + 1) = (l.drop k).take i ++ [l[k + i]] := by
      rw [List.take_add_one, List.getElem?_drop, List.getElem?_eq_getElem hin]; rfl
    have hb := l[k + i].toNat_lt
    refine ToD.to ((nb ((l.drop k).take i) * 256 : Nat) : Int) ?_ ?_
    · rw [wrap_u rfl (by omega) (by show 256 * (nb ((l.drop k).take i) : Int) < 2 ^ 64; omega)]
      omega
    refine ToD.i64 (by omega) (by omega) ?_
    refine Chk.mk (by omega) ?_
    refine LoadD.mk [byte l[k + i]] (hc.at (i := k + i) (bts_get (List.getElem?_eq_getElem hin))) ?_
    refine ToD.to ((l[k + i].toNat : Nat) : Int) (wrap_u rfl (by omega) (by show (l[k + i].toNat : Int) < 2 ^ 64; omega)) ?_
    refine ToD.to ((nb ((l.drop k).take i) * 256 ||| l[k + i].toNat : Nat) : Int) ?_ ?_
    · rw [or_low _ _ (by omega), wrap_u rfl (by omega) (by show ((nb ((l.drop k).take i) * 256 : Nat) : Int) + (l[k + i].toNat : Int) < 2 ^ 64; omega)]
      omega
    refine ToD.i64 (by omega) (by omega) ?_
    refine ⟨_, Drop.refl _, ⟨i + 1, by omega, by rw [htk, nb_snoc]; rfl, rfl, rfl⟩, ?_⟩
    show ((n : Int) - ((i : Int) + 1)).toNat < ((n : Int) - (i : Int)).toNat
    omega
  · obtain rfl : i = n := by omega
    exact Done.mk ⟨rfl, rfl, rfl⟩
theorem ref_number3 {I : Imm} {S : St} {a : Option Addr} {len cap : Nat} {l : List UInt8} (h : SlC I S a len (bts l)) (hlen : len ≤ 1000000000) (at_ : Int) (hat : In64 at_) (n : Nat) (hn : n ≤ 8) :
    Tri Tryz.prog 201 #[.slice a len cap, .int .i64 at_, .int .i64 n] I S fun v J S' => v = .int .i64 (IntKind.i64.wrap ((numV l at_ n).1 : Int)) ∧ I = J ∧ S' = S := by
  refine Tri.of (args := [.slice a len cap, .int .i64 at_, .int .i64 n]) tabOk Tryz.func201 rfl (by kernel_rfl) (by kernel_rfl) ?_
  refine Tri.mono (ref_Number h hlen at_ hat n hn) ?_
  rintro v J S' hJ ⟨rfl, rfl, rfl⟩
  refine ToD.to _ rfl ?_
  exact Done.mk ⟨rfl, rfl, rfl⟩
end Go.Proofs.YtegdcjnjnoeinaaGreat

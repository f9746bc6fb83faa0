/- Texts of this claim laid together: R6c, R6d, R6e, R6f, R9a, Written, Same9, ScanAny, SameG, Num9, Torn, Crash, KeptP, AgainP, AgainL, Mount2, Rf11, Format, Fm1, Rf4i, Rf4j, Commit. -/
import Derived.Test.YtegdcjnjnoeinaaGreatBVolumeFormats5
import Derived.Test.YtegdcjnjnoeinaaGreatBVolumeFormats4
import Derived.Test.YtegdcjnjnoeinaaGreatBVolumeFormats3
import Derived.Test.YtegdcjnjnoeinaaGreatBVolumeFormats2
import Derived.Test.YtegdcjnjnoeinaaGreatBVolumeFormats1
namespace Go.Proofs.YtegdcjnjnoeinaaGreat
open Go.RowKit Go.Sl
set_option maxRecDepth 20000

theorem copyS1 (c0 : List Blk) {I : Imm} {a : Option Addr} {len cap : Nat} {l : Dat} (h : SlC I [c0] a len (bts l)) (hlen : len ≤ 140737488355328) :
    Tri Tryz.prog 44 #[.slice a len cap] I [c0] fun v J S' => ∃ a' cap' ch, v = .slice a' len cap' ∧ OwnB ch a' len cap' l ∧ I = J ∧ S' = [c0, ch] := by
  refine Tri.lay (S2 := [c0, []]) (by simp) ?_
  refine Tri.of (args := [.slice a len cap]) tabOk Tryz.func44 rfl (by kernel_rfl) (by kernel_rfl) ?_
  refine appendD tabOk rfl rfl rfl rfl rfl rfl rfl 1 rfl (OwnC.nil 1 none) (SrcOk.slice (n := len) (news := bts l) tabOk rfl (by show SlC _ _ _ (len * 1) _; rw [Nat.mul_one]; exact h.mores [[]]) (bts_plain _)) rfl (by show (0 + len) * 1 ≤ _; omega) (by omega) ?_
  intro a2 cap2 ch2 hO
  rw [Nat.zero_add] at hO ⊢
  exact Done.mk ⟨a2, cap2, ch2, rfl, hO, rfl, rfl⟩
theorem copyS {S : St} {I : Imm} {a : Option Addr} {len cap : Nat} {l : Dat} (h : SlC I S a len (bts l)) (hlen : len ≤ 140737488355328) :
    Tri Tryz.prog 44 #[.slice a len cap] I S fun v J S' => ∃ a' cap' ch, v = .slice a' len cap' ∧ OwnB ch a' len cap' l ∧ I = J ∧ S' = S ++ [ch] := by
  refine Tri.pack ((copyS1 S.flatten h.pack hlen).mono ?_)
  rintro r J S' hJ ⟨a', cap', ch, rfl, hown, rfl, rfl⟩
  exact ⟨[ch], rfl, a', cap', ch, rfl, hown, rfl, rfl⟩
theorem ImgsR.imm {I J : Imm} {S : St} {a : Option Addr} {gs : List Img} (h : ImgsR I S a gs) (hJ : I.le J) : ImgsR J S a gs := ⟨h.sl.imm hJ, fun g hg => ⟨(h.each g hg).rd.imm hJ⟩⟩
theorem ImgsR.mores {I : Imm} {S : St} {a : Option Addr} {gs : List Img} (h : ImgsR I S a gs) (L : St) : ImgsR I (S ++ L) a gs := ⟨h.sl.mores L, fun g hg => ⟨(h.each g hg).rd.mores L⟩⟩
theorem slC_cells {I : Imm} {S : St} {b off n : Nat} {vs : List Value} (h : SlC I S (some ⟨b, off, none⟩) n vs) (hn : n ≠ 0) : Cells I S b off n vs := by
  rcases h.mem with q | ⟨b', o', e, hc⟩
  · exact absurd q hn
  · cases e; exact hc

def BkIn (ch : List Blk) (b : Bk) : Prop := ∃ bz pre post T, b.a = some ⟨bz, pre.length, none⟩ ∧ (bz, row (pre ++ bts b.data ++ post) T) ∈ ch ∧ b.data.length = 4096
theorem BkIn.ok {ch : List Blk} {b : Bk} (h : BkIn ch b) {J : Imm} (hm : ∀ x ∈ ch, J x.1 = some x.2) : BkOk J b := by
  obtain ⟨bz, pre, post, T, ha, hx, hl⟩ := h
  have hl' : (bts b.data).length = 4096 := by rw [bts_length, hl]
  refine ⟨hl', .inr ⟨bz, pre.length, _, T, (0, 0), ha, hm _ hx, ?_⟩⟩
  rw [List.append_assoc, List.drop_left, ← hl', List.take_left]
theorem BkIn.of {ch : List Blk} {a : Option Addr} {cap : Nat} {l : Dat} (h : OwnB ch a 4096 cap l) : BkIn ch ⟨a, cap, l⟩ := by
  have hl : l.length = 4096 := by have := h.n; rw [bts_length] at this; omega
  rcases h.at' with q0 | ⟨b6, pre, post, T6, h1, h2, _⟩
  · have := h.le; omega
  · exact ⟨b6, pre, post, T6, h1, by rw [h2]; simp, hl⟩
theorem BkIn.more {ch : List Blk} {b : Bk} (h : BkIn ch b) (c2 : List Blk) : BkIn (ch ++ c2) b := by
  obtain ⟨bz, pre, post, T, ha, hx, hl⟩ := h
  exact ⟨bz, pre, post, T, ha, List.mem_append_left _ hx, hl⟩
theorem BkIn.more' {ch : List Blk} {b : Bk} (h : BkIn ch b) (c2 : List Blk) : BkIn (c2 ++ ch) b := by
  obtain ⟨bz, pre, post, T, ha, hx, hl⟩ := h
  exact ⟨bz, pre, post, T, ha, List.mem_append_right _ hx, hl⟩
set_option maxHeartbeats 4000000 in
theorem r6_Put0 (c0 : List Blk) {I : Imm} (e s : Nat) {a : Option Addr} {cap : Nat} {gs : List Img} (h : ImgsR I [c0] a gs) (hcap : ∀ g ∈ gs, g.len ≤ g.cap) (hR : RightP e s (gs.map Img.pr)) :
    Tri Tryz.prog 203 #[.agg #[.int .i64 e, .int .i64 s, .slice a gs.length cap]] I [c0] fun v _ S' => ∃ aO capO chO chZ, ∃ bs : List Bk, v = .tuple #[.slice aO (gs.length + 1) capO, .int .i64 0] ∧ OwnC chO 1 aO (gs.length + 1) capO (bs.map Bk.cell) ∧ bs.map Bk.data = putP e s (gs.map Img.pr) ∧ (∀ b ∈ bs, BkIn chZ b) ∧ S' = [c0, chO, chZ] := by
  have hml : (gs.map Img.pr).length = gs.length := List.length_map ..
  have hea : ∀ g ∈ gs, 0 ≤ g.blk ∧ g.blk < 512 ∧ g.data.length = 4096 := fun g hg => hR.2.2.2.2.2.2.1 g.pr (List.mem_map_of_mem hg)
  have h32 : gs.length ≤ 32 := by rw [← hml]; exact hR.2.2.2.2.2.1
  have h1 : 1 ≤ gs.length := by rw [← hml]; exact hR.2.2.2.2.1
  have hE := hR.2.1
  have hS := hR.2.2.2.1
  have hsl := stampB_length e s
  refine Tri.drop ?_ (fun _ _ _ _ h => h)
  refine Tri.of (args := [.agg #[.int .i64 e, .int .i64 s, .slice a gs.length cap]]) tabOk Tryz.func203 rfl (by kernel_rfl) (by kernel_rfl) ?_
  conv => whnf
  intro b1
  repeat (first | refine LoadD.own 1 rfl _ rfl rfl ?_)
  refine Tri.nf (r6_Right e s (h.mores [_]) (by omega)) ?_
  rintro v J S' hJ ⟨rfl, rfl, rfl⟩
  rw [decide_eq_true hR]
  repeat (first | refine LoadD.own 1 rfl _ rfl rfl ?_)
  refine Tri.nf (r6_head e s (h.mores [_]) hcap hR) ?_
  rintro v J S' hJ ⟨aH, capH, chH, rfl, hH, rfl, rfl⟩
  conv => whnf
  intro bN
  obtain ⟨bA, oA, rfl, _⟩ := SlC.split h.sl (by omega)
  refine CodeF.loopD [1, 4, 5] (fun vs J' S' => ∃ (i : Nat) (a4 : Option Addr) (cap4 : Nat) (ch4 chZ : List Blk) (bs : List Bk), i ≤ gs.length ∧ OwnC ch4 1 a4 (i + 1) cap4 (bs.map Bk.cell) ∧ bs.map Bk.data = hblk e s (gs.map Img.pr) :: (gs.take i).map (fun g => markK (stampB e s) g.data 8) ∧ (∀ b ∈ bs, BkIn chZ b) ∧ I = J' ∧
      vs = [.pointer (some ⟨b1, 0, none⟩), .slice a4 (i + 1 : Nat) cap4, .int .i64 i] ∧ S' = [c0, [(b1, row [.int .i64 e, .int .i64 s, .slice (some ⟨bA, oA, none⟩) gs.length cap] 128)], ch4, chZ])
    (fun vs _ _ => match vs with | [_, _, .int _ i] => ((gs.length : Int) - i).toNat | _ => 0) ?_ ?_
  · refine ⟨_, Drop.pick [0, 1, 3, 2] _ rfl, 0, _, _, _, _, [⟨aH, capH, hblk e s (gs.map Img.pr)⟩], by omega, OwnC.whole rfl, rfl, ?_, rfl, rfl, rfl⟩
    intro b hb
    simp only [List.mem_singleton] at hb
    subst hb; exact BkIn.of hH
  rintro vs gE J' S' hJ' ⟨i, a4, cap4, ch4, chZ, bs, hi, h4, hbd, hbok, rfl, rfl, rfl⟩
  have hj := h
  refine LoadD.own 1 rfl _ rfl rfl ?_
  refine CmpD.split (fun c7 => ?_) (fun c7 => ?_)
  · have i1 : i < gs.length := by omega
    have hr := hj.each _ (List.getElem_mem i1)
    obtain ⟨q1, q2, q3⟩ := hea _ (List.getElem_mem i1)
    have hdl : gs[i].data.length = gs[i].len := by have := hr.rd.len; rwa [bts_length] at this
    have htake : gs.take (i + 1) = gs.take i ++ [gs[i]] := by rw [List.take_add_one, List.getElem?_eq_getElem i1]; rfl
    have h1' := imgCells_1 i1
    generalize gs[i] = g at *
    obtain ⟨gb, ga, gl, gc, gd⟩ := g
    dsimp only at q1 q2 q3 hdl
    obtain rfl : gl = 4096 := by omega
    refine LoadD.own 1 rfl _ rfl rfl ?_
    refine Chk.mk (by omega) ?_
    refine LoadD.mk _ ((slC_cells (hj.sl.mores [_, _, _]) (by omega)).at h1') ?_
    refine Tri.nf (copyS (hr.rd.mores [_, _, _]) (by show 4096 ≤ _; omega)) ?_
    rintro v J S' hJ ⟨a6, cap6, ch6, rfl, h6, rfl, rfl⟩
    rcases h6.at' with q0 | ⟨b6, pre, post, T6, rfl, rfl, hpost⟩
    · have := h6.le; dsimp only at this; omega
    refine CodeF.loopD [1, 4, 5, 6, 7] (fun vs J2 S' => ∃ (q : Nat), q ≤ 4096 ∧ I = J2 ∧ vs = [.pointer (some ⟨b1, 0, none⟩), .slice a4 (i + 1 : Nat) cap4, .int .i64 i, .slice (some ⟨b6, pre.length, none⟩) 4096 cap6, .int .i64 q] ∧
        S' = [c0, [(b1, row [.int .i64 e, .int .i64 s, .slice (some ⟨bA, oA, none⟩) gs.length cap] 128)], ch4, chZ, [(b6, row (pre ++ bts (gen (mrkF (stampB e s) gd) (fun j => gd.getD j 0) q) ++ post) T6)]])
      (fun vs _ _ => match vs with | [_, _, _, _, .int _ q] => ((4096 : Int) - q).toNat | _ => 0) ?_ ?_
    · refine ⟨_, Drop.refl _, 0, by omega, rfl, rfl, ?_⟩
      rw [gen_zero _ q3]
    rintro vs gE2 J2 S' hJ2 ⟨q, hq, rfl, rfl, rfl⟩
    have hgl := gen_length (mrkF (stampB e s) gd) (fun j => gd.getD j 0) q
    refine CmpD.split (fun c8 => ?_) (fun c8 => ?_)
    · refine Chk.mk (by decide) ?_
      refine ToD.to ((q % 512 : Nat) : Int) (tmod_nat q 512) ?_
      refine CmpD.split (fun c9 => ?_) (fun c9 => ?_)
      · refine LoadD.own 1 rfl _ rfl rfl ?_
        refine Tri.nf (r6_stamp e s (by omega) (by omega) _ _ _) ?_
        rintro v J S' hJ ⟨aM, capM, chM, rfl, hM, rfl, rfl⟩
        obtain ⟨bM, oM, rfl, hcM⟩ := SlC.cells (hM.slC1 (I := I) (S := [c0, [(b1, row [.int .i64 e, .int .i64 s, .slice (some ⟨bA, oA, none⟩) gs.length cap] 128)], ch4, chZ, [(b6, row (pre ++ bts (gen (mrkF (stampB e s) gd) (fun j => gd.getD j 0) q) ++ post) T6)], chM]) 5 rfl) (by omega)
        refine Chk.mk (by decide) ?_
        refine ToD.to ((q % 512 : Nat) : Int) (tmod_nat q 512) ?_
        refine Chk.mk (by omega) ?_
        refine LoadD.mk _ (hcM.at (bts_get (getD_get (by omega)))) ?_
        refine Chk.mk (by omega) ?_
        have hset := gen_step (mrkF (stampB e s) gd) (fun j => gd.getD j 0) (q := q) (by omega)
        have hsp : splice (pre ++ bts (gen (mrkF (stampB e s) gd) (fun j => gd.getD j 0) q) ++ post) (pre.length + q) [byte ((stampB e s).getD (q % 512) 0)] = pre ++ bts (gen (mrkF (stampB e s) gd) (fun j => gd.getD j 0) (q + 1)) ++ post := by
          rw [splice_mid _ _ _ _ _ (by rw [bts_length, hgl]; show q + 1 ≤ _; omega), bts_set (by rw [hgl]; omega) hset, mrkF, if_pos (by omega)]
          rfl
        refine StoreD.to 4 rfl _ hsp (by simp only [List.length_append, bts_length, hgl]; show pre.length + q + 1 ≤ _; omega) (.inr (.inr (Nat.le_refl _))) _ rfl ?_
        refine ToD.i64 (by omega) (by omega) ?_
        refine ⟨_, Drop.pick [0, 1, 2, 3, 4] _ rfl, ⟨q + 1, by omega, rfl, rfl, rfl⟩, ?_⟩
        show ((4096 : Int) - ((q : Int) + 1)).toNat < ((4096 : Int) - (q : Int)).toNat
        omega
      · refine ToD.i64 (by omega) (by omega) ?_
        refine ⟨_, Drop.refl _, ⟨q + 1, by omega, rfl, rfl, ?_⟩, ?_⟩
        · rw [gen_skip _ _ (q := q) (by rw [mrkF, if_neg (by omega)])]
        · show ((4096 : Int) - ((q : Int) + 1)).toNat < ((4096 : Int) - (q : Int)).toNat
          omega
    · obtain rfl : q = 4096 := by omega
      rw [gen_mark hsl q3]
      have hkl := markK_length (l := gd) hsl 8 (by omega) (by omega)
      have h6' : OwnB [(b6, row (pre ++ bts (markK (stampB e s) gd 8) ++ post) T6)] (some ⟨b6, pre.length, none⟩) 4096 cap6 (markK (stampB e s) gd 8) := ⟨by rw [bts_length, hkl, q3], h6.le, .inr ⟨b6, pre, post, T6, rfl, rfl, hpost⟩⟩
      conv => whnf
      intro bK
      refine appendD tabOk rfl rfl rfl rfl rfl rfl rfl 2 rfl h4 (SrcOk.slice (n := 1) (news := [.slice (some ⟨b6, pre.length, none⟩) 4096 cap6]) tabOk rfl ((OwnC.whole (len := 1) (size := 1) rfl).slC 5 rfl) (by intro v hv; simp only [List.mem_singleton] at hv; subst hv; rfl)) rfl (by show (i + 1 + 1) * 24 ≤ _; omega) (by omega) ?_
      intro a5 cap5 ch5 h5
      refine ToD.i64 (by omega) (by omega) ?_
      refine ⟨[c0, [(b1, row [.int .i64 e, .int .i64 s, .slice (some ⟨bA, oA, none⟩) gs.length cap] 128)], ch5, chZ ++ [(b6, row (pre ++ bts (markK (stampB e s) gd 8) ++ post) T6)]], (Drop.pick [0, 1, 2, 3, 4] _ rfl).trans (Drop.flat (by simp [St.at])), ⟨i + 1, a5, cap5, ch5, _, bs ++ [⟨some ⟨b6, pre.length, none⟩, cap6, markK (stampB e s) gd 8⟩], by omega, ?_, ?_, ?_, rfl, rfl, rfl⟩, ?_⟩
      · rw [List.map_append]; exact h5
      · rw [List.map_append, hbd, htake, List.map_append]; rfl
      · intro b hb
        rcases List.mem_append.1 hb with hb | hb
        · exact (hbok b hb).more _
        · simp only [List.mem_singleton] at hb
          subst hb
          exact (BkIn.of h6').more' _
      · show ((gs.length : Int) - ((i : Int) + 1)).toNat < ((gs.length : Int) - (i : Int)).toNat
        omega
  · obtain rfl : i = gs.length := by omega
    rw [List.take_length] at hbd
    refine Done.mk ⟨[c0, ch4, chZ], Drop.pick [0, 2, 3] _ rfl, a4, cap4, ch4, chZ, bs, rfl, h4, ?_, hbok, rfl⟩
    rw [hbd, putP, List.map_map]
    rfl
theorem r6_Put1 (c0 : List Blk) {I : Imm} (e s : Nat) {a : Option Addr} {cap : Nat} {gs : List Img} (h : ImgsR I [c0] a gs) (hcap : ∀ g ∈ gs, g.len ≤ g.cap) (hR : RightP e s (gs.map Img.pr)) :
    Tri Tryz.prog 203 #[.agg #[.int .i64 e, .int .i64 s, .slice a gs.length cap]] I [c0] fun v J S' => ∃ aO capO chO, ∃ bs : List Bk, v = .tuple #[.slice aO (gs.length + 1) capO, .int .i64 0] ∧ OwnC chO 1 aO (gs.length + 1) capO (bs.map Bk.cell) ∧ bs.map Bk.data = putP e s (gs.map Img.pr) ∧ (∀ b ∈ bs, BkOk J b) ∧ S' = [c0, chO] := by
  refine Tri.drop (Tri.fixed (K := fun v J S' => ∃ aO capO chO, ∃ bs : List Bk, v = .tuple #[.slice aO (gs.length + 1) capO, .int .i64 0] ∧ OwnC chO 1 aO (gs.length + 1) capO (bs.map Bk.cell) ∧ bs.map Bk.data = putP e s (gs.map Img.pr) ∧ (∀ b ∈ bs, BkOk J b) ∧ S' = [c0, chO, []]) (r6_Put0 c0 e s h hcap hR) ?_) ?_
  · rintro v J S' hJ ⟨aO, capO, chO, chZ, bs, rfl, h1, h2, h3, rfl⟩
    exact ⟨2, chZ, rfl, fun J' hJ' hm => ⟨aO, capO, chO, bs, rfl, h1, h2, fun b hb => (h3 b hb).ok hm, rfl⟩⟩
  · rintro v J S' hJ ⟨aO, capO, chO, bs, rfl, h1, h2, h3, rfl⟩
    exact ⟨[c0, chO], Drop.pick [0, 1] _ rfl, aO, capO, chO, bs, rfl, h1, h2, h3, rfl⟩
theorem r6_Put {S : St} {I : Imm} (e s : Nat) {a : Option Addr} {cap : Nat} {gs : List Img} (h : ImgsR I S a gs) (hcap : ∀ g ∈ gs, g.len ≤ g.cap) (hR : RightP e s (gs.map Img.pr)) :
    Tri Tryz.prog 203 #[.agg #[.int .i64 e, .int .i64 s, .slice a gs.length cap]] I S fun v J S' => ∃ aO capO chO, ∃ bs : List Bk, v = .tuple #[.slice aO (gs.length + 1) capO, .int .i64 0] ∧ OwnC chO 1 aO (gs.length + 1) capO (bs.map Bk.cell) ∧ bs.map Bk.data = putP e s (gs.map Img.pr) ∧ (∀ b ∈ bs, BkOk J b) ∧ S' = S ++ [chO] := by
  refine Tri.pack ((r6_Put1 S.flatten e s h.pack hcap hR).mono ?_)
  rintro r J S' hJ ⟨aO, capO, chO, bs, rfl, h1, h2, h3, rfl⟩
  exact ⟨[chO], rfl, aO, capO, chO, bs, rfl, h1, h2, h3, rfl⟩
end Go.Proofs.YtegdcjnjnoeinaaGreat
namespace Go.Proofs.YtegdcjnjnoeinaaGreat
open Go.RowKit Go.Sl
set_option maxRecDepth 20000

theorem nb_append (x y : Dat) : nb (x ++ y) = nb x * 256 ^ y.length + nb y := by
  refine snoc_ind (p := fun y => nb (x ++ y) = nb x * 256 ^ y.length + nb y) (by simp [nb]) ?_ y
  intro l c ih
  have hc := c.toNat_lt
  rw [← List.append_assoc, nb_snoc, nb_snoc, ih, or_low _ _ hc, or_low _ _ hc, List.length_append, List.length_singleton, Nat.pow_succ, Nat.add_mul, Nat.mul_assoc]
  omega
theorem hbE_eq {b : Dat} (hb : b.length = 4096) : (numV b 0 3) = (hbE b, true) ∧ (numV b 3 5) = (hbS b, true) ∧ hbE b < 16777216 ∧ hbS b < 1099511627776 := by
  have e8 : (b.drop 0).take 8 = (b.drop 0).take 3 ++ (b.drop 3).take 5 := by
    rw [List.drop_zero, show (8 : Nat) = 3 + 5 from rfl, List.take_add]
  have l3 : ((b.drop 0).take 3).length = 3 := by rw [List.length_take, List.length_drop]; omega
  have l5 : ((b.drop 3).take 5).length = 5 := by rw [List.length_take, List.length_drop]; omega
  have hn := nb_append ((b.drop 0).take 3) ((b.drop 3).take 5)
  rw [← e8, l5] at hn
  have h3 := nb_lt ((b.drop 0).take 3)
  have h5 := nb_lt ((b.drop 3).take 5)
  rw [l3] at h3
  rw [l5] at h5
  have hv : ∀ (k : Nat) (n : Nat), k + n ≤ 4096 → numV b (k : Nat) n = (nb ((b.drop k).take n), true) := fun k n h => by
    unfold numV
    rw [if_neg (by omega), Int.toNat_natCast]
  have v8 := hv 0 8 (by omega)
  have v3 := hv 0 3 (by omega)
  have v5 := hv 3 5 (by omega)
  have hE : hbE b = nb ((b.drop 0).take 3) := by
    unfold hbE
    rw [show (0 : Int) = ((0 : Nat) : Int) from rfl, v8]
    show nb _ / _ = _
    rw [hn]; omega
  have hS : hbS b = nb ((b.drop 3).take 5) := by
    unfold hbS
    rw [show (0 : Int) = ((0 : Nat) : Int) from rfl, v8]
    show nb _ % _ = _
    rw [hn]; omega
  refine ⟨by rw [hE]; exact v3, by rw [hS]; exact v5, by omega, by omega⟩
/-- an image whose data lies in a block of its own -/
structure DI where
  blk : Int
  b : Nat
  data : Dat
def DI.img (d : DI) : Img := ⟨d.blk, some ⟨d.b, 0, none⟩, 4096, 4096, d.data⟩
def dch (l : List DI) : List Blk := l.map fun d => (d.b, row (bts d.data) 5)
theorem dch_img {I : Imm} {S : St} {l : List DI} (k : Nat) (hk : S[k]? = some (dch l)) (hd : ∀ d ∈ l, d.data.length = 4096) {a : Option Addr} (hsl : SlC I S a (l.length * 2) (imgCells (l.map DI.img))) : ImgsR I S a (l.map DI.img) := by
  refine ⟨by rw [List.length_map]; exact hsl, fun g hg => ?_⟩
  obtain ⟨d, hdm, rfl⟩ := List.mem_map.1 hg
  have hl := hd d hdm
  refine ⟨⟨by rw [bts_length]; exact hl, .inr ⟨d.b, 0, rfl, ⟨bts d.data, 5, (0, 0), .own k ?_, ?_, by rw [bts_length]; exact hl⟩⟩⟩⟩
  · exact mem_getD hk (List.mem_map_of_mem (f := fun d : DI => (d.b, row (bts d.data) 5)) hdm)
  · show List.take 4096 ((bts d.data).drop 0) = bts d.data
    rw [List.drop_zero, List.take_of_length_le (by rw [bts_length]; omega)]
set_option maxHeartbeats 8000000 in
theorem r6_read1 (c0 : List Blk) {I : Imm} {a : Option Addr} {len cap : Nat} {b : Dat} (h : SlC I [c0] a len (bts b)) (hlen : len ≤ 1000000000) :
    Tri Tryz.prog 202 #[.slice a len cap] I [c0] fun v J S' =>
      (hdP b = none ∧ (∃ x y aI n capI, v = .tuple #[.agg #[.int .i64 x, .int .i64 y, .slice aI n capI], .bool false]) ∧ I = J ∧ S' = [c0]) ∨
      (hdP b = some (hbE b, hbS b, imsB b) ∧ ∃ aI capI chI, ∃ l : List DI, v = .tuple #[.agg #[.int .i64 (hbE b : Nat), .int .i64 (hbS b : Nat), .slice aI (cntB b) capI], .bool true] ∧ l.length = cntB b ∧ OwnC chI 2 aI (cntB b) capI (imgCells (l.map DI.img)) ∧
        (l.map DI.img).map Img.pr = imsB b ∧ I = J ∧ S' = [c0, chI, dch l]) := by
  have hll : b.length = len := by rw [← bts_length, h.len]
  refine Tri.drop ?_ (fun _ _ _ _ h => h)
  refine Tri.of (args := [.slice a len cap]) tabOk Tryz.func202 rfl (by kernel_rfl) (by kernel_rfl) ?_
  conv => whnf
  intro b2
  refine CmpD.split (fun (c1 : (len : Int) = 4096) => ?_) (fun (c1 : ¬ (len : Int) = 4096) => ?_)
  rotate_left
  · repeat (first | refine LoadD.own 1 rfl _ rfl rfl ?_ | refine StoreD.st 1 rfl rfl rfl ?_)
    refine Done.mk ⟨[c0], Drop.pick [0] _ rfl, .inl ⟨?_, ⟨_, _, _, _, _, rfl⟩, rfl, rfl⟩⟩
    cases hd : hdP b with
    | none => rfl
    | some x =>
      obtain ⟨e, s, l⟩ := x
      obtain ⟨_, _, _, _, _, hb, _⟩ := hdP_some hd
      omega
  obtain rfl : len = 4096 := by omega
  obtain ⟨bb, ob, rfl, hcb⟩ := SlC.split h (by omega)
  obtain ⟨n1, n2, n3, n4⟩ := hbE_eq hll
  refine Tri.nf (ref_Number (h.mores [_]) (by omega) 0 (by unfold In64; omega) 3 (by omega)) ?_
  rintro v J S' hJ ⟨rfl, rfl, rfl⟩
  rw [n1]
  skip
  refine Tri.nf (ref_Number (h.mores [_]) (by omega) 3 (by unfold In64; omega) 5 (by omega)) ?_
  rintro v J S' hJ ⟨rfl, rfl, rfl⟩
  rw [n2]
  refine ToD.to ((hbE b : Nat) : Int) (wrap_i64 (by omega) (by omega)) ?_
  refine ToD.to ((hbS b : Nat) : Int) (wrap_i64 (by omega) (by omega)) ?_
  conv => whnf
  intro b8
  repeat (first | refine StoreD.st 2 rfl rfl rfl ?_)
  refine CodeF.loopD [0, 2, 8, 9, 10] (fun vs J' S' => ∃ (q : Nat) (a9 : Option Addr) (cap9 : Nat) (ch9 : List Blk), q ≤ 4096 ∧ OwnB ch9 a9 (cq q) cap9 ((gatK b 8).take (cq q)) ∧
      vs = [.slice (some ⟨bb, ob, none⟩) 4096 cap, .pointer (some ⟨b2, 0, none⟩), .pointer (some ⟨b8, 0, none⟩), .slice a9 (cq q) cap9, .int .i64 q] ∧ I = J' ∧ S' = [c0, gBox b2 0 0 none 0 0, gBox b8 (hbE b : Nat) (hbS b : Nat) none 0 0, ch9])
    (fun vs _ _ => match vs with | [_, _, _, _, .int _ q] => ((4096 : Int) - q).toNat | _ => 0) ?_ ?_
  · exact ⟨_, Drop.and (Drop.refl _), 0, none, 0, [], by omega, OwnC.nil _ _, rfl, rfl, rfl⟩
  rintro vs gE J' S' hJ' ⟨q, a9, cap9, ch9, hq, h9, rfl, rfl, rfl⟩
  refine CmpD.split (fun c2 => ?_) (fun c2 => ?_)
  · have hcq : cq q ≤ 4032 := by unfold cq; omega
    refine Chk.mk (by decide) ?_
    refine ToD.to ((q % 512 : Nat) : Int) (tmod_nat q 512) ?_
    refine CmpD.split (fun c3 => ?_) (fun c3 => ?_)
    · obtain ⟨g1, g2⟩ := gat_step hll (q := q) (by omega) (by omega)
      refine Chk.mk (by omega) ?_
      refine LoadD.mk _ ((slC_cells (h.mores [_, _, _]) (by omega)).at (bts_get (getD_get (by omega)))) ?_
      conv => whnf
      intro bN
      refine appendD tabOk rfl rfl rfl rfl rfl rfl rfl 3 rfl h9 (SrcOk.slice (n := 1) (news := bts [b.getD q 0]) tabOk rfl ((OwnC.whole (len := 1) (size := 1) rfl).slC 4 rfl) (bts_plain _)) rfl (by show (cq q + 1) * 1 ≤ _; omega) (by omega) ?_
      intro a5 cap5 ch5 h5
      refine ToD.i64 (by omega) (by omega) ?_
      refine ⟨_, Drop.pick [0, 1, 2, 3] _ rfl, ⟨q + 1, a5, cap5, ch5, by omega, ?_, by rw [g2]; rfl, rfl, rfl⟩, ?_⟩
      · rw [g1, g2, OwnB, bts_append]; exact h5
      · show ((4096 : Int) - ((q : Int) + 1)).toNat < ((4096 : Int) - (q : Int)).toNat
        omega
    · refine ToD.i64 (by omega) (by omega) ?_
      refine ⟨_, Drop.refl _, ⟨q + 1, a9, cap9, ch9, by omega, ?_, ?_, rfl, rfl⟩, ?_⟩
      · rw [cq_skip (by omega)]; exact h9
      · rw [cq_skip (by omega)]; rfl
      · show ((4096 : Int) - ((q : Int) + 1)).toNat < ((4096 : Int) - (q : Int)).toNat
        omega
  · obtain rfl : q = 4096 := by omega
    rw [cq_all hll] at h9
    have hg := gatK_length hll 8 (by omega)
    have h9 : OwnB ch9 a9 4032 cap9 (gatK b 8) := h9
    refine Tri.nf (ref_Number (h9.slC1 3 rfl) (by show 4032 ≤ _; omega) 0 (by unfold In64; omega) 2 (by omega)) ?_
    rintro v J S' hJ ⟨rfl, rfl, rfl⟩
    have hc16 : cntB b < 65536 := nb_lt2 (gatK b 8) 0
    have hcn : (numV (gatK b 8) 0 2).1 = cntB b := rfl
    generalize hc2 : (numV (gatK b 8) 0 2).2 = ok2
    rw [hcn]
    obtain ⟨c, hc⟩ : ∃ c, c = cntB b := ⟨_, rfl⟩
    rw [← hc] at hc16 ⊢
    refine CmpD.split (fun c3 => ?_) (fun c3 => ?_)
    · repeat (first | refine LoadD.own 1 rfl _ rfl rfl ?_ | refine StoreD.st 1 rfl rfl rfl ?_)
      refine Done.mk ⟨[c0], Drop.pick [0] _ rfl, .inl ⟨hdP_cnt (by omega), ⟨_, _, _, _, _, rfl⟩, rfl, rfl⟩⟩
    refine CodeF.loopD [0, 2, 8, 9, 11, 13] (fun vs J' S' => ∃ (i : Nat) (aI : Option Addr) (capI : Nat) (chI : List Blk) (l : List DI), i ≤ c ∧ l.length = i ∧ OwnC chI 2 aI i capI (imgCells (l.map DI.img)) ∧ (l.map DI.img).map Img.pr = (List.range i).map (fun k => (blkB b k, shoK noughts (hidB b k) 8)) ∧
        vs = [.slice (some ⟨bb, ob, none⟩) 4096 cap, .pointer (some ⟨b2, 0, none⟩), .pointer (some ⟨b8, 0, none⟩), .slice a9 4032 cap9, .int .u64 c, .int .i64 i] ∧ I = J' ∧ S' = [c0, gBox b2 0 0 none 0 0, gBox b8 (hbE b : Nat) (hbS b : Nat) aI i capI, ch9, chI, dch l])
      (fun vs _ _ => match vs with | [_, _, _, _, _, .int _ i] => ((c : Int) - i).toNat | _ => 0) ?_ ?_
    · exact ⟨_, Drop.and (Drop.and (Drop.refl _)), 0, none, 0, [], [], by omega, rfl, OwnC.nil _ _, rfl, rfl, rfl, rfl⟩
    rintro vs gE J' S' hJ' ⟨i, aI, capI, chI, l, hi, hil, hI, hpr, rfl, rfl, rfl⟩
    refine ToD.to ((c : Nat) : Int) (wrap_i64 (by omega) (by omega)) ?_
    refine CmpD.split (fun c4 => ?_) (fun c4 => ?_)
    · have hb16 := nb_lt2 (gatK b 8) (6 + 66 * i : Nat)
      refine ToD.to ((66 * i : Nat) : Int) (by rw [wrap_i64 (by omega) (by omega)]; omega) ?_
      refine ToD.to ((6 + 66 * i : Nat) : Int) (by rw [wrap_i64 (by omega) (by omega)]; omega) ?_
      refine Tri.nf (ref_Number (h9.slC1 3 rfl) (by omega) (6 + 66 * i : Nat) (by unfold In64; omega) 2 (by omega)) ?_
      rintro v J S' hJ ⟨rfl, rfl, rfl⟩
      have hbk : blkB b i = ((numV (gatK b 8) (6 + 66 * i : Nat) 2).1 : Nat) := rfl
      generalize (numV (gatK b 8) (6 + 66 * i : Nat) 2).2 = ok3
      generalize (numV (gatK b 8) (6 + 66 * i : Nat) 2).1 = bk at hbk hb16 ⊢
      refine makeD tabOk rfl rfl rfl 4096 4096 rfl rfl (Nat.le_refl _) (by show 1 * 4096 ≤ _; decide) (by decide) (by show 4096 * 1 ≤ _; decide) rfl (by decide) ?_
      intro bz
      refine CodeF.loopD [0, 2, 8, 9, 11, 13, 14, 15, 17, 18] (fun vs J' S' => ∃ (n : Nat), n ≤ 64 ∧
          vs = [.slice (some ⟨bb, ob, none⟩) 4096 cap, .pointer (some ⟨b2, 0, none⟩), .pointer (some ⟨b8, 0, none⟩), .slice a9 4032 cap9, .int .u64 c, .int .i64 i, .int .i64 (6 + 66 * i : Nat), .int .u64 bk, .slice (some ⟨bz, 0, none⟩) 4096 4096, .int .i64 n] ∧ I = J' ∧
          S' = [c0, gBox b2 0 0 none 0 0, gBox b8 (hbE b : Nat) (hbS b : Nat) aI i capI, ch9, chI, dch l, [(bz, row (bts (shw (hidB b i) n)) 5)]])
        (fun vs _ _ => match vs with | [_, _, _, _, _, _, _, _, _, .int _ n] => ((64 : Int) - n).toNat | _ => 0) ?_ ?_
      · refine ⟨_, Drop.refl _, 0, by omega, rfl, rfl, ?_⟩
        rw [shw_zero, ← rows_noughts]; rfl
      rintro vs gE2 J' S' hJ' ⟨n, hn, rfl, rfl, rfl⟩
      have hsl := shw_length (hidB b i) n
      refine CmpD.split (fun c5 => ?_) (fun c5 => ?_)
      · obtain ⟨b9, o9, rfl, hc9⟩ := SlC.cells (h9.slC1 (I := I) (S := [c0, gBox b2 0 0 none 0 0, gBox b8 (hbE b : Nat) (hbS b : Nat) aI i capI, ch9, chI, dch l, [(bz, row (bts (shw (hidB b i) n)) 5)]]) 3 rfl) (by omega)
        refine Chk.mk (by decide) ?_
        refine ToD.to ((n / 8 : Nat) : Int) (by rw [Int.tdiv_eq_ediv_of_nonneg (by omega), wrap_i64 (by omega) (by omega)]; omega) ?_
        refine ToD.to ((n / 8 * 512 : Nat) : Int) (by rw [wrap_i64 (by omega) (by omega)]; omega) ?_
        refine Chk.mk (by decide) ?_
        refine ToD.to ((n % 8 : Nat) : Int) (tmod_nat n 8) ?_
        refine ToD.to ((n / 8 * 512 + n % 8 : Nat) : Int) (by rw [wrap_i64 (by omega) (by omega)]; omega) ?_
        refine ToD.to ((8 + 66 * i : Nat) : Int) (by rw [wrap_i64 (by omega) (by omega)]; omega) ?_
        refine ToD.to ((8 + 66 * i + n : Nat) : Int) (by rw [wrap_i64 (by omega) (by omega)]; omega) ?_
        refine Chk.mk (by omega) ?_
        refine LoadD.mk _ (hc9.at (bts_get (hidB_get hll (i := i) (n := n) (by omega) (by omega)))) ?_
        refine Chk.mk (by omega) ?_
        have hsp : splice (bts (shw (hidB b i) n)) (n / 8 * 512 + n % 8) [byte ((hidB b i).getD n 0)] = bts (shw (hidB b i) (n + 1)) := by
          rw [bts_set (by rw [hsl]; omega) (shw_step (hidB b i) n)]; rfl
        refine StoreD.to 6 rfl (bts (shw (hidB b i) (n + 1))) (by show splice _ (0 + (n / 8 * 512 + n % 8)) _ = _; rw [Nat.zero_add]; exact hsp) (by rw [bts_length, hsl]; show 0 + (n / 8 * 512 + n % 8) + 1 ≤ _; omega) (.inr (.inr (Nat.le_refl _))) _ rfl ?_
        refine ToD.i64 (by omega) (by omega) ?_
        refine ⟨_, Drop.refl _, ⟨n + 1, by omega, rfl, rfl, rfl⟩, ?_⟩
        show ((64 : Int) - ((n : Int) + 1)).toNat < ((64 : Int) - (n : Int)).toNat
        omega
      · obtain rfl : n = 64 := by omega
        rw [shw_all (hidB_length hll (by omega))]
        repeat (first | refine LoadD.own 2 rfl _ rfl rfl ?_)
        refine ToD.to (bk : Int) (wrap_i64 (by omega) (by omega)) ?_
        conv => whnf
        intro bG
        refine appendD tabOk rfl rfl rfl rfl rfl rfl rfl 4 rfl hI (SrcOk.slice (n := 1) (news := imgCells [⟨bk, some ⟨bz, 0, none⟩, 4096, 4096, shoK noughts (hidB b i) 8⟩]) tabOk rfl ((OwnC.whole (len := 1) (size := 2) rfl).slC 7 rfl) (by intro v hv; simp [imgCells] at hv; rcases hv with rfl | rfl <;> rfl)) rfl (by show (i + 1) * 32 ≤ _; omega) (by omega) ?_
        intro aI2 capI2 chI2 hI2
        repeat (first | refine StoreD.st 2 rfl rfl rfl ?_)
        refine ToD.i64 (by omega) (by omega) ?_
        refine ⟨[c0, gBox b2 0 0 none 0 0, gBox b8 (hbE b : Nat) (hbS b : Nat) aI2 (i + 1) capI2, ch9, chI2, dch (l ++ [⟨bk, bz, shoK noughts (hidB b i) 8⟩])], ?_, ⟨i + 1, aI2, capI2, chI2, l ++ [⟨bk, bz, shoK noughts (hidB b i) 8⟩], by omega, by simp [hil], ?_, ?_, rfl, rfl, rfl⟩, ?_⟩
        · refine (Drop.pick [0, 1, 2, 3, 4, 5, 6] _ rfl).trans (Drop.flat ?_)
          simp [St.at, dch]
          rfl
        · rw [List.map_append, List.map_cons, List.map_nil]
          rw [DI.img, imgCells_snoc]; exact hI2
        · rw [List.map_append, List.map_append, hpr, List.range_succ, List.map_append]
          show _ ++ [((bk : Int), shoK noughts (hidB b i) 8)] = _ ++ [(blkB b i, shoK noughts (hidB b i) 8)]
          rw [hbk]
        · show ((c : Int) - ((i : Int) + 1)).toNat < ((c : Int) - i).toNat; omega
    · obtain rfl : i = c := by omega
      have hims : (l.map DI.img).map Img.pr = imsB b := by rw [hpr, imsB, ← hc]
      have hdl : ∀ d ∈ l, d.data.length = 4096 := by
        intro d hd
        have hm : (d.blk, d.data) ∈ (l.map DI.img).map Img.pr := List.mem_map.2 ⟨d.img, List.mem_map_of_mem hd, rfl⟩
        rw [hpr] at hm
        obtain ⟨k, hk, e⟩ := List.mem_map.1 hm
        have e2 : shoK noughts (hidB b k) 8 = d.data := congrArg Prod.snd e
        rw [← e2]
        exact shoK_length noughts_length (hidB_length hll (by rw [List.mem_range] at hk; omega)) 8 (by omega)
      have hIR : ∀ L, ImgsR I ([c0, gBox b2 0 0 none 0 0, gBox b8 (hbE b : Nat) (hbS b : Nat) aI i capI, ch9, chI, dch l] ++ L) aI (l.map DI.img) := fun L => (dch_img 5 rfl hdl (by have := hI.slC (I := I) (S := [c0, gBox b2 0 0 none 0 0, gBox b8 (hbE b : Nat) (hbS b : Nat) aI i capI, ch9, chI, dch l]) 4 rfl; rw [hil]; exact this)).mores L
      have hml : (l.map DI.img).length = i := by rw [List.length_map, hil]
      have hRt := r6_Right (hbE b : Nat) (hbS b : Nat) (cap := capI) (hIR []) (by omega)
      rw [hims, hml] at hRt
      by_cases hR : RightP (hbE b : Nat) (hbS b : Nat) (imsB b)
      · have hHt := r6_head (hbE b) (hbS b) (cap := capI) (hIR []) (by intro g hg; obtain ⟨d, _, rfl⟩ := List.mem_map.1 hg; exact Nat.le_refl _) (by rw [hims]; exact hR)
        rw [hims, hml] at hHt
        refine CodeF.sched [[], [], [1], [1, 2], [1, 2, 3], [1, 2, 3, 4], [1, 2, 3], [1, 2, 3, 4, 5, 6], [1, 2, 3, 4, 5, 6, 7], [0, 1, 2, 3, 4, 5, 6, 7], [0, 1, 2, 3, 4, 5, 6, 7, 8, 9]] [0, 1, 2, 3, 4, 6, 5, 7, 8, 9, 10] (by kernel_rfl) ?_
        repeat (first | refine LoadP.at 2 rfl _ rfl rfl ?_)
        refine Tri.nf hRt ?_
        rintro v J S' hJ ⟨rfl, rfl, rfl⟩
        rw [decide_eq_true hR]
        repeat (first | refine LoadP.at 2 rfl _ rfl rfl ?_ | refine Chk.mk ⟨rfl, trivial⟩ ?_)
        refine Tri.nf hHt ?_
        rintro v J S' hJ ⟨aH, capH, chH, rfl, hH, rfl, rfl⟩
        repeat (first | refine Chk.mk ⟨rfl, trivial⟩ ?_)
        refine Tri.nf (same_bytes (hH.slC1 6 rfl) (h.mores [_, _, _, _, _, _])) ?_
        rintro v J S' hJ ⟨rfl, rfl, rfl⟩
        repeat (first | refine LoadD.own 1 rfl _ rfl rfl ?_ | refine StoreD.st 1 rfl rfl rfl ?_ | refine Chk.mk ⟨rfl, trivial⟩ ?_)
        by_cases hq : hblk (hbE b) (hbS b) (imsB b) = b
        · rw [decide_eq_true hq]
          skip
          refine Done.mk ⟨[c0, chI, dch l], Drop.pick [0, 4, 5] _ rfl, .inr ⟨by unfold hdP; rw [if_pos ⟨hR, hq⟩], aI, capI, chI, l, rfl, hil, hI, hims, rfl, rfl⟩⟩
        · rw [decide_eq_false hq]
          skip
          exact Done.mk ⟨[c0], Drop.pick [0] _ rfl, .inl ⟨by unfold hdP; rw [if_neg (fun h' => hq h'.2)], ⟨_, _, _, _, _, rfl⟩, rfl, rfl⟩⟩
      · refine CodeF.sched [[], [], [1], [1, 2], [1, 2, 3], [1, 2, 3, 4], [1, 2, 3], [1, 2, 3, 4, 5, 6], [1, 2, 3, 4, 5, 6, 7], [0, 1, 2, 3, 4, 5, 6, 7], [0, 1, 2, 3, 4, 5, 6, 7, 8, 9]] [0, 1, 2, 3, 4, 6, 5, 7, 8, 9, 10] (by kernel_rfl) ?_
        repeat (first | refine LoadP.at 2 rfl _ rfl rfl ?_)
        refine Tri.nf hRt ?_
        rintro v J S' hJ ⟨rfl, rfl, rfl⟩
        rw [decide_eq_false hR]
        repeat (first | refine LoadD.own 1 rfl _ rfl rfl ?_ | refine StoreD.st 1 rfl rfl rfl ?_ | refine Chk.mk ⟨rfl, trivial⟩ ?_)
        exact Done.mk ⟨[c0], Drop.pick [0] _ rfl, .inl ⟨by unfold hdP; rw [if_neg (fun h' => hR h'.1)], ⟨_, _, _, _, _, rfl⟩, rfl, rfl⟩⟩
end Go.Proofs.YtegdcjnjnoeinaaGreat
namespace Go.Proofs.YtegdcjnjnoeinaaGreat
open Go.RowKit Go.Sl
set_option maxRecDepth 20000

theorem r6_read {S : St} {I : Imm} {a : Option Addr} {len cap : Nat} {b : Dat} (h : SlC I S a len (bts b)) (hlen : len ≤ 1000000000) :
    Tri Tryz.prog 202 #[.slice a len cap] I S fun v J S' =>
      (hdP b = none ∧ (∃ x y aI n capI, v = .tuple #[.agg #[.int .i64 x, .int .i64 y, .slice aI n capI], .bool false]) ∧ I = J ∧ S' = S) ∨
      (hdP b = some (hbE b, hbS b, imsB b) ∧ ∃ aI capI chI, ∃ l : List DI, v = .tuple #[.agg #[.int .i64 (hbE b : Nat), .int .i64 (hbS b : Nat), .slice aI (cntB b) capI], .bool true] ∧ l.length = cntB b ∧ OwnC chI 2 aI (cntB b) capI (imgCells (l.map DI.img)) ∧
        (l.map DI.img).map Img.pr = imsB b ∧ I = J ∧ S' = S ++ [chI, dch l]) := by
  refine Tri.pack ((r6_read1 S.flatten h.pack hlen).mono ?_)
  rintro v J S' hJ (⟨h1, h2, rfl, rfl⟩ | ⟨h1, aI, capI, chI, l, rfl, h2, h3, h4, rfl, rfl⟩)
  · exact ⟨[], rfl, .inl ⟨h1, h2, rfl, by simp⟩⟩
  · exact ⟨[chI, dch l], rfl, .inr ⟨h1, aI, capI, chI, l, rfl, h2, h3, h4, rfl, rfl⟩⟩
theorem r6_Head {I : Imm} {a : Option Addr} {len cap : Nat} {b : Dat} (h : Rds I a len (bts b)) (hlen : len ≤ 1000000000) :
    Tri Tryz.prog 174 #[.slice a len cap] I [] fun v J _ => v = headV b ∧ I = J := by
  refine Tri.of (args := [.slice a len cap]) tabOk Tryz.func174 rfl (by kernel_rfl) (by kernel_rfl) ?_
  refine Tri.nf (r6_read h.slC hlen) ?_
  rintro v J S' hJ (⟨hn, ⟨x, y, aI, n, capI, rfl⟩, rfl, rfl⟩ | ⟨hs, aI, capI, chI, l, rfl, hl, hI, hp, rfl, rfl⟩)
  · conv => whnf
    intro b6
    repeat (first | refine StoreD.st 0 rfl rfl rfl ?_)
    refine Done.mk ⟨?_, rfl⟩
    unfold headV; rw [hn]; rfl
  · conv => whnf
    intro b6
    repeat (first | refine StoreD.st 2 rfl rfl rfl ?_)
    refine CodeF.sched [[], [0], [], [2], [], [4], [4, 5], [0, 1], [0, 1, 2, 3, 7], [0, 1, 2, 3, 4, 5, 6, 7, 8], [0, 1, 2, 3, 4, 5, 6, 7, 8, 9]] [0, 1, 2, 3, 4, 5, 6, 7, 8, 9, 10] (by kernel_rfl) ?_
    repeat (first | refine LoadP.at 2 rfl _ rfl rfl ?_)
    refine Done.mk ⟨?_, rfl⟩
    unfold headV; rw [hs]
    show _ = Value.tuple #[_, _, .int .i64 ((imsB b).length : Nat), _]
    rw [imsB_length]; rfl
theorem map_take_eq {α β : Type} {f : α → β} {g1 g2 : List α} {i : Nat} (h1 : i < g1.length) (h2 : i < g2.length) (ht : (g1.take i).map f = (g2.take i).map f) :
    ((g1.take (i + 1)).map f = (g2.take (i + 1)).map f) ↔ f g1[i] = f g2[i] := by
  rw [List.take_add_one, List.take_add_one, List.getElem?_eq_getElem h1, List.getElem?_eq_getElem h2, List.map_append, List.map_append, ht]
  simp
theorem same_lists1 (c0 : List Blk) {I : Imm} {a1 a2 : Option Addr} {c1 c2 : Nat} {g1 g2 : List Bk} (h1 : SlC I [c0] a1 g1.length (g1.map Bk.cell)) (h2 : SlC I [c0] a2 g2.length (g2.map Bk.cell)) (k1 : ∀ b ∈ g1, BkOk I b) (k2 : ∀ b ∈ g2, BkOk I b) (hl1 : g1.length ≤ 1000000000) :
    Tri Tryz.prog 36 #[.slice a1 g1.length c1, .slice a2 g2.length c2] I [c0] fun v J S' => v = .bool (decide (g1.map Bk.data = g2.map Bk.data)) ∧ I = J ∧ S' = [c0] := by
  refine Tri.of (args := [.slice a1 g1.length c1, .slice a2 g2.length c2]) tabOk Tryz.func36 rfl (by kernel_rfl) (by kernel_rfl) ?_
  refine CmpD.split (fun (c : (g1.length : Int) = g2.length) => ?_) (fun (c : ¬ (g1.length : Int) = g2.length) => ?_)
  rotate_left
  · refine Done.mk ⟨?_, rfl, rfl⟩
    show Value.bool _ = Value.bool _
    rw [decide_eq_false (fun h => c (by have := congrArg List.length h; simp at this; omega))]
  have hl : g1.length = g2.length := by omega
  refine CodeF.loopD [0, 1, 5] (fun vs J' S' => ∃ (i : Nat), i ≤ g1.length ∧ (g1.take i).map Bk.data = (g2.take i).map Bk.data ∧ vs = [.slice a1 g1.length c1, .slice a2 g2.length c2, .int .i64 i] ∧ I = J' ∧ S' = [c0])
    (fun vs _ _ => match vs with | [_, _, .int _ i] => ((g1.length : Int) - i).toNat | _ => 0) ?_ ?_
  · exact ⟨_, Drop.refl _, 0, by omega, rfl, rfl, rfl, rfl⟩
  rintro vs gE J' S' hJ' ⟨i, hi, hpre, rfl, rfl, rfl⟩
  refine CmpD.split (fun c1' => ?_) (fun c1' => ?_)
  · have i1 : i < g1.length := by omega
    have i2 : i < g2.length := by omega
    have hiff := map_take_eq (f := Bk.data) i1 i2 hpre
    have no : ¬ (g1[i].data = g2[i].data) → decide (g1.map Bk.data = g2.map Bk.data) = false := by
      intro h
      refine decide_eq_false fun h' => h (hiff.1 ?_)
      rw [List.map_take, List.map_take, h']
    obtain ⟨b1, o1, rfl, hc1⟩ := SlC.split h1 (by omega)
    obtain ⟨b2, o2, rfl, hc2⟩ := SlC.split h2 (by omega)
    have r1 := k1 _ (List.getElem_mem i1)
    have r2 := k2 _ (List.getElem_mem i2)
    have e1 : (g1.map Bk.cell)[i]? = some g1[i].cell := by rw [List.getElem?_map, List.getElem?_eq_getElem i1]; rfl
    have e2 : (g2.map Bk.cell)[i]? = some g2[i].cell := by rw [List.getElem?_map, List.getElem?_eq_getElem i2]; rfl
    refine CodeF.sched [[], [], [0, 1], [0, 1, 2], [], [], [4, 5], [4, 5, 6], [0, 1, 2, 3, 4, 5, 6, 7], [0, 1, 2, 3, 4, 5, 6, 7, 8]] [0, 1, 2, 3, 4, 5, 6, 7, 8, 9] (by kernel_rfl) ?_
    refine Chk.mk (by omega) ?_
    refine LoadP_any _ (hc1.at e1) ?_
    refine Chk.mk (by omega) ?_
    refine LoadP_any _ (hc2.at e2) ?_
    refine Tri.nf (same_bytes (Rds.slC r1) (Rds.slC r2)) ?_
    rintro v J S' hJ ⟨rfl, rfl, rfl⟩
    by_cases hd : g1[i].data = g2[i].data
    · rw [decide_eq_true hd]
      refine ToD.i64 (by omega) (by omega) ?_
      refine ⟨_, Drop.refl _, ⟨i + 1, by omega, hiff.2 hd, rfl, rfl, rfl⟩, ?_⟩
      show ((g1.length : Int) - ((i : Int) + 1)).toNat < ((g1.length : Int) - (i : Int)).toNat
      omega
    · rw [decide_eq_false hd]
      refine Done.mk ⟨?_, rfl, rfl⟩
      show Value.bool _ = Value.bool _
      rw [no hd]
  · obtain rfl : i = g1.length := by omega
    refine Done.mk ⟨?_, rfl, rfl⟩
    show Value.bool _ = Value.bool _
    rw [List.take_length, hl, List.take_length] at hpre
    rw [decide_eq_true hpre]
theorem same_lists {S : St} {I : Imm} {a1 a2 : Option Addr} {c1 c2 : Nat} {g1 g2 : List Bk} (h1 : SlC I S a1 g1.length (g1.map Bk.cell)) (h2 : SlC I S a2 g2.length (g2.map Bk.cell)) (k1 : ∀ b ∈ g1, BkOk I b) (k2 : ∀ b ∈ g2, BkOk I b) (hl1 : g1.length ≤ 1000000000) :
    Tri Tryz.prog 36 #[.slice a1 g1.length c1, .slice a2 g2.length c2] I S fun v J S' => v = .bool (decide (g1.map Bk.data = g2.map Bk.data)) ∧ I = J ∧ S' = S := by
  refine Tri.pack ((same_lists1 _ h1.pack h2.pack k1 k2 hl1).mono ?_)
  rintro v J S' hJ ⟨rfl, rfl, rfl⟩
  exact ⟨[], rfl, rfl, rfl, by simp⟩
theorem flat_eq {f g : Nat → Dat} {n : Nat} (h : ∀ i, i < n → f i = g i) : (List.range n).flatMap f = (List.range n).flatMap g := by
  have : ∀ m : List Nat, (∀ i ∈ m, i < n) → m.flatMap f = m.flatMap g := by
    intro m
    induction m with
    | nil => intro _; rfl
    | cons x m ih =>
      intro hm
      rw [List.flatMap_cons, List.flatMap_cons, h x (hm x (by simp)), ih fun i hi => hm i (by simp [hi])]
  exact this _ fun i hi => List.mem_range.1 hi
theorem getL_right {b : Dat} {rest : List Dat} {e s : Nat} (hsome : hdP b = some (e, s, imsB b)) (hn : rest.length = cntB b) (h4 : ∀ r ∈ rest, r.length = 4096) : RightP e s (getL b rest) ∧ hblk e s (getL b rest) = b := by
  obtain ⟨_, _, _, hR, hb, hb4, _⟩ := hdP_some hsome
  have h32 := hR.2.2.2.2.2.1
  have h1 := hR.2.2.2.2.1
  rw [imsB_length] at h32 h1
  have hfst : (getL b rest).map Prod.fst = (imsB b).map Prod.fst := by
    unfold getL imsB
    rw [List.map_map, List.map_map, hn]; rfl
  have hll : (getL b rest).length = cntB b := by simp [getL, hn]
  have hr4 : ∀ i, i < cntB b → (rest.getD i []).length = 4096 := by
    intro i hi
    rw [List.getD_eq_getElem?_getD, List.getElem?_eq_getElem (by omega)]
    exact h4 _ (List.getElem_mem _)
  have hhid : hidP (getL b rest) = hidP (imsB b) := by
    unfold hidP getL imsB
    rw [List.flatMap_map, List.flatMap_map, hn]
    refine flat_eq fun i hi => ?_
    have hh := hidB_length hb4 (i := i) (by omega)
    dsimp only
    rw [hid_sho (hr4 i hi) hh, hid_sho noughts_length hh]
  refine ⟨?_, ?_⟩
  · obtain ⟨r1, r2, r3, r4, r5, r6, r7, r8⟩ := hR
    refine ⟨r1, r2, r3, r4, by omega, by omega, ?_, by rw [hfst]; exact r8⟩
    intro g hg
    obtain ⟨i, hi, rfl⟩ := List.mem_map.1 hg
    have hi := List.mem_range.1 hi
    have hm := r7 (blkB b i, shoK noughts (hidB b i) 8) (List.mem_map.2 ⟨i, List.mem_range.2 (by omega), rfl⟩)
    exact ⟨hm.1, hm.2.1, shoK_length (hr4 i (by omega)) (hidB_length hb4 (by omega)) 8 (by omega)⟩
  · rw [← hb]
    conv => lhs; rw [hb]
    unfold hblk headP listP
    rw [hhid, hll, imsB_length]
theorem putL_iff {b : Dat} {rest : List Dat} {e s : Nat} (hsome : hdP b = some (e, s, imsB b)) (hn : rest.length = cntB b) (h4 : ∀ r ∈ rest, r.length = 4096) : putP e s (getL b rest) = b :: rest ↔ rest.length = (imsB b).length ∧ RestOk e s rest := by
  obtain ⟨hR, hbk⟩ := getL_right hsome hn h4
  constructor
  · intro h
    refine ⟨by rw [imsB_length]; exact hn, fun r hr => ⟨h4 r hr, ?_⟩⟩
    rw [putP_eq] at h
    have h2 := (List.cons.inj h).2
    rw [← h2] at hr
    obtain ⟨x, hx, rfl⟩ := List.mem_map.1 hr
    exact mark_bears (stampB_length _ _) (hR.lens x hx)
  · intro h
    exact (getP_some (getP_good hsome h)).2
end Go.Proofs.YtegdcjnjnoeinaaGreat
namespace Go.Proofs.YtegdcjnjnoeinaaGreat
open Go.RowKit Go.Sl
set_option maxRecDepth 20000

theorem dch_split (L : List DI) (d : DI) (R : List DI) : dch (L ++ d :: R) = dch L ++ (d.b, row (bts d.data) 5) :: dch R := by simp [dch]
theorem di_cells {l l2 : List DI} (h : l2.map (fun d => (d.blk, d.b)) = l.map fun d => (d.blk, d.b)) : imgCells (l2.map DI.img) = imgCells (l.map DI.img) := by
  have e : ∀ m : List DI, imgCells (m.map DI.img) = (m.map fun d => (d.blk, d.b)).flatMap fun p => [.int .i64 p.1, .slice (some ⟨p.2, 0, none⟩) 4096 4096] := by
    intro m
    unfold imgCells
    rw [List.flatMap_map, List.flatMap_map]; rfl
  rw [e, e, h]
theorem storeD_mkTo {S : St} {b off : Nat} {vs : List Value} {K : St → Prop} (k : Nat) (A B : List Blk) (c : List Value) (T : TypeId) (fr : Nat × Nat) (hk : S[k]? = some (A ++ (b, row c T fr) :: B)) (c' : List Value) (hc : splice c off vs = c') (hl : off + vs.length ≤ c.length)
    (hf : fr.2 ≤ off ∨ off + vs.length ≤ fr.1 ∨ fr.2 ≤ fr.1) (S' : St) (hS : S.set k (A ++ (b, row c' T fr) :: B) = S') (h : K S') : StoreD S b off vs K := by
  subst hc; subst hS; exact .mk k A B c T fr hk hl hf h
def dAt (D : List Dat) (b : Dat) (i k : Nat) : Dat := if k < i then shoK (D.getD k []) (hidB b k) 8 else shoK noughts (hidB b k) 8
set_option maxHeartbeats 8000000 in
theorem r6_Get (I : Imm) (aL : Option Addr) (n capL : Nat) (bks : List Bk) (hn : n ≤ 1000000) (h : Rds I aL n (bks.map Bk.cell)) (hok : ∀ x ∈ bks, BkOk I x) :
    Tri Tryz.prog 175 #[.slice aL n capL] I [] fun v J _ =>
      (getP (bks.map Bk.data) = none ∧ v = .tuple #[.agg #[.int .i64 0, .int .i64 0, .slice none 0 0], .int .i64 80]) ∨
      (∃ e s l, getP (bks.map Bk.data) = some (e, s, l) ∧ ∃ aI capI gs, v = .tuple #[.agg #[.int .i64 (e : Nat), .int .i64 (s : Nat), .slice aI gs.length capI], .int .i64 0] ∧ ImgsOk J aI gs ∧ gs.map Img.pr = l) := by
  refine Tri.fixed (Q := fun v _ S' => ∃ ch, S' = [ch] ∧
      ((getP (bks.map Bk.data) = none ∧ v = .tuple #[.agg #[.int .i64 0, .int .i64 0, .slice none 0 0], .int .i64 80]) ∨
      (∃ e s l, getP (bks.map Bk.data) = some (e, s, l) ∧ ∃ aI capI chI, ∃ dl : List DI, ch = chI ++ dch dl ∧ v = .tuple #[.agg #[.int .i64 (e : Nat), .int .i64 (s : Nat), .slice aI dl.length capI], .int .i64 0] ∧ OwnC chI 2 aI dl.length capI (imgCells (dl.map DI.img)) ∧ (∀ d ∈ dl, In64 d.blk ∧ d.data.length = 4096) ∧ (dl.map DI.img).map Img.pr = l))) ?_ ?_
  rotate_left
  · rintro v J S' hJ ⟨ch, rfl, h⟩
    refine ⟨0, ch, rfl, fun J' hJ' hm => ?_⟩
    rcases h with h | ⟨e, s, l, h1, aI, capI, chI, dl, rfl, rfl, hO, hk, hp⟩
    · exact .inl h
    · have hll : (dl.map DI.img).length = dl.length := List.length_map ..
      refine .inr ⟨e, s, l, h1, aI, capI, dl.map DI.img, by rw [hll], ⟨?_, ?_⟩, hp⟩
      · rw [hll]; exact Rds.of_ownS hO fun x hx => hm x (List.mem_append_left _ hx)
      · intro g hg
        obtain ⟨d, hd, rfl⟩ := List.mem_map.1 hg
        obtain ⟨q1, q2⟩ := hk d hd
        refine ⟨q1, by rw [bts_length]; exact q2, .inr ⟨d.b, 0, bts d.data, 5, (0, 0), rfl, hm _ (List.mem_append_right _ (List.mem_map_of_mem (f := fun d : DI => (d.b, row (bts d.data) 5)) hd)), ?_⟩⟩
        show List.take 4096 ((bts d.data).drop 0) = bts d.data
        rw [List.drop_zero, List.take_of_length_le (by rw [bts_length]; omega)]
  have hl : bks.length = n := by have := h.len; rwa [List.length_map] at this
  refine Tri.drop ?_ (fun _ _ _ _ h => h)
  refine Tri.of (args := [.slice aL n capL]) tabOk Tryz.func175 rfl (by kernel_rfl) (by kernel_rfl) ?_
  conv => whnf
  intro b2
  have bad : ∀ (S : St), getP (bks.map Bk.data) = none → ∃ S'', Drop S S'' ∧ ∃ ch, S'' = [ch] ∧
      ((getP (bks.map Bk.data) = none ∧ Value.tuple #[.agg #[.int .i64 0, .int .i64 0, .slice none 0 0], .int .i64 80] = .tuple #[.agg #[.int .i64 0, .int .i64 0, .slice none 0 0], .int .i64 80]) ∨
      (∃ e s l, getP (bks.map Bk.data) = some (e, s, l) ∧ ∃ aI capI chI, ∃ dl : List DI, ch = chI ++ dch dl ∧ Value.tuple #[.agg #[.int .i64 0, .int .i64 0, .slice none 0 0], .int .i64 80] = .tuple #[.agg #[.int .i64 (e : Nat), .int .i64 (s : Nat), .slice aI dl.length capI], .int .i64 0] ∧ OwnC chI 2 aI dl.length capI (imgCells (dl.map DI.img)) ∧ (∀ d ∈ dl, In64 d.blk ∧ d.data.length = 4096) ∧ (dl.map DI.img).map Img.pr = l)) :=
    fun S hg => ⟨[[]], (Drop.pick [] _ rfl).trans (Drop.flat rfl), [], rfl, .inl ⟨hg, rfl⟩⟩
  refine CmpD.split (fun c0 => ?_) (fun c0 => ?_)
  · repeat (first | refine LoadD.own 0 rfl _ rfl rfl ?_ | refine StoreD.st 0 rfl rfl rfl ?_)
    refine Done.mk (bad _ ?_)
    have : bks = [] := List.length_eq_zero_iff.1 (by omega)
    rw [this]; rfl
  rcases h.mem with q0 | ⟨bA, oA, cA, TA, fA, rfl, hIA, hcA⟩
  · omega
  obtain ⟨ka, kc, b0, rest, rfl⟩ : ∃ ka kc b0 rest, bks = (⟨ka, kc, b0⟩ : Bk) :: rest := by
    cases bks with
    | nil => simp at hl; omega
    | cons k0 rest => exact ⟨k0.a, k0.cap, k0.data, rest, rfl⟩
  have hk0 := hok ⟨ka, kc, b0⟩ (by simp)
  have hrest : ∀ x ∈ rest, BkOk I x := fun x hx => hok x (by simp [hx])
  have hrl : rest.length + 1 = n := by simpa using hl
  refine Chk.mk (by omega) ?_
  refine LoadD.imm hIA [(⟨ka, kc, b0⟩ : Bk).cell] (take_get (i := 0) hcA rfl) rfl ?_
  refine Tri.nf (r6_read (Rds.slC hk0) (by omega)) ?_
  rintro v J S' hJ (⟨hnone, ⟨x, y, aI, m, capI, rfl⟩, rfl, rfl⟩ | ⟨hsome, aI, capI, chI, l, rfl, hll, hI, hp, rfl, rfl⟩)
  · conv => whnf
    intro b4
    repeat (first | refine LoadD.own 0 rfl _ rfl rfl ?_ | refine StoreD.st 0 rfl rfl rfl ?_ | refine StoreD.st 1 rfl rfl rfl ?_)
    exact Done.mk (bad _ (getP_none hnone))
  obtain ⟨_, _, _, hR, _, hb4, _⟩ := hdP_some hsome
  have hc32 := hR.2.2.2.2.2.1
  have hc1 := hR.2.2.2.2.1
  rw [imsB_length] at hc32 hc1
  have hbad := fun (rs : List Dat) => getP_bad (rest := rs) hsome
  have hgood := fun (rs : List Dat) => getP_good (rest := rs) hsome
  have hlen4 : ∀ r ∈ rest.map Bk.data, r.length = 4096 := by
    intro r hr
    obtain ⟨x, hx, rfl⟩ := List.mem_map.1 hr
    have := (hrest x hx).len; rwa [bts_length] at this
  obtain ⟨D, hD⟩ : ∃ D, D = rest.map Bk.data := ⟨_, rfl⟩
  have hmap : ((⟨ka, kc, b0⟩ : Bk) :: rest).map Bk.data = b0 :: D := by rw [hD]; rfl
  have hDl : D.length = rest.length := by rw [hD, List.length_map]
  rw [← hD] at hlen4
  have hright := fun h => getL_right (rest := D) hsome h hlen4
  have hiff := fun h => putL_iff (rest := D) hsome h hlen4
  rw [imsB_length] at hgood hbad hiff
  have hims : imsB b0 = (List.range (cntB b0)).map fun k => (blkB b0 k, shoK noughts (hidB b0 k) 8) := rfl
  rw [hims] at hp
  obtain ⟨e, he⟩ : ∃ e, e = hbE b0 := ⟨_, rfl⟩
  obtain ⟨s, hse⟩ : ∃ s, s = hbS b0 := ⟨_, rfl⟩
  obtain ⟨c, hc⟩ : ∃ c, c = cntB b0 := ⟨_, rfl⟩
  rw [hmap] at bad ⊢
  rw [← he, ← hse] at hgood hbad hright hiff hR
  rw [← hc] at hc32 hc1 hgood hbad hiff hright hI hll hp
  rw [← he, ← hse, ← hc]
  have hE := hR.2.1
  have hS := hR.2.2.2.1
  conv => whnf
  intro b4
  repeat (first | refine LoadD.own 3 rfl _ rfl rfl ?_ | refine StoreD.st 3 rfl rfl rfl ?_)
  refine ToD.i64 (by omega) (by omega) ?_
  refine CmpD.split (fun (c1 : (n : Int) = c + 1) => ?_) (fun (c1 : ¬ (n : Int) = c + 1) => ?_)
  rotate_left
  · repeat (first | refine LoadD.own 0 rfl _ rfl rfl ?_ | refine StoreD.st 0 rfl rfl rfl ?_)
    refine Done.mk (bad _ (hbad _ fun h' => c1 ?_))
    have := h'.1
    omega
  have hcr : rest.length = c := by omega
  obtain rfl : n = c + 1 := by omega
  rcases hI.at' with q0 | ⟨bI, pre, post, TI, rfl, rfl, hpost⟩
  · have := hI.le; omega
  refine CodeF.loopD [0, 2, 4, 6] (fun vs J' S' => ∃ (i : Nat) (l2 : List DI), i ≤ c ∧ l2.map (fun d => (d.blk, d.b)) = l.map (fun d => (d.blk, d.b)) ∧ (∀ k, k < c → ∃ d, l2[k]? = some d ∧ d.blk = blkB b0 k ∧ d.data = dAt D b0 i k) ∧
      vs = [.slice (some ⟨bA, oA, none⟩) (c + 1 : Nat) capL, .pointer (some ⟨b2, 0, none⟩), .pointer (some ⟨b4, 0, none⟩), .int .i64 i] ∧ I = J' ∧
      S' = [gBox b2 0 0 none 0 0, [(bI, row (pre ++ imgCells (l.map DI.img) ++ post) TI)], dch l2, gBox b4 e s (some ⟨bI, pre.length, none⟩) c capI])
    (fun vs _ _ => match vs with | [_, _, _, .int _ i] => ((c : Int) - i).toNat | _ => 0) ?_ ?_
  · refine ⟨_, Drop.refl _, 0, l, by omega, rfl, ?_, rfl, rfl, rfl⟩
    intro k hk
    have := congrArg (·[k]?) hp
    simp only [List.getElem?_map, List.getElem?_range hk, Option.map_some] at this
    cases hd : l[k]? with
    | none => rw [hd] at this; cases this
    | some d =>
      rw [hd] at this
      simp only [Option.map_some, Option.some.injEq] at this
      have q1 : d.blk = blkB b0 k := congrArg Prod.fst this
      have q2 : d.data = shoK noughts (hidB b0 k) 8 := congrArg Prod.snd this
      exact ⟨d, rfl, q1, by rw [q2, dAt, if_neg (by omega)]⟩
  rintro vs gE J' S' hJ' ⟨i, l2, hi, hcl, hdat, rfl, rfl, rfl⟩
  have hl2 : l2.length = c := by have := congrArg List.length hcl; rw [List.length_map, List.length_map] at this; omega
  have hcells := di_cells hcl
  refine LoadD.own 3 rfl _ rfl rfl ?_
  refine CmpD.split (fun c2 => ?_) (fun c2 => ?_)
  · have i1 : i < l2.length := by omega
    have ir : i < rest.length := by omega
    obtain ⟨d, hd1, hd2, hd3⟩ := hdat i (by omega)
    have hdl : l2 = l2.take i ++ d :: l2.drop (i + 1) := by
      rw [List.getElem?_eq_getElem i1, Option.some.injEq] at hd1
      rw [← hd1, List.getElem_cons_drop, List.take_append_drop]
    obtain ⟨L, hL⟩ : ∃ L, L = l2.take i := ⟨_, rfl⟩
    obtain ⟨R, hRR⟩ : ∃ R, R = l2.drop (i + 1) := ⟨_, rfl⟩
    have hLl : L.length = i := by rw [hL, List.length_take]; omega
    rw [← hL, ← hRR] at hdl
    obtain ⟨db, dz, dd⟩ := d
    dsimp only at hd2 hd3
    obtain ⟨r, hr⟩ : ∃ r, r = rest[i] := ⟨_, rfl⟩
    have hrok := hrest r (by rw [hr]; exact List.getElem_mem ir)
    have hrc : (((⟨ka, kc, b0⟩ : Bk) :: rest).map Bk.cell)[i + 1]? = some r.cell := by
      rw [List.map_cons, List.getElem?_cons_succ, List.getElem?_map, List.getElem?_eq_getElem ir, hr]; rfl
    have hDi : D.getD i [] = r.data := by
      rw [hD, List.getD_eq_getElem?_getD, List.getElem?_map, List.getElem?_eq_getElem ir, hr]; rfl
    have hr4 : r.data.length = 4096 := by have := hrok.len; rwa [bts_length] at this
    have hhid := hidB_length hb4 (i := i) (by omega)
    have hz := shoK_length noughts_length hhid 8 (by omega)
    rw [dAt, if_neg (by omega)] at hd3
    rcases hrok.mem with q0 | ⟨bB, oB, cB, TB, fB, hra, hIB, hcB⟩
    · omega
    refine ToD.to ((i + 1 : Nat) : Int) (wrap_i64 (by omega) (by omega)) ?_
    refine Chk.mk (by omega) ?_
    refine LoadD.imm hIA [r.cell] (take_get hcA hrc) rfl ?_
    refine CmpD.yes rfl ?_
    have hgl := fun q => gen_length (filF (shoK noughts (hidB b0 i) 8) r.data) (fun j => (shoK noughts (hidB b0 i) 8).getD j 0) q
    have hstep := fun q hq => gen_step (filF (shoK noughts (hidB b0 i) 8) r.data) (fun j => (shoK noughts (hidB b0 i) 8).getD j 0) (q := q) hq
    have hskip := fun q hq => gen_skip (filF (shoK noughts (hidB b0 i) 8) r.data) (fun j => (shoK noughts (hidB b0 i) 8).getD j 0) (q := q) hq
    have hfill := gen_fill hr4 hhid
    have hzero := gen_zero (filF (shoK noughts (hidB b0 i) 8) r.data) hz
    refine CodeF.loopD [0, 2, 4, 6, 7, 8] (fun vs J' S' => ∃ (q : Nat), q ≤ 4096 ∧
        vs = [.slice (some ⟨bA, oA, none⟩) (c + 1 : Nat) capL, .pointer (some ⟨b2, 0, none⟩), .pointer (some ⟨b4, 0, none⟩), .int .i64 i, r.cell, .int .i64 q] ∧ I = J' ∧
        S' = [gBox b2 0 0 none 0 0, [(bI, row (pre ++ imgCells (l.map DI.img) ++ post) TI)], dch (L ++ ⟨db, dz, gen (filF (shoK noughts (hidB b0 i) 8) r.data) (fun j => (shoK noughts (hidB b0 i) 8).getD j 0) q⟩ :: R), gBox b4 e s (some ⟨bI, pre.length, none⟩) c capI])
      (fun vs _ _ => match vs with | [_, _, _, _, _, .int _ q] => ((4096 : Int) - q).toNat | _ => 0) ?_ ?_
    · refine ⟨_, Drop.refl _, 0, by omega, rfl, rfl, ?_⟩
      rw [hzero, ← hd3, ← hdl]
    rintro vs gE2 J' S' hJ' ⟨q, hq, rfl, rfl, rfl⟩
    refine CmpD.split (fun c3 => ?_) (fun c3 => ?_)
    · refine Chk.mk (by decide) ?_
      refine ToD.to ((q % 512 : Nat) : Int) (tmod_nat q 512) ?_
      refine CmpD.split (fun c4 => ?_) (fun c4 => ?_)
      · refine CodeF.sched [[], [0], [], [0, 1, 2], [0, 1, 2, 3], [0, 1, 2, 3, 4], [], [], [], [7, 8], [7, 8, 9], [0, 1, 2, 3, 4, 5, 6, 7, 8, 9, 10], [0, 1, 2, 3, 4, 5, 6, 7, 8, 9, 10, 11]] [0, 1, 2, 3, 4, 5, 6, 7, 8, 9, 10, 11, 12] (by kernel_rfl) ?_
        refine LoadP.at 3 rfl _ rfl rfl ?_
        refine Chk.mk (by omega) ?_
        have hc1' : ((l.map DI.img).length) = c := by rw [List.length_map, hll]
        have hcell : (imgCells (l.map DI.img))[i * 2 + 1]? = some (.slice (some ⟨dz, 0, none⟩) 4096 4096) := by
          rw [← hcells]
          have hi2 : i < (l2.map DI.img).length := by rw [List.length_map]; exact i1
          have := imgCells_1 hi2
          rw [this]
          have e1 : l2[i] = ⟨db, dz, dd⟩ := by rw [List.getElem?_eq_getElem i1, Option.some.injEq] at hd1; exact hd1
          rw [List.getElem_map, e1]; rfl
        have hIc : Cells I [[(bI, row (pre ++ imgCells (l.map DI.img) ++ post) TI)]] bI pre.length (c * 2) (imgCells (l.map DI.img)) :=
          ⟨_, TI, (0, 0), .one 0 rfl, by have := own_take pre (imgCells (l.map DI.img)) post; rwa [hI.n] at this, hI.n⟩
        refine LoadP.own 1 _ (hIc.at hcell) ?_
        rw [show r.cell = Value.slice r.a 4096 r.cap from rfl, hra]
        refine Chk.mk (by omega) ?_
        refine LoadP.imm [byte (r.data.getD q 0)] ⟨cB, TB, fB, .imm hIB, take_get hcB (bts_get (getD_get (by omega))), rfl⟩ ?_
        refine Chk.mk (by omega) ?_
        have hsp : splice (bts (gen (filF (shoK noughts (hidB b0 i) 8) r.data) (fun j => (shoK noughts (hidB b0 i) 8).getD j 0) q)) (0 + q) [byte (r.data.getD q 0)] = bts (gen (filF (shoK noughts (hidB b0 i) 8) r.data) (fun j => (shoK noughts (hidB b0 i) 8).getD j 0) (q + 1)) := by
          rw [bts_set (by rw [hgl]; omega) (hstep q (by omega)), Nat.zero_add]
          rw [show filF (shoK noughts (hidB b0 i) 8) r.data q = r.data.getD q 0 by rw [filF, if_pos (by omega)]]
          rfl
        refine storeD_mkTo 2 (dch L) (dch R) (bts (gen (filF (shoK noughts (hidB b0 i) 8) r.data) (fun j => (shoK noughts (hidB b0 i) 8).getD j 0) q)) 5 (0, 0) (by rw [dch_split]; rfl) _ hsp (by rw [bts_length, hgl]; show 0 + q + 1 ≤ _; omega) (.inr (.inr (Nat.le_refl _))) [gBox b2 0 0 none 0 0, [(bI, row (pre ++ imgCells (l.map DI.img) ++ post) TI)], dch (L ++ ⟨db, dz, gen (filF (shoK noughts (hidB b0 i) 8) r.data) (fun j => (shoK noughts (hidB b0 i) 8).getD j 0) (q + 1)⟩ :: R), gBox b4 e s (some ⟨bI, pre.length, none⟩) c capI] (by rw [dch_split, dch_split]; rfl) ?_
        refine ToD.i64 (by omega) (by omega) ?_
        refine ⟨_, Drop.refl _, ⟨q + 1, by omega, rfl, rfl, rfl⟩, ?_⟩
        show ((4096 : Int) - ((q : Int) + 1)).toNat < ((4096 : Int) - (q : Int)).toNat
        omega
      · refine ToD.i64 (by omega) (by omega) ?_
        refine ⟨_, Drop.refl _, ⟨q + 1, by omega, rfl, rfl, ?_⟩, ?_⟩
        · rw [hskip q (by rw [filF, if_neg (by omega)])]
        · show ((4096 : Int) - ((q : Int) + 1)).toNat < ((4096 : Int) - (q : Int)).toNat
          omega
    · obtain rfl : q = 4096 := by omega
      rw [hfill]
      refine ToD.i64 (by omega) (by omega) ?_
      refine ⟨_, Drop.refl _, ⟨i + 1, L ++ ⟨db, dz, shoK r.data (hidB b0 i) 8⟩ :: R, by omega, ?_, ?_, rfl, rfl, rfl⟩, ?_⟩
      · rw [← hcl, hdl]; simp
      · intro k hk
        rcases Nat.lt_trichotomy k i with g | g | g
        · obtain ⟨d', q1, q2, q3⟩ := hdat k hk
          refine ⟨d', ?_, q2, ?_⟩
          · rw [List.getElem?_append_left (by omega), ← q1, hdl, List.getElem?_append_left (by omega)]
          · rw [q3, dAt, dAt, if_pos g, if_pos (by omega)]
        · subst g
          refine ⟨⟨db, dz, shoK r.data (hidB b0 k) 8⟩, ?_, hd2, ?_⟩
          · rw [List.getElem?_append_right (by omega), hLl, Nat.sub_self]; rfl
          · show shoK r.data (hidB b0 k) 8 = _
            rw [dAt, if_pos (by omega), hDi]
        · obtain ⟨d', q1, q2, q3⟩ := hdat k hk
          refine ⟨d', ?_, q2, ?_⟩
          · rw [List.getElem?_append_right (by omega), ← q1, hdl, List.getElem?_append_right (by omega), hLl]
            obtain ⟨m, hm⟩ : ∃ m, k - i = m + 1 := ⟨k - i - 1, by omega⟩
            rw [hm, List.getElem?_cons_succ, List.getElem?_cons_succ]
          · rw [q3, dAt, dAt, if_neg (by omega), if_neg (by omega)]
      · show ((c : Int) - ((i : Int) + 1)).toNat < ((c : Int) - i).toNat; omega
  · obtain rfl : i = c := by omega
    have hDc : D.length = i := by omega
    have hpr : (l2.map DI.img).map Img.pr = getL b0 D := by
      refine getElem_eq_of (by simp [getL, hl2, hDc]) fun k k1 k2 => ?_
      rw [List.length_map, List.length_map] at k1
      obtain ⟨d, q1, q2, q3⟩ := hdat k (by omega)
      rw [List.getElem?_eq_getElem k1, Option.some.injEq] at q1
      simp only [getL, List.getElem_map, List.getElem_range]
      rw [q1]
      show (d.blk, d.data) = _
      rw [q2, q3, dAt, if_pos (by omega)]
    obtain ⟨hRg, hbk⟩ := hright (by omega)
    have hd4 : ∀ d ∈ l2, In64 d.blk ∧ d.data.length = 4096 := by
      intro d hd
      have hm : (d.blk, d.data) ∈ (l2.map DI.img).map Img.pr := List.mem_map.2 ⟨d.img, List.mem_map_of_mem hd, rfl⟩
      rw [hpr] at hm
      have := hRg.2.2.2.2.2.2.1 _ hm
      exact ⟨by have h1 := this.1; have h2 := this.2.1; dsimp only at h1 h2; unfold In64; omega, this.2.2⟩
    have hIO : OwnC [(bI, row (pre ++ imgCells (l.map DI.img) ++ post) TI)] 2 (some ⟨bI, pre.length, none⟩) l2.length capI (imgCells (l2.map DI.img)) := by rw [hl2, hcells]; exact hI
    have hIR := dch_img (I := I) (S := [gBox b2 0 0 none 0 0, [(bI, row (pre ++ imgCells (l.map DI.img) ++ post) TI)], dch l2, gBox b4 e s (some ⟨bI, pre.length, none⟩) i capI]) 2 rfl (fun d hd => (hd4 d hd).2) (hIO.slC 1 rfl)
    have hPt := r6_Put e s (cap := capI) hIR (by intro g hg; obtain ⟨d, _, rfl⟩ := List.mem_map.1 hg; exact Nat.le_refl _) (by rw [hpr]; exact hRg)
    rw [hpr, List.length_map, hl2] at hPt
    refine LoadD.own 3 rfl _ rfl rfl ?_
    refine Tri.nf hPt ?_
    rintro v J2 S' hJ2 ⟨aO, capO, chO, bs, rfl, hO, hbd, hbok, rfl⟩
    have hbl : bs.length = i + 1 := by have := hO.n; rw [List.length_map] at this; omega
    have hsm := same_lists (S := [gBox b2 0 0 none 0 0, [(bI, row (pre ++ imgCells (l.map DI.img) ++ post) TI)], dch l2, gBox b4 e s (some ⟨bI, pre.length, none⟩) i capI, chO]) (I := J2) (g1 := bs) (g2 := (⟨ka, kc, b0⟩ : Bk) :: rest) (c1 := capO) (c2 := capL) (by rw [hbl]; exact hO.slC1 4 rfl) (by rw [hl]; exact (h.mono hJ2).slC) hbok (fun b hb => Rds.mono (hok b hb) hJ2) (by omega)
    rw [hbl, hbd, hmap, hl] at hsm
    refine Tri.nf hsm ?_
    rintro v J3 S' hJ3 ⟨rfl, rfl, rfl⟩
    by_cases hq : putP e s (getL b0 D) = b0 :: D
    · rw [decide_eq_true hq]
      repeat (first | refine LoadD.own 0 rfl _ rfl rfl ?_ | refine LoadD.own 3 rfl _ rfl rfl ?_ | refine StoreD.st 0 rfl rfl rfl ?_)
      have hrr := (hiff (by omega)).1 hq
      refine Done.mk ⟨[[(bI, row (pre ++ imgCells (l.map DI.img) ++ post) TI)] ++ dch l2], (Drop.pick [1, 2] _ rfl).trans (Drop.flat (by simp [St.at])), _, rfl, .inr ⟨e, s, getL b0 D, hgood _ hrr, some ⟨bI, pre.length, none⟩, capI, _, l2, rfl, by rw [hl2]; rfl, hIO, hd4, hpr⟩⟩
    · rw [decide_eq_false hq]
      repeat (first | refine LoadD.own 0 rfl _ rfl rfl ?_ | refine StoreD.st 0 rfl rfl rfl ?_)
      exact Done.mk (bad _ (hbad _ fun h' => hq ((hiff (by omega)).2 h')))
end Go.Proofs.YtegdcjnjnoeinaaGreat
namespace Go.Proofs.YtegdcjnjnoeinaaGreat
open Go.RowKit Go.Sl
set_option maxRecDepth 20000

theorem grpP_hd {rb : Nat → Dat} {at_ room e s : Nat} {l : List PImg} (h : grpP rb at_ room = some (e, s, l)) : ∃ l', hdP (rb at_) = some (e, s, l') ∧ l'.length = l.length ∧ l.length + 1 ≤ room := by
  have hr := (grpP_room h).1
  unfold grpP at h
  cases hd : hdP (rb at_) with
  | none => rw [hd] at h; cases h
  | some p =>
    obtain ⟨e', s', l'⟩ := p
    rw [hd] at h
    dsimp only at h
    split at h
    · rename_i hc
      obtain ⟨hR, hp⟩ := getP_some h
      have hlen := congrArg List.length hp
      rw [putP_length, List.length_map, List.length_range] at hlen
      rw [List.range_succ_eq_map, List.map_cons, Nat.add_zero] at h
      unfold getP at h
      dsimp only at h
      rw [hd] at h
      dsimp only at h
      split at h
      · cases h
        exact ⟨l', rfl, by omega, hr⟩
      · cases h
    · cases h
theorem grpP_get {rb : Nat → Dat} {at_ room e s : Nat} {l : List PImg} (h : hdP (rb at_) = some (e, s, l)) (hr : l.length + 1 ≤ room) : grpP rb at_ room = getP ((List.range (l.length + 1)).map fun i => rb (at_ + i)) := by
  unfold grpP
  rw [h]
  dsimp only
  rw [if_pos hr]
theorem scanK_stop {rb : Nat → Dat} {ep : Int} {f at_ : Nat} {seq : Int} {room : Nat} (h : ∀ e s l, grpP rb at_ room = some (e, s, l) → ¬ ((e : Int) = ep ∧ (s : Int) = seq)) : scanK rb ep f at_ seq room = [] := by
  cases f with
  | zero => rfl
  | succ f =>
    rw [scanK]
    cases hg : grpP rb at_ room with
    | none => rfl
    | some p =>
      obtain ⟨e, s, l⟩ := p
      dsimp only
      rw [if_neg (h e s l hg)]
set_option maxHeartbeats 8000000 in
theorem r9_Groups {I : Imm} {vD : Value} {d : DSt} (hD : RDk I vD d) (hF : d.writes.length ≤ 1000000) (x : Lay) (s : Sup) :
    Tri Tryz.prog 117 #[vD, x.v, s.v] I [] fun v J _ =>
      (¬ ScanOk d.now.length x s ∧ v = .tuple #[.slice none 0 0, .int .i64 0, .int .i64 2]) ∨
      (ScanOk d.now.length x s ∧ d.down = true ∧ v = .tuple #[.slice none 0 0, .int .i64 0, .int .i64 6]) ∨
      (ScanOk d.now.length x s ∧ d.down = false ∧ ∃ aO capO gl, v = .tuple #[.slice aO gl.length capO, .int .i64 (placeP (layL d.now.length).toNat s.tail.toNat (scanL d s) : Nat), .int .i64 0] ∧ Rds J aO (gl.length * 3) (grpCells gl) ∧ GrpsOk J gl (scanL d s)) := by
  have hr := hD.wf.range
  refine Tri.fixed (Q := fun v J S' => ∃ chO, S' = [chO] ∧
      ((¬ ScanOk d.now.length x s ∧ v = .tuple #[.slice none 0 0, .int .i64 0, .int .i64 2]) ∨
       (ScanOk d.now.length x s ∧ d.down = true ∧ v = .tuple #[.slice none 0 0, .int .i64 0, .int .i64 6]) ∨
       (ScanOk d.now.length x s ∧ d.down = false ∧ ∃ aO capO gl, v = .tuple #[.slice aO gl.length capO, .int .i64 (placeP (layL d.now.length).toNat s.tail.toNat (scanL d s) : Nat), .int .i64 0] ∧ OwnC chO 3 aO gl.length capO (grpCells gl) ∧ GrpsOk J gl (scanL d s)))) ?_ ?_
  rotate_left
  · rintro v J S' hJ ⟨chO, rfl, h⟩
    refine ⟨0, chO, rfl, fun J' hJ' hm => ?_⟩
    rcases h with h | h | ⟨h1, h2, aO, capO, gl, rfl, hO, hg⟩
    · exact .inl h
    · exact .inr (.inl h)
    · exact .inr (.inr ⟨h1, h2, aO, capO, gl, rfl, Rds.of_ownS hO hm, hg.mono hJ'⟩)
  refine Tri.drop ?_ (fun _ _ _ _ h => h)
  obtain ⟨hS, w, bS, gs, rfl, hSr, hbS, hbd, hW, hwl, hgw⟩ := hD.ex
  obtain ⟨sa, sl, sc⟩ := hS
  obtain ⟨wa, wl, wc⟩ := w
  obtain ⟨s1, s2, s3, s4⟩ := s
  dsimp only at hSr hwl hW
  obtain ⟨n, hn⟩ : ∃ n, n = d.now.length := ⟨_, rfl⟩
  have hbSl : bS.length = sl := by have := hSr.len; rwa [List.length_map] at this
  have hsn : sl = n := by
    have := congrArg List.length hbd
    rw [List.length_map, hD.wf.len, ← hn] at this
    omega
  subst hsn
  subst hwl
  have hgl0 : gs.length = d.writes.length := by rw [← hgw, List.length_map]
  have hat := fun (J : Imm) (hJ : I.le J) (i : Nat) (bk : Bk) (hi : bS[i]? = some bk) (hok : BkOk J bk) => r4_At ⟨sa, sl, sc⟩ ⟨wa, gs.length, wc⟩ d.count d.down (gv d.arm) (gv d.fault) bS gs J (hSr.mono hJ) (by show sl ≤ _; omega) (hW.mono hJ) rfl (by omega) i hi hok
  refine Tri.of (args := [rV ⟨sa, sl, sc⟩ ⟨wa, gs.length, wc⟩ d.count d.down (gv d.arm) (gv d.fault), x.v, (⟨s1, s2, s3, s4⟩ : Sup).v]) tabOk Tryz.func117 rfl (by kernel_rfl) (by kernel_rfl) ?_
  conv => whnf
  intro b3
  conv => whnf
  intro b4
  conv => whnf
  intro b5
  repeat (first | refine LoadD.own 0 rfl _ rfl rfl ?_)
  rw [← hn] at hr ⊢
  refine Tri.free (ref_Of sl I) ?_
  rintro v J _ hJ ⟨rfl, rfl⟩
  have badS : ∀ (J : Imm) (S : St), ¬ ScanOk sl x ⟨s1, s2, s3, s4⟩ → ∃ S'', Drop S S'' ∧ ∃ chO, S'' = [chO] ∧
      ((¬ ScanOk sl x ⟨s1, s2, s3, s4⟩ ∧ Value.tuple #[.slice none 0 0, .int .i64 0, .int .i64 2] = .tuple #[.slice none 0 0, .int .i64 0, .int .i64 2]) ∨
       (ScanOk sl x ⟨s1, s2, s3, s4⟩ ∧ d.down = true ∧ Value.tuple #[.slice none 0 0, .int .i64 0, .int .i64 2] = .tuple #[.slice none 0 0, .int .i64 0, .int .i64 6]) ∨
       (ScanOk sl x ⟨s1, s2, s3, s4⟩ ∧ d.down = false ∧ ∃ aO capO gl, Value.tuple #[.slice none 0 0, .int .i64 0, .int .i64 2] = .tuple #[.slice aO gl.length capO, .int .i64 (placeP (layL sl).toNat s4.toNat (scanL d ⟨s1, s2, s3, s4⟩) : Nat), .int .i64 0] ∧ OwnC chO 3 aO gl.length capO (grpCells gl) ∧ GrpsOk J gl (scanL d ⟨s1, s2, s3, s4⟩))) :=
    fun J S hno => ⟨[[]], (Drop.pick [] _ rfl).trans (Drop.flat rfl), [], rfl, .inl ⟨hno, rfl⟩⟩
  by_cases hb : (sl : Int) < 64 ∨ 512 < (sl : Int)
  · rw [layA, if_pos hb]
    conv => whnf
    intro b9
    repeat (first | refine StoreD.st 3 rfl rfl rfl ?_ | refine CmpD.no (by decide) ?_)
    exact Done.mk (badS _ _ (fun h => by have := h.1; omega))
  rw [layA, if_neg hb]
  have hL := layL_range (n := (sl : Int)) (by omega)
  conv => whnf
  intro b9
  repeat (first | refine LoadD.own 1 rfl _ rfl rfl ?_ | refine LoadD.own 3 rfl _ rfl rfl ?_ | refine StoreD.st 3 rfl rfl rfl ?_ | refine CmpD.yes rfl ?_)
  refine lay_cmp (layOf sl) x rfl (.inr rfl) rfl rfl ?_
  refine CmpD.split (fun c1 => ?_) (fun c1 => ?_)
  rotate_left
  · skip
    refine Done.mk (badS _ _ (fun h => c1 ?_))
    rw [← h.2.1]
  have hx : x = layOf sl := by
    simp only [List.cons.injEq, and_true] at c1
    obtain ⟨q1, q2, q3, q4, q5, q6, q7⟩ := c1
    obtain ⟨x1, x2, x3, x4, x5, x6, x7⟩ := x
    dsimp only at q1 q2 q3 q4 q5 q6 q7 ⊢
    rw [Lay.mk.injEq]
    exact ⟨q1.symm, q2.symm, q3.symm, q4.symm, q5.symm, q6.symm, q7.symm⟩
  have hxl : x.lb = layL sl := by rw [hx]; rfl
  repeat (first | refine LoadD.own 0 rfl _ rfl rfl ?_ | refine LoadD.own 2 rfl _ rfl rfl ?_)
  refine CmpD.split (fun (c2 : s1 = (sl : Int)) => ?_) (fun (c2 : ¬ (s1 = (sl : Int))) => ?_)
  rotate_left
  · skip
    exact Done.mk (badS _ _ (fun h => c2 h.2.2.1))
  repeat (first | refine LoadD.own 2 rfl _ rfl rfl ?_)
  refine CmpD.split (fun (c3 : s4 < 0) => ?_) (fun (c3 : ¬ (s4 < 0)) => ?_)
  · skip
    exact Done.mk (badS _ _ (fun h => by have : 0 ≤ s4 := h.2.2.2.1; omega))
  repeat (first | refine LoadD.own 1 rfl _ rfl rfl ?_ | refine LoadD.own 2 rfl _ rfl rfl ?_)
  refine CmpD.split (fun (c4 : x.lb ≤ s4) => ?_) (fun (c4 : ¬ (x.lb ≤ s4)) => ?_)
  · skip
    exact Done.mk (badS _ _ (fun h => by have : s4 < layL sl := h.2.2.2.2.1; omega))
  repeat (first | refine LoadD.own 2 rfl _ rfl rfl ?_)
  refine CmpD.split (fun (c5 : s2 < 1) => ?_) (fun (c5 : ¬ (s2 < 1)) => ?_)
  · skip
    exact Done.mk (badS _ _ (fun h => by have : 1 ≤ s2 := h.2.2.2.2.2.1; omega))
  repeat (first | refine LoadD.own 2 rfl _ rfl rfl ?_)
  refine CmpD.split (fun (c6 : (8388608 : Int) < s2) => ?_) (fun (c6 : ¬ ((8388608 : Int) < s2)) => ?_)
  · skip
    exact Done.mk (badS _ _ (fun h => by have : s2 ≤ 8388608 := h.2.2.2.2.2.2.1; omega))
  repeat (first | refine LoadD.own 2 rfl _ rfl rfl ?_)
  refine CmpD.split (fun (c7 : s3 < 1) => ?_) (fun (c7 : ¬ (s3 < 1)) => ?_)
  · skip
    exact Done.mk (badS _ _ (fun h => by have : 1 ≤ s3 := h.2.2.2.2.2.2.2.1; omega))
  repeat (first | refine LoadD.own 2 rfl _ rfl rfl ?_)
  refine CmpD.split (fun (c8 : (549755813888 : Int) < s3) => ?_) (fun (c8 : ¬ ((549755813888 : Int) < s3)) => ?_)
  · skip
    exact Done.mk (badS _ _ (fun h => by have : s3 ≤ 549755813888 := h.2.2.2.2.2.2.2.2; omega))
  have hok : ScanOk sl x ⟨s1, s2, s3, s4⟩ := ⟨by omega, hx, c2, by show 0 ≤ s4; omega, by show s4 < _; omega, by show 1 ≤ s2; omega, by show s2 ≤ _; omega, by show 1 ≤ s3; omega, by show s3 ≤ _; omega⟩
  clear badS
  obtain ⟨tail, rfl⟩ : ∃ t : Nat, s4 = t := ⟨s4.toNat, by omega⟩
  obtain ⟨lb, hlb⟩ : ∃ lb : Nat, layL sl = lb := ⟨(layL sl).toNat, by omega⟩
  have hxlb : x.lb = lb := by rw [hxl, hlb]
  have hxl2 : x.l = (2 : Nat) := by rw [hx]; rfl
  have hfit : 2 + lb ≤ sl := by unfold layL at hlb; split at hlb <;> omega
  cases hdn : d.down with
  | true =>
    repeat (first | refine LoadD.own 0 rfl _ rfl rfl ?_)
    exact Done.mk ⟨[[]], (Drop.pick [] _ rfl).trans (Drop.flat rfl), [], rfl, .inr (.inl ⟨hok, rfl, rfl⟩)⟩
  | false =>
  rw [hdn] at hat
  repeat (first | refine LoadD.own 0 rfl _ rfl rfl ?_)
  obtain ⟨x1, x2, x3, x4, x5, x6, x7⟩ := x
  dsimp only at hxlb hxl2
  subst hxlb hxl2
  have hsc : scanL d ⟨s1, s2, s3, tail⟩ = scanK (rbP d 2 lb) s2 (lb + 1) tail s3 lb := by
    unfold scanL
    rw [← hn, hlb]; rfl
  have hlbn : (layL sl).toNat = lb := by rw [hlb]; rfl
  obtain ⟨LL, hLe⟩ : ∃ L, L = scanL d ⟨s1, s2, s3, tail⟩ := ⟨_, rfl⟩
  have hbd2 := scan_bound (rb := rbP d 2 lb) (ep := s2) (lb + 1) tail s3 lb
  rw [← hsc, ← hLe] at hbd2
  refine CodeF.loopD [3, 4, 5, 11, 12] (fun vs J' S' => ∃ (i : Nat) (aB : Option Addr) (capB : Nat) (chB : List Blk) (bks : List Bk), i ≤ lb ∧ OwnC chB 1 aB i capB (bks.map Bk.cell) ∧ bks.map Bk.data = (List.range i).map (fun k => rbP d 2 lb (tail + k)) ∧ (∀ y ∈ bks, BkOk I y) ∧ I = J' ∧
      vs = [.pointer (some ⟨b3, 0, none⟩), .pointer (some ⟨b4, 0, none⟩), .pointer (some ⟨b5, 0, none⟩), .slice aB i capB, .int .i64 i] ∧
      S' = [[(b3, row [.slice sa sl sc, .slice wa gs.length wc, .int .i64 d.count, .bool false, .int .i64 (gv d.arm), .int .i64 (gv d.fault)] 76)], [(b4, row [.int .i64 x1, .int .i64 (2 : Nat), .int .i64 lb, .int .i64 x4, .int .i64 x5, .int .i64 x6, .int .i64 x7] 45)], sBoxS b5 ⟨s1, s2, s3, tail⟩, chB])
    (fun vs _ _ => match vs with | [_, _, _, _, .int _ i] => ((lb : Int) - i).toNat | _ => 0) ?_ ?_
  · exact ⟨_, Drop.and (Drop.pick [0, 1, 2] _ rfl), 0, none, 0, [], [], by omega, OwnC.nil _ _, rfl, by simp, rfl, rfl, rfl⟩
  rintro vs gE J' S' hJ' ⟨i, aB, capB, chB, bks, hi, hB, hdat, hbok, rfl, rfl, rfl⟩
  refine LoadD.own 1 rfl _ rfl rfl ?_
  refine CmpD.split (fun (c9 : (i : Int) < lb) => ?_) (fun (c9 : ¬ (i : Int) < lb) => ?_)
  · have hm := Nat.mod_lt (tail + i) (show 0 < lb by omega)
    have hil : 2 + (tail + i) % lb < bS.length := by omega
    have hsd := hD.snd (2 + (tail + i) % lb) (by rw [← hbd, List.length_map]; exact hil)
    have hsg : d.safe.getD (2 + (tail + i) % lb) [] = (bS[2 + (tail + i) % lb]).data := by
      rw [← hbd, List.getD_eq_getElem?_getD, List.getElem?_map, List.getElem?_eq_getElem hil]; rfl
    rw [hsg] at hsd
    have hnw : rbP d 2 lb (tail + i) = atP (bS[2 + (tail + i) % lb]).data d.writes (2 + (tail + i) % lb : Nat) := by
      unfold rbP
      rw [List.getD_eq_getElem?_getD, hsd]; rfl
    have h4 : (rbP d 2 lb (tail + i)).length = 4096 := by
      unfold rbP
      rw [List.getD_eq_getElem?_getD, List.getElem?_eq_getElem (by omega : 2 + (tail + i) % lb < d.now.length)]
      exact hD.wf.now _ (List.getElem_mem _)
    have hA := hat I (Imm.le_refl _) (2 + (tail + i) % lb) _ (List.getElem?_eq_getElem hil) (hbS _ (List.getElem_mem hil))
    rw [hgw, ← hnw] at hA
    refine CodeF.sched [[], [], [], [2], [], [4], [], [4, 5, 6], [], [8], [4, 5, 6, 7, 8, 9], [2, 3, 4, 5, 6, 7, 8, 9, 10], [1, 2, 3, 4, 5, 6, 7, 8, 9, 10, 11], [1, 2, 3, 4, 5, 6, 7, 8, 9, 10, 11, 12], [0, 1, 2, 3, 4, 5, 6, 7, 8, 9, 10, 11, 12, 13], [0, 1, 2, 3, 4, 5, 6, 7, 8, 9, 10, 11, 12, 13, 14]] [0, 1, 2, 3, 4, 5, 6, 7, 8, 9, 10, 11, 12, 13, 14, 15] (by kernel_rfl) ?_
    repeat (first | refine LoadP.at 0 rfl _ rfl rfl ?_ | refine LoadP.at 1 rfl _ rfl rfl ?_ | refine LoadP.at 2 rfl _ rfl rfl ?_)
    refine ToD.to ((tail + i : Nat) : Int) (by show IntKind.i64.wrap ((tail : Int) + (i : Int)) = _; rw [wrap_i64 (by omega) (by omega)]; omega) ?_
    repeat (first | refine LoadP.at 1 rfl _ rfl rfl ?_)
    refine Chk.mk (by show (lb : Int) ≠ 0; omega) ?_
    refine ToD.to _ (tmod_nat _ _) ?_
    refine ToD.to ((2 + (tail + i) % lb : Nat) : Int) (by show IntKind.i64.wrap (((2 : Nat) : Int) + (((tail + i) % lb : Nat) : Int)) = _; rw [wrap_i64 (by omega) (by omega)]; omega) ?_
    skip
    refine Tri.free hA ?_
    rintro v _ _ hJ ⟨rfl, aN, lenN, capN, rfl, hN⟩
    have hlN : lenN = 4096 := by have := hN.len; rw [bts_length] at this; omega
    subst hlN
    conv => whnf
    intro bN
    refine appendD tabOk rfl rfl rfl rfl rfl rfl rfl 3 rfl hB (SrcOk.slice (n := 1) (news := [Bk.cell ⟨aN, capN, rbP d 2 lb (tail + i)⟩]) tabOk rfl ((OwnC.whole (len := 1) (size := 1) rfl).slC 4 rfl) (by intro v hv; simp only [List.mem_singleton] at hv; subst hv; rfl)) rfl (by show (i + 1) * 24 ≤ _; omega) (by omega) ?_
    intro a2 cap2 ch2 hO2
    skip
    refine ToD.i64 (by omega) (by omega) ?_
    refine ⟨_, Drop.pick [0, 1, 2, 3] _ rfl, ⟨i + 1, a2, cap2, ch2, bks ++ [⟨aN, capN, rbP d 2 lb (tail + i)⟩], by omega, by rw [List.map_append]; exact hO2, ?_, ?_, rfl, rfl, rfl⟩, ?_⟩
    · rw [List.map_append, hdat, List.range_succ, List.map_append]; rfl
    · intro y hy
      rcases List.mem_append.1 hy with hy | hy
      · exact hbok y hy
      · simp only [List.mem_singleton] at hy
        subst hy
        exact hN
    · show ((lb : Int) - ((i : Int) + 1)).toNat < ((lb : Int) - i).toNat; omega
  obtain rfl : i = lb := by omega
  have hbl : bks.length = i := by have := congrArg List.length hdat; rwa [List.length_map, List.length_map, List.length_range] at this
  have hBle := hB.le
  refine CodeF.fixD 3 (ch := chB) rfl fun I1 hI1 hBm => ?_
  have hBR : Rds I1 aB i (bks.map Bk.cell) := Rds.of_own hB hBm
  have hbok1 : ∀ y ∈ bks, BkOk I1 y := fun y hy => Rds.mono (hbok y hy) hI1
  rcases hBR.mem with q0 | ⟨bB, oB, cB, TB, fB, rfl, hIB, hcB⟩
  · omega
  have fin : ∀ (J : Imm) (chO : List Blk) (aO : Option Addr) (capO : Nat) (gl : List Grp) {k : Nat} {acc : List G3}, OwnC chO 3 aO gl.length capO (grpCells gl) → GrpsOk J gl acc → acc ++ scanK (rbP d 2 i) s2 (i + 1 - acc.length) (tail + k) (s3 + acc.length) (i - k) = LL ∧ k = (acc.map fun g => g.2.2.length + 1).sum → scanK (rbP d 2 i) s2 (i + 1 - acc.length) (tail + k) (s3 + acc.length) (i - k) = [] →
      ∃ chO', [chO] = [chO'] ∧ ((¬ ScanOk sl ⟨x1, (2 : Nat), i, x4, x5, x6, x7⟩ ⟨s1, s2, s3, tail⟩ ∧ Value.tuple #[.slice aO gl.length capO, .int .i64 ((tail + k) % i : Nat), .int .i64 0] = .tuple #[.slice none 0 0, .int .i64 0, .int .i64 2]) ∨
       (ScanOk sl ⟨x1, (2 : Nat), i, x4, x5, x6, x7⟩ ⟨s1, s2, s3, tail⟩ ∧ false = true ∧ Value.tuple #[.slice aO gl.length capO, .int .i64 ((tail + k) % i : Nat), .int .i64 0] = .tuple #[.slice none 0 0, .int .i64 0, .int .i64 6]) ∨
       (ScanOk sl ⟨x1, (2 : Nat), i, x4, x5, x6, x7⟩ ⟨s1, s2, s3, tail⟩ ∧ false = false ∧ ∃ aO' capO' gl', Value.tuple #[.slice aO gl.length capO, .int .i64 ((tail + k) % i : Nat), .int .i64 0] = .tuple #[.slice aO' gl'.length capO', .int .i64 (placeP (layL sl).toNat (tail : Int).toNat (scanL d ⟨s1, s2, s3, tail⟩) : Nat), .int .i64 0] ∧ OwnC chO' 3 aO' gl'.length capO' (grpCells gl') ∧ GrpsOk J gl' (scanL d ⟨s1, s2, s3, tail⟩))) := by
    intro J chO aO capO gl k acc h1 h2 h3 h4
    obtain ⟨h3, h5⟩ := h3
    rw [h4, List.append_nil] at h3
    subst h3
    refine ⟨chO, rfl, .inr (.inr ⟨hok, rfl, aO, capO, gl, ?_, h1, by rw [← hLe]; exact h2⟩)⟩
    rw [hlbn, ← hLe, placeP, ← h5]; rfl
  refine CodeF.loopD [3, 4, 5, 11, 13, 14] (fun vs J' S' => ∃ (k : Nat) (aO : Option Addr) (capO : Nat) (chO : List Blk) (gl : List Grp) (acc : List G3), k ≤ i ∧ acc.length ≤ k ∧ OwnC chO 3 aO gl.length capO (grpCells gl) ∧ GrpsOk J' gl acc ∧ (acc ++ scanK (rbP d 2 i) s2 (i + 1 - acc.length) (tail + k) (s3 + acc.length) (i - k) = LL ∧ k = (acc.map fun g => g.2.2.length + 1).sum) ∧ I1.le J' ∧
      vs = [.pointer (some ⟨b3, 0, none⟩), .pointer (some ⟨b4, 0, none⟩), .pointer (some ⟨b5, 0, none⟩), .slice (some ⟨bB, oB, none⟩) i capB, .slice aO gl.length capO, .int .i64 k] ∧
      S' = [[(b3, row [.slice sa sl sc, .slice wa gs.length wc, .int .i64 d.count, .bool false, .int .i64 (gv d.arm), .int .i64 (gv d.fault)] 76)], [(b4, row [.int .i64 x1, .int .i64 (2 : Nat), .int .i64 i, .int .i64 x4, .int .i64 x5, .int .i64 x6, .int .i64 x7] 45)], sBoxS b5 ⟨s1, s2, s3, tail⟩, [], chO])
    (fun vs _ _ => match vs with | [_, _, _, _, _, .int _ k] => ((i : Int) - k).toNat | _ => 0) ?_ ?_
  · exact ⟨_, Drop.and (Drop.refl _), 0, none, 0, [], [], [], by omega, Nat.le_refl _, OwnC.nil _ _, ⟨by simp, rfl⟩, ⟨by rw [hLe, hsc]; simp, rfl⟩, Imm.le_refl _, rfl, rfl⟩
  rintro vs gE2 J' S' hJ' ⟨k, aO, capO, chO, gl, acc, hk, hak, hO, hgl, hacc, hle, rfl, rfl⟩
  have hgla := hgl.len
  refine CmpD.split (fun (d1 : (k : Int) < i) => ?_) (fun (d1 : ¬ (k : Int) < i) => ?_)
  rotate_left
  · obtain rfl : k = i := by omega
    skip
    refine CodeF.sched [[], [], [1], [], [1, 2, 3], [], [5], [1, 2, 3, 4, 5, 6], [0], [0, 1, 2, 3, 4, 5, 6, 7, 8], [0, 1, 2, 3, 4, 5, 6, 7, 8, 9]] [0, 1, 2, 3, 4, 5, 6, 7, 8, 9, 10] (by kernel_rfl) ?_
    repeat (first | refine LoadP.at 2 rfl _ rfl rfl ?_)
    refine ToD.to ((tail + k : Nat) : Int) (by show IntKind.i64.wrap ((tail : Int) + (k : Int)) = _; rw [wrap_i64 (by omega) (by omega)]; omega) ?_
    repeat (first | refine LoadP.at 1 rfl _ rfl rfl ?_)
    refine Chk.mk (by first | (show (i : Int) ≠ 0; omega) | (show (k : Int) ≠ 0; omega)) ?_
    refine ToD.to _ (tmod_nat _ _) ?_
    skip
    exact Done.mk ⟨[chO], Drop.pick [4] _ rfl, fin _ _ _ _ _ hO hgl hacc (scanK_stop fun e s l hg => by have := (grpP_room hg).1; omega)⟩
  have hki : k < bks.length := by omega
  have hbkd : (bks[k]).data = rbP d 2 i (tail + k) := by
    have := congrArg (·[k]?) hdat
    simp only [List.getElem?_map, List.getElem?_range (show k < i by omega), Option.map_some, List.getElem?_eq_getElem hki, Option.some.injEq] at this
    exact this
  have hbkc : (bks.map Bk.cell)[k]? = some (bks[k]).cell := by rw [List.getElem?_map, List.getElem?_eq_getElem hki]; rfl
  have hbko := Rds.mono (hbok1 _ (List.getElem_mem hki)) hle
  obtain ⟨bk, hbk⟩ : ∃ bk, bk = bks[k] := ⟨_, rfl⟩
  rw [← hbk] at hbkd hbkc hbko
  refine Chk.mk (by omega) ?_
  refine LoadD.imm (hle _ _ hIB) [bk.cell] (take_get hcB hbkc) rfl ?_
  refine Tri.free (r6_Head hbko (by omega)) ?_
  rintro v _ _ hJ ⟨rfl, rfl⟩
  rw [headV, hbkd]
  have hstop : ∀ p, hdP (rbP d 2 i (tail + k)) = some p → ¬ ((p.1 : Int) = s2 ∧ (p.2.1 : Int) = s3 + acc.length ∧ p.2.2.length + 1 ≤ i - k) → scanK (rbP d 2 i) s2 (i + 1 - acc.length) (tail + k) (s3 + acc.length) (i - k) = [] := by
    intro p hp hno
    refine scanK_stop fun e s l hg h' => hno ?_
    obtain ⟨l', q1, q2, q3⟩ := grpP_hd hg
    rw [hp, Option.some.injEq] at q1
    subst q1
    exact ⟨h'.1, h'.2, by dsimp only; omega⟩
  cases hd : hdP (rbP d 2 i (tail + k)) with
  | none =>
    dsimp only
    skip
    refine CodeF.sched [[], [], [1], [], [1, 2, 3], [], [5], [1, 2, 3, 4, 5, 6], [0], [0, 1, 2, 3, 4, 5, 6, 7, 8], [0, 1, 2, 3, 4, 5, 6, 7, 8, 9]] [0, 1, 2, 3, 4, 5, 6, 7, 8, 9, 10] (by kernel_rfl) ?_
    repeat (first | refine LoadP.at 2 rfl _ rfl rfl ?_)
    refine ToD.to ((tail + k : Nat) : Int) (by show IntKind.i64.wrap ((tail : Int) + (k : Int)) = _; rw [wrap_i64 (by omega) (by omega)]; omega) ?_
    repeat (first | refine LoadP.at 1 rfl _ rfl rfl ?_)
    refine Chk.mk (by first | (show (i : Int) ≠ 0; omega) | (show (k : Int) ≠ 0; omega)) ?_
    refine ToD.to _ (tmod_nat _ _) ?_
    skip
    exact Done.mk ⟨[chO], Drop.pick [4] _ rfl, fin _ _ _ _ _ hO hgl hacc (scanK_stop fun e s l hg => by obtain ⟨l', q1, _⟩ := grpP_hd hg; rw [hd] at q1; cases q1)⟩
  | some p =>
  obtain ⟨e, sq, l⟩ := p
  have hstop := hstop _ hd
  have hpr := (hdP_some hd).2.2.2.1
  have hl32 := hpr.2.2.2.2.2.1
  have hl1 := hpr.2.2.2.2.1
  have hsq := hpr.2.2.2.1
  have hgk : gl.length ≤ i := by omega
  dsimp only at hstop ⊢
  repeat (first | refine LoadD.own 2 rfl _ rfl rfl ?_)
  refine CmpD.split (fun (d2 : (e : Int) = s2) => ?_) (fun (d2 : ¬ (e : Int) = s2) => ?_)
  rotate_left
  · skip
    refine CodeF.sched [[], [], [1], [], [1, 2, 3], [], [5], [1, 2, 3, 4, 5, 6], [0], [0, 1, 2, 3, 4, 5, 6, 7, 8], [0, 1, 2, 3, 4, 5, 6, 7, 8, 9]] [0, 1, 2, 3, 4, 5, 6, 7, 8, 9, 10] (by kernel_rfl) ?_
    repeat (first | refine LoadP.at 2 rfl _ rfl rfl ?_)
    refine ToD.to ((tail + k : Nat) : Int) (by show IntKind.i64.wrap ((tail : Int) + (k : Int)) = _; rw [wrap_i64 (by omega) (by omega)]; omega) ?_
    repeat (first | refine LoadP.at 1 rfl _ rfl rfl ?_)
    refine Chk.mk (by first | (show (i : Int) ≠ 0; omega) | (show (k : Int) ≠ 0; omega)) ?_
    refine ToD.to _ (tmod_nat _ _) ?_
    skip
    exact Done.mk ⟨[chO], Drop.pick [4] _ rfl, fin _ _ _ _ _ hO hgl hacc (hstop fun h' => d2 h'.1)⟩
  repeat (first | refine LoadD.own 2 rfl _ rfl rfl ?_)
  refine ToD.to (s3 + gl.length) (by show IntKind.i64.wrap (s3 + (gl.length : Int)) = _; rw [wrap_i64 (by omega) (by omega)]) ?_
  refine CmpD.split (fun (d3 : (sq : Int) = s3 + gl.length) => ?_) (fun (d3 : ¬ (sq : Int) = s3 + gl.length) => ?_)
  rotate_left
  · skip
    refine CodeF.sched [[], [], [1], [], [1, 2, 3], [], [5], [1, 2, 3, 4, 5, 6], [0], [0, 1, 2, 3, 4, 5, 6, 7, 8], [0, 1, 2, 3, 4, 5, 6, 7, 8, 9]] [0, 1, 2, 3, 4, 5, 6, 7, 8, 9, 10] (by kernel_rfl) ?_
    repeat (first | refine LoadP.at 2 rfl _ rfl rfl ?_)
    refine ToD.to ((tail + k : Nat) : Int) (by show IntKind.i64.wrap ((tail : Int) + (k : Int)) = _; rw [wrap_i64 (by omega) (by omega)]; omega) ?_
    repeat (first | refine LoadP.at 1 rfl _ rfl rfl ?_)
    refine Chk.mk (by first | (show (i : Int) ≠ 0; omega) | (show (k : Int) ≠ 0; omega)) ?_
    refine ToD.to _ (tmod_nat _ _) ?_
    skip
    exact Done.mk ⟨[chO], Drop.pick [4] _ rfl, fin _ _ _ _ _ hO hgl hacc (hstop fun h' => d3 (by omega))⟩
  refine ToD.to ((k + l.length : Nat) : Int) (by rw [wrap_i64 (by omega) (by omega)]; omega) ?_
  refine ToD.to ((k + l.length + 1 : Nat) : Int) (by rw [wrap_i64 (by omega) (by omega)]; omega) ?_
  refine CmpD.split (fun (d4 : (i : Int) < (k + l.length + 1 : Nat)) => ?_) (fun (d4 : ¬ (i : Int) < (k + l.length + 1 : Nat)) => ?_)
  · skip
    refine CodeF.sched [[], [], [1], [], [1, 2, 3], [], [5], [1, 2, 3, 4, 5, 6], [0], [0, 1, 2, 3, 4, 5, 6, 7, 8], [0, 1, 2, 3, 4, 5, 6, 7, 8, 9]] [0, 1, 2, 3, 4, 5, 6, 7, 8, 9, 10] (by kernel_rfl) ?_
    repeat (first | refine LoadP.at 2 rfl _ rfl rfl ?_)
    refine ToD.to ((tail + k : Nat) : Int) (by show IntKind.i64.wrap ((tail : Int) + (k : Int)) = _; rw [wrap_i64 (by omega) (by omega)]; omega) ?_
    repeat (first | refine LoadP.at 1 rfl _ rfl rfl ?_)
    refine Chk.mk (by first | (show (i : Int) ≠ 0; omega) | (show (k : Int) ≠ 0; omega)) ?_
    refine ToD.to _ (tmod_nat _ _) ?_
    skip
    exact Done.mk ⟨[chO], Drop.pick [4] _ rfl, fin _ _ _ _ _ hO hgl hacc (hstop fun h' => by omega)⟩
  refine ToD.to ((k + l.length : Nat) : Int) (by rw [wrap_i64 (by omega) (by omega)]; omega) ?_
  refine ToD.to ((k + l.length + 1 : Nat) : Int) (by rw [wrap_i64 (by omega) (by omega)]; omega) ?_
  refine sliceD tabOk rfl rfl rfl rfl k (k + l.length + 1) capB ⟨_, rfl⟩ ⟨_, rfl⟩ rfl (.inl rfl) (by omega) ?_
  have hpart := (slC_part ((hBR.mono hle).slC (S := [])) (cap := capB) k (l.length + 1) (by omega) (by omega) hBle).rds
  rw [← List.map_drop, ← List.map_take] at hpart
  have hget := r6_Get J' _ (l.length + 1) (capB - k) ((bks.drop k).take (l.length + 1)) (by omega) hpart (fun y hy => Rds.mono (hbok1 y (List.mem_of_mem_drop (List.mem_of_mem_take hy))) hle)
  have hdd : ((bks.drop k).take (l.length + 1)).map Bk.data = (List.range (l.length + 1)).map fun j => rbP d 2 i (tail + k + j) := by
    rw [List.map_take, List.map_drop, hdat]
    refine getElem_eq_of (by simp; omega) fun j j1 j2 => ?_
    simp [Nat.add_assoc]
  rw [hdd, ← grpP_get (room := i - k) hd (by omega)] at hget
  rw [show k + l.length + 1 - k = l.length + 1 by omega]
  refine Tri.free hget ?_
  rintro v J2 _ hJ2 (⟨hno, rfl⟩ | ⟨e2, s2', l2, hso, aI, capI, gsI, rfl, hgs, hgp⟩)
  · have hgl := hgl.mono hJ2
    conv => whnf
    intro b19
    repeat (first | refine StoreD.st 5 rfl rfl rfl ?_ | refine CmpD.no (by decide) ?_)
    refine CodeF.sched [[], [], [1], [], [1, 2, 3], [], [5], [1, 2, 3, 4, 5, 6], [0], [0, 1, 2, 3, 4, 5, 6, 7, 8], [0, 1, 2, 3, 4, 5, 6, 7, 8, 9]] [0, 1, 2, 3, 4, 5, 6, 7, 8, 9, 10] (by kernel_rfl) ?_
    repeat (first | refine LoadP.at 2 rfl _ rfl rfl ?_)
    refine ToD.to ((tail + k : Nat) : Int) (by show IntKind.i64.wrap ((tail : Int) + (k : Int)) = _; rw [wrap_i64 (by omega) (by omega)]; omega) ?_
    repeat (first | refine LoadP.at 1 rfl _ rfl rfl ?_)
    refine Chk.mk (by first | (show (i : Int) ≠ 0; omega) | (show (k : Int) ≠ 0; omega)) ?_
    refine ToD.to _ (tmod_nat _ _) ?_
    skip
    exact Done.mk ⟨[chO], Drop.pick [4] _ rfl, fin _ _ _ _ _ hO hgl hacc (scanK_stop fun e s l hg => by rw [hno] at hg; cases hg)⟩
  · obtain ⟨l', q1, q2, q3⟩ := grpP_hd hso
    rw [hd, Option.some.injEq] at q1
    cases q1
    have hgil : gsI.length = l.length := by rw [← q2.symm.trans rfl, ← hgp, List.length_map]
    conv => whnf
    intro b19
    repeat (first | refine LoadD.own 5 rfl _ rfl rfl ?_ | refine StoreD.st 5 rfl rfl rfl ?_ | refine CmpD.yes rfl ?_)
    conv => whnf
    intro bN
    refine appendD tabOk rfl rfl rfl rfl rfl rfl rfl 4 rfl hO (SrcOk.slice (n := 1) (news := grpCells [⟨e, sq, aI, capI, gsI⟩]) tabOk rfl ((OwnC.whole (len := 1) (size := 3) rfl).slC 6 rfl) (by intro v hv; simp [grpCells] at hv; rcases hv with rfl | rfl | rfl <;> rfl)) rfl (by show (gl.length + 1) * 40 ≤ _; omega) (by omega) ?_
    intro a2 cap2 ch2 hO2
    skip
    refine ToD.to ((k + l.length : Nat) : Int) (by rw [wrap_i64 (by omega) (by omega)]; omega) ?_
    refine ToD.to ((k + l.length + 1 : Nat) : Int) (by rw [wrap_i64 (by omega) (by omega)]; omega) ?_
    have hll3 : (gl ++ [⟨e, sq, aI, capI, gsI⟩] : List Grp).length = gl.length + 1 := by simp
    refine ⟨_, Drop.pick [0, 1, 2, 3, 4] _ rfl, ⟨k + l.length + 1, a2, cap2, ch2, gl ++ [⟨e, sq, aI, capI, gsI⟩], acc ++ [(e, sq, l2)], by omega, by simp; omega, ?_, ⟨?_, ?_⟩, ⟨?_, ?_⟩, Imm.le_trans hle hJ2, ?_, rfl⟩, ?_⟩
    · rw [hll3, grpCells_snoc]; exact hO2
    · intro g hg
      rcases List.mem_append.1 hg with hg | hg
      · exact (hgl.mono hJ2).each g hg
      · simp only [List.mem_singleton] at hg
        subst hg
        exact hgs
    · rw [List.map_append, List.map_append, hgl.g3, List.map_singleton, List.map_singleton]
      show _ ++ [((e : Int), (sq : Int), gsI.map Img.pr)] = _
      rw [hgp]; rfl
    · rw [← hacc.1]
      obtain ⟨f, hf⟩ : ∃ f, i + 1 - acc.length = f + 1 := ⟨i - acc.length, by omega⟩
      rw [hf, scanK, hso]
      dsimp only
      rw [if_pos ⟨d2, by omega⟩, List.append_assoc, List.length_append, List.length_singleton, List.singleton_append]
      rw [show i + 1 - (acc.length + 1) = f by omega, show tail + (k + l.length + 1) = tail + k + (l2.length + 1) by omega, show i - (k + l.length + 1) = i - k - (l2.length + 1) by omega, show s3 + ((acc.length + 1 : Nat) : Int) = s3 + acc.length + 1 by omega]
    · rw [List.map_append, List.sum_append, ← hacc.2]
      simp; omega
    · rw [hll3]; rfl
    · show ((i : Int) - ((k + l.length + 1 : Nat) : Int)).toNat < ((i : Int) - k).toNat; omega
end Go.Proofs.YtegdcjnjnoeinaaGreat
namespace Go.Proofs.YtegdcjnjnoeinaaGreat
open Go.RowKit Go.Sl
set_option maxRecDepth 20000

structure ImsAt (J : Imm) (aS : Option Addr) (ms : List Ims) (all : List (List PImg)) : Prop where
  rd : Rds J aS ms.length (ms.map Ims.cell)
  each : ∀ m ∈ ms, ImgsOk J m.a m.gs
  pr : ms.map Ims.pr = all
theorem ImsAt.mono {I J : Imm} {aS : Option Addr} {ms : List Ims} {all : List (List PImg)} (h : ImsAt I aS ms all) (hJ : I.le J) : ImsAt J aS ms all := ⟨h.rd.mono hJ, fun m hm => (h.each m hm).mono hJ, h.pr⟩
end Go.Proofs.YtegdcjnjnoeinaaGreat
namespace Go.Proofs.YtegdcjnjnoeinaaGreat
open Go.RowKit Go.Sl
set_option maxRecDepth 20000

end Go.Proofs.YtegdcjnjnoeinaaGreat
namespace Go.Proofs.YtegdcjnjnoeinaaGreat
open Go.RowKit Go.Sl
set_option maxRecDepth 20000

/-- bytes, as they lie -/
structure Bs where
  a : Option Addr
  len : Nat
  cap : Nat
  data : Dat
@[reducible] def Bs.cell (b : Bs) : Value := .slice b.a b.len b.cap
theorem GrpsOk.at' {J : Imm} {gl : List Grp} {L : List G3} (h : GrpsOk J gl L) (i : Nat) (hi : i < gl.length) : ∃ hl : i < L.length, gl[i].e = (L[i].1 : Int) ∧ gl[i].s = (L[i].2.1 : Int) ∧ gl[i].gs.map Img.pr = L[i].2.2 := by
  have hl : i < L.length := by rw [← h.len]; exact hi
  refine ⟨hl, ?_⟩
  have h3 := h.g3
  have : (gl.map Grp.g3)[i]'(by rw [List.length_map]; exact hi) = (L.map up3)[i]'(by rw [List.length_map]; exact hl) := by simp only [h3]
  rw [List.getElem_map, List.getElem_map] at this
  unfold Grp.g3 up3 at this
  simp only [Prod.mk.injEq] at this
  exact this
end Go.Proofs.YtegdcjnjnoeinaaGreat
namespace Go.Proofs.YtegdcjnjnoeinaaGreat
open Go.RowKit Go.Sl
set_option maxRecDepth 20000

end Go.Proofs.YtegdcjnjnoeinaaGreat
namespace Go.Proofs.YtegdcjnjnoeinaaGreat
open Go.RowKit Go.Sl
set_option maxRecDepth 20000

theorem rbP_add (d : DSt) (l lb a : Nat) : rbP d l lb (a + lb) = rbP d l lb a := by unfold rbP; rw [Nat.add_mod_right]
theorem scanL64 {d : DSt} (hlen : d.now.length = 64) (s : Sup) : scanL d s = scanK (rbP d 2 16) s.epoch 17 s.tail.toNat s.seq 16 := by
  unfold scanL
  rw [hlen]
  show scanK (rbP d 2 (layL (64 : Int)).toNat) s.epoch ((layL (64 : Int)).toNat + 1) s.tail.toNat s.seq (layL (64 : Int)).toNat = _
  rw [layL64]; rfl
@[reducible] def nA : List PImg := im9 1 0
@[reducible] def nB : List PImg := im9 2 1
theorem nA_right : RightP ((1 : Nat) : Int) ((1 : Nat) : Int) nA := im9_right (by decide) (by decide) 1 (by decide) 0
theorem nB_right : RightP ((1 : Nat) : Int) ((2 : Nat) : Int) nB := im9_right (by decide) (by decide) 2 (by decide) 1
theorem nA_len : nA.length = 1 := im9_length _ _
theorem nB_len : nB.length = 2 := im9_length _ _
structure Two (rb : Nat → Dat) : Prop where
  a : ∀ (k : Nat) (h : k < (putP 1 1 nA).length), rb (14 + k) = (putP 1 1 nA)[k]
  b : ∀ (k : Nat) (h : k < (putP 1 2 nB).length), rb (0 + k) = (putP 1 2 nB)[k]
  n : rb 3 = noughts
theorem WI.two {j : JSt} {d : DSt} (w : WI 1 14 (fun _ => noughts) j d [nA, nB]) : Two (rbP d 2 16) := by
  have hA := putP_length 1 1 nA
  have hB := putP_length 1 2 nB
  rw [nA_len] at hA
  rw [nB_len] at hB
  have hr := w.ring
  have e : ringB 1 1 [nA, nB] = putP 1 1 nA ++ putP 1 2 nB := by simp [ringB]
  rw [e] at hr
  refine ⟨fun k hk => ?_, fun k hk => ?_, ?_⟩
  · have := hr k (by omega)
    rw [this, List.getD_eq_getElem?_getD, List.getElem?_append_left hk, List.getElem?_eq_getElem hk]; rfl
  · have := hr (2 + k) (by omega)
    rw [show 14 + (2 + k) = 0 + k + 16 by omega, rbP_add] at this
    rw [this, List.getD_eq_getElem?_getD, List.getElem?_append_right (by omega), show 2 + k - (putP 1 1 nA).length = k by omega, List.getElem?_eq_getElem hk]; rfl
  · have := hr 5 (by omega)
    rw [show 14 + 5 = 3 + 16 by omega, rbP_add] at this
    rw [this, List.getD_eq_getElem?_getD, List.getElem?_eq_none (by rw [List.length_append]; omega)]; rfl
theorem usedB : usedP [nB] = 3 := by simp [usedP, im9_length]
theorem Two.grpA {rb : Nat → Dat} (h : Two rb) : grpP rb 14 16 = some (1, 1, nA) := grpP_put nA_right (by rw [nA_len]; omega) h.a
theorem Two.m {d : DSt} (h : Two (rbP d 2 16)) (hlen : d.now.length = 64) : scanL d ⟨64, 1, 2, 0⟩ = [(1, 2, nB)] := by
  rw [scanL64 hlen]
  show scanK (rbP d 2 16) ((1 : Nat) : Int) 17 0 ((2 : Nat) : Int) 16 = _
  have e : ringB 1 2 [nB] = putP 1 2 nB := by simp [ringB]
  rw [scan_prefix (rbP d 2 16) 1 [nB] 17 0 2 16 (fun i hi => by
      have : i = 0 := by simpa using hi
      subst this; exact nB_right) (by rw [usedB]; omega) (by simp) (fun k hk => by
      have := h.b k (by rw [← e]; exact hk)
      rw [this]; simp only [e])]
  rw [scan_stop, List.append_nil]; · rfl
  intro e s l hg
  rw [usedB, grpP_none (by rw [show 0 + 3 = 3 from rfl, h.n]; exact hd_noughts)] at hg
  cases hg
theorem Two.no {d : DSt} (h : Two (rbP d 2 16)) (hlen : d.now.length = 64) : scanL d ⟨64, 1, 2, 14⟩ = [] := by
  rw [scanL64 hlen]
  refine scan_stop fun e s l hg h' => ?_
  have hg : grpP (rbP d 2 16) 14 16 = some (e, s, l) := hg
  rw [h.grpA] at hg
  cases hg
  have : ((1 : Nat) : Int) = 2 := h'.2
  omega
theorem Two.other {d : DSt} (h : Two (rbP d 2 16)) (hlen : d.now.length = 64) : scanL d ⟨64, 2, 1, 14⟩ = [] := by
  rw [scanL64 hlen]
  refine scan_stop fun e s l hg h' => ?_
  have hg : grpP (rbP d 2 16) 14 16 = some (e, s, l) := hg
  rw [h.grpA] at hg
  cases hg
  have : ((1 : Nat) : Int) = 2 := h'.1
  omega
end Go.Proofs.YtegdcjnjnoeinaaGreat
namespace Go.Proofs.YtegdcjnjnoeinaaGreat
open Go.RowKit Go.Sl
set_option maxRecDepth 20000

theorem shr_nat8 (v s : Nat) (hs : s ≤ 8) : (v : Int).fdiv (2 ^ (min ((s : Int)).toNat IntKind.u8.bits)) = ((v / 2 ^ s : Nat) : Int) := by
  have e : min ((s : Int)).toNat IntKind.u8.bits = s := by
    show min s 8 = s; omega
  rw [e, Int.fdiv_eq_ediv_of_nonneg _ (by exact_mod_cast Nat.zero_le _)]
  norm_cast
def put5 (l m : Dat) (i : Nat) : Dat := l.take (i * 512) ++ m ++ l.drop (i * 512 + 512)
def tornK (old new : Dat) (sec : Nat) : Nat → Dat
  | 0 => old
  | k + 1 => if sec / 2 ^ k % 2 = 1 then put5 (tornK old new sec k) ((new.drop (k * 512)).take 512) k else tornK old new sec k
def tornP (old new : Dat) (sec : Nat) : Dat := tornK old new sec 8
theorem tornK_succ (old new : Dat) (sec k : Nat) : tornK old new sec (k + 1) = if sec / 2 ^ k % 2 = 1 then put5 (tornK old new sec k) ((new.drop (k * 512)).take 512) k else tornK old new sec k := rfl
theorem tornK_length {old new : Dat} (h1 : old.length = 4096) (h2 : new.length = 4096) (sec : Nat) : ∀ k, k ≤ 8 → (tornK old new sec k).length = 4096
  | 0, _ => h1
  | k + 1, h => by
    have ih := tornK_length h1 h2 sec k (by omega)
    rw [tornK_succ]
    split
    · simp only [put5, List.length_append, List.length_take, List.length_drop, ih, h2]; omega
    · exact ih
attribute [irreducible] tornK
theorem bts_put5 (l m : Dat) (i : Nat) : bts (put5 l m i) = (bts l).take (i * 512) ++ bts m ++ (bts l).drop (i * 512 + 512) := by
  simp [bts, put5, List.map_take, List.map_drop]
theorem sector_of (I : Imm) (S : St) (b off cap i : Nat) (hi : i < 8) (hcap : 4096 ≤ cap) :
    Tri Tryz.prog 167 #[.slice (some ⟨b, off, none⟩) 4096 cap, .int .i64 i] I S fun v J S' => v = .slice (some ⟨b, off + i * 512, none⟩) 512 512 ∧ I = J ∧ S' = S := by
  refine Tri.of (args := [.slice (some ⟨b, off, none⟩) 4096 cap, .int .i64 i]) tabOk Tryz.func167 rfl (by kernel_rfl) (by kernel_rfl) ?_
  refine ToD.to ((i * 512 : Nat) : Int) (by rw [wrap_i64 (by omega) (by omega)]; omega) ?_
  refine ToD.to ((i + 1 : Nat) : Int) (by rw [wrap_i64 (by omega) (by omega)]; omega) ?_
  refine ToD.to ((i * 512 + 512 : Nat) : Int) (by rw [wrap_i64 (by omega) (by omega)]; omega) ?_
  refine ToD.to ((i + 1 : Nat) : Int) (by rw [wrap_i64 (by omega) (by omega)]; omega) ?_
  refine ToD.to ((i * 512 + 512 : Nat) : Int) (by rw [wrap_i64 (by omega) (by omega)]; omega) ?_
  refine sliceD tabOk rfl rfl rfl rfl (i * 512) (i * 512 + 512) (i * 512 + 512) ⟨_, rfl⟩ ⟨_, rfl⟩ ⟨_, rfl⟩ (.inr (by simp)) (by omega) ?_
  refine Done.mk ⟨?_, rfl, rfl⟩
  show Value.slice (slAddr (some ⟨b, off, none⟩) (i * 512) (i * 512 + 512) 1) (i * 512 + 512 - i * 512) (i * 512 + 512 - i * 512) = _
  unfold slAddr
  rw [if_neg (by omega), show i * 512 + 512 - i * 512 = 512 by omega]
  simp [add_none]
set_option maxHeartbeats 4000000 in
theorem torn_own (I : Imm) (a1 : Option Addr) (cap1 : Nat) (old : Dat) (h1 : Rds I a1 4096 (bts old)) (a2 : Option Addr) (cap2 : Nat) (new : Dat) (h2 : Rds I a2 4096 (bts new)) (hc2 : 4096 ≤ cap2) (sec : Nat) (hsec : sec < 256) :
    Tri Tryz.prog 101 #[.slice a1 4096 cap1, .slice a2 4096 cap2, .int .u8 sec] I [] fun v J S' => ∃ a cap ch, v = .slice a 4096 cap ∧ OwnB ch a 4096 cap (tornP old new sec) ∧ I = J ∧ S' = [ch] := by
  have hl1 : old.length = 4096 := by rw [← bts_length, h1.len]
  have hl2 : new.length = 4096 := by rw [← bts_length, h2.len]
  refine Tri.drop ?_ (fun _ _ _ _ h => h)
  refine Tri.of (args := [.slice a1 4096 cap1, .slice a2 4096 cap2, .int .u8 sec]) tabOk Tryz.func101 rfl (by kernel_rfl) (by kernel_rfl) ?_
  refine Tri.nf (clone_bytes I [] a1 4096 cap1 (bts old) (by rw [Nat.mul_one]; exact h1.slC) (bts_plain old) (by omega)) ?_
  rintro v J S' hJ ⟨aO, capO, chO, rfl, hO, rfl, rfl⟩
  have hcO := hO.le
  rcases hO.at' with q0 | ⟨bO, pre, post, TO, rfl, rfl, hpost⟩
  · omega
  rcases h2.mem with q0 | ⟨bN, oN, cN, TN, fN, rfl, hIN, hcN⟩
  · omega
  refine CodeF.loopD [1, 2, 7, 11] (fun vs J' S' => ∃ (k : Nat), k ≤ 8 ∧ vs = [.slice (some ⟨bN, oN, none⟩) 4096 cap2, .int .u8 sec, .slice (some ⟨bO, pre.length, none⟩) 4096 capO, .int .i64 k] ∧ I = J' ∧ S' = [[(bO, row (pre ++ bts (tornK old new sec k) ++ post) TO)]])
    (fun vs _ _ => match vs with | [_, _, _, .int _ k] => ((8 : Int) - k).toNat | _ => 0) ?_ ?_
  · exact ⟨_, Drop.refl _, 0, by omega, rfl, rfl, by unfold tornK; rfl⟩
  rintro vs gE J' S' hJ' ⟨k, hk, rfl, rfl, rfl⟩
  have hkl := tornK_length hl1 hl2 sec k hk
  refine CmpD.split (fun c1 => ?_) (fun c1 => ?_)
  · have hdv : sec / 2 ^ k ≤ sec := Nat.div_le_self _ _
    refine Chk.mk (by omega) ?_
    refine ToD.to ((sec / 2 ^ k : Nat) : Int) (shr_nat8 sec k (by omega)) ?_
    refine ToD.to ((sec / 2 ^ k % 2 : Nat) : Int) (by rw [show (1 : Int) = ((1 : Nat) : Int) from rfl, u8_and_nat _ 1 (by omega) (by omega), Nat.and_one_is_mod]) ?_
    refine CmpD.split (fun (c2 : ((sec / 2 ^ k % 2 : Nat) : Int) = 1) => ?_) (fun (c2 : ¬ ((sec / 2 ^ k % 2 : Nat) : Int) = 1) => ?_)
    · refine Tri.nf (sector_of I _ bO pre.length capO k (by omega) hcO) ?_
      rintro v J S' hJ ⟨rfl, rfl, rfl⟩
      refine Tri.nf (sector_of I _ bN oN cap2 k (by omega) hc2) ?_
      rintro v J S' hJ ⟨rfl, rfl, rfl⟩
      have hm : ((new.drop (k * 512)).take 512).length = 512 := by rw [List.length_take, List.length_drop]; omega
      refine copyD tabOk rfl rfl rfl rfl rfl rfl rfl 0 rfl (SrcOk.slice (n := 512) (news := bts ((new.drop (k * 512)).take 512)) tabOk rfl (Rds_part h2 (k * 512) 512 (by omega)).slC (bts_plain _)) (Nat.le_refl _) (by simp only [List.length_append, bts_length, hkl]; show pre.length + k * 512 + 512 * 1 ≤ _; omega) (Nat.le_refl _) ?_
      have hsp : splice (pre ++ bts (tornK old new sec k) ++ post) (pre.length + k * 512) (bts ((new.drop (k * 512)).take 512)) = pre ++ bts (tornK old new sec (k + 1)) ++ post := by
        rw [splice_mid _ _ _ _ _ (by rw [bts_length, bts_length, hkl, hm]; omega), tornK_succ, if_pos (by omega), bts_put5, bts_length, hm]
      rw [hsp]
      refine ToD.i64 (by omega) (by omega) ?_
      refine ⟨_, Drop.refl _, ⟨k + 1, by omega, rfl, rfl, rfl⟩, ?_⟩
      show ((8 : Int) - ((k : Int) + 1)).toNat < ((8 : Int) - (k : Int)).toNat
      omega
    · refine ToD.i64 (by omega) (by omega) ?_
      refine ⟨_, Drop.refl _, ⟨k + 1, by omega, rfl, rfl, by rw [tornK_succ, if_neg (by omega)]⟩, ?_⟩
      show ((8 : Int) - ((k : Int) + 1)).toNat < ((8 : Int) - (k : Int)).toNat
      omega
  · obtain rfl : k = 8 := by omega
    refine Done.mk ⟨_, Drop.refl _, some ⟨bO, pre.length, none⟩, capO, _, rfl, ⟨by rw [bts_length]; exact hkl, hcO, .inr ⟨bO, pre, post, TO, rfl, rfl, hpost⟩⟩, rfl, rfl⟩
theorem torn_fix (I : Imm) (a1 : Option Addr) (cap1 : Nat) (old : Dat) (h1 : Rds I a1 4096 (bts old)) (a2 : Option Addr) (cap2 : Nat) (new : Dat) (h2 : Rds I a2 4096 (bts new)) (hc2 : 4096 ≤ cap2) (sec : Nat) (hsec : sec < 256) :
    Tri Tryz.prog 101 #[.slice a1 4096 cap1, .slice a2 4096 cap2, .int .u8 sec] I [] fun v J _ => ∃ a cap, v = .slice a 4096 cap ∧ Rds J a 4096 (bts (tornP old new sec)) := by
  refine Tri.fixed (torn_own I a1 cap1 old h1 a2 cap2 new h2 hc2 sec hsec) ?_
  rintro v J S' hJ ⟨a, cap, ch, rfl, hO, rfl, rfl⟩
  exact ⟨0, ch, rfl, fun J' hJ' hm => ⟨a, cap, rfl, Rds.of_own hO hm⟩⟩
end Go.Proofs.YtegdcjnjnoeinaaGreat
namespace Go.Proofs.YtegdcjnjnoeinaaGreat
open Go.RowKit Go.Sl
set_option maxRecDepth 20000

/-- what a crash leaves of the blocks -/
def crash1 (keep : List Bool) (tn : Int) (sec i : Nat) (n : Nat) (b : Dat) (s : List Dat) : List Dat :=
  if (i : Int) = tn then s.set n (tornP (s.getD n []) b sec) else if keep.getD i false then s.set n b else s
def crashK (keep : List Bool) (tn : Int) (sec : Nat) : Nat → List (Int × Dat) → List Dat → List Dat
  | _, [], s => s
  | i, w :: ws, s => crashK keep tn sec (i + 1) ws (crash1 keep tn sec i w.1.toNat w.2 s)
theorem crashK_snoc (keep : List Bool) (tn : Int) (sec : Nat) : ∀ (ws : List (Int × Dat)) (i : Nat) (s : List Dat) (w : Int × Dat), crashK keep tn sec i (ws ++ [w]) s = crash1 keep tn sec (i + ws.length) w.1.toNat w.2 (crashK keep tn sec i ws s)
  | [], i, s, w => by simp [crashK]
  | x :: ws, i, s, w => by
    rw [List.cons_append, crashK, crashK_snoc keep tn sec ws, crashK, List.length_cons, show i + 1 + ws.length = i + (ws.length + 1) by omega]
theorem crash1_length (keep : List Bool) (tn : Int) (sec i n : Nat) (b : Dat) (s : List Dat) : (crash1 keep tn sec i n b s).length = s.length := by
  unfold crash1; split
  · simp
  · split <;> simp
theorem crash1_mem {keep : List Bool} {tn : Int} {sec i n : Nat} {b : Dat} {s : List Dat} (hb : b.length = 4096) (hs : ∀ x ∈ s, x.length = 4096) (hn : n < s.length) : ∀ x ∈ crash1 keep tn sec i n b s, x.length = 4096 := by
  intro x hx
  unfold crash1 at hx
  split at hx
  · rcases List.mem_or_eq_of_mem_set hx with hx | rfl
    · exact hs x hx
    · refine tornK_length ?_ hb sec 8 (by omega)
      rw [List.getD_eq_getElem?_getD, List.getElem?_eq_getElem hn]
      exact hs _ (List.getElem_mem hn)
  · split at hx
    · rcases List.mem_or_eq_of_mem_set hx with hx | rfl
      · exact hs x hx
      · exact hb
    · exact hs x hx
theorem crashK_length (keep : List Bool) (tn : Int) (sec : Nat) : ∀ (ws : List (Int × Dat)) (i : Nat) (s : List Dat), (crashK keep tn sec i ws s).length = s.length
  | [], _, _ => rfl
  | w :: ws, i, s => by rw [crashK, crashK_length keep tn sec ws, crash1_length]
theorem crashK_mem {keep : List Bool} {tn : Int} {sec : Nat} : ∀ (ws : List (Int × Dat)) (i : Nat) (s : List Dat), (∀ w ∈ ws, w.1.toNat < s.length ∧ w.2.length = 4096) → (∀ x ∈ s, x.length = 4096) → ∀ x ∈ crashK keep tn sec i ws s, x.length = 4096
  | [], _, _, _, hs => hs
  | w :: ws, i, s, hw, hs => by
    have h1 := hw w (by simp)
    exact crashK_mem ws (i + 1) _ (fun y hy => by rw [crash1_length]; exact hw y (by simp [hy])) (crash1_mem h1.2 hs h1.1)
def DSt.crash (d : DSt) (keep : List Bool) (tn : Int) (sec : Nat) : DSt := ⟨crashK keep tn sec 0 d.writes d.safe, crashK keep tn sec 0 d.writes d.safe, [], d.count, false, ⟨false, 0⟩, ⟨false, 0⟩⟩
theorem DSt.Wf.crash {d : DSt} (h : d.Wf) (keep : List Bool) (tn : Int) (sec : Nat) : (d.crash keep tn sec).Wf := by
  have hl := crashK_length keep tn sec d.writes 0 d.safe
  have hm := crashK_mem (keep := keep) (tn := tn) (sec := sec) d.writes 0 d.safe (fun w hw => by have h1 := h.writes w hw; have h2 := h.len; exact ⟨by omega, h1.2.2⟩) h.safe
  have h1 := h.len
  have h2 := h.range
  exact ⟨rfl, by show 1 ≤ (crashK keep tn sec 0 d.writes d.safe).length ∧ (crashK keep tn sec 0 d.writes d.safe).length ≤ 512; omega, hm, hm, fun w hw => (List.not_mem_nil hw).elim, fun h => (Bool.false_ne_true h).elim, fun h => (Bool.false_ne_true h).elim⟩
def bools (l : List Bool) : List Value := l.map Value.bool
theorem bools_get {l : List Bool} {i : Nat} (h : i < l.length) : (bools l)[i]? = some (.bool (l.getD i false)) := by
  rw [List.getD_eq_getElem?_getD, List.getElem?_eq_getElem h]
  simp [bools, h]
set_option maxHeartbeats 4000000 in
theorem disk_Crash (b : Nat) (d : DRec) (hnl : 1 ≤ d.now.len) (hsl : d.safe.len ≤ 1000000) (hwl : d.writes.len ≤ 1000000) (chS chN chW : List Blk) (safe now : List Bk) (ws : List (Int × Bk)) (I : Imm) (hD : DiskAt I d chS chN chW safe now ws) (hws : ∀ w ∈ ws, 0 ≤ w.1 ∧ w.1 < d.safe.len)
    (aK : Option Addr) (nK capK : Nat) (keep : List Bool) (hK : Rds I aK nK (bools keep)) (tn : Int) (sec : Nat) (hsec : sec < 256) :
    Tri Tryz.prog 34 #[.pointer (some ⟨b, 0, none⟩), .slice aK nK capK, .int .i64 tn, .int .u8 sec] I [dChunk b d, chS, chN, chW] fun v J S' =>
      v = .int .i64 0 ∧ ∃ (hS hN : Hd) (chS' chN' : List Blk) (bks : List Bk), bks.map Bk.data = crashK keep tn sec 0 (ws.map fun w => (w.1, w.2.data)) (safe.map Bk.data) ∧
        S' = [dChunk b ⟨hS, hN, ⟨none, 0, 0⟩, d.count, false, ⟨false, 0⟩, ⟨false, 0⟩⟩, chS', chN', []] ∧ DiskAt J ⟨hS, hN, ⟨none, 0, 0⟩, d.count, false, ⟨false, 0⟩, ⟨false, 0⟩⟩ chS' chN' [] bks bks [] := by
  refine Tri.drop ?_ (fun _ _ _ _ h => h)
  refine Tri.of (args := [.pointer (some ⟨b, 0, none⟩), .slice aK nK capK, .int .i64 tn, .int .u8 sec]) tabOk Tryz.func34 rfl (by kernel_rfl) (by kernel_rfl) ?_
  refine Tri.frame1 0 rfl (disk_none b d I) ?_
  rintro v J S' hJ ⟨rfl, rfl, rfl⟩
  refine ⟨_, rfl, ?_⟩
  rw [decide_eq_false (show ¬ d.now.len = 0 by omega)]
  have hKl : keep.length = nK := by have := hK.len; simpa [bools] using this
  obtain ⟨hSo, hNo, hWo, hokS, _, hokW⟩ := hD
  obtain ⟨⟨sa, sl, sc⟩, ⟨na, nl, nc⟩, ⟨wa, wl, wc⟩, count, down, ⟨ao, al⟩, ⟨fo, fl⟩⟩ := d
  dsimp only at hnl hsl hwl hSo hNo hWo hws
  have hwn : ws.length = wl := by have := hWo.n; rw [wCells_length] at this; omega
  refine LoadD.own 0 rfl [.slice wa wl wc] rfl rfl ?_
  refine CodeF.loopD [0, 1, 2, 3, 16, 17, 18] (fun vs J' S' => ∃ (i : Nat) (chS : List Blk) (bks : List Bk), i ≤ wl ∧ OwnC chS 1 sa sl sc (bks.map Bk.cell) ∧ bks.map Bk.data = crashK keep tn sec 0 ((ws.take i).map fun w => (w.1, w.2.data)) (safe.map Bk.data) ∧ (∀ b ∈ bks, BkOk J' b) ∧ I.le J' ∧
      vs = [.pointer (some ⟨b, 0, none⟩), .slice aK nK capK, .int .i64 tn, .int .u8 sec, .slice wa wl wc, .int .i64 wl, .int .i64 i] ∧ S' = [dChunk b ⟨⟨sa, sl, sc⟩, ⟨na, nl, nc⟩, ⟨wa, wl, wc⟩, count, down, ⟨ao, al⟩, ⟨fo, fl⟩⟩, chS, chN, chW])
    (fun vs _ _ => match vs with | [_, _, _, _, _, _, .int _ i] => ((wl : Int) - i).toNat | _ => 0) ?_ ?_
  · exact ⟨_, Drop.refl _, 0, chS, safe, by omega, hSo, rfl, hokS, Imm.le_refl _, rfl, rfl⟩
  rintro vs gE J' S' hJ' ⟨i, chS, bks, hi, hS, hdat, hbok, hle, rfl, rfl⟩
  have hbl : bks.length = sl := by have := hS.n; rw [List.length_map] at this; omega
  refine CmpD.split (fun (c1 : (i : Int) < wl) => ?_) (fun (c1 : ¬ (i : Int) < wl) => ?_)
  · have hil : i < ws.length := by omega
    have hwi := hws _ (List.getElem_mem hil)
    obtain ⟨hwo, hwc⟩ := hokW _ (List.getElem_mem hil)
    have hcell := wCells_at hil
    have htake : ws.take (i + 1) = ws.take i ++ [ws[i]] := by rw [List.take_add_one, List.getElem?_eq_getElem hil]; rfl
    have hlt : (ws.take i).length = i := by rw [List.length_take]; omega
    obtain ⟨bW, oW, rfl, hcW⟩ := SlC.cells (hWo.slC (I := J') (S := [dChunk b ⟨⟨sa, sl, sc⟩, ⟨na, nl, nc⟩, ⟨wa, wl, wc⟩, count, down, ⟨ao, al⟩, ⟨fo, fl⟩⟩, chS, chN, chW]) 3 rfl) (by omega)
    generalize ws[i] = w at *
    obtain ⟨wn, wb⟩ := w
    dsimp only at hwi hwo hwc hcell
    obtain ⟨n, rfl⟩ : ∃ n : Nat, wn = n := ⟨wn.toNat, by omega⟩
    have hwo' := BkOk.mono hwo hle
    have hnew : ∀ bks' : List Bk, bks'.map Bk.data = crash1 keep tn sec i n wb.data (bks.map Bk.data) → bks'.map Bk.data = crashK keep tn sec 0 ((ws.take (i + 1)).map fun w => (w.1, w.2.data)) (safe.map Bk.data) := by
      intro bks' h
      rw [htake, List.map_append, List.map_singleton, crashK_snoc, List.length_map, hlt, Nat.zero_add, ← hdat, h]; rfl
    refine Chk.mk (by omega) ?_
    refine LoadD.mk [.int .i64 n, wb.cell] (by have := hcW.part (i := i * 2) (m := 2) (by omega); rw [hcell] at this; exact this) ?_
    conv => whnf
    intro b10
    refine StoreD.st 4 rfl rfl rfl ?_
    rcases hS.at' with q0 | ⟨bX, pre, post, TX, rfl, rfl, hpost⟩
    · have := hS.le; omega
    have hnb : n < bks.length := by omega
    have hset : ∀ bk : Bk, splice (pre ++ bks.map Bk.cell ++ post) (pre.length + n) [bk.cell] = pre ++ (bks.set n bk).map Bk.cell ++ post := by
      intro bk
      rw [splice_mid _ _ _ _ _ (by simp; omega), List.map_set, List.set_eq_take_append_cons_drop, if_pos (by simp; omega)]
      simp
    have hown : ∀ bk : Bk, OwnC [(bX, row (pre ++ (bks.set n bk).map Bk.cell ++ post) TX)] 1 (some ⟨bX, pre.length, none⟩) sl sc ((bks.set n bk).map Bk.cell) := fun bk => ⟨by simp [hbl], hS.le, .inr ⟨bX, pre, post, TX, rfl, rfl, hpost⟩⟩
    have hXc : Cells J' [[(bX, row (pre ++ bks.map Bk.cell ++ post) TX)]] bX pre.length sl (bks.map Bk.cell) := ⟨_, TX, (0, 0), .one 0 rfl, by have := own_take pre (bks.map Bk.cell) post; rwa [List.length_map, hbl] at this, by rw [List.length_map, hbl]⟩
    refine CmpD.split (fun (c2 : (i : Int) = tn) => ?_) (fun (c2 : ¬ (i : Int) = tn) => ?_)
    · refine CodeF.sched [[], [0], [0, 1], [0, 1, 2], [], [4], [], [6], [6, 7], [6, 7, 8], [], [10], [6, 7, 8, 9, 10, 11], [6, 7, 8, 9, 10, 11, 12], [], [14], [], [6, 7, 8, 9, 10, 11, 12, 13, 14, 15, 16], [0, 1, 2, 3, 4, 5, 6, 7, 8, 9, 10, 11, 12, 13, 14, 15, 16, 17], [0, 1, 2, 3, 4, 5, 6, 7, 8, 9, 10, 11, 12, 13, 14, 15, 16, 17, 18]] [0, 1, 2, 3, 4, 5, 6, 7, 8, 9, 10, 11, 12, 13, 14, 15, 16, 17, 18, 19] (by kernel_rfl) ?_
      repeat (first | refine LoadP.at 0 rfl _ rfl rfl ?_ | refine LoadP.at 4 rfl _ rfl rfl ?_)
      refine Chk.mk (by omega) ?_
      refine LoadP.own 1 [(bks[n]).cell] (hXc.at (by rw [Int.toNat_natCast, List.getElem?_map, List.getElem?_eq_getElem hnb]; rfl)) ?_
      repeat (first | refine LoadP.at 4 rfl _ rfl rfl ?_)
      have hbo := hbok _ (List.getElem_mem hnb)
      refine Tri.free (torn_fix J' (bks[n]).a (bks[n]).cap (bks[n]).data hbo wb.a wb.cap wb.data hwo' hwc sec hsec) ?_
      rintro v J2 _ hJ2 ⟨aT, capT, rfl, hT⟩
      repeat (first | refine Chk.mk ⟨rfl, rfl, trivial⟩ ?_)
      refine Chk.mk (by omega) ?_
      refine StoreD.to 1 rfl _ (hset ⟨aT, capT, tornP (bks[n]).data wb.data sec⟩) (by simp only [List.length_append, List.length_map, hbl]; show pre.length + n + 1 ≤ _; omega) (.inr (.inr (Nat.le_refl _))) _ rfl ?_
      refine ToD.i64 (by omega) (by omega) ?_
      refine ⟨_, Drop.pick [0, 1, 2, 3] _ rfl, ⟨i + 1, _, bks.set n ⟨aT, capT, tornP (bks[n]).data wb.data sec⟩, by omega, hown _, hnew _ ?_, ?_, Imm.le_trans hle hJ2, rfl, rfl⟩, ?_⟩
      · rw [crash1, if_pos c2, List.map_set, List.getD_eq_getElem?_getD, List.getElem?_map, List.getElem?_eq_getElem hnb]; rfl
      · intro y hy
        rcases List.mem_or_eq_of_mem_set hy with hy | rfl
        · exact (hbok y hy).mono hJ2
        · exact hT
      · show ((wl : Int) - ((i : Int) + 1)).toNat < ((wl : Int) - (i : Int)).toNat; omega
    · have hskip : keep.getD i false = false → bks.map Bk.data = crash1 keep tn sec i n wb.data (bks.map Bk.data) := fun h => by rw [crash1, if_neg c2, h]; rfl
      refine CmpD.split (fun (c3 : (i : Int) < nK) => ?_) (fun (c3 : ¬ (i : Int) < nK) => ?_)
      · have hkb := bools_get (l := keep) (i := i) (by omega)
        rcases hK.mem with q0 | ⟨bK, oK, cK, TK, fK, rfl, hIK, hcK⟩
        · omega
        refine Chk.mk (by omega) ?_
        refine LoadD.imm (hle _ _ hIK) [.bool (keep.getD i false)] (take_get hcK hkb) rfl ?_
        cases hkv : keep.getD i false with
        | true =>
          skip
          refine CodeF.sched [[], [0], [0, 1], [0, 1, 2], [], [4], [], [6], [0, 1, 2, 3, 4, 5, 6, 7], [0, 1, 2, 3, 4, 5, 6, 7, 8]] [0, 1, 2, 3, 4, 5, 6, 7, 8, 9] (by kernel_rfl) ?_
          repeat (first | refine LoadP.at 0 rfl _ rfl rfl ?_ | refine LoadP.at 4 rfl _ rfl rfl ?_)
          refine Chk.mk (by omega) ?_
          refine StoreD.to 1 rfl _ (hset wb) (by simp only [List.length_append, List.length_map, hbl]; show pre.length + n + 1 ≤ _; omega) (.inr (.inr (Nat.le_refl _))) _ rfl ?_
          refine ToD.i64 (by omega) (by omega) ?_
          refine ⟨_, Drop.pick [0, 1, 2, 3] _ rfl, ⟨i + 1, _, bks.set n wb, by omega, hown _, hnew _ ?_, ?_, hle, rfl, rfl⟩, ?_⟩
          · rw [crash1, if_neg c2, hkv, if_pos rfl, List.map_set]
          · intro y hy
            rcases List.mem_or_eq_of_mem_set hy with hy | rfl
            · exact hbok y hy
            · exact hwo'
          · show ((wl : Int) - ((i : Int) + 1)).toNat < ((wl : Int) - (i : Int)).toNat; omega
        | false =>
          skip
          refine ToD.i64 (by omega) (by omega) ?_
          refine ⟨_, Drop.pick [0, 1, 2, 3] _ rfl, ⟨i + 1, _, bks, by omega, hS, hnew _ (hskip hkv), hbok, hle, rfl, rfl⟩, ?_⟩
          show ((wl : Int) - ((i : Int) + 1)).toNat < ((wl : Int) - (i : Int)).toNat; omega
      · refine ToD.i64 (by omega) (by omega) ?_
        refine ⟨_, Drop.pick [0, 1, 2, 3] _ rfl, ⟨i + 1, _, bks, by omega, hS, hnew _ (hskip (by rw [List.getD_eq_getElem?_getD, List.getElem?_eq_none (by omega)]; rfl)), hbok, hle, rfl, rfl⟩, ?_⟩
        show ((wl : Int) - ((i : Int) + 1)).toNat < ((wl : Int) - (i : Int)).toNat; omega
  · obtain rfl : i = wl := by omega
    rw [← hwn, List.take_length] at hdat
    refine LoadD.own 0 rfl [.slice sa sl sc] rfl rfl ?_
    refine (clone_blocks J' _ sa sl sc (bks.map Bk.cell) (hS.slC 1 rfl) (by intro v hv; obtain ⟨b, _, rfl⟩ := List.mem_map.1 hv; rfl) (by omega)).mono ?_
    rintro v J3 S3 hJ3 ⟨aN, capN, chN', rfl, hN', rfl, rfl⟩
    refine StoreD.st 0 rfl rfl rfl ?_
    refine StoreD.st 0 rfl rfl rfl ?_
    refine StoreD.st 0 rfl rfl rfl ?_
    refine StoreD.st 0 rfl rfl rfl ?_
    refine StoreD.st 0 rfl rfl rfl ?_
    refine Done.mk ⟨[dChunk b ⟨⟨sa, sl, sc⟩, ⟨aN, sl, capN⟩, ⟨none, 0, 0⟩, count, false, ⟨false, 0⟩, ⟨false, 0⟩⟩, chS, chN', []], Drop.and (Drop.pick [0, 1, 4] _ rfl), rfl, ⟨sa, sl, sc⟩, ⟨aN, sl, capN⟩, chS, chN', bks, hdat, rfl, ⟨hS, hN', OwnC.nil _ _, hbok, hbok, by simp⟩⟩
theorem dk_Crash {I : Imm} {bD : Nat} {st : DSt} {ch : List Blk} (h : Dk I bD st ch) (hf : st.Few 1000000) (aK : Option Addr) (nK capK : Nat) (keep : List Bool) (hK : Rds I aK nK (bools keep)) (tn : Int) (sec : Nat) (hsec : sec < 256) :
    Tri Tryz.prog 34 #[.pointer (some ⟨bD, 0, none⟩), .slice aK nK capK, .int .i64 tn, .int .u8 sec] I [ch] fun v J S' => v = .int .i64 0 ∧ ∃ ch', Dk J bD (st.crash keep tn sec) ch' ∧ S' = [ch'] := by
  have hwf := h.wf.crash keep tn sec
  obtain ⟨hw, d, chS, chN, chW, bS, bN, bW, rfl, hD, q1, q2, q3, q4, q5, q6, q7⟩ := h
  have hl := hD.hN.len1
  have hl' : st.now.length = d.now.len := by rw [← q2]; simpa using hl
  have hls := hD.hS.len1
  have hls' : st.safe.length = d.safe.len := by rw [← q1]; simpa using hls
  have hr := hw.range
  have hwl := hw.len
  have hW := hD.hW.n
  rw [wCells_length] at hW
  have hW' : st.writes.length = d.writes.len := by rw [← q3, List.length_map]; omega
  obtain ⟨f1, f2, f3⟩ := hf
  refine Tri.abs (S2 := [dChunk bD d, chS, chN, chW]) (by simp) (disk_Crash bD d (by omega) (by omega) (by omega) chS chN chW bS bN bW I hD (fun w hw2 => by
    have := hw.writes (w.1, w.2.data) (by rw [← q3]; exact List.mem_map.2 ⟨w, hw2, rfl⟩)
    dsimp only at this
    omega) aK nK capK keep hK tn sec hsec) ?_
  rintro v J S' hJ ⟨rfl, hS, hN, chS', chN', bks, hbd, rfl, hDA⟩
  rw [q1, q3] at hbd
  exact ⟨[dChunk bD ⟨hS, hN, ⟨none, 0, 0⟩, d.count, false, ⟨false, 0⟩, ⟨false, 0⟩⟩ ++ (chS' ++ (chN' ++ []))], Drop.flat (by simp), rfl, _, ⟨hwf, _, chS', chN', [], bks, bks, [], rfl, hDA, hbd, hbd, rfl, q4, rfl, rfl, rfl⟩, rfl⟩
end Go.Proofs.YtegdcjnjnoeinaaGreat
namespace Go.Proofs.YtegdcjnjnoeinaaGreat
open Go.RowKit Go.Sl
set_option maxRecDepth 20000

theorem put5_at {l m : Dat} {k j : Nat} (hm : m.length = 512) (hl : l.length = 4096) (hk : k < 8) :
    (put5 l m k)[j]? = if j / 512 = k then m[j % 512]? else l[j]? := by
  unfold put5
  have h1 : (l.take (k * 512)).length = k * 512 := by rw [List.length_take]; omega
  rw [List.append_assoc]
  rcases Nat.lt_or_ge j (k * 512) with g | g
  · rw [List.getElem?_append_left (by omega), List.getElem?_take, if_pos g, if_neg (by omega)]
  rw [List.getElem?_append_right (by omega), h1]
  rcases Nat.lt_or_ge (j - k * 512) 512 with g2 | g2
  · rw [List.getElem?_append_left (by omega), if_pos (by omega)]
    congr 1; omega
  · rw [List.getElem?_append_right (by omega), hm, List.getElem?_drop]
    have e : k * 512 + 512 + (j - k * 512 - 512) = j := by omega
    rw [e, if_neg (by omega)]
theorem tornK_at {old new : Dat} (h1 : old.length = 4096) (h2 : new.length = 4096) (sec : Nat) : ∀ (n : Nat), n ≤ 8 → ∀ j, j < 4096 → (tornK old new sec n)[j]? = if j / 512 < n ∧ sec / 2 ^ (j / 512) % 2 = 1 then new[j]? else old[j]?
  | 0, _, j, _ => by unfold tornK; rw [if_neg (by omega)]
  | n + 1, hn, j, hj => by
    have ih := tornK_at h1 h2 sec n (by omega) j hj
    have hl := tornK_length h1 h2 sec n (by omega)
    rw [tornK_succ]
    by_cases hs : sec / 2 ^ n % 2 = 1
    · rw [if_pos hs, put5_at (by rw [List.length_take, List.length_drop]; omega) hl (by omega), ih]
      by_cases hj2 : j / 512 = n
      · rw [if_pos hj2, if_pos ⟨by omega, by rw [hj2]; exact hs⟩, List.getElem?_take, if_pos (by omega), List.getElem?_drop]
        congr 1; omega
      · rw [if_neg hj2]
        by_cases h3 : j / 512 < n ∧ sec / 2 ^ (j / 512) % 2 = 1
        · rw [if_pos h3, if_pos ⟨by omega, h3.2⟩]
        · rw [if_neg h3, if_neg (fun h => h3 ⟨by omega, h.2⟩)]
    · rw [if_neg hs, ih]
      by_cases h3 : j / 512 < n ∧ sec / 2 ^ (j / 512) % 2 = 1
      · rw [if_pos h3, if_pos ⟨by omega, h3.2⟩]
      · rw [if_neg h3]
        by_cases h4 : j / 512 < n + 1 ∧ sec / 2 ^ (j / 512) % 2 = 1
        · exfalso
          by_cases hj2 : j / 512 = n
          · exact hs (hj2 ▸ h4.2)
          · exact h3 ⟨by omega, h4.2⟩
        · rw [if_neg h4]
/-- no sector bears this stamp -/
def Foreign (m b : Dat) : Prop := ∀ k, k < 8 → (b.drop (k * 512)).take 8 ≠ m
theorem torn_bears {old new m : Dat} (h1 : old.length = 4096) (h2 : new.length = 4096) (hm : m.length = 8) (hf : Foreign m old) {sec : Nat} (hb : Bears m (tornP old new sec)) : tornP old new sec = new := by
  have hl : (tornP old new sec).length = 4096 := tornK_length h1 h2 sec 8 (by omega)
  have hat := tornK_at h1 h2 sec 8 (by omega)
  have hbit : ∀ k, k < 8 → sec / 2 ^ k % 2 = 1 := by
    intro k hk
    by_cases h : sec / 2 ^ k % 2 = 1
    · exact h
    exfalso
    refine hf k hk (extN 8 (by rw [List.length_take, List.length_drop]; omega) hm fun i hi => ?_)
    have := (bears_at hm hl).1 hb (k * 512 + i) (by omega) (by omega)
    rw [tornP, hat _ (by omega), if_neg (by rw [show (k * 512 + i) / 512 = k by omega]; exact fun h' => h h'.2)] at this
    rw [List.getElem?_take, if_pos hi, List.getElem?_drop, this]
    congr 1; omega
  refine ext4096 hl h2 fun j hj => ?_
  rw [tornP, hat j hj, if_pos ⟨by omega, hbit _ (by omega)⟩]
theorem bears_foreign {m m' b : Dat} (h : Bears m b) (hn : m ≠ m') : Foreign m' b := fun k hk => by rw [h k hk]; exact hn
end Go.Proofs.YtegdcjnjnoeinaaGreat
namespace Go.Proofs.YtegdcjnjnoeinaaGreat
open Go.RowKit Go.Sl
set_option maxRecDepth 20000

def supA : Dat := supL (superOf 1 7)
def supB : Dat := supL (superOf 2 9)
theorem supB_length : supB.length = 4096 := supL_length _
theorem supL_rest (s : Sup) {j : Nat} (h1 : 44 ≤ j) (h2 : j < 4096) : (supL s)[j]? = some 0 := by
  have := sup44_length s
  rw [supL, List.getElem?_append_right (by omega), List.getElem?_replicate, if_pos (by omega)]
theorem torn_sup (sec : Nat) : tornP noughts supB sec = noughts ∨ tornP noughts supB sec = supB := by
  have hat := tornK_at noughts_length supB_length sec 8 (by omega)
  have hl : (tornP noughts supB sec).length = 4096 := tornK_length noughts_length supB_length sec 8 (by omega)
  have hz : ∀ j, 512 ≤ j → j < 4096 → (tornP noughts supB sec)[j]? = some 0 := by
    intro j h1 h2
    rw [tornP, hat j h2]
    split
    · exact supL_rest _ (by omega) h2
    · exact noughts_get h2
  by_cases h0 : sec / 2 ^ 0 % 2 = 1
  · right
    refine ext4096 hl supB_length fun j hj => ?_
    rcases Nat.lt_or_ge j 512 with g | g
    · rw [tornP, hat j hj, show j / 512 = 0 by omega, if_pos ⟨by omega, h0⟩]
    · rw [hz j g hj]; exact (supL_rest _ (by omega) hj).symm
  · left
    refine ext4096 hl noughts_length fun j hj => ?_
    rcases Nat.lt_or_ge j 512 with g | g
    · rw [tornP, hat j hj, show j / 512 = 0 by omega, if_neg (fun h => h0 h.2)]
    · rw [hz j g hj, noughts_get hj]
theorem torn_same {b : Dat} (hb : b.length = 4096) (sec : Nat) : tornP b b sec = b := by
  refine ext4096 (tornK_length hb hb sec 8 (by omega)) hb fun j hj => ?_
  rw [tornP, tornK_at hb hb sec 8 (by omega) j hj]
  split <;> rfl
/-- blocks that may lie behind any cut -/
structure PB (K : List Int) (l : List Dat) : Prop where
  len : l.length = 64
  z : l[0]? = some supA
  o : l[1]? = some noughts ∨ l[1]? = some supB
  r : ∀ n : Nat, 2 ≤ n → n < 64 → (n : Int) ∉ K → l[n]? = some noughts
def WB (K : List Int) (ws : List (Int × Dat)) : Prop := ∀ w ∈ ws, (w.1 ∈ K ∧ 2 ≤ w.1) ∨ w = (1, supB)
structure QB (K : List Int) (d : DSt) : Prop where
  safe : PB K d.safe
  now : PB K d.now
  ws : WB K d.writes
theorem PB.set {K : List Int} {l : List Dat} (h : PB K l) {n : Int} (hn : n ∈ K ∧ 2 ≤ n) (b : Dat) : PB K (l.set n.toNat b) := by
  refine ⟨by rw [List.length_set]; exact h.len, by rw [List.getElem?_set_ne (by omega)]; exact h.z, ?_, fun m h1 h2 h3 => ?_⟩
  · rw [List.getElem?_set_ne (by omega)]; exact h.o
  · have : n.toNat ≠ m := by
      intro e
      apply h3
      rw [show ((m : Nat) : Int) = n by omega]; exact hn.1
    rw [List.getElem?_set_ne this]; exact h.r m h1 h2 h3
theorem PB.set1 {K : List Int} {l : List Dat} (h : PB K l) {b : Dat} (hb : b = noughts ∨ b = supB) : PB K (l.set 1 b) := by
  have hl := h.len
  refine ⟨by rw [List.length_set]; exact h.len, by rw [List.getElem?_set_ne (by omega)]; exact h.z, ?_, fun m h1 h2 h3 => ?_⟩
  · rw [List.getElem?_set_self (by omega)]
    rcases hb with rfl | rfl
    · exact .inl rfl
    · exact .inr rfl
  · rw [List.getElem?_set_ne (by omega)]; exact h.r m h1 h2 h3
theorem PB.wr {K : List Int} {l : List Dat} (h : PB K l) {n : Int} {b : Dat} (hw : (n ∈ K ∧ 2 ≤ n) ∨ (n, b) = (1, supB)) : PB K (l.set n.toNat b) := by
  rcases hw with hw | hw
  · exact h.set hw b
  · cases hw
    exact h.set1 (.inr rfl)
theorem QB.stop {K : List Int} {d : DSt} (h : QB K d) : QB K d.stop.1 := by
  obtain ⟨e1, e2, e3, _⟩ := d.stop_same
  exact ⟨by rw [e1]; exact h.safe, by rw [e2]; exact h.now, by rw [e3]; exact h.ws⟩
theorem QB.write {K : List Int} {d : DSt} (h : QB K d) {n : Int} {b : Dat} (hw : (n ∈ K ∧ 2 ≤ n) ∨ (n, b) = (1, supB)) : QB K (d.write n b).1 := by
  unfold DSt.write
  split
  · exact h
  split
  · exact h
  split
  · exact h.stop
  obtain ⟨e1, _, _, _⟩ := d.stop_same
  refine ⟨by show PB K d.stop.1.safe; rw [e1]; exact h.safe, h.now.wr hw, ?_⟩
  intro w hm
  have hm : w ∈ d.writes ++ [(n, b)] := hm
  rcases List.mem_append.1 hm with hm | hm
  · exact h.ws w hm
  · simp only [List.mem_singleton] at hm
    subst hm; exact hw
theorem QB.flush {K : List Int} {d : DSt} (h : QB K d) : QB K d.flush.1 := by
  unfold DSt.flush
  split
  · exact h.stop
  obtain ⟨_, e2, _, _⟩ := d.stop_same
  exact ⟨h.now, by show PB K d.stop.1.now; rw [e2]; exact h.now, fun w hm => (List.not_mem_nil hm).elim⟩
theorem QB.imgs {K : List Int} : ∀ (l : List PImg) (d : DSt), QB K d → (∀ g ∈ l, g.1 ∈ K ∧ 2 ≤ g.1) → QB K (wrImgs l d).1
  | [], _, h, _ => h
  | g :: l, d, h, hl => by
    have h1 := h.write (b := g.2) (.inl (hl g (by simp)))
    rw [wrImgs]
    split
    · exact h1
    · exact QB.imgs l _ h1 fun x hx => hl x (by simp [hx])
theorem QB.last {K : List Int} {d : DSt} (h : QB K d) : QB K (lastWr d 1 (superOf 2 9)).1 := by
  have h1 := h.write (n := 1) (b := supB) (.inr rfl)
  unfold lastWr
  split
  · exact h1
  · exact h1.flush
theorem QB.doP {K : List Int} {d : DSt} (h : QB K d) {l : List PImg} (hl : ∀ g ∈ l, g.1 ∈ K ∧ 2 ≤ g.1) : QB K (doP d l (superOf 2 9) 1).1 := by
  have h1 := QB.imgs l d h hl
  unfold Go.Proofs.YtegdcjnjnoeinaaGreat.doP
  split
  · exact h
  split
  · exact h1
  split
  · exact h1.flush
  · exact h1.flush.last
theorem PB.crash {K : List Int} (keep : List Bool) (tn : Int) (sec : Nat) : ∀ (ws : List (Int × Dat)) (i : Nat) (s : List Dat), PB K s → WB K ws → PB K (crashK keep tn sec i ws s)
  | [], _, _, h, _ => h
  | w :: ws, i, s, h, hw => by
    rw [crashK]
    refine PB.crash keep tn sec ws (i + 1) _ ?_ fun x hx => hw x (by simp [hx])
    have h0 := hw w (by simp)
    obtain ⟨n, b⟩ := w
    unfold crash1
    dsimp only at h0 ⊢
    split
    · rcases h0 with h0 | h0
      · exact h.set h0 _
      · cases h0
        refine h.set1 ?_
        rw [show (1 : Int).toNat = 1 from rfl, List.getD_eq_getElem?_getD]
        rcases h.o with ho | ho
        · rw [ho]; exact torn_sup sec
        · rw [ho]; exact .inr (torn_same supB_length sec)
    · split
      · exact h.wr h0
      · exact h
theorem QB.crash {K : List Int} {d : DSt} (h : QB K d) (keep : List Bool) (tn : Int) (sec : Nat) : QB K (d.crash keep tn sec) :=
  ⟨PB.crash keep tn sec _ _ _ h.safe h.ws, PB.crash keep tn sec _ _ _ h.safe h.ws, fun _ hm => (List.not_mem_nil hm).elim⟩
/-! ### the last time, with nothing in the way -/
def wrC : List PImg → DSt → DSt
  | [], d => d
  | g :: l, d => wrC l (d.put g.1 g.2)
theorem wrC_imgs : ∀ (l : List PImg) (d : DSt), d.Calm → DoOk d l → wrImgs l d = (wrC l d, 0)
  | [], _, _, _ => rfl
  | g :: l, d, hc, h => by
    obtain ⟨h1, h2, h3⟩ := h g (by simp)
    rw [wrImgs, DSt.write_calm hc ⟨by omega, h2⟩ h3, wrC]
    simp only [ne_eq, not_true_eq_false, if_false]
    exact wrC_imgs l _ (hc.put _ _) fun x hx => by
      have := h x (by simp [hx])
      rw [DSt.put_len]; exact this
theorem wrC_calm : ∀ (l : List PImg) (d : DSt), d.Calm → (wrC l d).Calm
  | [], _, h => h
  | _ :: l, _, h => wrC_calm l _ (h.put _ _)
theorem wrC_now : ∀ (l : List PImg) (d : DSt), (∀ g ∈ l, 2 ≤ g.1) → (∀ g ∈ l, g.1 < d.now.length) → (wrC l d).now.length = d.now.length ∧ ∀ n : Nat, n < d.now.length → (wrC l d).now[n]? = match lastD l n with
    | some x => some x
    | none => d.now[n]? := by
  intro l
  refine snoc_ind (p := fun l : List PImg => ∀ d : DSt, (∀ g ∈ l, 2 ≤ g.1) → (∀ g ∈ l, g.1 < (d.now.length : Int)) → (wrC l d).now.length = d.now.length ∧ ∀ n : Nat, n < d.now.length → (wrC l d).now[n]? = match lastD l n with
    | some x => some x
    | none => d.now[n]?) ?_ ?_ l
  · intro d _ _; exact ⟨rfl, fun n _ => rfl⟩
  · intro l g ih d h2 h3
    have e : ∀ (l : List PImg) (d : DSt), wrC (l ++ [g]) d = (wrC l d).put g.1 g.2 := by
      intro l
      induction l with
      | nil => intro d; rfl
      | cons x l ih2 => intro d; exact ih2 _
    obtain ⟨q1, q2⟩ := ih d (fun x hx => h2 x (by simp [hx])) (fun x hx => h3 x (by simp [hx]))
    rw [e]
    refine ⟨by rw [DSt.put_len]; exact q1, fun n hn => ?_⟩
    have hg2 := h2 g (by simp)
    have hg3 := h3 g (by simp)
    rw [lastD_snoc]
    show ((wrC l d).now.set g.1.toNat g.2)[n]? = _
    by_cases hgn : g.1 = n
    · rw [if_pos hgn, show g.1.toNat = n by omega, List.getElem?_set_self (by omega)]
    · rw [if_neg hgn, List.getElem?_set_ne (by omega)]
      exact q2 n hn
end Go.Proofs.YtegdcjnjnoeinaaGreat
namespace Go.Proofs.YtegdcjnjnoeinaaGreat
open Go.RowKit Go.Sl
set_option maxRecDepth 20000

theorem lastD_mem : ∀ (l : List PImg) (n : Int) (x : Dat), lastD l n = some x → ∃ g ∈ l, g.1 = n ∧ g.2 = x := by
  intro l
  refine snoc_ind (p := fun l : List PImg => ∀ (n : Int) (x : Dat), lastD l n = some x → ∃ g ∈ l, g.1 = n ∧ g.2 = x) ?_ ?_ l
  · intro n x h; cases h
  · intro l g ih n x h
    rw [lastD_snoc] at h
    split at h
    · rename_i hg
      exact ⟨g, by simp, hg, Option.some.inj h⟩
    · obtain ⟨y, hy, h1⟩ := ih n x h
      exact ⟨y, by simp [hy], h1⟩
theorem lastD_none {l : List PImg} {n : Int} (h : n ∉ l.map Prod.fst) : lastD l n = none := by
  cases hd : lastD l n with
  | none => rfl
  | some x =>
    obtain ⟨g, hg, h1, _⟩ := lastD_mem l n x hd
    exact absurd (List.mem_map.2 ⟨g, hg, h1⟩) h
structure HomL (l L : List PImg) : Prop where
  ok : ∀ g ∈ L, 18 ≤ g.1 ∧ g.1 < 64 ∧ g.2.length = 4096
  last : ∀ n, lastD L n = lastD l n
  few : L.length ≤ 46
theorem getD_some {l : List Dat} {n : Nat} {x : Dat} (h : l[n]? = some x) : l.getD n [] = x := by rw [List.getD_eq_getElem?_getD, h]; rfl
end Go.Proofs.YtegdcjnjnoeinaaGreat
namespace Go.Proofs.YtegdcjnjnoeinaaGreat
open Go.RowKit Go.Sl
set_option maxRecDepth 20000

theorem scanK_right {rb : Nat → Dat} {ep : Int} : ∀ (f at_ : Nat) (seq : Int) (room : Nat), ∀ g ∈ scanK rb ep f at_ seq room, RightP g.1 g.2.1 g.2.2
  | 0, _, _, _, g, hg => by simp [scanK] at hg
  | f + 1, at_, seq, room, g, hg => by
    rw [scanK] at hg
    cases hp : grpP rb at_ room with
    | none => rw [hp] at hg; simp at hg
    | some p =>
      obtain ⟨e, s, l⟩ := p
      rw [hp] at hg
      dsimp only at hg
      split at hg
      · rcases List.mem_cons.1 hg with rfl | hg
        · unfold grpP at hp
          split at hp
          · cases hp
          · split at hp
            · exact (getP_some hp).1
            · cases hp
        · exact scanK_right f _ _ _ g hg
      · simp at hg
theorem home_mem {l : List PImg} {g : PImg} (h : g ∈ homeP l) : g ∈ l := by
  unfold homeP at h
  obtain ⟨n, hn, rfl⟩ := List.mem_map.1 h
  have h1 := (sortI_perm _).mem_iff.1 hn
  have h2 := (mem_lastP l n).1 h1
  rw [lookup_lastP]
  cases hd : lastD l n with
  | none => rw [hd] at h2; simp at h2
  | some x =>
    obtain ⟨g, hg, h3, h4⟩ := lastD_mem l n x hd
    show (n, x) ∈ l
    rw [← h3, ← h4]
    exact hg
theorem homeP_len (l : List PImg) : (homeP l).length ≤ l.length := by
  have e2 : (homeP l).length = (lastP l).length := by unfold homeP; rw [List.length_map, (sortI_perm _).length_eq, List.length_map]
  have h : ∀ (l ms : List PImg), (l.foldl pput ms).length ≤ ms.length + l.length := by
    intro l
    induction l with
    | nil => intro ms; simp
    | cons g l ih =>
      intro ms
      have h1 := ih (pput ms g)
      have h2 : (pput ms g).length ≤ ms.length + 1 := by unfold pput; split <;> simp
      rw [List.foldl_cons, List.length_cons]; omega
  have := h l []
  rw [e2]; simpa [lastP] using this
theorem choose_right {a b : Option Sup} {s : Sup} {slot : Int} (ha : ∀ x, a = some x → RightS x) (hb : ∀ x, b = some x → RightS x) (h : chooseP a b = (s, slot, true)) : RightS s ∧ (slot = 0 ∨ slot = 1) := by
  cases a with
  | none =>
    cases b with
    | none => simp [chooseP] at h
    | some y =>
      simp only [chooseP, Prod.mk.injEq] at h
      obtain ⟨rfl, rfl, _⟩ := h
      exact ⟨hb _ rfl, .inr rfl⟩
  | some x =>
    cases b with
    | none =>
      simp only [chooseP, Prod.mk.injEq] at h
      obtain ⟨rfl, rfl, _⟩ := h
      exact ⟨ha _ rfl, .inl rfl⟩
    | some y =>
      simp only [chooseP] at h
      split at h
      · simp only [Prod.mk.injEq] at h
        obtain ⟨rfl, rfl, _⟩ := h
        exact ⟨ha _ rfl, .inl rfl⟩
      · simp only [Prod.mk.injEq] at h
        obtain ⟨rfl, rfl, _⟩ := h
        exact ⟨hb _ rfl, .inr rfl⟩
theorem getS_right (b : Dat) : ∀ x, getS b = some x → RightS x := fun _ h => (getS_some.1 h).1
theorem found_ok {d : DSt} (h : (foundP d).2.2 = 0) : d.down = false ∧ RightS (foundP d).1 ∧ ((foundP d).2.1 = 0 ∨ (foundP d).2.1 = 1) ∧ (foundP d).1.blocks = d.now.length ∧ (foundP d).1.tail < layL d.now.length ∧ (foundP d).1.epoch < 8388608 := by
  have hc := @choose_right (getS (d.now.getD 0 [])) (getS (d.now.getD 1 [])) 
  unfold foundP at h ⊢
  generalize chooseP (getS (d.now.getD 0 [])) (getS (d.now.getD 1 [])) = cp at *
  obtain ⟨s, slot, ok⟩ := cp
  by_cases hd : d.down = true
  · rw [if_pos hd] at h; simp at h
  rw [if_neg hd] at h ⊢
  dsimp only at h ⊢
  split at h
  · simp at h
  · rename_i hn
    rw [if_neg hn]
    have h1 : ok = true := by
      cases ok
      · exact absurd (.inl rfl) hn
      · rfl
    subst h1
    obtain ⟨r1, r2⟩ := hc (getS_right _) (getS_right _) rfl
    refine ⟨by simpa using hd, r1, r2, ?_, ?_, ?_⟩
    · exact Classical.byContradiction fun h => hn (.inr (.inl h))
    · exact Classical.byContradiction fun h => hn (.inr (.inr (.inl (by have h : ¬ s.tail < layL d.now.length := h; omega))))
    · exact Classical.byContradiction fun h => hn (.inr (.inr (.inr (by have h : ¬ s.epoch < 8388608 := h; omega))))
theorem allP_allG {J : Imm} {gl : List Grp} {l : List G3} (h : GrpsOk J gl l) : allP gl = allG l := by
  have e := congrArg (fun x => x.flatMap fun p : Int × Int × List PImg => p.2.2) h.g3
  simp only [List.flatMap_map] at e
  exact e
theorem DSt.stop_len (d : DSt) : d.stop.1.now.length = d.now.length := by rw [d.stop_same.2.1]
theorem DSt.write_len (d : DSt) (n : Int) (b : Dat) : (d.write n b).1.now.length = d.now.length := by
  unfold DSt.write
  split
  · rfl
  · split
    · rfl
    · split
      · exact d.stop_len
      · show (d.now.set _ _).length = _; rw [List.length_set]
theorem DSt.flush_len (d : DSt) : d.flush.1.now.length = d.now.length := by
  unfold DSt.flush
  split
  · exact d.stop_len
  · exact d.stop_len
theorem wrImgs_len : ∀ (l : List PImg) (d : DSt), (wrImgs l d).1.now.length = d.now.length
  | [], _ => rfl
  | g :: l, d => by
    rw [wrImgs]
    split
    · exact d.write_len _ _
    · rw [wrImgs_len l, d.write_len]
theorem doP_len (d : DSt) (l : List PImg) (s : Sup) (slot : Int) : (doP d l s slot).1.now.length = d.now.length := by
  unfold doP
  split
  · rfl
  split
  · exact wrImgs_len _ _
  split
  · rw [DSt.flush_len, wrImgs_len]
  · unfold lastWr
    split
    · rw [DSt.write_len, DSt.flush_len, wrImgs_len]
    · rw [DSt.flush_len, DSt.write_len, DSt.flush_len, wrImgs_len]
def MountQ (J : Imm) (bD : Nat) (M : DSt × Int × Option VSt) (r : Value) (S' : St) : Prop := ∃ chD', Dk J bD M.1 chD' ∧
  ((M.2.1 ≠ 0 ∧ M.2.2 = none ∧ r = .tuple #[.pointer none, .int .i64 M.2.1] ∧ S' = [chD']) ∨
   (M.2.1 = 0 ∧ ∃ v bV chV, M.2.2 = some v ∧ r = .tuple #[.pointer (some ⟨bV, 0, none⟩), .int .i64 0] ∧ Vk J bV bD v chV ∧ S' = [chD', chV]))
set_option maxHeartbeats 4000000 in
theorem vk_Mount {I : Imm} {bD : Nat} {d : DSt} {chD : List Blk} (hD : Dk I bD d chD) (hf : d.Few 700000) :
    Tri Tryz.prog 38 #[.pointer (some ⟨bD, 0, none⟩)] I [chD] fun r J S' => MountQ J bD (mountP d) r S' := by
  have hr := hD.wf.range
  refine Tri.drop ?_ (fun _ _ _ _ h => h)
  refine Tri.of (args := [.pointer (some ⟨bD, 0, none⟩)]) tabOk Tryz.func38 rfl (by kernel_rfl) (by kernel_rfl) ?_
  refine Tri.frame1 0 rfl (dk_Size hD) ?_
  rintro r _ A' hJ ⟨rfl, rfl, rfl⟩
  refine ⟨_, rfl, ?_⟩
  refine CmpD.no (by show ((d.now.length : Nat) : Int) ≠ 0; omega) ?_
  refine Tri.frame1 0 rfl (dk_Size hD) ?_
  rintro r _ A' hJ ⟨rfl, rfl, rfl⟩
  refine ⟨_, rfl, ?_⟩
  refine Tri.free (layout_Of d.now.length I) ?_
  rintro r _ _ hJ ⟨rfl, rfl⟩
  unfold mountP
  by_cases h64 : d.now.length < 64
  · rw [if_pos h64, layA, if_pos (by omega)]
    conv => whnf
    intro b4
    repeat (first | refine StoreD.st 1 rfl rfl rfl ?_ | refine CmpD.no (by decide) ?_)
    exact Done.mk ⟨_, Drop.pick [0] _ rfl, chD, hD, .inl ⟨by simp, rfl, rfl, rfl⟩⟩
  rw [if_neg h64, layA, if_neg (by omega)]
  conv => whnf
  intro b4
  repeat (first | refine LoadD.own 1 rfl _ rfl rfl ?_ | refine StoreD.st 1 rfl rfl rfl ?_ | refine CmpD.yes rfl ?_)
  refine Tri.frame1 0 rfl (v_found hD (by omega)) ?_
  have hfo := found_ok (d := d)
  obtain ⟨fp, hfp⟩ : ∃ fp, fp = foundP d := ⟨_, rfl⟩
  rw [← hfp] at hfo ⊢
  obtain ⟨s, slot, e⟩ := fp
  dsimp only at hfo ⊢
  rintro r J1 A' hJ1 ⟨rfl, hD1, rfl⟩
  refine ⟨_, rfl, ?_⟩
  conv => whnf
  intro b6
  repeat (first | refine StoreD.st 2 rfl rfl rfl ?_)
  by_cases he : e ≠ 0
  · rw [if_pos he]
    refine CmpD.no he ?_
    skip
    exact Done.mk ⟨_, Drop.pick [0] _ rfl, chD, hD1, .inl ⟨he, rfl, rfl, rfl⟩⟩
  rw [if_neg he]
  obtain rfl : e = 0 := by omega
  obtain ⟨hdn, hR, hsl, hb, htl, hep⟩ := hfo rfl
  obtain ⟨n, hn⟩ : ∃ n, n = d.now.length := ⟨_, rfl⟩
  rw [← hn] at hr h64 hb htl ⊢
  have hR' := hR
  obtain ⟨r1, r2, r3, r4, r5, r6, r7, r8⟩ := hR'
  have hlr := layL_range (n := (n : Int)) (by omega)
  repeat (first | refine LoadD.own 1 rfl _ rfl rfl ?_ | refine LoadD.own 2 rfl _ rfl rfl ?_ | refine CmpD.yes rfl ?_)
  refine Tri.frame1 0 rfl (scan_Groups hD1 (layOf n) s) ?_
  have hsok : ScanOk d.now.length (layOf n) s := by
    rw [← hn]
    exact ⟨by omega, rfl, hb, r7, htl, r3, r4, r5, r6⟩
  have hbd := scan_bound (rb := rbP d 2 (layL (d.now.length : Int)).toNat) (ep := s.epoch) ((layL (d.now.length : Int)).toNat + 1) s.tail.toNat s.seq (layL (d.now.length : Int)).toNat
  have hrt := scanK_right (rb := rbP d 2 (layL (d.now.length : Int)).toNat) (ep := s.epoch) ((layL (d.now.length : Int)).toNat + 1) s.tail.toNat s.seq (layL (d.now.length : Int)).toNat
  rw [show scanK (rbP d 2 (layL (d.now.length : Int)).toNat) s.epoch ((layL (d.now.length : Int)).toNat + 1) s.tail.toNat s.seq (layL (d.now.length : Int)).toNat = scanL d s from rfl] at hbd hrt
  rw [← hn] at hbd
  obtain ⟨L, hL⟩ : ∃ L, L = scanL d s := ⟨_, rfl⟩
  rw [← hL] at hbd hrt ⊢
  rintro r J2 A' hJ2 ⟨rfl, (⟨h, _⟩ | ⟨_, h, _⟩ | ⟨_, _, aO, capO, gl, rfl, hG, hGk⟩)⟩
  · exact absurd hsok h
  · rw [hdn] at h; exact Bool.noConfusion h
  refine ⟨_, rfl, ?_⟩
  have hpl : allP gl = allG L := allP_allG hGk
  have hgl := hGk.len
  rw [← hn]
  obtain ⟨pl, hplc⟩ : ∃ pl, pl = placeP (layL (n : Int)).toNat s.tail.toNat L := ⟨_, rfl⟩
  rw [← hplc]
  have hpl16 : pl < (layL (n : Int)).toNat := by rw [hplc]; exact Nat.mod_lt _ (by omega)
  have hsum : ∀ (l : List G3), (allG l).length ≤ (l.map fun g => g.2.2.length + 1).sum := by
    intro l
    induction l with
    | nil => simp [allG]
    | cons g l ih => simp [allG] at ih ⊢; omega
  have hall : (allI gl).length ≤ 1000 := by
    have h1 : (allP gl).length = (allI gl).length := by rw [allP_eq, List.length_map]
    have h2 := hsum L
    rw [← hpl] at h2
    omega
  have h4 : ∀ g ∈ allG L, g.2.length = 4096 := by
    intro g hg
    obtain ⟨q, hq, hgq⟩ := List.mem_flatMap.1 hg
    exact ((hrt q hq).2.2.2.2.2.2.1 g hgq).2.2
  have hIo : ∀ g ∈ allI gl, ImgOk J2 g := by
    intro g hg
    obtain ⟨q, hq, hgq⟩ := List.mem_flatMap.1 hg
    exact (hGk.each q hq).2 g hgq
  have hfew : ∀ g ∈ allI gl, g.len ≤ 100000000 := by
    intro g hg
    have h1 := (hIo g hg).2.len
    rw [bts_length] at h1
    have h2 := h4 g.pr (by rw [← hpl, allP_eq]; exact List.mem_map_of_mem hg)
    have h3 : g.data.length = 4096 := h2
    omega
  have hGR : GrpsR J2 [] aO gl := ⟨hG.slC, fun g hg => ⟨⟨(hGk.each g hg).1.slC, fun q hq => ⟨((hGk.each g hg).2 q hq).2.slC⟩⟩, by
    have : g.gs.length ≤ (allI gl).length := by
      obtain ⟨x, y, rfl⟩ := List.append_of_mem hg
      simp [allI]; omega
    omega⟩⟩
  have hgll : gl.length ≤ 64 := by omega
  repeat (first | refine LoadD.own 1 rfl _ rfl rfl ?_ | refine CmpD.yes rfl ?_)
  refine Tri.free (home_fix hGR (by omega) (by omega) hfew (layOf n)) ?_
  rw [hpl]
  have hLayOk : LayOk (layOf n) := ⟨by show (64 : Int) ≤ n; omega, by show (n : Int) ≤ 512; omega, rfl⟩
  unfold mountL
  rw [← hplc]
  rintro r J3 _ hJ3 (⟨h, _⟩ | ⟨_, hno, rfl⟩ | ⟨_, hhok, aI, capI, outs, rfl, hoR, hopr⟩)
  · exact absurd hLayOk h
  · rw [if_pos (.inl hno)]
    repeat (first | refine CmpD.no (by decide) ?_)
    exact Done.mk ⟨_, Drop.pick [0] _ rfl, chD, hD1.mono (Imm.le_trans hJ2 hJ3), .inl ⟨by simp, rfl, rfl, rfl⟩⟩
  have hle3 := Imm.le_trans hJ2 hJ3
  have hLl : L.length ≤ 64 := by omega
  rw [hgl]
  repeat (first | refine LoadD.own 2 rfl _ rfl rfl ?_ | refine CmpD.yes rfl ?_)
  refine ToD.to (549755813888 - (L.length : Int)) (wrap_i64 (by omega) (by omega)) ?_
  refine CmpD.split (fun (c1 : 549755813888 - (L.length : Int) < s.seq) => ?_) (fun (c1 : ¬ 549755813888 - (L.length : Int) < s.seq) => ?_)
  · rw [if_pos (.inr c1)]
    skip
    exact Done.mk ⟨_, Drop.pick [0] _ rfl, chD, hD1.mono hle3, .inl ⟨by simp, rfl, rfl, rfl⟩⟩
  rw [if_neg (by rintro (h | h); exact h hhok; exact c1 h)]
  repeat (first | refine LoadD.own 2 rfl _ rfl rfl ?_)
  refine ToD.to (s.epoch + 1) (wrap_i64 (by omega) (by omega)) ?_
  repeat (first | refine LoadD.own 2 rfl _ rfl rfl ?_)
  refine ToD.to (s.seq + L.length) (wrap_i64 (by omega) (by omega)) ?_
  repeat (first | refine LoadD.own 2 rfl _ rfl rfl ?_ | refine StoreD.st 2 rfl rfl rfl ?_)
  refine ToD.to (1 - slot) (wrap_i64 (by omega) (by omega)) ?_
  have hol : outs.length ≤ 1000 := by
    have h1 := homeP_len (allG L)
    rw [← hopr, List.length_map] at h1
    have h2 := hsum L
    omega
  have himg : ImgsOk J3 aI outs := by
    refine ⟨SlC.rds hoR.sl, fun g hg => ?_⟩
    have hm := home_mem (l := allG L) (g := g.pr) (by rw [← hopr]; exact List.mem_map_of_mem hg)
    have hb2 := hhok _ hm
    refine ⟨?_, SlC.rds (hoR.each g hg).rd⟩
    have e1 : (layOf (n : Int)).bi = 2 + layL n := rfl
    have e2 : (layOf (n : Int)).b = n := rfl
    rw [e1, e2] at hb2
    have e3 : g.pr.1 = g.blk := rfl
    rw [e3] at hb2
    unfold In64; omega
  refine Tri.frame1 0 rfl (dk_Do (hD1.mono hle3) 700000 hf aI capI outs himg (by omega) ⟨s.blocks, s.epoch + 1, s.seq + L.length, pl⟩ (1 - slot)) ?_
  rw [hopr]
  have hlen2 := doP_len d (homeP (allG L)) ⟨s.blocks, s.epoch + 1, s.seq + L.length, pl⟩ (1 - slot)
  rw [← hn] at hlen2
  generalize doP d (homeP (allG L)) ⟨s.blocks, s.epoch + 1, s.seq + L.length, pl⟩ (1 - slot) = dp at *
  obtain ⟨d2, e2⟩ := dp
  dsimp only at hlen2 ⊢
  rintro r J4 A' hJ4 ⟨rfl, chD2, hD2, rfl⟩
  refine ⟨_, rfl, ?_⟩
  by_cases he2 : e2 ≠ 0
  · rw [if_pos he2]
    refine CmpD.no he2 ?_
    skip
    exact Done.mk ⟨_, Drop.pick [0] _ rfl, chD2, hD2, .inl ⟨he2, rfl, rfl, rfl⟩⟩
  rw [if_neg he2]
  obtain rfl : e2 = 0 := by omega
  repeat (first | refine LoadD.own 1 rfl _ rfl rfl ?_ | refine LoadD.own 2 rfl _ rfl rfl ?_ | refine CmpD.yes rfl ?_)
  have hopk : OpenOk n (layOf n) (s.epoch + 1) (s.seq + L.length) pl := ⟨rfl, by omega, by omega, by omega, by omega, by omega, by omega⟩
  refine Tri.frameX (jk_Open hD2 n hlen2 (by omega) (layOf n) (s.epoch + 1) (s.seq + L.length) pl (by unfold In64; omega)) [0] rfl rfl ?_
  rintro r _ A' hJ5 (⟨h, _⟩ | ⟨_, rfl, bJ, chJ, rfl, hj, rfl⟩)
  · exact absurd hopk h
  repeat (first | refine LoadD.own 1 rfl _ rfl rfl ?_ | refine LoadD.own 2 rfl _ rfl rfl ?_ | refine CmpD.yes rfl ?_)
  refine makeMapD rfl ?_
  intro bM
  conv => whnf
  intro bV
  refine Done.mk ⟨[chD2, vChunk bV bD bJ bM (layOf n) (s.epoch + 1) slot false ++ ((bM, .map #[] 0) :: chJ)], (Drop.pick [3, 6, 5, 4] _ rfl).trans (Drop.flat ?_), chD2, hD2, .inr ⟨rfl, ⟨openJ n (s.epoch + 1) (s.seq + L.length) pl, s.epoch + 1, slot, [], false⟩, bV, _, rfl, rfl, ⟨bJ, bM, _, chJ, [], rfl, hj, MapR.nil, by simp, rfl⟩, rfl⟩⟩
  simp [St.at]
  rfl
end Go.Proofs.YtegdcjnjnoeinaaGreat
namespace Go.Proofs.YtegdcjnjnoeinaaGreat
open Go.RowKit Go.Sl
set_option maxRecDepth 20000

/-- a disk's cells -/
@[reducible] def rC (s w : Hd) (count : Int) (down : Bool) (arm fault : Int) : List Value := [s.v, w.v, .int .i64 count, .bool down, .int .i64 arm, .int .i64 fault]
theorem RDk.cells {I : Imm} {v : Value} {d : DSt} (h : RDk I v d) : ∃ (s w : Hd), v = rV s w d.count d.down (gv d.arm) (gv d.fault) ∧ s.len = d.now.length := by
  obtain ⟨s, w, bS, gs, rfl, h1, h2, h3, h4⟩ := h.ex
  refine ⟨s, w, rfl, ?_⟩
  have e1 := h1.len
  have e2 := congrArg List.length h3
  have e3 := h.wf.len
  rw [List.length_map] at e1 e2
  omega
/-- a journal's cells -/
@[reducible] def jC (s w : Hd) (count : Int) (down : Bool) (arm fault : Int) (x : Lay) (rs rt ru rh ep first : Int) (sz : Hd) (syn : Int) (br : Bool) : List Value := rC s w count down arm fault ++ (x.vals ++ [.int .i64 rs, .int .i64 rt, .int .i64 ru, .int .i64 rh, .int .i64 ep, .int .i64 first, sz.v, .int .i64 syn, .bool br])
theorem r8_Open {s w : Hd} {count : Int} {down : Bool} {arm fault : Int} (n : Nat) (hn : s.len = n) (hn2 : 64 ≤ n ∧ n ≤ 512) (ep seq tail : Int) (h : OpenOk n (layOf n) ep seq tail) (I : Imm) :
    Tri Tryz.prog 120 #[rV s w count down arm fault, (layOf n).v, .int .i64 ep, .int .i64 seq, .int .i64 tail] I [] fun r J _ => I = J ∧ r = .tuple #[.agg (jC s w count down arm fault (layOf n) (layL n) tail 0 0 ep seq ⟨none, 0, 0⟩ (seq - 1) false).toArray, .int .i64 0] := by
  obtain ⟨sa, sl, sc⟩ := s
  obtain ⟨wa, wl, wc⟩ := w
  dsimp only at hn
  subst hn
  obtain ⟨_, h1, h2, h3, h4, h5, h6⟩ := h
  refine Tri.of (args := [rV ⟨sa, sl, sc⟩ ⟨wa, wl, wc⟩ count down arm fault, (layOf sl).v, .int .i64 ep, .int .i64 seq, .int .i64 tail]) tabOk Tryz.func120 rfl (by kernel_rfl) (by kernel_rfl) ?_
  conv => whnf
  intro b5
  conv => whnf
  intro b6
  conv => whnf
  intro b10
  repeat (first | refine LoadD.own 0 rfl _ rfl rfl ?_)
  refine Tri.free (ref_Of sl I) ?_
  rintro r _ _ hJ ⟨rfl, rfl⟩
  rw [layA, if_neg (by omega)]
  conv => whnf
  intro b12
  repeat (first | refine LoadD.own 1 rfl _ rfl rfl ?_ | refine LoadD.own 3 rfl _ rfl rfl ?_ | refine StoreD.st 3 rfl rfl rfl ?_ | refine CmpD.yes rfl ?_)
  refine lay_cmp (layOf sl) (layOf sl) rfl (.inr rfl) rfl rfl ?_
  refine CmpD.yes rfl ?_
  refine CmpD.no (by omega) ?_
  refine CmpD.no (by omega) ?_
  refine CmpD.no (by omega) ?_
  refine CmpD.no (by omega) ?_
  refine CmpD.no (by omega) ?_
  repeat (first | refine LoadD.own 1 rfl _ rfl rfl ?_)
  refine CmpD.no (by show ¬ layL sl ≤ tail; omega) ?_
  repeat (first | refine LoadD.own 0 rfl _ rfl rfl ?_ | refine LoadD.own 1 rfl _ rfl rfl ?_)
  refine ToD.to (seq - 1) (wrap_i64 (by omega) (by omega)) ?_
  repeat (first | refine LoadD.own 2 rfl _ rfl rfl ?_ | refine StoreD.st 2 rfl rfl rfl ?_)
  exact Done.mk ⟨rfl, rfl⟩
theorem r4_AtD {I : Imm} {v : Value} {d : DSt} (hD : RDk I v d) (hf : d.writes.length ≤ 1000000) (i : Nat) (hi : i < d.now.length) :
    Tri Tryz.prog 116 #[v, .int .i64 i] I [] fun r J _ => I = J ∧ ∃ a len cap, r = .slice a len cap ∧ len = 4096 ∧ Rds I a len (bts (d.now.getD i [])) := by
  have hwf := hD.wf
  have hsnd := hD.snd i (by have := hwf.len; omega)
  obtain ⟨s, w, bS, gs, rfl, h1, h2, h3, h4, h5, h6⟩ := hD.ex
  have hbl : bS.length = d.safe.length := by rw [← h3, List.length_map]
  have hsl : s.len = bS.length := by have := h1.len; rw [List.length_map] at this; exact this.symm
  have hr := hwf.range
  have hll := hwf.len
  have hbk : bS[i]? = some bS[i] := List.getElem?_eq_getElem (by omega)
  have hgl : gs.length = d.writes.length := by rw [← h6, List.length_map]
  have hdat : bS[i].data = d.safe.getD i [] := by
    have e := congrArg (·[i]?) h3
    simp only [List.getElem?_map, hbk] at e
    rw [List.getD_eq_getElem?_getD, ← e]; rfl
  refine (r4_At s w d.count d.down (gv d.arm) (gv d.fault) bS gs I h1 (by omega) h4 h5 (by omega) i hbk (h2 _ (List.getElem_mem _))).mono ?_
  rintro r J _ hJ ⟨rfl, a, len, cap, rfl, hr2⟩
  rw [hdat, h6] at hr2
  have hx : atP (d.safe.getD i []) d.writes i = d.now.getD i [] := by rw [List.getD_eq_getElem?_getD (l := d.now), hsnd]; rfl
  rw [hx] at hr2
  refine ⟨rfl, a, len, cap, rfl, ?_, hr2⟩
  have := hr2.len
  rw [bts_length, get_data_len hwf hi] at this
  omega
theorem foundP_up {d : DSt} (h : d.down = false) {cp : Sup × Int × Bool} (hcp : cp = chooseP (getS (d.now.getD 0 [])) (getS (d.now.getD 1 []))) :
    foundP d = if cp.2.2 = false ∨ cp.1.blocks ≠ d.now.length ∨ layL d.now.length ≤ cp.1.tail ∨ 8388608 ≤ cp.1.epoch then (Sup.zero, 0, 90) else (cp.1, cp.2.1, 0) := by
  unfold foundP
  rw [if_neg (by rw [h]; simp), ← hcp]
@[reducible] def zr : List Value := [.int .i64 0, .int .i64 0, .int .i64 0, .int .i64 0, .int .i64 0, .int .i64 0, .int .i64 0, .int .i64 0, .int .i64 0, .int .i64 0, .int .i64 0, .int .i64 0, .int .i64 0, .slice none 0 0, .int .i64 0, .bool false, .int .i64 0, .int .i64 0, .int .i64 0, .int .i64 0, .int .i64 0, .int .i64 0, .int .i64 0, .int .i64 0, .slice none 0 0, .bool false]
@[reducible] def rvC (v : VSt) : List Value := [.int .i64 v.j.lay.b, .int .i64 v.j.lay.l, .int .i64 v.j.lay.lb, .int .i64 v.j.lay.bi, .int .i64 v.j.lay.i, .int .i64 v.j.lay.ib, .int .i64 v.j.lay.d, .int .i64 v.j.s, .int .i64 v.j.t, .int .i64 v.j.u, .int .i64 v.j.h, .int .i64 v.j.epoch, .int .i64 v.j.next, .slice none 0 0, .int .i64 v.j.synced, .bool false, .int .i64 v.j.lay.b, .int .i64 v.j.lay.l, .int .i64 v.j.lay.lb, .int .i64 v.j.lay.bi, .int .i64 v.j.lay.i, .int .i64 v.j.lay.ib, .int .i64 v.j.lay.d, .int .i64 v.slot, .slice none 0 0, .bool false]
/-- what the document's Mount answers -/
def RMount (J : Imm) (M : DSt × Int × Option VSt) (r : Value) : Prop := ∃ s w : Hd, RDk J (rV s w M.1.count M.1.down (gv M.1.arm) (gv M.1.fault)) M.1 ∧
  ((M.2.1 ≠ 0 ∧ r = .tuple #[.agg (rC s w M.1.count M.1.down (gv M.1.arm) (gv M.1.fault) ++ zr).toArray, .int .i64 M.2.1]) ∨
   (M.2.1 = 0 ∧ ∃ v, M.2.2 = some v ∧ r = .tuple #[.agg (rC s w M.1.count M.1.down (gv M.1.arm) (gv M.1.fault) ++ rvC v).toArray, .int .i64 0]))
theorem RMount.err {J : Imm} {d : DSt} {e : Int} {s w : Hd} (h : RDk J (rV s w d.count d.down (gv d.arm) (gv d.fault)) d) (he : e ≠ 0) (r : Value) (hv : r = .tuple #[.agg (rC s w d.count d.down (gv d.arm) (gv d.fault) ++ zr).toArray, .int .i64 e]) : RMount J (d, e, none) r :=
  ⟨s, w, h, .inl ⟨he, hv⟩⟩
theorem allG_sum : ∀ (l : List G3), (allG l).length ≤ (l.map fun g => g.2.2.length + 1).sum := by
  intro l
  induction l with
  | nil => simp [allG]
  | cons g l ih => simp [allG] at ih ⊢; omega
set_option maxHeartbeats 8000000 in
theorem r11_Mount {I : Imm} {v : Value} {d : DSt} (hD : RDk I v d) (hf : d.Few 700000) :
    Tri Tryz.prog 48 #[v] I [] fun r J _ => RMount J (mountP d) r := by
  have hr := hD.wf.range
  obtain ⟨⟨sa, sl, sc⟩, ⟨wa, wl, wc⟩, rfl, hsl⟩ := hD.cells
  dsimp only at hsl
  subst hsl
  refine Tri.of (args := [rV ⟨sa, d.now.length, sc⟩ ⟨wa, wl, wc⟩ d.count d.down (gv d.arm) (gv d.fault)]) tabOk Tryz.func48 rfl (by kernel_rfl) (by kernel_rfl) ?_
  conv => whnf
  intro b1
  conv => whnf
  intro b2
  conv => whnf
  intro b4
  repeat (first | refine LoadD.own 0 rfl _ rfl rfl ?_ | refine StoreD.st 2 rfl rfl rfl ?_)
  refine Tri.free (ref_Of d.now.length I) ?_
  rintro r _ _ hJ ⟨rfl, rfl⟩
  unfold mountP
  by_cases h64 : d.now.length < 64
  · rw [if_pos h64, layA, if_pos (by omega)]
    conv => whnf
    intro b5
    repeat (first | refine LoadD.own 1 rfl _ rfl rfl ?_ | refine LoadD.own 2 rfl _ rfl rfl ?_ | refine StoreD.st 1 rfl rfl rfl ?_ | refine StoreD.st 3 rfl rfl rfl ?_ | refine CmpD.no (by decide) ?_)
    exact Done.mk (RMount.err hD (by decide) _ rfl)
  rw [if_neg h64, layA, if_neg (by omega)]
  conv => whnf
  intro b5
  repeat (first | refine LoadD.own 0 rfl _ rfl rfl ?_ | refine StoreD.st 3 rfl rfl rfl ?_ | refine CmpD.yes rfl ?_)
  have hfo := found_ok (d := d)
  cases hdn : d.down
  rotate_left
  · rw [show foundP d = (Sup.zero, 0, 6) by unfold foundP; rw [if_pos hdn]]
    rw [if_pos (by decide)]
    repeat (first | refine LoadD.own 1 rfl _ rfl rfl ?_ | refine LoadD.own 2 rfl _ rfl rfl ?_ | refine StoreD.st 1 rfl rfl rfl ?_)
    have hD2 := hD
    rw [hdn] at hD2
    exact Done.mk (RMount.err hD (by decide) _ (by rw [hdn]; rfl))
  skip
  obtain ⟨cp, hcp⟩ : ∃ cp, cp = chooseP (getS (d.now.getD 0 [])) (getS (d.now.getD 1 [])) := ⟨_, rfl⟩
  have hfd := foundP_up hdn hcp
  refine CodeF.cutD [1, 2, 4, 5, 7, 8, 9] (fun vs J' S' => ∃ b7, I = J' ∧ vs = [.pointer (some ⟨b1, 0, none⟩), .pointer (some ⟨b2, 0, none⟩), .pointer (some ⟨b4, 0, none⟩), .pointer (some ⟨b5, 0, none⟩), .pointer (some ⟨b7, 0, none⟩), .int .i64 cp.2.1, .bool cp.2.2] ∧
      S' = [[(b1, row (rC ⟨sa, d.now.length, sc⟩ ⟨wa, wl, wc⟩ d.count false (gv d.arm) (gv d.fault)) 76)], [(b2, row (rC ⟨none, 0, 0⟩ ⟨none, 0, 0⟩ 0 false 0 0 ++ zr) 87)], [(b4, row (rC ⟨sa, d.now.length, sc⟩ ⟨wa, wl, wc⟩ d.count false (gv d.arm) (gv d.fault) ++ zr) 87)], [(b5, row (layOf d.now.length).vals 45)], [(b7, row [.int .i64 cp.1.blocks, .int .i64 cp.1.epoch, .int .i64 cp.1.seq, .int .i64 cp.1.tail] 143)]]) ?_ ?_
  · refine CodeF.schedT [[], [0], [], [0, 1, 2], [0, 1, 2, 3], [0, 1, 2, 3, 4], [0, 1, 2, 3, 4, 5], [0, 1, 2, 3, 4, 5], [0, 1, 2, 3, 4, 5], [], [0, 1, 2, 3, 4, 5, 6, 9], [0, 1, 2, 3, 4, 5, 6, 7, 9, 10], [0, 1, 2, 3, 4, 5, 6, 7, 8, 9, 10, 11]] (.rd 0 (.rd 2 (.alt (.ef 1 (.alt (.ef 3 (.alt (.ef 4 (.rd 5 (.rd 6 (.rd 7 (.rd 8 (.ef 9 (.ef 10 (.rd 11 (.rd 12 .nil))))))))) (.ef 9 (.ef 4 (.rd 5 (.rd 6 (.rd 7 (.rd 8 (.ef 10 (.rd 11 (.rd 12 .nil))))))))))) (.ef 9 (.ef 3 (.ef 4 (.rd 5 (.rd 6 (.rd 7 (.rd 8 (.ef 10 (.rd 11 (.rd 12 .nil)))))))))))) (.ef 9 (.ef 1 (.ef 3 (.ef 4 (.rd 5 (.rd 6 (.rd 7 (.rd 8 (.ef 10 (.rd 11 (.rd 12 .nil)))))))))))))) (by kernel_rfl) ?_
    have hD2 := hD
    rw [hdn] at hD2
    have hwl : d.writes.length ≤ 1000000 := by have := hf.1; omega
    repeat (first | refine LoadP.at 0 rfl _ rfl rfl ?_)
    refine And.intro ?_ ?_
    · skip
      skip
      refine Tri.free (r4_AtD hD2 hwl 0 (by omega)) ?_
      rintro r _ _ hJ0 ⟨rfl, a0, n0, c0, rfl, hn0, hr0⟩
      repeat (first | refine Chk.mk ⟨rfl, trivial⟩ ?_)
      refine And.intro ?_ ?_
      · skip
        skip
        refine Tri.free (r4_AtD hD2 hwl 1 (by omega)) ?_
        rintro r _ _ hJ1 ⟨rfl, a1, n1, c1, rfl, hn1, hr1⟩
        skip
        refine And.intro ?_ ?_
        · skip
          skip
          refine Tri.free (r10_Choose hr0 hr1 (by omega) (by omega)) ?_
          rintro r _ _ hJ3 ⟨rfl, rfl⟩
          rw [← hcp]
          skip
          conv => whnf
          intro b7
          repeat (first | refine StoreD.st 4 rfl rfl rfl ?_ | refine Chk.mk ⟨rfl, rfl, trivial⟩ ?_)
          exact ⟨_, Drop.refl _, b7, rfl, rfl, rfl⟩
        · skip
          skip
          conv => whnf
          intro b7
          repeat (first | refine Chk.mk ⟨rfl, rfl, trivial⟩ ?_)
          refine Tri.free (r10_Choose hr0 hr1 (by omega) (by omega)) ?_
          rintro r _ _ hJ3 ⟨rfl, rfl⟩
          rw [← hcp]
          repeat (first | refine StoreD.st 4 rfl rfl rfl ?_)
          exact ⟨_, Drop.refl _, b7, rfl, rfl, rfl⟩
      · skip
        skip
        conv => whnf
        intro b7
        repeat (first | refine Chk.mk ⟨rfl, rfl, trivial⟩ ?_)
        refine Tri.free (r4_AtD hD2 hwl 1 (by omega)) ?_
        rintro r _ _ hJ1 ⟨rfl, a1, n1, c1, rfl, hn1, hr1⟩
        skip
        refine Tri.free (r10_Choose hr0 hr1 (by omega) (by omega)) ?_
        rintro r _ _ hJ3 ⟨rfl, rfl⟩
        rw [← hcp]
        repeat (first | refine StoreD.st 4 rfl rfl rfl ?_)
        exact ⟨_, Drop.refl _, b7, rfl, rfl, rfl⟩
    · skip
      skip
      conv => whnf
      intro b7
      repeat (first | refine Chk.mk ⟨rfl, rfl, trivial⟩ ?_)
      refine Tri.free (r4_AtD hD2 hwl 0 (by omega)) ?_
      rintro r _ _ hJ0 ⟨rfl, a0, n0, c0, rfl, hn0, hr0⟩
      repeat (first | refine Chk.mk ⟨rfl, trivial⟩ ?_)
      refine Tri.free (r4_AtD hD2 hwl 1 (by omega)) ?_
      rintro r _ _ hJ1 ⟨rfl, a1, n1, c1, rfl, hn1, hr1⟩
      skip
      refine Tri.free (r10_Choose hr0 hr1 (by omega) (by omega)) ?_
      rintro r _ _ hJ3 ⟨rfl, rfl⟩
      rw [← hcp]
      repeat (first | refine StoreD.st 4 rfl rfl rfl ?_)
      exact ⟨_, Drop.refl _, b7, rfl, rfl, rfl⟩
  rintro vs gE J2 S2 hJ2 ⟨b7, rfl, rfl, rfl⟩
  obtain ⟨⟨s1, s2, s3, s4⟩, slot, ok⟩ := cp
  dsimp only at hfd ⊢
  have hD2 := hD
  rw [hdn] at hD2
  have hErr : ∀ (e : Int) (J : Imm), I.le J → e ≠ 0 → RMount J (d, e, none) (.tuple #[.agg (rC ⟨sa, d.now.length, sc⟩ ⟨wa, wl, wc⟩ d.count false (gv d.arm) (gv d.fault) ++ zr).toArray, .int .i64 e]) := fun e J hJ he => RMount.err (hD.mono hJ) he _ (by rw [hdn])
  have hlb : (layOf (d.now.length : Int)).lb = layL d.now.length := rfl
  cases ok
  · rw [show foundP d = (Sup.zero, 0, 90) by rw [hfd, if_pos (.inl rfl)]]
    rw [if_pos (by decide)]
    repeat (first | refine LoadD.own 1 rfl _ rfl rfl ?_ | refine LoadD.own 2 rfl _ rfl rfl ?_ | refine StoreD.st 1 rfl rfl rfl ?_)
    exact Done.mk (hErr 90 I (Imm.le_refl _) (by decide))
  repeat (first | refine LoadD.own 3 rfl _ rfl rfl ?_ | refine LoadD.own 4 rfl _ rfl rfl ?_)
  refine CmpD.split (fun (c1 : s1 = (d.now.length : Int)) => ?_) (fun (c1 : ¬ s1 = (d.now.length : Int)) => ?_)
  rotate_left
  · rw [show foundP d = (Sup.zero, 0, 90) by rw [hfd, if_pos (.inr (.inl c1))]]
    rw [if_pos (by decide)]
    repeat (first | refine LoadD.own 1 rfl _ rfl rfl ?_ | refine LoadD.own 2 rfl _ rfl rfl ?_ | refine StoreD.st 1 rfl rfl rfl ?_)
    exact Done.mk (hErr 90 I (Imm.le_refl _) (by decide))
  repeat (first | refine LoadD.own 3 rfl _ rfl rfl ?_ | refine LoadD.own 4 rfl _ rfl rfl ?_)
  refine CmpD.split (fun (c2 : layL d.now.length ≤ s4) => ?_) (fun (c2 : ¬ layL d.now.length ≤ s4) => ?_)
  · rw [show foundP d = (Sup.zero, 0, 90) by rw [hfd, if_pos (.inr (.inr (.inl c2)))]]
    rw [if_pos (by decide)]
    repeat (first | refine LoadD.own 1 rfl _ rfl rfl ?_ | refine LoadD.own 2 rfl _ rfl rfl ?_ | refine StoreD.st 1 rfl rfl rfl ?_)
    exact Done.mk (hErr 90 I (Imm.le_refl _) (by decide))
  repeat (first | refine LoadD.own 4 rfl _ rfl rfl ?_)
  refine CmpD.split (fun (c3 : 8388608 ≤ s2) => ?_) (fun (c3 : ¬ 8388608 ≤ s2) => ?_)
  · rw [show foundP d = (Sup.zero, 0, 90) by rw [hfd, if_pos (.inr (.inr (.inr c3)))]]
    rw [if_pos (by decide)]
    repeat (first | refine LoadD.own 1 rfl _ rfl rfl ?_ | refine LoadD.own 2 rfl _ rfl rfl ?_ | refine StoreD.st 1 rfl rfl rfl ?_)
    exact Done.mk (hErr 90 I (Imm.le_refl _) (by decide))
  have hfe : foundP d = (⟨s1, s2, s3, s4⟩, slot, 0) := by
    rw [hfd, if_neg (by rintro (h | h | h | h); exact Bool.noConfusion h; exact h c1; exact c2 h; exact c3 h)]
  rw [hfe] at hfo ⊢
  obtain ⟨_, hR, hsl, hb, htl, hep⟩ := hfo rfl
  rw [if_neg (by simp)]
  dsimp only at hR hsl hb htl hep
  obtain ⟨n, hn⟩ : ∃ n, n = d.now.length := ⟨_, rfl⟩
  rw [← hn] at hr h64 hb htl hErr hD2 ⊢
  obtain ⟨r1, r2, r3, r4, r5, r6, r7, r8⟩ := id hR
  dsimp only at r1 r2 r3 r4 r5 r6 r7 r8
  have hlr := layL_range (n := (n : Int)) (by omega)
  repeat (first | refine LoadD.own 0 rfl _ rfl rfl ?_ | refine LoadD.own 3 rfl _ rfl rfl ?_ | refine LoadD.own 4 rfl _ rfl rfl ?_)
  refine Tri.free (r9_Groups hD2 (by have := hf.1; omega) (layOf n) ⟨s1, s2, s3, s4⟩) ?_
  have hsok : ScanOk d.now.length (layOf n) ⟨s1, s2, s3, s4⟩ := by
    rw [← hn]
    exact ⟨by omega, rfl, hb, r7, htl, r3, r4, r5, r6⟩
  have hbd := scan_bound (rb := rbP d 2 (layL (d.now.length : Int)).toNat) (ep := s2) ((layL (d.now.length : Int)).toNat + 1) s4.toNat s3 (layL (d.now.length : Int)).toNat
  have hrt := scanK_right (rb := rbP d 2 (layL (d.now.length : Int)).toNat) (ep := s2) ((layL (d.now.length : Int)).toNat + 1) s4.toNat s3 (layL (d.now.length : Int)).toNat
  rw [show scanK (rbP d 2 (layL (d.now.length : Int)).toNat) s2 ((layL (d.now.length : Int)).toNat + 1) s4.toNat s3 (layL (d.now.length : Int)).toNat = scanL d ⟨s1, s2, s3, s4⟩ from rfl] at hbd hrt
  rw [← hn] at hbd
  obtain ⟨L, hL⟩ : ∃ L, L = scanL d ⟨s1, s2, s3, s4⟩ := ⟨_, rfl⟩
  rw [← hL] at hbd hrt ⊢
  rintro r J2 _ hJ2 (⟨h, _⟩ | ⟨_, h, _⟩ | ⟨_, _, aO, capO, gl, rfl, hG, hGk⟩)
  · exact absurd hsok h
  · rw [hdn] at h; exact Bool.noConfusion h
  have hpl : allP gl = allG L := allP_allG hGk
  have hgl := hGk.len
  rw [← hn]
  obtain ⟨pl, hplc⟩ : ∃ pl, pl = placeP (layL (n : Int)).toNat s4.toNat L := ⟨_, rfl⟩
  dsimp only
  rw [← hplc]
  have hpl16 : pl < (layL (n : Int)).toNat := by rw [hplc]; exact Nat.mod_lt _ (by omega)
  have hall : (allI gl).length ≤ 1000 := by
    have h1 : (allP gl).length = (allI gl).length := by rw [allP_eq, List.length_map]
    have h2 := allG_sum L
    rw [← hpl] at h2
    omega
  have h4 : ∀ g ∈ allG L, g.2.length = 4096 := by
    intro g hg
    obtain ⟨q, hq, hgq⟩ := List.mem_flatMap.1 hg
    exact ((hrt q hq).2.2.2.2.2.2.1 g hgq).2.2
  have hIo : ∀ g ∈ allI gl, ImgOk J2 g := by
    intro g hg
    obtain ⟨q, hq, hgq⟩ := List.mem_flatMap.1 hg
    exact (hGk.each q hq).2 g hgq
  have hfew : ∀ g ∈ allI gl, g.len ≤ 100000000 := by
    intro g hg
    have h1 := (hIo g hg).2.len
    rw [bts_length] at h1
    have h2 := h4 g.pr (by rw [← hpl, allP_eq]; exact List.mem_map_of_mem hg)
    have h3 : g.data.length = 4096 := h2
    omega
  have hGR : GrpsR J2 [] aO gl := ⟨hG.slC, fun g hg => ⟨⟨(hGk.each g hg).1.slC, fun q hq => ⟨((hGk.each g hg).2 q hq).2.slC⟩⟩, by
    have : g.gs.length ≤ (allI gl).length := by
      obtain ⟨x, y, rfl⟩ := List.append_of_mem hg
      simp [allI]; omega
    omega⟩⟩
  have hLayOk : LayOk (layOf n) := ⟨by show (64 : Int) ≤ n; omega, by show (n : Int) ≤ 512; omega, rfl⟩
  repeat (first | refine LoadD.own 3 rfl _ rfl rfl ?_ | refine CmpD.yes rfl ?_)
  refine Tri.free (home_ref hGR (by omega) (by omega) hfew (layOf n)) ?_
  rw [hpl]
  unfold mountL
  dsimp only
  rw [← hplc]
  rintro r J3 _ hJ3 ⟨aI, capI, outs, rfl, hoR, hopr⟩
  have hle3 := Imm.le_trans hJ2 hJ3
  have hLl : L.length ≤ 64 := by omega
  by_cases hhok : HomeOk (layOf n) (allG L)
  rotate_left
  · rw [homeA_2 hLayOk hhok, if_pos (.inl hhok)]
    repeat (first | refine LoadD.own 1 rfl _ rfl rfl ?_ | refine LoadD.own 2 rfl _ rfl rfl ?_ | refine StoreD.st 1 rfl rfl rfl ?_ | refine CmpD.no (by decide) ?_)
    exact Done.mk (hErr 90 J3 hle3 (by decide))
  rw [homeA_3 hLayOk hhok] at hopr ⊢
  dsimp only at hopr ⊢
  rw [hgl]
  repeat (first | refine LoadD.own 4 rfl _ rfl rfl ?_ | refine CmpD.yes rfl ?_)
  refine ToD.to (s3 + (L.length : Int)) (wrap_i64 (by omega) (by omega)) ?_
  refine CmpD.split (fun (c4 : 549755813888 < s3 + (L.length : Int)) => ?_) (fun (c4 : ¬ 549755813888 < s3 + (L.length : Int)) => ?_)
  · rw [if_pos (.inr (by omega))]
    repeat (first | refine LoadD.own 1 rfl _ rfl rfl ?_ | refine LoadD.own 2 rfl _ rfl rfl ?_ | refine StoreD.st 1 rfl rfl rfl ?_)
    exact Done.mk (hErr 90 J3 hle3 (by decide))
  rw [if_neg (by rintro (h | h); exact h hhok; omega)]
  repeat (first | refine LoadD.own 4 rfl _ rfl rfl ?_)
  refine ToD.to (s2 + 1) (wrap_i64 (by omega) (by omega)) ?_
  repeat (first | refine LoadD.own 4 rfl _ rfl rfl ?_ | refine StoreD.st 4 rfl rfl rfl ?_)
  refine ToD.to (s3 + L.length) (wrap_i64 (by omega) (by omega)) ?_
  repeat (first | refine LoadD.own 0 rfl _ rfl rfl ?_ | refine LoadD.own 4 rfl _ rfl rfl ?_ | refine StoreD.st 4 rfl rfl rfl ?_)
  refine ToD.to (1 - slot) (wrap_i64 (by omega) (by omega)) ?_
  have hol : outs.length ≤ 1000 := by
    have h1 := homeP_len (allG L)
    rw [← hopr, List.length_map] at h1
    have h2 := allG_sum L
    omega
  have himg : ImgsOk J3 aI outs := by
    refine ⟨SlC.rds hoR.sl, fun g hg => ?_⟩
    have hm := home_mem (l := allG L) (g := g.pr) (by rw [← hopr]; exact List.mem_map_of_mem hg)
    have hb2 := hhok _ hm
    refine ⟨?_, SlC.rds (hoR.each g hg).rd⟩
    have e1 : (layOf (n : Int)).bi = 2 + layL n := rfl
    have e2 : (layOf (n : Int)).b = n := rfl
    rw [e1, e2] at hb2
    have e3 : g.pr.1 = g.blk := rfl
    rw [e3] at hb2
    unfold In64; omega
  refine Tri.free (r10_Do (hD2.mono hle3) 700000 hf aI capI outs himg (by omega) ⟨s1, s2 + 1, s3 + L.length, pl⟩ (1 - slot) (by unfold In64; omega)) ?_
  rw [hopr]
  have hlen2 := doP_len d (homeP (allG L)) ⟨s1, s2 + 1, s3 + L.length, pl⟩ (1 - slot)
  rw [← hn] at hlen2
  generalize doP d (homeP (allG L)) ⟨s1, s2 + 1, s3 + L.length, pl⟩ (1 - slot) = dp at *
  obtain ⟨d2, e2⟩ := dp
  dsimp only at hlen2 ⊢
  rintro r J4 _ hJ4 ⟨v', rfl, hDD⟩
  obtain ⟨⟨ta, tl, tc⟩, ⟨ua, ul, uc⟩, rfl, htl2⟩ := hDD.cells
  dsimp only at htl2
  rw [hlen2] at htl2
  subst htl2
  repeat (first | refine LoadD.own 0 rfl _ rfl rfl ?_ | refine StoreD.st 0 rfl rfl rfl ?_ | refine StoreD.st 2 rfl rfl rfl ?_)
  by_cases he2 : e2 ≠ 0
  · rw [if_pos he2]
    refine CmpD.no he2 ?_
    repeat (first | refine LoadD.own 1 rfl _ rfl rfl ?_ | refine LoadD.own 2 rfl _ rfl rfl ?_ | refine StoreD.st 1 rfl rfl rfl ?_)
    exact Done.mk (RMount.err hDD he2 _ rfl)
  rw [if_neg he2]
  obtain rfl : e2 = 0 := by omega
  repeat (first | refine LoadD.own 0 rfl _ rfl rfl ?_ | refine LoadD.own 3 rfl _ rfl rfl ?_ | refine LoadD.own 4 rfl _ rfl rfl ?_ | refine CmpD.yes rfl ?_)
  have hopk : OpenOk tl (layOf tl) (s2 + 1) (s3 + L.length) pl := ⟨rfl, by omega, by omega, by omega, by omega, by omega, by omega⟩
  refine Tri.free (r8_Open tl rfl (by omega) (s2 + 1) (s3 + L.length) pl hopk J4) ?_
  rintro r _ _ hJ5 ⟨rfl, rfl⟩
  conv => whnf
  intro b13
  repeat (first | refine LoadD.own 1 rfl _ rfl rfl ?_ | refine LoadD.own 3 rfl _ rfl rfl ?_ | refine LoadD.own 5 rfl _ rfl rfl ?_ | refine StoreD.st 1 rfl rfl rfl ?_ | refine StoreD.st 5 rfl rfl rfl ?_ | refine CmpD.yes rfl ?_)
  exact Done.mk ⟨⟨ta, tl, tc⟩, ⟨ua, ul, uc⟩, hDD, .inr ⟨rfl, _, rfl, rfl⟩⟩
end Go.Proofs.YtegdcjnjnoeinaaGreat
namespace Go.Proofs.YtegdcjnjnoeinaaGreat
open Go.RowKit Go.Sl
set_option maxRecDepth 20000

/-- noughts to the blocks from k on, n of them -/
def blankP : Nat → Nat → DSt → DSt × Int
  | 0, _, d => (d, 0)
  | n + 1, k, d => if (d.write k noughts).2 ≠ 0 then d.write k noughts else blankP n (k + 1) (d.write k noughts).1
def fmtS (m : Nat) (s : Sup) (d : DSt) : DSt × Int :=
  if (blankP m 1 d).2 ≠ 0 then blankP m 1 d else
  if (blankP m 1 d).1.flush.2 ≠ 0 then (blankP m 1 d).1.flush else
  if ((blankP m 1 d).1.flush.1.write 0 (supL s)).2 ≠ 0 then (blankP m 1 d).1.flush.1.write 0 (supL s) else
  ((blankP m 1 d).1.flush.1.write 0 (supL s)).1.flush
def formatP (d : DSt) : DSt × Int :=
  if d.now.length < 64 then (d, 2) else fmtS ((layOf d.now.length).d.toNat - 1) ⟨d.now.length, 1, 1, 0⟩ d
theorem blankP_few : ∀ (n k : Nat) (d : DSt) (q : Nat), d.Few q → (blankP n k d).1.Few (q + n)
  | 0, _, _, _, h => h
  | n + 1, k, d, q, h => by
    have h1 := h.write (k : Int) noughts
    rw [blankP]
    split
    · exact h1.mono (by omega)
    · exact (blankP_few n (k + 1) _ _ h1).mono (by omega)
theorem noughts_bts : bts noughts = rows 4096 [Value.int .u8 0] := by
  show bts (List.replicate 4096 0) = _
  exact (zeros_bts 4096).symm
theorem fmt1 {I : Imm} {b1 b2 b3 bD : Nat} {x : Lay} {d : DSt} {chD : List Blk} (hD : Dk I bD d chD) (hf : d.Few 500000) (hx : 1 ≤ x.d ∧ x.d ≤ 1000) (aN : Option Addr) (capN : Nat) (hN : Rds I aN 4096 (bts noughts)) :
    Tri Tryz.prog 123 #[.pointer (some ⟨b1, 0, none⟩), .pointer (some ⟨b2, 0, none⟩), .pointer (some ⟨b3, 0, none⟩)] I [[(b1, row x.vals 45)], pBox b2 (.pointer (some ⟨bD, 0, none⟩)) 22, pBox b3 (.slice aN 4096 capN) 32, chD]
      fun r J S' => r = .int .i64 (blankP (x.d.toNat - 1) 1 d).2 ∧ ∃ chD', Dk J bD (blankP (x.d.toNat - 1) 1 d).1 chD' ∧ S' = [[(b1, row x.vals 45)], pBox b2 (.pointer (some ⟨bD, 0, none⟩)) 22, pBox b3 (.slice aN 4096 capN) 32, chD'] := by
  obtain ⟨l1, l2, l3, l4, l5, l6, l7⟩ := x
  dsimp only at hx ⊢
  obtain ⟨e, rfl⟩ : ∃ e : Nat, l7 = e := ⟨l7.toNat, by omega⟩
  rw [Int.toNat_natCast]
  refine Tri.of (args := [.pointer (some ⟨b1, 0, none⟩), .pointer (some ⟨b2, 0, none⟩), .pointer (some ⟨b3, 0, none⟩)]) tabOk Tryz.func123 rfl (by kernel_rfl) (by kernel_rfl) ?_
  refine CodeF.loopD [0, 1, 2, 4] (fun vs J' S' => ∃ (k : Nat) (d2 : DSt) (chD2 : List Blk), 1 ≤ k ∧ k ≤ e ∧ blankP (e - 1) 1 d = blankP (e - k) k d2 ∧ d2.Few (500000 + k) ∧ Dk J' bD d2 chD2 ∧ I.le J' ∧
      vs = [.pointer (some ⟨b1, 0, none⟩), .pointer (some ⟨b2, 0, none⟩), .pointer (some ⟨b3, 0, none⟩), .int .i64 k] ∧ S' = [[(b1, row [.int .i64 l1, .int .i64 l2, .int .i64 l3, .int .i64 l4, .int .i64 l5, .int .i64 l6, .int .i64 e] 45)], pBox b2 (.pointer (some ⟨bD, 0, none⟩)) 22, pBox b3 (.slice aN 4096 capN) 32, chD2])
    (fun vs _ _ => match vs with | [_, _, _, .int _ k] => ((e : Int) - k).toNat | _ => 0) ?_ ?_
  · exact ⟨_, Drop.refl _, 1, d, chD, by omega, by omega, rfl, hf.mono (by omega), hD, Imm.le_refl _, rfl, rfl⟩
  rintro vs gE J' S' hJ' ⟨k, d2, chD2, hk1, hk, hbl, hf2, hD2, hle, rfl, rfl⟩
  repeat (first | refine LoadD.own 0 rfl _ rfl rfl ?_)
  refine CmpD.split (fun (c1 : (k : Int) < e) => ?_) (fun (c1 : ¬ (k : Int) < e) => ?_)
  · rw [show e - k = (e - (k + 1)) + 1 by omega, blankP] at hbl
    repeat (first | refine LoadD.own 1 rfl _ rfl rfl ?_ | refine LoadD.own 2 rfl _ rfl rfl ?_)
    refine Tri.frame1 3 rfl (dk_Write hD2 (hf2.mono (by omega)) k aN 4096 capN noughts (hN.mono hle)) ?_
    have hf3 := hf2.write (k : Int) noughts
    generalize d2.write (k : Int) noughts = dw at *
    obtain ⟨d3, e3⟩ := dw
    dsimp only at hbl hf3 ⊢
    rintro r J3 A' hJ3 ⟨rfl, chD3, hD3, rfl⟩
    refine ⟨_, rfl, ?_⟩
    by_cases he : e3 ≠ 0
    · rw [if_pos he] at hbl
      refine CmpD.no he ?_
      skip
      rw [hbl]
      exact Done.mk ⟨rfl, chD3, hD3, rfl⟩
    · rw [if_neg he] at hbl
      obtain rfl : e3 = 0 := by omega
      repeat (first | refine CmpD.yes rfl ?_)
      refine ToD.to (((k + 1 : Nat)) : Int) (by rw [wrap_i64 (by omega) (by omega)]; omega) ?_
      refine ⟨_, Drop.refl _, ⟨k + 1, d3, chD3, by omega, by omega, hbl, hf3.mono (by omega), hD3, Imm.le_trans hle hJ3, rfl, rfl⟩, ?_⟩
      show ((e : Int) - ((k + 1 : Nat) : Int)).toNat < ((e : Int) - (k : Int)).toNat; omega
  · obtain rfl : k = e := by omega
    skip
    rw [hbl, Nat.sub_self]
    exact Done.mk ⟨rfl, chD2, hD2, rfl⟩
theorem fmt2 {I : Imm} {b1 b2 bD : Nat} {d : DSt} {chD : List Blk} (hD : Dk I bD d chD) (hf : d.Few 900000) (aN : Option Addr) (capN : Nat) (b : Dat) (hN : Rds I aN 4096 (bts b)) :
    Tri Tryz.prog 126 #[.pointer (some ⟨b1, 0, none⟩), .pointer (some ⟨b2, 0, none⟩)] I [pBox b1 (.pointer (some ⟨bD, 0, none⟩)) 22, pBox b2 (.slice aN 4096 capN) 32, chD]
      fun r J S' => r = .int .i64 (d.write 0 b).2 ∧ ∃ chD', Dk J bD (d.write 0 b).1 chD' ∧ S' = [pBox b1 (.pointer (some ⟨bD, 0, none⟩)) 22, pBox b2 (.slice aN 4096 capN) 32, chD'] := by
  refine Tri.of (args := [.pointer (some ⟨b1, 0, none⟩), .pointer (some ⟨b2, 0, none⟩)]) tabOk Tryz.func126 rfl (by kernel_rfl) (by kernel_rfl) ?_
  repeat (first | refine LoadD.own 0 rfl _ rfl rfl ?_ | refine LoadD.own 1 rfl _ rfl rfl ?_)
  refine Tri.frame1 2 rfl (dk_Write hD (hf.mono (by omega)) 0 aN 4096 capN b hN) ?_
  rintro r J3 A' hJ3 ⟨rfl, chD3, hD3, rfl⟩
  refine ⟨_, rfl, ?_⟩
  exact Done.mk ⟨rfl, chD3, hD3, rfl⟩
theorem fmt_steps {I : Imm} {bD b1 b3 b5 b7 bN bF : Nat} {x : Lay} {s : Sup} {d : DSt} {chD : List Blk} (hD : Dk I bD d chD) (hf : d.Few 500000) (hld : 1 ≤ x.d ∧ x.d ≤ 1000) (hN : Rds I (some ⟨bN, 0, none⟩) 4096 (bts noughts)) (aS : Option Addr) (capS : Nat) (hS : Rds I aS 4096 (bts (supL s)))
    (hfs : Rds I (some ⟨bF, 0, none⟩) 4 [.func (.func 123) #[] #[.pointer (some ⟨b3, 0, none⟩), .pointer (some ⟨b1, 0, none⟩), .pointer (some ⟨b5, 0, none⟩)], .func (.func 125) #[.pointer (some ⟨bD, 0, none⟩)] #[],
      .func (.func 126) #[] #[.pointer (some ⟨b1, 0, none⟩), .pointer (some ⟨b7, 0, none⟩)], .func (.func 125) #[.pointer (some ⟨bD, 0, none⟩)] #[]]) :
    Tri Tryz.prog 91 #[.slice (some ⟨bF, 0, none⟩) 4 4] I [chD, pBox b1 (.pointer (some ⟨bD, 0, none⟩)) 22, [(b3, row x.vals 45)], pBox b5 (.slice (some ⟨bN, 0, none⟩) 4096 4096) 32, pBox b7 (.slice aS 4096 capS) 32]
      fun r J S' => r = .int .i64 (fmtS (x.d.toNat - 1) s d).2 ∧ ∃ chD' R, Dk J bD (fmtS (x.d.toNat - 1) s d).1 chD' ∧ S' = [chD', pBox b1 (.pointer (some ⟨bD, 0, none⟩)) 22, [(b3, row x.vals 45)], pBox b5 (.slice (some ⟨bN, 0, none⟩) 4096 4096) 32, pBox b7 (.slice aS 4096 capS) 32] ∧ R = chD' := by
  refine vol_first (some ⟨bF, 0, none⟩) 4 4 _ (by omega) hfs ?_
  have hf1 := blankP_few (x.d.toNat - 1) 1 d _ hf
  unfold fmtS
  refine ⟨_, [], [.pointer (some ⟨b3, 0, none⟩), .pointer (some ⟨b1, 0, none⟩), .pointer (some ⟨b5, 0, none⟩)], rfl, ?_⟩
  refine Tri.frame (fmt1 (x := x) hD hf hld (some ⟨bN, 0, none⟩) 4096 hN) [2, 1, 3, 0] rfl rfl ?_
  generalize blankP (x.d.toNat - 1) 1 d = bl at hf1 ⊢
  obtain ⟨d1, e1⟩ := bl
  dsimp only at hf1 ⊢
  rintro r J2 A' hJ2 ⟨rfl, chD1, hD1, rfl⟩
  refine ⟨Nat.le_refl _, ?_⟩
  refine ⟨_, rfl, fun he => ?_, fun he => ?_⟩
  · rw [if_pos he]
    exact ⟨rfl, chD1, _, hD1, rfl, rfl⟩
  rw [if_neg (by simpa using he)]
  refine ⟨_, [.pointer (some ⟨bD, 0, none⟩)], [], rfl, ?_⟩
  refine Tri.frame1 0 rfl (dk_Flush hD1) ?_
  have hf2 := hf1.flush
  generalize d1.flush = fl at hf2 ⊢
  obtain ⟨d2, e2⟩ := fl
  dsimp only at hf2 ⊢
  rintro r J3 A' hJ3 ⟨rfl, chD2, hD2, rfl⟩
  refine ⟨_, rfl, ?_⟩
  refine ⟨_, rfl, fun he => ?_, fun he => ?_⟩
  · rw [if_pos he]
    exact ⟨rfl, chD2, _, hD2, rfl, rfl⟩
  rw [if_neg (by simpa using he)]
  refine ⟨_, [], [.pointer (some ⟨b1, 0, none⟩), .pointer (some ⟨b7, 0, none⟩)], rfl, ?_⟩
  refine Tri.frame (fmt2 hD2 (hf2.mono (by omega)) aS capS (supL s) (hS.mono (Imm.le_trans hJ2 hJ3))) [1, 4, 0] rfl rfl ?_
  generalize d2.write 0 (supL s) = wr
  obtain ⟨d3, e3⟩ := wr
  dsimp only
  rintro r J4 A' hJ4 ⟨rfl, chD3, hD3, rfl⟩
  refine ⟨Nat.le_refl _, ?_⟩
  refine ⟨_, rfl, fun he => ?_, fun he => ?_⟩
  · rw [if_pos he]
    exact ⟨rfl, chD3, _, hD3, rfl, rfl⟩
  rw [if_neg (by simpa using he)]
  refine ⟨_, [.pointer (some ⟨bD, 0, none⟩)], [], rfl, ?_⟩
  refine Tri.frame1 0 rfl (dk_Flush hD3) ?_
  generalize d3.flush = fl
  obtain ⟨d4, e4⟩ := fl
  dsimp only
  rintro r J5 A' hJ5 ⟨rfl, chD4, hD4, rfl⟩
  refine ⟨_, rfl, ?_⟩
  refine ⟨_, rfl, fun he => ?_, fun he => ?_⟩
  · exact ⟨rfl, chD4, _, hD4, rfl, rfl⟩
  · obtain rfl := he
    exact ⟨rfl, chD4, _, hD4, rfl, rfl⟩
set_option maxHeartbeats 4000000 in
theorem vk_Format {I : Imm} {bD : Nat} {d : DSt} {chD : List Blk} (hD : Dk I bD d chD) (hf : d.Few 500000) :
    Tri Tryz.prog 55 #[.pointer (some ⟨bD, 0, none⟩)] I [chD] fun r J S' => r = .int .i64 (formatP d).2 ∧ ∃ chD', Dk J bD (formatP d).1 chD' ∧ S' = [chD'] := by
  have hr := hD.wf.range
  refine Tri.drop ?_ (fun _ _ _ _ h => h)
  refine Tri.of (args := [.pointer (some ⟨bD, 0, none⟩)]) tabOk Tryz.func55 rfl (by kernel_rfl) (by kernel_rfl) ?_
  conv => whnf
  intro b1
  repeat (first | refine LoadD.own 1 rfl _ rfl rfl ?_)
  refine Tri.frame1 0 rfl (dk_Size hD) ?_
  rintro r _ A' hJ ⟨rfl, rfl, rfl⟩
  refine ⟨_, rfl, ?_⟩
  refine CmpD.no (by show ((d.now.length : Nat) : Int) ≠ 0; omega) ?_
  repeat (first | refine LoadD.own 1 rfl _ rfl rfl ?_)
  refine Tri.frame1 0 rfl (dk_Size hD) ?_
  rintro r _ A' hJ ⟨rfl, rfl, rfl⟩
  refine ⟨_, rfl, ?_⟩
  refine Tri.free (layout_Of d.now.length I) ?_
  rintro r _ _ hJ ⟨rfl, rfl⟩
  unfold formatP
  by_cases h64 : d.now.length < 64
  · rw [if_pos h64, layA, if_pos (by omega)]
    conv => whnf
    intro b3
    repeat (first | refine StoreD.st 2 rfl rfl rfl ?_ | refine CmpD.no (by decide) ?_)
    exact Done.mk ⟨_, Drop.pick [0] _ rfl, rfl, chD, hD, rfl⟩
  rw [if_neg h64, layA, if_neg (by omega)]
  conv => whnf
  intro b3
  repeat (first | refine StoreD.st 2 rfl rfl rfl ?_ | refine CmpD.yes rfl ?_)
  refine makeH tabOk rfl rfl rfl 4096 4096 rfl rfl (Nat.le_refl _) (by show 1 * 4096 ≤ _; decide) (by decide) (by show 4096 * 1 ≤ _; decide) rfl (by decide) ?_
  intro bN NB hNB
  conv => whnf
  intro b5
  repeat (first | refine LoadD.own 2 rfl _ rfl rfl ?_ | refine StoreD.st 4 rfl rfl rfl ?_)
  obtain ⟨n, hn⟩ : ∃ n, n = d.now.length := ⟨_, rfl⟩
  rw [← hn] at hr h64 ⊢
  have hlr := layL_range (n := (n : Int)) (by omega)
  refine Tri.free (super_PutF ⟨n, 1, 1, 0⟩ I) ?_
  have hR : RightS ⟨n, 1, 1, 0⟩ := ⟨by show (64 : Int) ≤ n; omega, by show (n : Int) ≤ 512; omega, by show (1 : Int) ≤ 1; decide, by show (1 : Int) ≤ 8388608; decide, by show (1 : Int) ≤ 1; decide, by show (1 : Int) ≤ 549755813888; decide, by show (0 : Int) ≤ 0; decide, by show (0 : Int) ≤ 511; decide⟩
  rintro r J1 _ hJ1 (⟨h, _⟩ | ⟨_, aS, capS, rfl, hSup⟩)
  · exact absurd hR h
  conv => whnf
  intro b7
  repeat (first | refine LoadD.own 1 rfl _ rfl rfl ?_ | refine StoreD.st 5 rfl rfl rfl ?_)
  conv => whnf
  intro bF
  refine Tri.fix 3 rfl fun I5 hI5 hNm => ?_
  refine Tri.fix 6 rfl fun I6 hI6 hFm => ?_
  have hD := hD.mono (Imm.le_trans hJ1 (Imm.le_trans hI5 hI6))
  have hN : Rds I6 (some ⟨bN, 0, none⟩) 4096 (bts noughts) := by
    rw [noughts_bts]
    exact (Rds.of_own (cap := 4096) (by rw [hNB]; show OwnC [(bN, row (rows 4096 [Value.int .u8 0]) _)] 1 _ _ _ _; exact OwnC.whole (by rw [rows_length]; rfl)) hNm).mono hI6
  have hS6 := hSup.mono (Imm.le_trans hI5 hI6)
  have hfs : Rds I6 (some ⟨bF, 0, none⟩) 4 [.func (.func 123) #[] #[.pointer (some ⟨b3, 0, none⟩), .pointer (some ⟨b1, 0, none⟩), .pointer (some ⟨b5, 0, none⟩)], .func (.func 125) #[.pointer (some ⟨bD, 0, none⟩)] #[],
      .func (.func 126) #[] #[.pointer (some ⟨b1, 0, none⟩), .pointer (some ⟨b7, 0, none⟩)], .func (.func 125) #[.pointer (some ⟨bD, 0, none⟩)] #[]] :=
    ⟨rfl, .inr ⟨bF, 0, _, _, _, rfl, hFm _ (List.mem_singleton.2 rfl), rfl⟩⟩
  obtain ⟨x, hx⟩ : ∃ x : Lay, x = layOf (n : Int) := ⟨_, rfl⟩
  have hld : 1 ≤ x.d ∧ x.d ≤ 1000 := by rw [hx]; show 1 ≤ 3 + layL n + (n : Int) / 16 ∧ 3 + layL n + (n : Int) / 16 ≤ 1000; omega
  have hxv : row (layOf (n : Int)).vals 45 = row x.vals 45 := by rw [hx]
  obtain ⟨s, hs⟩ : ∃ s : Sup, s = ⟨n, 1, 1, 0⟩ := ⟨_, rfl⟩
  rw [← hs] at hS6
  refine Tri.frameX (fmt_steps (x := x) (s := s) hD hf hld hN aS capS hS6 hfs) [0, 1, 2, 4, 5] rfl (by rw [hx]; rfl) ?_
  rw [hx, hs]
  rintro r J A' hJ ⟨rfl, chD4, _, hD4, rfl, _⟩
  exact Done.mk ⟨_, Drop.pick [7] _ rfl, rfl, chD4, hD4, rfl⟩
end Go.Proofs.YtegdcjnjnoeinaaGreat
namespace Go.Proofs.YtegdcjnjnoeinaaGreat
open Go.RowKit Go.Sl
set_option maxRecDepth 20000

set_option maxHeartbeats 4000000 in
theorem r11_Format {I : Imm} {v : Value} {d : DSt} (hR : RDk I v d) (hf : d.Few 500000) : Tri Tryz.prog 56 #[v] I [] fun r J _ => ∃ v', r = .tuple #[v', .int .i64 (formatP d).2] ∧ RDk J v' (formatP d).1 := by
  have hrg := hR.wf.range
  obtain ⟨⟨sa, sl, sc⟩, ⟨wa, wl, wc⟩, rfl, hsl⟩ := hR.cells
  dsimp only at hsl
  subst hsl
  refine Tri.of (args := [rV ⟨sa, d.now.length, sc⟩ ⟨wa, wl, wc⟩ d.count d.down (gv d.arm) (gv d.fault)]) tabOk Tryz.func56 rfl (by kernel_rfl) (by kernel_rfl) ?_
  conv => whnf
  intro b1
  conv => whnf
  intro b2
  repeat (first | refine LoadD.own 0 rfl _ rfl rfl ?_)
  refine Tri.free (ref_Of d.now.length I) ?_
  rintro r _ _ hJ ⟨rfl, rfl⟩
  unfold formatP
  by_cases hsm : d.now.length < 64
  · rw [if_pos hsm, layA, if_pos (by omega)]
    conv => whnf
    intro b4
    repeat (first | refine LoadD.own 0 rfl _ rfl rfl ?_ | refine LoadD.own 1 rfl _ rfl rfl ?_ | refine StoreD.st 1 rfl rfl rfl ?_ | refine StoreD.st 2 rfl rfl rfl ?_ | refine CmpD.no (by decide) ?_)
    exact Done.mk ⟨_, rfl, hR⟩
  rw [if_neg hsm, layA, if_neg (by omega)]
  conv => whnf
  intro b4
  repeat (first | refine StoreD.st 2 rfl rfl rfl ?_ | refine CmpD.yes rfl ?_)
  have hlr := layL_range (n := (d.now.length : Int)) (by omega)
  have hd0 : (0 : Int) ≤ (layOf d.now.length).d := by show (0 : Int) ≤ 3 + layL d.now.length + (d.now.length : Int) / 16; omega
  obtain ⟨e, he⟩ : ∃ e : Nat, (layOf d.now.length).d = e := ⟨(layOf d.now.length).d.toNat, by omega⟩
  have he2 : 1 ≤ e ∧ e ≤ 1000 := by
    have : (layOf d.now.length).d = 3 + layL d.now.length + (d.now.length : Int) / 16 := rfl
    omega
  obtain ⟨B2, hB2⟩ : ∃ B2 : List Blk, B2 = [(b2, row (rC ⟨none, 0, 0⟩ ⟨none, 0, 0⟩ 0 false 0 0) 76)] := ⟨_, rfl⟩
  obtain ⟨B4, hB4⟩ : ∃ B4 : List Blk, B4 = [(b4, row (layOf d.now.length).vals 45)] := ⟨_, rfl⟩
  have hB4' : B4 = [(b4, row [.int .i64 (layOf d.now.length).b, .int .i64 (layOf d.now.length).l, .int .i64 (layOf d.now.length).lb, .int .i64 (layOf d.now.length).bi, .int .i64 (layOf d.now.length).i, .int .i64 (layOf d.now.length).ib, .int .i64 (e : Int)] 45)] := by rw [hB4, ← he]
  unfold fmtS
  rw [he, Int.toNat_natCast]
  refine CodeF.loopD [1, 2, 4, 6] (fun vs J' S' => ∃ (k : Nat) (d2 : DSt) (s w : Hd), 1 ≤ k ∧ k ≤ e ∧ blankP (e - 1) 1 d = blankP (e - k) k d2 ∧ d2.Few (500000 + k) ∧ RDk J' (rV s w d2.count d2.down (gv d2.arm) (gv d2.fault)) d2 ∧ I.le J' ∧
      vs = [.pointer (some ⟨b1, 0, none⟩), .pointer (some ⟨b2, 0, none⟩), .pointer (some ⟨b4, 0, none⟩), .int .i64 k] ∧ S' = [[(b1, row (rC s w d2.count d2.down (gv d2.arm) (gv d2.fault)) 76)], B2, B4])
    (fun vs _ _ => match vs with | [_, _, _, .int _ k] => ((e : Int) - k).toNat | _ => 0) ?_ ?_
  · exact ⟨_, by subst hB2 hB4; exact Drop.refl _, 1, d, ⟨sa, d.now.length, sc⟩, ⟨wa, wl, wc⟩, by omega, by omega, rfl, hf.mono (by omega), hR, Imm.le_refl _, rfl, rfl⟩
  clear hR
  rintro vs gE J S' hJ ⟨k, d2, ⟨sa2, sl2, sc2⟩, ⟨wa2, wl2, wc2⟩, hk1, hk, hbl, hf2, hR, hle, rfl, rfl⟩
  rw [hB4']
  repeat (first | refine LoadD.own 2 rfl _ rfl rfl ?_)
  refine CmpD.split (fun (c1 : (k : Int) < e) => ?_) (fun (c1 : ¬ (k : Int) < e) => ?_)
  · rw [show e - k = (e - (k + 1)) + 1 by omega, blankP] at hbl
    refine CodeF.sched [[], [], [], [0, 1, 2], [0, 1, 2, 3], [0, 1, 2, 3, 4], [0, 1, 2, 3, 4], [0, 1, 2, 3, 4, 5], [0, 1, 2, 3, 4, 5, 6, 7]] [0, 1, 2, 3, 4, 5, 6, 7, 8] (by kernel_rfl) ?_
    repeat (first | refine LoadP.at 0 rfl _ rfl rfl ?_)
    refine makeH tabOk rfl rfl rfl 4096 4096 rfl rfl (Nat.le_refl _) (by show 1 * 4096 ≤ _; decide) (by decide) (by show 4096 * 1 ≤ _; decide) rfl (by decide) ?_
    intro bN NB hNB
    repeat (first | refine Chk.mk ⟨rfl, trivial⟩ ?_)
    refine Tri.fix 3 (ch := NB) rfl fun I3 hI3 hm => ?_
    have hN : Rds I3 (some ⟨bN, 0, none⟩) 4096 (bts noughts) := by
      rw [noughts_bts]
      exact Rds.of_own (cap := 4096) (by rw [hNB]; show OwnC [(bN, row (rows 4096 [Value.int .u8 0]) _)] 1 _ _ _ _; exact OwnC.whole (by rw [rows_length]; rfl)) hm
    refine Tri.free (r4_Write (hR.mono hI3) (hf2.mono (by omega)) k (some ⟨bN, 0, none⟩) 4096 4096 noughts hN (by omega) (by unfold In64; omega)) ?_
    have hf3 := hf2.write (k : Int) noughts
    generalize d2.write (k : Int) noughts = dw at *
    obtain ⟨d3, e3⟩ := dw
    dsimp only at hbl hf3 ⊢
    rintro r J3 _ hJ3 ⟨v', rfl, hR3⟩
    obtain ⟨⟨sa3, sl3, sc3⟩, ⟨wa3, wl3, wc3⟩, rfl, _⟩ := hR3.cells
    rw [hB2]
    repeat (first | refine StoreD.st 0 rfl rfl rfl ?_)
    by_cases hz : e3 ≠ 0
    · rw [if_pos hz] at hbl
      refine CmpD.no hz ?_
      repeat (first | refine LoadD.own 0 rfl _ rfl rfl ?_ | refine LoadD.own 1 rfl _ rfl rfl ?_ | refine StoreD.st 1 rfl rfl rfl ?_)
      rw [hbl, if_pos hz]
      exact Done.mk ⟨_, rfl, hR3⟩
    · rw [if_neg hz] at hbl
      obtain rfl : e3 = 0 := by omega
      repeat (first | refine CmpD.yes rfl ?_)
      refine ToD.to (((k + 1 : Nat)) : Int) (by rw [wrap_i64 (by omega) (by omega)]; omega) ?_
      rw [← hB2, ← hB4']
      refine ⟨_, Drop.pick [0, 1, 2] _ rfl, ⟨k + 1, d3, ⟨sa3, sl3, sc3⟩, ⟨wa3, wl3, wc3⟩, by omega, by omega, hbl, hf3.mono (by omega), hR3, Imm.le_trans hle (Imm.le_trans hI3 hJ3), rfl, rfl⟩, ?_⟩
      show ((e : Int) - ((k + 1 : Nat) : Int)).toNat < ((e : Int) - (k : Int)).toNat; omega
  obtain rfl : k = e := by omega
  rw [Nat.sub_self] at hbl
  rw [hbl, show blankP 0 k d2 = (d2, 0) from rfl]
  dsimp only
  rw [if_neg (by simp)]
  rw [hB2]
  repeat (first | refine LoadD.own 0 rfl _ rfl rfl ?_)
  refine Tri.free (r4_Flush hR (hf2.mono (by omega))) ?_
  have hf3 := hf2.flush
  generalize d2.flush = fl at hf3 ⊢
  obtain ⟨d3, e3⟩ := fl
  dsimp only at hf3 ⊢
  rintro r J3 _ hJ3 ⟨v', rfl, hR3⟩
  obtain ⟨⟨sa3, sl3, sc3⟩, ⟨wa3, wl3, wc3⟩, rfl, _⟩ := hR3.cells
  repeat (first | refine StoreD.st 0 rfl rfl rfl ?_)
  by_cases hz : e3 ≠ 0
  · refine CmpD.no hz ?_
    repeat (first | refine LoadD.own 0 rfl _ rfl rfl ?_ | refine LoadD.own 1 rfl _ rfl rfl ?_ | refine StoreD.st 1 rfl rfl rfl ?_)
    rw [if_pos hz]
    exact Done.mk ⟨_, rfl, hR3⟩
  obtain rfl : e3 = 0 := by omega
  rw [if_neg hz]
  repeat (first | refine LoadD.own 2 rfl _ rfl rfl ?_ | refine CmpD.yes rfl ?_)
  have hRs : RightS ⟨d.now.length, 1, 1, 0⟩ := ⟨by show (64 : Int) ≤ d.now.length; omega, by show (d.now.length : Int) ≤ 512; omega, by show (1 : Int) ≤ 1; decide, by show (1 : Int) ≤ 8388608; decide, by show (1 : Int) ≤ 1; decide, by show (1 : Int) ≤ 549755813888; decide, by show (0 : Int) ≤ 0; decide, by show (0 : Int) ≤ 511; decide⟩
  obtain ⟨sp, hsp⟩ : ∃ sp : Sup, sp = ⟨d.now.length, 1, 1, 0⟩ := ⟨_, rfl⟩
  have hPut := ref_PutF sp J3
  rw [← hsp] at hRs
  have hspv : sp.v = (⟨d.now.length, 1, 1, 0⟩ : Sup).v := by rw [hsp]
  rw [hspv] at hPut
  rw [← hsp]
  refine Tri.free hPut ?_
  rintro r J4 _ hJ4 (⟨h, _⟩ | ⟨_, aS, capS, rfl, hSup⟩)
  · exact absurd hRs h
  repeat (first | refine LoadD.own 0 rfl _ rfl rfl ?_)
  refine Tri.free (r4_Write (hR3.mono hJ4) (hf3.mono (by omega)) 0 aS 4096 capS (supL sp) hSup (by omega) (by unfold In64; omega)) ?_
  have hf4 := hf3.write (0 : Int) (supL sp)
  generalize d3.write (0 : Int) (supL sp) = wr at hf4 ⊢
  obtain ⟨d4, e4⟩ := wr
  dsimp only at hf4 ⊢
  rintro r J5 _ hJ5 ⟨v', rfl, hR4⟩
  obtain ⟨⟨sa4, sl4, sc4⟩, ⟨wa4, wl4, wc4⟩, rfl, _⟩ := hR4.cells
  repeat (first | refine StoreD.st 0 rfl rfl rfl ?_)
  by_cases hz : e4 ≠ 0
  · refine CmpD.no hz ?_
    repeat (first | refine LoadD.own 0 rfl _ rfl rfl ?_ | refine LoadD.own 1 rfl _ rfl rfl ?_ | refine StoreD.st 1 rfl rfl rfl ?_)
    rw [if_pos hz]
    exact Done.mk ⟨_, rfl, hR4⟩
  obtain rfl : e4 = 0 := by omega
  rw [if_neg hz]
  repeat (first | refine LoadD.own 0 rfl _ rfl rfl ?_ | refine CmpD.yes rfl ?_)
  refine Tri.free (r4_Flush hR4 (hf4.mono (by omega))) ?_
  generalize d4.flush = fl
  obtain ⟨d5, e5⟩ := fl
  dsimp only
  rintro r J6 _ hJ6 ⟨v', rfl, hR5⟩
  obtain ⟨⟨sa5, sl5, sc5⟩, ⟨wa5, wl5, wc5⟩, rfl, _⟩ := hR5.cells
  repeat (first | refine LoadD.own 1 rfl _ rfl rfl ?_ | refine StoreD.st 1 rfl rfl rfl ?_)
  exact Done.mk ⟨_, rfl, hR5⟩
end Go.Proofs.YtegdcjnjnoeinaaGreat
namespace Go.Proofs.YtegdcjnjnoeinaaGreat
open Go.RowKit Go.Sl
set_option maxRecDepth 20000

theorem put5_get {l m : Dat} {i : Nat} (hl : l.length = 4096) (hm : m.length = 4096) (hi : i < 8) (j : Nat) : (put5 l ((m.drop (i * 512)).take 512) i)[j]? = if j / 512 = i then m[j]? else l[j]? := by
  unfold put5
  have h1 : (l.take (i * 512)).length = i * 512 := by rw [List.length_take]; omega
  have h2 : ((m.drop (i * 512)).take 512).length = 512 := by rw [List.length_take, List.length_drop]; omega
  rw [List.append_assoc]
  by_cases c1 : j < i * 512
  · rw [List.getElem?_append_left (by omega), List.getElem?_take, if_pos c1, if_neg (by omega)]
  rw [List.getElem?_append_right (by omega), h1]
  by_cases c2 : j < i * 512 + 512
  · rw [List.getElem?_append_left (by omega), List.getElem?_take, if_pos (by omega), List.getElem?_drop, if_pos (by omega), show i * 512 + (j - i * 512) = j by omega]
  · rw [List.getElem?_append_right (by omega), h2, List.getElem?_drop, if_neg (by omega), show i * 512 + 512 + (j - i * 512 - 512) = j by omega]
theorem tornK_get {old new : Dat} (h1 : old.length = 4096) (h2 : new.length = 4096) (sec : Nat) : ∀ k, k ≤ 8 → ∀ j : Nat, (tornK old new sec k)[j]? = if j / 512 < k ∧ sec / 2 ^ (j / 512) % 2 = 1 then new[j]? else old[j]?
  | 0, _, j => by rw [if_neg (by omega), tornK]
  | k + 1, hk, j => by
    have ih := tornK_get h1 h2 sec k (by omega) j
    rw [tornK_succ]
    by_cases c : sec / 2 ^ k % 2 = 1
    · rw [if_pos c, put5_get (tornK_length h1 h2 sec k (by omega)) h2 (by omega), ih]
      by_cases e : j / 512 = k
      · rw [if_pos e, if_pos ⟨by omega, by rw [e]; exact c⟩]
      · rw [if_neg e]
        by_cases f : j / 512 < k ∧ sec / 2 ^ (j / 512) % 2 = 1
        · rw [if_pos f, if_pos ⟨by omega, f.2⟩]
        · rw [if_neg f, if_neg (fun g => f ⟨by omega, g.2⟩)]
    · rw [if_neg c, ih]
      by_cases f : j / 512 < k ∧ sec / 2 ^ (j / 512) % 2 = 1
      · rw [if_pos f, if_pos ⟨by omega, f.2⟩]
      · rw [if_neg f, if_neg]
        intro g
        by_cases e : j / 512 = k
        · rw [e] at g; exact c g.2
        · exact f ⟨by omega, g.2⟩
/-- of which so many bytes are done -/
def Torn (old new : Dat) (sec : Nat) (k : Nat) (cur : Dat) : Prop := cur.length = 4096 ∧ ∀ j : Nat, cur[j]? = if j < k ∧ sec / 2 ^ (j / 512) % 2 = 1 then new[j]? else old[j]?
theorem Torn.zero {old new : Dat} (h1 : old.length = 4096) (sec : Nat) : Torn old new sec 0 old := ⟨h1, fun j => by rw [if_neg (by omega)]⟩
theorem Torn.no {old new cur : Dat} {sec k : Nat} (h : Torn old new sec k cur) (c : ¬ sec / 2 ^ (k / 512) % 2 = 1) : Torn old new sec (k + 1) cur := by
  refine ⟨h.1, fun j => ?_⟩
  rw [h.2 j]
  by_cases f : j < k ∧ sec / 2 ^ (j / 512) % 2 = 1
  · rw [if_pos f, if_pos ⟨by omega, f.2⟩]
  · rw [if_neg f, if_neg]
    intro g
    by_cases e : j = k
    · subst e; exact c g.2
    · exact f ⟨by omega, g.2⟩
theorem Torn.yes {old new cur : Dat} {sec k : Nat} (h : Torn old new sec k cur) (h2 : new.length = 4096) (hk : k < 4096) (c : sec / 2 ^ (k / 512) % 2 = 1) : Torn old new sec (k + 1) (cur.set k (new.getD k 0)) := by
  refine ⟨by rw [List.length_set]; exact h.1, fun j => ?_⟩
  have h1 := h.1
  by_cases e : k = j
  · subst e
    rw [List.getElem?_set_self (by omega), if_pos ⟨by omega, c⟩, List.getD_eq_getElem?_getD, List.getElem?_eq_getElem (by omega)]; rfl
  · rw [List.getElem?_set_ne e, h.2 j]
    by_cases f : j < k ∧ sec / 2 ^ (j / 512) % 2 = 1
    · rw [if_pos f, if_pos ⟨by omega, f.2⟩]
    · rw [if_neg f, if_neg (fun g => f ⟨by omega, g.2⟩)]
theorem Torn.all {old new cur : Dat} {sec : Nat} (h : Torn old new sec 4096 cur) (h1 : old.length = 4096) (h2 : new.length = 4096) : cur = tornP old new sec := by
  apply List.ext_getElem?
  intro j
  rw [h.2 j, tornP, tornK_get h1 h2 sec 8 (by omega) j]
  by_cases c : j < 4096
  · by_cases f : sec / 2 ^ (j / 512) % 2 = 1
    · rw [if_pos ⟨c, f⟩, if_pos ⟨by omega, f⟩]
    · rw [if_neg (fun g => f g.2), if_neg (fun g => f g.2)]
  · rw [if_neg (fun g => c g.1), if_neg (by omega)]
end Go.Proofs.YtegdcjnjnoeinaaGreat
namespace Go.Proofs.YtegdcjnjnoeinaaGreat
open Go.RowKit Go.Sl
set_option maxRecDepth 20000

theorem and_bit : ∀ sec : Nat, sec < 256 → ∀ q : Nat, q < 8 → ((sec &&& 2 ^ q) ≠ 0 ↔ sec / 2 ^ q % 2 = 1) := by decide +kernel
theorem bits_u8 : ∀ sec : Nat, sec < 256 → ∀ q : Nat, q < 8 → bits .and .u8 (sec : Int) ((2 ^ q : Nat) : Int) = ((sec &&& 2 ^ q : Nat) : Int) := by decide +kernel
set_option maxHeartbeats 4000000 in
theorem r4_Crash {I : Imm} {v : Value} {d : DSt} (hD : RDk I v d) (hf : d.Few 1000000) (aK : Option Addr) (nK capK : Nat) (keep : List Bool) (hK : Rds I aK nK (bools keep)) (tn : Int) (sec : Nat) (hsec : sec < 256) :
    Tri Tryz.prog 57 #[v, .slice aK nK capK, .int .i64 tn, .int .u8 sec] I [] fun r J _ => RDk J r (d.crash keep tn sec) := by
  refine Tri.fixed (Q := fun r J S' => ∃ ch, S' = [ch] ∧ ∀ J', J.le J' → (∀ x ∈ ch, J' x.1 = some x.2) → RDk J' r (d.crash keep tn sec)) ?_ ?_
  rotate_left
  · rintro r J S' hJ ⟨ch, rfl, h⟩
    exact ⟨0, ch, rfl, fun J' hJ' hm => h J' hJ' hm⟩
  have hwf := hD.wf
  have hsnd := hD.snd
  have hwr := hD.wf.crash keep tn sec
  have hKl : keep.length = nK := by have := hK.len; simpa [bools] using this
  obtain ⟨s, w, bS, gs, rfl, hS, hBk, hbd, hW, hwl, hwp⟩ := hD.ex
  have hsl : s.len = d.safe.length := by rw [← hbd, List.length_map]; have := hS.len; rw [List.length_map] at this; exact this.symm
  have hgl : gs.length = d.writes.length := by rw [← hwp, List.length_map]
  obtain ⟨f1, f2, f3⟩ := hf
  have hr := hwf.range
  have hll := hwf.len
  refine Tri.lay (S2 := [[]]) (by simp) ?_
  refine Tri.drop ?_ (fun _ _ _ _ h => h)
  obtain ⟨sa, sl, sc⟩ := s
  obtain ⟨wa, wl, wc⟩ := w
  dsimp only at hS hW hwl hsl
  subst hwl
  refine Tri.ofF (args := [rV ⟨sa, sl, sc⟩ ⟨wa, gs.length, wc⟩ d.count d.down (gv d.arm) (gv d.fault), .slice aK nK capK, .int .i64 tn, .int .u8 sec]) tabOk Tryz.func57 rfl (by kernel_rfl) (by kernel_rfl) ?_
  refine CodeF.stepD ?_
  conv => whnf
  intro b1
  conv => whnf
  intro b2
  refine CodeF.stepD ?_
  skip
  refine CodeF.stepD ?_
  repeat (first | refine LoadD.own 1 rfl _ rfl rfl ?_)
  have hplain : ∀ u ∈ bS.map Bk.cell, Plain u = true := by
    intro u hu
    obtain ⟨b, _, rfl⟩ := List.mem_map.1 hu
    rfl
  refine appendD tabOk rfl rfl rfl rfl rfl rfl rfl 0 rfl (OwnC.nil 1 none) (SrcOk.slice (n := sl) (news := bS.map Bk.cell) tabOk rfl (show Rds I sa (sl * 1) (bS.map Bk.cell) by rw [Nat.mul_one]; exact hS).slC hplain) rfl (by show (0 + sl) * 24 ≤ _; omega) (by omega) ?_
  intro aL capL chL hL
  rw [List.nil_append, Nat.zero_add] at hL
  obtain ⟨n, hn⟩ : ∃ n, n = gs.length := ⟨_, rfl⟩
  rw [Nat.zero_add sl, ← hn]
  obtain ⟨B1, hB1⟩ : ∃ B1 : List Blk, B1 = [(b1, row [.slice sa sl sc, .slice wa n wc, .int .i64 d.count, .bool d.down, .int .i64 (gv d.arm), .int .i64 (gv d.fault)] 76)] := ⟨_, rfl⟩
  obtain ⟨B2, hB2⟩ : ∃ B2 : List Blk, B2 = [(b2, row [.slice none 0 0, .slice none 0 0, .int .i64 0, .bool false, .int .i64 0, .int .i64 0] 76)] := ⟨_, rfl⟩
  refine CodeF.join [4, 8, 9] (fun vs J S' => ∃ (ch : List Blk) (bks : List Bk), OwnC ch 1 aL sl capL (bks.map Bk.cell) ∧ bks.map Bk.data = crashK keep tn sec 0 (gs.map Img.pr) d.safe ∧ (∀ b ∈ bks, BkOk J b) ∧ I.le J ∧
      vs = [.pointer (some ⟨b1, 0, none⟩), .pointer (some ⟨b2, 0, none⟩), .slice aL sl capL] ∧ S' = [ch, B1, B2]) ?_ ?_
  rotate_left
  · rintro vs gE J S' hJ ⟨ch, bks, hO, hdat, hbok, hle, rfl, rfl⟩
    subst hB1 hB2
    refine CodeF.den ?_
    repeat (first | refine LoadD.own 1 rfl _ rfl rfl ?_ | refine LoadD.own 2 rfl _ rfl rfl ?_ | refine StoreD.st 2 rfl rfl rfl ?_)
    rw [hwp] at hdat
    refine Done.mk ⟨[ch], Drop.pick [0] _ rfl, ch, rfl, fun J' hJ' hm => ⟨hwr, ?_, ⟨aL, sl, capL⟩, ⟨none, 0, 0⟩, bks, [], rfl, Rds.of_own hO hm, fun b hb => (hbok b hb).mono hJ', hdat, ⟨⟨rfl, .inl rfl⟩, by simp⟩, rfl, rfl⟩⟩
    intro k hk
    show (d.crash keep tn sec).now[k]? = some ((d.crash keep tn sec).safe.getD k [])
    have hk' : k < (d.crash keep tn sec).now.length := hk
    show (d.crash keep tn sec).now[k]? = some ((d.crash keep tn sec).now.getD k [])
    rw [List.getD_eq_getElem?_getD, List.getElem?_eq_getElem hk']; rfl
  refine CodeF.stepD ?_
  refine CodeF.blockF ?_ rfl
  refine CodeF.loopF [1, 2, 3, 4, 8, 9, 10] (fun vs J' S' => ∃ (i : Nat) (ch : List Blk) (bks : List Bk), i ≤ n ∧ OwnC ch 1 aL sl capL (bks.map Bk.cell) ∧ bks.map Bk.data = crashK keep tn sec 0 ((gs.take i).map Img.pr) d.safe ∧ (∀ b ∈ bks, BkOk J' b) ∧ I.le J' ∧
      vs = [.slice aK nK capK, .int .i64 tn, .int .u8 sec, .pointer (some ⟨b1, 0, none⟩), .pointer (some ⟨b2, 0, none⟩), .slice aL sl capL, .int .i64 i] ∧ S' = [ch, B1, B2])
    (fun vs _ _ => match vs with | [_, _, _, _, _, _, .int _ i] => ((n : Int) - i).toNat | _ => 0) ?_ ?_
  · exact ⟨_, by subst hB1 hB2; exact Drop.refl _, 0, chL, bS, by omega, hL, by rw [hbd]; rfl, hBk, Imm.le_refl _, rfl, rfl⟩
  rintro vs gE J S' hJ ⟨i, ch, bks, hi, hO, hdat, hbok, hle, rfl, rfl⟩
  have hbl : bks.length = sl := by have := hO.n; rw [List.length_map] at this; omega
  subst hB1 hB2
  refine CodeF.stepD ?_
  repeat (first | refine LoadD.own 1 rfl _ rfl rfl ?_)
  refine CmpD.split (fun (c1 : (i : Int) < n) => ?_) (fun (c1 : ¬ (i : Int) < n) => ?_)
  rotate_left
  · obtain rfl : i = n := by omega
    have htake : gs.take i = gs := List.take_of_length_le (by omega)
    rw [htake] at hdat
    exact ⟨_, Drop.refl _, ch, bks, hO, hdat, hbok, hle, rfl, rfl⟩
  have hil : i < gs.length := by omega
  have htk : gs.take (i + 1) = gs.take i ++ [gs[i]] := by rw [List.take_add_one, List.getElem?_eq_getElem hil]; rfl
  have hlt : (gs.take i).length = i := by rw [List.length_take]; omega
  have hgi := (hW.2 _ (List.getElem_mem hil)).mono hle
  have hwi := hwf.writes gs[i].pr (by rw [← hwp]; exact List.mem_map_of_mem (List.getElem_mem hil))
  have hcell := imgCells_at hil
  rcases hW.1.mem with q0 | ⟨bL, oL, cL, TL, fL, rfl, hIL, hcL⟩
  · omega
  have hsrc : (cL.drop (oL + i * 2)).take 2 = [.int .i64 gs[i].blk, .slice gs[i].a gs[i].len gs[i].cap] := by
    rw [take_part hcL (by omega), hcell]
  generalize gs[i] = g at *
  obtain ⟨gb, ga, gl, gc, gd⟩ := g
  dsimp only [Img.pr] at hgi hwi hsrc
  obtain ⟨k, rfl⟩ : ∃ k : Nat, gb = k := ⟨gb.toNat, by omega⟩
  obtain rfl : gl = 4096 := by have := hgi.2.len; dsimp only at this; rw [bts_length] at this; have := hwi.2.2; omega
  have hnew : ∀ bks' : List Bk, bks'.map Bk.data = crash1 keep tn sec i k gd (bks.map Bk.data) → bks'.map Bk.data = crashK keep tn sec 0 ((gs.take (i + 1)).map Img.pr) d.safe := by
    intro bks' h
    rw [htk, List.map_append, List.map_singleton, crashK_snoc, List.length_map, hlt, Nat.zero_add, ← hdat, h]; rfl
  obtain ⟨B1, hB1⟩ : ∃ B1 : List Blk, B1 = [(b1, row [.slice sa sl sc, .slice (some ⟨bL, oL, none⟩) n wc, .int .i64 d.count, .bool d.down, .int .i64 (gv d.arm), .int .i64 (gv d.fault)] 76)] := ⟨_, rfl⟩
  obtain ⟨B2, hB2⟩ : ∃ B2 : List Blk, B2 = [(b2, row [.slice none 0 0, .slice none 0 0, .int .i64 0, .bool false, .int .i64 0, .int .i64 0] 76)] := ⟨_, rfl⟩
  refine CodeF.join [1, 2, 3, 4, 8, 9, 10] (fun vs J' S' => ∃ (ch : List Blk) (bks' : List Bk), OwnC ch 1 aL sl capL (bks'.map Bk.cell) ∧ bks'.map Bk.data = crash1 keep tn sec i k gd (bks.map Bk.data) ∧ (∀ b ∈ bks', BkOk J' b) ∧ J.le J' ∧
      vs = [.slice aK nK capK, .int .i64 tn, .int .u8 sec, .pointer (some ⟨b1, 0, none⟩), .pointer (some ⟨b2, 0, none⟩), .slice aL sl capL, .int .i64 i] ∧ S' = [ch, B1, B2]) ?_ ?_
  rotate_left
  · rintro vs gE J2 S' hJ2 ⟨ch, bks', hO, hdat, hbok, hle2, rfl, rfl⟩
    subst hB1 hB2
    refine CodeF.den ?_
    refine ToD.i64 (by omega) (by omega) ?_
    refine ⟨_, Drop.refl _, ⟨i + 1, ch, bks', by omega, hO, hnew _ hdat, hbok, Imm.le_trans hle hle2, rfl, rfl⟩, ?_⟩
    show ((n : Int) - ((i : Int) + 1)).toNat < ((n : Int) - (i : Int)).toNat; omega
  clear hnew htk hlt hdat hcell hS
  rcases hO.at' with q0 | ⟨bX, pre, post, TX, rfl, rfl, hpost⟩
  · have := hO.le; omega
  have hkb : k < bks.length := by omega
  have hset : ∀ bk : Bk, splice (pre ++ bks.map Bk.cell ++ post) (pre.length + k) [bk.cell] = pre ++ (bks.set k bk).map Bk.cell ++ post := by
    intro bk
    rw [splice_mid _ _ _ _ _ (by simp; omega), List.map_set, List.set_eq_take_append_cons_drop, if_pos (by simp; omega)]
    simp
  have hown : ∀ bk : Bk, OwnC [(bX, row (pre ++ (bks.set k bk).map Bk.cell ++ post) TX)] 1 (some ⟨bX, pre.length, none⟩) sl capL ((bks.set k bk).map Bk.cell) := fun bk => ⟨by simp [hbl], hO.le, .inr ⟨bX, pre, post, TX, rfl, rfl, hpost⟩⟩
  have hXc : ∀ R : St, Cells J ([(bX, row (pre ++ bks.map Bk.cell ++ post) TX)] :: R) bX pre.length sl (bks.map Bk.cell) := fun R => ⟨_, TX, (0, 0), .one 0 rfl, by have := own_take pre (bks.map Bk.cell) post; rwa [List.length_map, hbl] at this, by rw [List.length_map, hbl]⟩
  have hskip : keep.getD i false = false → (i : Int) ≠ tn → bks.map Bk.data = crash1 keep tn sec i k gd (bks.map Bk.data) := fun h c2 => by rw [crash1, if_neg c2, h]; rfl
  refine CodeF.blockF ?_ rfl
  refine CodeF.stepD ?_
  rw [hB1]
  repeat (first | refine LoadD.own 1 rfl _ rfl rfl ?_)
  refine Chk.mk (by omega) ?_
  refine LoadD.imm (hle _ _ hIL) [.int .i64 k, .slice ga 4096 gc] hsrc rfl ?_
  conv => whnf
  intro b11
  repeat (first | refine StoreD.st 3 rfl rfl rfl ?_)
  rw [← hB1, ← hB2]
  refine CodeF.stepD ?_
  refine CmpD.split (fun (c2 : (i : Int) = tn) => ?_) (fun (c2 : ¬ (i : Int) = tn) => ?_)
  rotate_left
  · refine CmpD.split (fun (c3 : (i : Int) < nK) => ?_) (fun (c3 : ¬ (i : Int) < nK) => ?_)
    · have hkb := bools_get (l := keep) (i := i) (by omega)
      rcases hK.mem with q0 | ⟨bK, oK, cK, TK, fK, rfl, hIK, hcK⟩
      · omega
      refine Chk.mk (by omega) ?_
      refine LoadD.imm (hle _ _ hIK) [.bool (keep.getD i false)] (take_get hcK hkb) rfl ?_
      cases hkv : keep.getD i false with
      | true =>
        repeat (first | refine LoadD.own 3 rfl _ rfl rfl ?_)
        refine Chk.mk (by omega) ?_
        refine StoreD.to 0 rfl _ (hset ⟨ga, gc, gd⟩) (by simp only [List.length_append, List.length_map, hbl]; show pre.length + k + 1 ≤ _; omega) (.inr (.inr (Nat.le_refl _))) _ rfl ?_
        refine ⟨_, Drop.pick [0, 1, 2] _ rfl, _, bks.set k ⟨ga, gc, gd⟩, hown _, ?_, ?_, Imm.le_refl _, rfl, rfl⟩
        · rw [crash1, if_neg c2, hkv, if_pos rfl, List.map_set]
        · intro y hy
          rcases List.mem_or_eq_of_mem_set hy with hy | rfl
          · exact hbok y hy
          · exact hgi.2
      | false =>
        skip
        exact ⟨_, Drop.pick [0, 1, 2] _ rfl, _, bks, hO, hskip hkv c2, hbok, Imm.le_refl _, rfl, rfl⟩
    · skip
      exact ⟨_, Drop.pick [0, 1, 2] _ rfl, _, bks, hO, hskip (by rw [List.getD_eq_getElem?_getD, List.getElem?_eq_none (by omega)]; rfl) c2, hbok, Imm.le_refl _, rfl, rfl⟩
  skip
  refine CodeF.stepD ?_
  repeat (first | refine LoadD.own 3 rfl _ rfl rfl ?_)
  refine Chk.mk (by omega) ?_
  have hbo := hbok _ (List.getElem_mem hkb)
  refine LoadD.mk [(bks[k]).cell] ((hXc _).at (by rw [Int.toNat_natCast, List.getElem?_map, List.getElem?_eq_getElem hkb]; rfl)) ?_
  refine Tri.frameX (copy_own J (bks[k]).a 4096 (bks[k]).cap (bks[k]).data hbo (by omega)) [] rfl rfl ?_
  rintro r J2 A' hJ2 ⟨aC, capC, chC, rfl, hC, rfl, rfl⟩
  have hol : (bks[k]).data.length = 4096 := by have := hbo.len; rwa [bts_length] at this
  have hgl4 : gd.length = 4096 := hwi.2.2
  have hold : (bks.map Bk.data).getD k [] = (bks[k]).data := by rw [List.getD_eq_getElem?_getD, List.getElem?_map, List.getElem?_eq_getElem hkb]; rfl
  generalize (bks[k]).data = old at *
  obtain ⟨B3, hB3⟩ : ∃ B3 : List Blk, B3 = [(b11, row [.int .i64 k, .slice ga 4096 gc] 39)] := ⟨_, rfl⟩
  refine CodeF.join [1, 2, 3, 4, 8, 9, 10, 11, 12] (fun vs J' S' => ∃ (chC : List Blk), OwnB chC aC 4096 capC (tornP old gd sec) ∧ J = J' ∧
        vs = [.slice aK nK capK, .int .i64 tn, .int .u8 sec, .pointer (some ⟨b1, 0, none⟩), .pointer (some ⟨b2, 0, none⟩), .slice (some ⟨bX, pre.length, none⟩) sl capL, .int .i64 i, .pointer (some ⟨b11, 0, none⟩), .slice aC 4096 capC] ∧
        S' = [[(bX, row (pre ++ bks.map Bk.cell ++ post) TX)], B1, B2, B3, chC]) ?_ ?_
  rotate_left
  · clear hC
    rintro vs gE J3 S3 hJ3 ⟨chC, hC, rfl, rfl, rfl⟩
    refine CodeF.fixD 4 rfl fun J4 hJ4 hm4 => ?_
    refine CodeF.den ?_
    rw [hB3]
    repeat (first | refine LoadD.own 3 rfl _ rfl rfl ?_)
    refine Chk.mk (by omega) ?_
    refine StoreD.to 0 rfl _ (hset ⟨aC, capC, tornP old gd sec⟩) (by simp only [List.length_append, List.length_map, hbl]; show pre.length + k + 1 ≤ _; omega) (.inr (.inr (Nat.le_refl _))) _ rfl ?_
    refine ⟨_, Drop.pick [0, 1, 2] _ rfl, _, bks.set k ⟨aC, capC, tornP old gd sec⟩, hown _, ?_, ?_, hJ4, rfl, rfl⟩
    · rw [crash1, if_pos c2, List.map_set, hold]
    · intro y hy
      rcases List.mem_or_eq_of_mem_set hy with hy | rfl
      · exact (hbok y hy).mono hJ4
      · exact Rds.of_own hC hm4
  refine CodeF.den ?_
  rw [hB3]
  refine CodeF.loopD [1, 2, 3, 4, 8, 9, 10, 11, 12, 13] (fun vs J' S' => ∃ (m : Nat) (cur : Dat) (chC : List Blk), m ≤ 4096 ∧ Torn old gd sec m cur ∧ OwnB chC aC 4096 capC cur ∧ J = J' ∧
        vs = [.slice aK nK capK, .int .i64 tn, .int .u8 sec, .pointer (some ⟨b1, 0, none⟩), .pointer (some ⟨b2, 0, none⟩), .slice (some ⟨bX, pre.length, none⟩) sl capL, .int .i64 i, .pointer (some ⟨b11, 0, none⟩), .slice aC 4096 capC, .int .i64 m] ∧
        S' = [[(bX, row (pre ++ bks.map Bk.cell ++ post) TX)], B1, B2, [(b11, row [.int .i64 k, .slice ga 4096 gc] 39)], chC])
      (fun vs _ _ => match vs with | [_, _, _, _, _, _, _, _, _, .int _ m] => ((4096 : Int) - m).toNat | _ => 0) ?_ ?_
  · exact ⟨_, Drop.refl _, 0, old, chC, by omega, Torn.zero hol sec, hC, rfl, rfl, rfl⟩
  clear hC
  rintro vs gE2 J3 S3 hJ3 ⟨m, cur, chC, hm, hT, hC, rfl, rfl, rfl⟩
  have hcl := hT.1
  refine CmpD.split (fun (c4 : (m : Int) < 4096) => ?_) (fun (c4 : ¬ (m : Int) < 4096) => ?_)
  · have hq : m / 512 < 8 := by omega
    refine Chk.mk (by decide) ?_
    refine ToD.to (((m / 512 : Nat)) : Int) ?_ ?_
    · show IntKind.i64.wrap ((m : Int).tdiv 512) = _
      rw [Int.tdiv_eq_ediv_of_nonneg (by omega), wrap_i64 (by omega) (by omega)]; rfl
    refine Chk.mk (by omega) ?_
    generalize hjq : m / 512 = q at *
    refine ToD.to ((2 ^ q : Nat) : Int) ?_ ?_
    · show IntKind.u8.wrap (1 * 2 ^ (min (q : Int).toNat 8)) = _
      rw [Int.toNat_natCast, Nat.min_eq_left (by omega)]
      have hq8 : q = 0 ∨ q = 1 ∨ q = 2 ∨ q = 3 ∨ q = 4 ∨ q = 5 ∨ q = 6 ∨ q = 7 := by omega
      rcases hq8 with rfl | rfl | rfl | rfl | rfl | rfl | rfl | rfl <;> decide
    refine ToD.to ((sec &&& 2 ^ q : Nat) : Int) ?_ ?_
    · exact bits_u8 sec hsec q hq
    have hand := and_bit sec hsec q hq
    refine CmpD.split (fun (c5 : ((sec &&& 2 ^ q : Nat) : Int) = 0) => ?_) (fun (c5 : ¬ ((sec &&& 2 ^ q : Nat) : Int) = 0) => ?_)
    · have hb : ¬ sec / 2 ^ (m / 512) % 2 = 1 := fun h => (hand.2 (hjq ▸ h)) (by omega)
      refine ToD.i64 (by omega) (by omega) ?_
      refine ⟨_, Drop.refl _, ⟨m + 1, cur, chC, by omega, hT.no hb, hC, rfl, rfl, rfl⟩, ?_⟩
      show ((4096 : Int) - ((m : Int) + 1)).toNat < ((4096 : Int) - (m : Int)).toNat; omega
    · have hb : sec / 2 ^ (m / 512) % 2 = 1 := hjq ▸ hand.1 (by omega)
      have hT2 := hT.yes hgl4 (by omega) hb
      have hCm := hC
      rcases hC.at' with q0 | ⟨bC, preC, postC, TC, rfl, rfl, hpostC⟩
      · have := hC.le; omega
      rcases hgi.2.mem with q0 | ⟨bG, oG, cG, TG, fG, rfl, hIG, hcG⟩
      · cases q0
      have hgm : (bts gd)[m]? = some (.int .u8 (gd.getD m 0).toNat) := by
        rw [bts, List.getElem?_map, List.getD_eq_getElem?_getD, List.getElem?_eq_getElem (by omega)]; rfl
      dsimp only at hcG
      repeat (first | refine LoadD.own 3 rfl _ rfl rfl ?_)
      refine Chk.mk (by omega) ?_
      refine LoadD.imm hIG [.int .u8 (gd.getD m 0).toNat] (take_get hcG hgm) rfl ?_
      refine Chk.mk (by omega) ?_
      have hset5 : splice (preC ++ bts cur ++ postC) (preC.length + m) [.int .u8 (gd.getD m 0).toNat] = preC ++ bts (cur.set m (gd.getD m 0)) ++ postC := by
        rw [splice_mid _ _ _ _ _ (by simp [bts]; omega)]
        simp only [bts, List.map_set]
        rw [List.set_eq_take_append_cons_drop, if_pos (by simp; omega)]
        simp
      refine StoreD.to 4 rfl _ hset5 (by simp only [List.length_append, bts_length, hcl]; show preC.length + m + 1 ≤ _; omega) (.inr (.inr (Nat.le_refl _))) _ rfl ?_
      refine ToD.i64 (by omega) (by omega) ?_
      refine ⟨_, Drop.refl _, ⟨m + 1, cur.set m (gd.getD m 0), [(bC, row (preC ++ bts (cur.set m (gd.getD m 0)) ++ postC) TC)], by omega, hT2, ⟨by rw [bts_length, List.length_set, hcl], hCm.le, .inr ⟨bC, preC, postC, TC, rfl, rfl, hpostC⟩⟩, rfl, rfl, rfl⟩, ?_⟩
      show ((4096 : Int) - ((m : Int) + 1)).toNat < ((4096 : Int) - (m : Int)).toNat; omega
  · obtain rfl : m = 4096 := by omega
    rw [hT.all hol hgl4] at hC
    exact ⟨_, Drop.refl _, chC, hC, rfl, rfl, rfl⟩
end Go.Proofs.YtegdcjnjnoeinaaGreat
namespace Go.Proofs.YtegdcjnjnoeinaaGreat
open Go.RowKit Go.Sl
set_option maxRecDepth 20000

theorem sortP_length (l : List PImg) : (sortP l).length = l.length := by unfold sortP; rw [List.length_map, (sortI_perm _).length_eq, List.length_map]
theorem release_groups {j : JSt} (hw : j.Wf) (q : Int) : (j.release q).1.groups.length ≤ j.groups.length := by
  unfold JSt.release
  split
  · exact Nat.le_refl _
  split
  · exact Nat.le_refl _
  generalize hq : relAll q j.groups j.s j.t j.u j.h = w
  obtain ⟨gs, s, t, u, h, e⟩ := w
  obtain ⟨_, k, rfl⟩ := relAll_mid q _ _ _ _ _ _ _ _ _ _ _ hw.ring hq
  show (j.groups.drop k).length ≤ _
  rw [List.length_drop]; omega
theorem flush_groups (j : JSt) (d : DSt) : (j.flush d).1.groups = j.groups := by
  unfold JSt.flush
  split
  · rfl
  · split <;> rfl
theorem ckS_wf {v : VSt} {d : DSt} (hw : v.j.Wf) : (v.ckS d).2.1.Wf ∧ (v.ckS d).2.1.groups.length ≤ v.j.groups.length := by
  unfold VSt.ckS
  have h1 := hw.flush d
  have h2 := flush_groups v.j d
  split
  · exact ⟨h1, by rw [h2]; exact Nat.le_refl _⟩
  split
  · exact ⟨h1, by rw [h2]; exact Nat.le_refl _⟩
  · exact ⟨h1.release _, by have := release_groups h1 (v.j.flush d).1.synced; rw [h2] at this; exact this⟩
theorem ckS_few {v : VSt} {d : DSt} {k : Nat} (hf : d.Few k) : (v.ckS d).2.2.Few (k + v.fresh.length + 1) := by
  unfold VSt.ckS
  have h1 := jflush_few (j := v.j) hf
  have h2 := doP_few h1 (sortP v.fresh) v.sup v.slot
  rw [sortP_length] at h2
  split
  · exact h1.mono (by omega)
  split
  · exact h2
  · exact h2
theorem v_Fits (bV bD bJ bM : Nat) (v : VSt) (I : Imm) (S : St) (k : Nat) (br : Bool) (hk : S[k]? = some (vChunk bV bD bJ bM v.j.lay v.epoch v.slot br)) (n : Int) : Tri Tryz.prog 27 #[.pointer (some ⟨bV, 0, none⟩), .int .i64 n] I S fun r J S' => r = .bool (v.fits n) ∧ I = J ∧ S' = S := by
  refine Tri.of (args := [.pointer (some ⟨bV, 0, none⟩), .int .i64 n]) tabOk Tryz.func27 rfl (by kernel_rfl) (by kernel_rfl) ?_
  refine Tri.free (record_Blocks n I []) ?_
  rintro r _ _ hJ ⟨rfl, rfl, rfl⟩
  refine Tri.mono (v_none bV bD bJ bM _ _ _ _ I S k hk) ?_
  rintro r _ _ hJ ⟨rfl, rfl, rfl⟩
  unfold VSt.fits
  refine CmpD.split (fun c1 => ?_) (fun c1 => ?_)
  · refine LoadD.own k hk [.int .i64 v.j.lay.lb] rfl rfl ?_
    refine CmpD.split (fun c2 => ?_) (fun c2 => ?_)
    · rw [decide_eq_true ⟨c1, c2⟩]
      exact Done.mk ⟨rfl, rfl, rfl⟩
    · rw [decide_eq_false (fun h => c2 h.2)]
      exact Done.mk ⟨rfl, rfl, rfl⟩
  · rw [decide_eq_false (fun h => c1 h.1)]
    exact Done.mk ⟨rfl, rfl, rfl⟩
theorem append_lay (j : JSt) (d : DSt) (l : List PImg) (b : Bool) : (j.appendB d l b).1.lay = j.lay := by
  unfold JSt.appendB
  split
  · rfl
  unfold JSt.append
  split
  · rfl
  split
  · rfl
  generalize putS j.s j.t j.u j.h (l.length + 1) (if b = true then l.length + 1 else 0) = q
  obtain ⟨⟨s, t, u, h, e⟩, a⟩ := q
  dsimp only
  split
  · rfl
  split <;> rfl
/-- none of what was committed last lies in these blocks -/
def Apt (X : Nat → Prop) (gs : List Img) : Prop := ∀ g ∈ gs, ∀ b off, g.a = some ⟨b, off, none⟩ → ¬ X b
def VkX (X : Nat → Prop) (J : Imm) (bV bD : Nat) (v : VSt) (ch : List Blk) : Prop := ∃ (bJ bM : Nat) (ob : Obj) (chJ : List Blk) (gs : List Img),
  ch = vChunk bV bD bJ bM v.j.lay v.epoch v.slot v.broken ++ ((bM, ob) :: chJ) ∧ Jk bJ bD v.j chJ ∧ MapR ob (gs.map hdr) ∧ (∀ g ∈ gs, ImgOk J g) ∧ gs.map Img.pr = v.fresh ∧ Apt X gs
theorem VkX.vk {X : Nat → Prop} {J : Imm} {bV bD : Nat} {v : VSt} {ch : List Blk} : VkX X J bV bD v ch → Vk J bV bD v ch := fun ⟨bJ, bM, ob, chJ, gs, h1, h2, h3, h4, h5, _⟩ => ⟨bJ, bM, ob, chJ, gs, h1, h2, h3, h4, h5⟩
theorem Vk.all {J : Imm} {bV bD : Nat} {v : VSt} {ch : List Blk} : Vk J bV bD v ch → VkX (fun _ => False) J bV bD v ch := fun ⟨bJ, bM, ob, chJ, gs, h1, h2, h3, h4, h5⟩ => ⟨bJ, bM, ob, chJ, gs, h1, h2, h3, h4, h5, fun _ _ _ _ _ h => h⟩
theorem Vk.none {X : Nat → Prop} {J : Imm} {bV bD : Nat} {v : VSt} {ch : List Blk} (h : Vk J bV bD v ch) (hf : v.fresh = []) : VkX X J bV bD v ch := by
  obtain ⟨bJ, bM, ob, chJ, gs, h1, h2, h3, h4, h5⟩ := h
  refine ⟨bJ, bM, ob, chJ, gs, h1, h2, h3, h4, h5, ?_⟩
  rw [hf, List.map_eq_nil_iff] at h5
  subst h5
  intro g hg; cases hg
theorem own_blk {ch : List Blk} {size : Nat} {a : Option Addr} {len cap : Nat} {vs : List Value} (h : OwnC ch size a len cap vs) (hl : 0 < len) {b off : Nat} (ha : a = some ⟨b, off, none⟩) : ∃ o, (b, o) ∈ ch := by
  rcases h.at' with q | ⟨b', pre, post, T, rfl, rfl, _⟩
  · have := h.le; omega
  · cases ha
    exact ⟨_, List.mem_cons_self⟩
theorem clone_fixN (I : Imm) (a : Option Addr) (len cap : Nat) (l : List UInt8) (h : Rds I a len (bts l)) (hlen : len ≤ 100000000) (h0 : 0 < len) :
    Tri Tryz.prog 86 #[.slice a len cap] I [] fun v J _ => ∃ a' cap', v = .slice a' len cap' ∧ Rds J a' len (bts l) ∧ ∀ b off, a' = some ⟨b, off, none⟩ → I b = none := by
  refine Tri.fixedN (clone_bytes I [] a len cap (bts l) (by rw [Nat.mul_one]; exact h.slC) (bts_plain l) (by omega)) ?_
  rintro v J S' hJ ⟨a', cap', ch, rfl, hown, rfl, rfl⟩
  refine ⟨0, ch, rfl, fun J' hJ' hm => ⟨a', cap', rfl, Rds.of_own hown fun x hx => (hm x hx).1, fun b off ha => ?_⟩⟩
  obtain ⟨o, ho⟩ := own_blk hown h0 ha
  exact (hm _ ho).2
theorem Apt.iput {X : Nat → Prop} {gs : List Img} {g : Img} (h : Apt X gs) (hg : ∀ b off, g.a = some ⟨b, off, none⟩ → ¬ X b) : Apt X (iput gs g) := by
  intro y hy
  rcases iput_mem hy with rfl | hy
  · exact hg
  · exact h y hy
/-- a volume, laid out -/
structure VAt (X : Nat → Prop) (J : Imm) (bD bJ bM : Nat) (v : VSt) (ob : Obj) (chJ : List Blk) (gs : List Img) : Prop where
  j : Jk bJ bD v.j chJ
  m : MapR ob (gs.map hdr)
  ok : ∀ g ∈ gs, ImgOk J g
  pr : gs.map Img.pr = v.fresh
  ap : Apt X gs
theorem VAt.mono {X : Nat → Prop} {I J : Imm} {bD bJ bM : Nat} {v : VSt} {ob : Obj} {chJ : List Blk} {gs : List Img} (h : VAt X I bD bJ bM v ob chJ gs) (hJ : I.le J) : VAt X J bD bJ bM v ob chJ gs := ⟨h.j, h.m, fun g hg => (h.ok g hg).mono hJ, h.pr, h.ap⟩
theorem homeOk_snoc {x : Lay} {l : List PImg} {g : PImg} (h : HomeOk x l) (hg : x.bi ≤ g.1 ∧ g.1 < x.b) : HomeOk x (l ++ [g]) := by
  intro y hy
  rcases List.mem_append.1 hy with hy | hy
  · exact h y hy
  · simp only [List.mem_singleton] at hy; subst hy; exact hg
set_option maxHeartbeats 8000000 in
theorem vk_CommitX {X : Nat → Prop} {bV bD : Nat} {v : VSt} {ch : List Blk} {I : Imm} (hX : ∀ b, X b → ∃ o, I b = some o) (h : VkX X I bV bD v ch) (hw : v.j.Wf) (hep : v.epoch = v.j.epoch) (hsl : 0 ≤ v.slot ∧ v.slot ≤ 1) (hfr : v.fresh.length ≤ 1000) (hgr : v.j.groups.length ≤ 800000) {d : DSt} {chD : List Blk} (hD : Dk I bD d chD) (hf : d.Few 700000)
    (aL : Option Addr) (capL : Nat) (ls : List Img) (hi : ImgsOk I aL ls) (hll : ls.length ≤ 1000000) :
    Tri Tryz.prog 16 #[.pointer (some ⟨bV, 0, none⟩), .slice aL ls.length capL] I [ch, chD] fun r J S' =>
      r = .tuple #[.int .i64 (v.commit d (ls.map Img.pr)).2.2.1, .int .i64 (v.commit d (ls.map Img.pr)).2.2.2] ∧ ∃ ch' chD', Vk J bV bD (v.commit d (ls.map Img.pr)).1 ch' ∧ ((v.commit d (ls.map Img.pr)).2.2.2 = 0 → VkX X J bV bD (v.commit d (ls.map Img.pr)).1 ch') ∧ Dk J bD (v.commit d (ls.map Img.pr)).2.1 chD' ∧ S' = [ch', chD'] := by
  have h0 := h.vk
  obtain ⟨bJ, bM, ob, chJ, gs, rfl, hj, hM, hg, hp, hap⟩ := h
  have hA : VAt X I bD bJ bM v ob chJ gs := ⟨hj, hM, hg, hp, hap⟩
  have hring := hw.ring
  unfold Ok at hring
  have hlog := hw.log
  refine Tri.lay (S2 := [vChunk bV bD bJ bM v.j.lay v.epoch v.slot v.broken, [(bM, ob)], chJ, chD]) (vk_lay2 ..) ?_
  refine Tri.drop ?_ (fun _ _ _ _ h => h)
  refine Tri.ofF (args := [.pointer (some ⟨bV, 0, none⟩), .slice aL ls.length capL]) tabOk Tryz.func16 rfl (by kernel_rfl) (by kernel_rfl) ?_
  refine CodeF.stepD ?_
  refine CodeF.stepD ?_
  refine Tri.nf (v_wrong bV bD bJ bM _ _ _ _ I _ 0 rfl) ?_
  rintro r _ _ hJ ⟨rfl, rfl, rfl⟩
  unfold VSt.commit
  cases hb : v.broken
  rotate_left
  · repeat (first | refine CmpD.no (by decide) ?_)
    rw [if_pos rfl]
    exact Done.mk ⟨_, Drop.flat (by simp [hb]), rfl, _, chD, h0, fun h => absurd h (by simp), hD, rfl⟩
  repeat (first | refine CmpD.yes rfl ?_)
  rw [if_neg (by simp)]
  have same : ∀ (J : Imm), I.le J → ∃ ch' chD', Vk J bV bD v ch' ∧ Dk J bD d chD' ∧ [vChunk bV bD bJ bM v.j.lay v.epoch v.slot false ++ ((bM, ob) :: chJ), chD] = [ch', chD'] := fun J hJ => ⟨_, chD, by have := h0.mono hJ; rw [hb] at this; exact this, hD.mono hJ, rfl⟩
  have flat0 : ∀ (R : St), Drop ([vChunk bV bD bJ bM v.j.lay v.epoch v.slot false, [(bM, ob)], chJ, chD] ++ R) [vChunk bV bD bJ bM v.j.lay v.epoch v.slot false ++ ((bM, ob) :: chJ), chD] := fun R => ⟨R.flatten, by simp⟩
  refine CodeF.stepD ?_
  obtain ⟨n, hn⟩ : ∃ n, n = ls.length := ⟨_, rfl⟩
  rw [← hn] at hll ⊢
  refine CodeF.loopD [0, 1, 20, 21, 22] (fun vs J' S' => ∃ (i : Nat), i ≤ n ∧ HomeOk v.j.lay ((ls.map Img.pr).take i) ∧ I = J' ∧ vs = [.pointer (some ⟨bV, 0, none⟩), .slice aL n capL, .slice aL n capL, .int .i64 n, .int .i64 i] ∧ S' = [vChunk bV bD bJ bM v.j.lay v.epoch v.slot false, [(bM, ob)], chJ, chD])
    (fun vs _ _ => match vs with | [_, _, _, _, .int _ i] => ((n : Int) - i).toNat | _ => 0) ?_ ?_
  · exact ⟨_, Drop.refl _, 0, by omega, by intro g hg; simp at hg, rfl, rfl, rfl⟩
  rintro vs gE J' S' hJ' ⟨i, hi1, hho, rfl, rfl, rfl⟩
  refine CmpD.split (fun (c1 : (i : Int) < n) => ?_) (fun (c1 : ¬ (i : Int) < n) => ?_)
  · have hil : i < ls.length := by omega
    have htk : (ls.map Img.pr).take (i + 1) = (ls.map Img.pr).take i ++ [ls[i].pr] := by rw [List.take_add_one, List.getElem?_map, List.getElem?_eq_getElem hil]; rfl
    have hcell := imgCells_at hil
    have hpre : ∀ g ∈ (ls.map Img.pr).take (i + 1), g ∈ ls.map Img.pr := fun g hg => List.mem_of_mem_take hg
    rcases hi.1.mem with q0 | ⟨bL, oL, cL, TL, fL, rfl, hIL, hcL⟩
    · omega
    have hsrc : (cL.drop (oL + i * 2)).take 2 = [.int .i64 ls[i].blk, .slice ls[i].a ls[i].len ls[i].cap] := by
      rw [take_part hcL (by omega), hcell]
    refine Chk.mk (by omega) ?_
    refine LoadD.imm hIL [.int .i64 ls[i].blk, .slice ls[i].a ls[i].len ls[i].cap] hsrc rfl ?_
    conv => whnf
    intro b8
    refine StoreD.st 4 rfl rfl rfl ?_
    refine CodeF.sched [[], [0], [], [2], [2, 3], [2, 3, 4], [2, 3, 4, 5], [0, 1, 2, 3, 4, 5, 6], [0, 1, 2, 3, 4, 5, 6, 7], [0, 1, 2, 3, 4, 5, 6, 7, 8], [0, 1, 2, 3, 4, 5, 6, 7, 8, 9], [0, 1, 2, 3, 4, 5, 6, 7, 8], [0, 1, 2, 3, 4, 5, 6, 7, 8, 11], [0, 1, 2, 3, 4, 5, 6, 7, 8, 11, 12], [0, 1, 2, 3, 4, 5, 6, 7, 8, 11, 12, 13], [0, 1, 2, 3, 4, 5, 6, 7, 8, 11, 12, 13, 14], [0, 1, 2, 3, 4, 5, 6, 7, 8, 9, 10, 11, 12, 13, 14, 15], [0, 1, 2, 3, 4, 5, 6, 7, 8, 9, 10, 11, 12, 13, 14, 15, 16]] [0, 1, 2, 3, 4, 5, 6, 7, 8, 9, 10, 11, 12, 13, 14, 15, 16, 17] (by kernel_rfl) ?_
    repeat (first | refine LoadP.at 0 rfl _ rfl rfl ?_ | refine LoadP.at 4 rfl _ rfl rfl ?_)
    have bad : ¬ (v.j.lay.bi ≤ ls[i].blk ∧ ls[i].blk < v.j.lay.b) → ¬ HomeOk v.j.lay (ls.map Img.pr) := fun h hh => h (hh ls[i].pr (List.mem_map_of_mem (List.getElem_mem hil)))
    refine CmpD.split (fun (c2 : ls[i].blk < v.j.lay.bi) => ?_) (fun (c2 : ¬ ls[i].blk < v.j.lay.bi) => ?_)
    · skip
      rw [if_pos (by simpa using bad (fun h => by omega))]
      obtain ⟨ch', chD', k1, k2, k3⟩ := same I (Imm.le_refl _)
      exact Done.mk ⟨_, flat0 [_], rfl, ch', chD', k1, fun h => absurd h (by simp), k2, k3⟩
    repeat (first | refine LoadP.at 0 rfl _ rfl rfl ?_ | refine LoadP.at 4 rfl _ rfl rfl ?_)
    refine CmpD.split (fun (c3 : v.j.lay.b ≤ ls[i].blk) => ?_) (fun (c3 : ¬ v.j.lay.b ≤ ls[i].blk) => ?_)
    · skip
      rw [if_pos (by simpa using bad (fun h => by omega))]
      obtain ⟨ch', chD', k1, k2, k3⟩ := same I (Imm.le_refl _)
      exact Done.mk ⟨_, flat0 [_], rfl, ch', chD', k1, fun h => absurd h (by simp), k2, k3⟩
    refine ToD.to (((i + 1 : Nat)) : Int) (by rw [wrap_i64 (by omega) (by omega)]; omega) ?_
    refine ⟨_, Drop.pick [0, 1, 2, 3] _ rfl, ⟨i + 1, by omega, ?_, rfl, rfl, rfl⟩, ?_⟩
    · rw [htk]
      exact homeOk_snoc hho ⟨by show v.j.lay.bi ≤ ls[i].blk; omega, by show ls[i].blk < v.j.lay.b; omega⟩
    · show ((n : Int) - ((i + 1 : Nat) : Int)).toNat < ((n : Int) - (i : Int)).toNat; omega
  obtain rfl : i = n := by omega
  rw [List.take_of_length_le (by rw [List.length_map]; omega)] at hho
  rw [if_neg (by simpa using hho)]
  refine CodeF.stepD ?_
  refine CodeF.sched [[], [0], [0, 1], [0, 1, 2], [], [4], [4, 5], [4, 5, 6], [4, 5, 6, 7], [], [0, 1, 2, 3, 4, 5, 6, 7, 8, 9], [0, 1, 2, 3, 4, 5, 6, 7, 8, 9, 10], [0, 1, 2, 3, 4, 5, 6, 7, 8, 9, 10, 11], [0, 1, 2, 3, 4, 5, 6, 7, 8, 9, 10, 11, 12], [0, 1, 2, 3, 4, 5, 6, 7, 8, 9, 10, 11, 12], [0, 1, 2, 3, 4, 5, 6, 7, 8, 9, 10, 11, 12, 13], [0, 1, 2, 3, 4, 5, 6, 7, 8, 9, 10, 11, 12, 13, 14, 15]] [0, 1, 2, 3, 4, 5, 6, 7, 9, 8, 10, 11, 12, 13, 14, 15, 16] (by kernel_rfl) ?_
  repeat (first | refine LoadP.at 0 rfl _ rfl rfl ?_)
  refine Tri.frame1 2 rfl (jk_Next hj I) ?_
  rintro r _ A' hJ2 ⟨rfl, rfl, rfl⟩
  refine ⟨_, rfl, ?_⟩
  repeat (first | refine Chk.mk ⟨rfl, trivial⟩ ?_)
  rw [hn]
  refine Tri.free (put_of v.epoch v.j.next ⟨by rw [hep]; exact hw.epoch, by have := hw.next; unfold In64; omega⟩ aL capL ls I hi (by omega)) ?_
  rw [← hn]
  rintro r J2 _ hJ2 (⟨hno, rfl⟩ | ⟨hR, aO, capO, bs, rfl, _, _, _⟩)
  · rw [if_pos hno]
    skip
    refine CodeF.stepD ?_
    repeat (first | refine CmpD.no (by decide) ?_)
    obtain ⟨ch', chD', k1, k2, k3⟩ := same J2 hJ2
    exact Done.mk ⟨_, flat0 [], rfl, ch', chD', k1, fun h => absurd h (by simp), k2, k3⟩
  rw [if_neg (by simpa using hR)]
  skip
  refine CodeF.stepD ?_
  repeat (first | refine CmpD.yes rfl ?_)
  refine Tri.nf (v_Fits bV bD bJ bM v J2 _ 0 false rfl (i : Int)) ?_
  rintro r _ _ hJ3 ⟨rfl, rfl, rfl⟩
  have hll2 : (ls.map Img.pr).length = i := by rw [List.length_map, hn]
  rw [hll2]
  have hR6 := hR.2.2.2.2
  rw [hll2] at hR6
  cases hfit : v.fits (i : Int)
  · rw [if_pos rfl]
    skip
    obtain ⟨ch', chD', k1, k2, k3⟩ := same J2 hJ2
    exact Done.mk ⟨_, flat0 [], rfl, ch', chD', k1, fun h => absurd h (by simp), k2, k3⟩
  rw [if_neg (by simp)]
  skip
  have hbn : blocksN (i : Int) = (i : Int) + 1 := by unfold blocksN; rw [if_neg (by omega)]
  rw [hbn]
  obtain ⟨W, hW⟩ : ∃ W : VSt × DSt × Int × Int, W = (if v.j.s - v.j.u - v.j.h < (i : Int) + 1 then (if (v.ckpt d).2.2 ≠ 0 then ((v.ckpt d).1, (v.ckpt d).2.1, 0, (v.ckpt d).2.2) else (v.ckpt d).1.app (v.ckpt d).2.1 (ls.map Img.pr)) else v.app d (ls.map Img.pr)) := ⟨_, rfl⟩
  rw [← hW]
  refine CodeF.join [0, 1] (fun vs J3 S' => ∃ (v2 : VSt) (d2 : DSt) (bJ2 bM2 : Nat) (ob2 : Obj) (chJ2 : List Blk) (gs2 : List Img) (chD2 : List Blk), W = v2.app d2 (ls.map Img.pr) ∧ VAt X J3 bD bJ2 bM2 v2 ob2 chJ2 gs2 ∧ Dk J3 bD d2 chD2 ∧ v2.j.Wf ∧ v2.j.groups.length ≤ 800000 ∧ d2.Few 800000 ∧ v2.broken = false ∧ J2.le J3 ∧
      vs = [.pointer (some ⟨bV, 0, none⟩), .slice aL i capL] ∧ S' = [vChunk bV bD bJ2 bM2 v2.j.lay v2.epoch v2.slot false, [(bM2, ob2)], chJ2, chD2]) ?_ ?_
  · refine CodeF.den ?_
    repeat (first | refine LoadD.own 0 rfl _ rfl rfl ?_)
    refine Tri.frame1 2 rfl (jk_Ring hj J2) ?_
    rintro r _ A' hJ4 ⟨rfl, rfl, rfl⟩
    refine ⟨_, rfl, ?_⟩
    refine Tri.free (ring_Free v.j.s v.j.t v.j.u v.j.h J2 (by unfold In64; omega) (by unfold In64; omega) (by unfold In64; omega) (by unfold In64; omega)) ?_
    rintro r _ _ hJ5 ⟨rfl, rfl⟩
    rw [if_pos hw.ring]
    refine Tri.free (record_Blocks (i : Int) J2 []) ?_
    rintro r _ _ hJ6 ⟨rfl, rfl, rfl⟩
    rw [hbn]
    refine CmpD.split (fun (c1 : v.j.s - v.j.u - v.j.h < (i : Int) + 1) => ?_) (fun (c1 : ¬ v.j.s - v.j.u - v.j.h < (i : Int) + 1) => ?_)
    · rw [if_pos c1] at hW
      have hcw := ckS_wf (d := d) hw
      have hcf := ckS_few (v := v) hf
      refine Tri.lay (S2 := [vChunk bV bD bJ bM v.j.lay v.epoch v.slot false ++ ((bM, ob) :: chJ), chD]) (by simp) ?_
      refine Tri.drop (vk_Checkpoint (v := v) (by have := h0.mono hJ2; rw [hb] at this; exact this) hw hsl hfr (hD.mono hJ2) (hf.mono (by omega))) ?_
      rintro r J3 S' hJ3 ⟨rfl, ch2, chD2, ⟨bJ2, bM2, ob2, chJ2, gs2, rfl, hj2, hM2, hg2, hp2⟩, hD2, rfl⟩
      have hfz : (v.ckpt d).2.2 = 0 → (v.ckpt d).1.fresh = [] := by
        unfold VSt.ckpt
        rw [if_neg (by rw [hb]; simp)]
        split
        · intro h; exact absurd h (by assumption)
        · intro _; rfl
      have hbr : (v.ckpt d).2.2 = 0 → (v.ckpt d).1.broken = false := by
        unfold VSt.ckpt
        rw [if_neg (by rw [hb]; simp)]
        split
        · intro h; exact absurd h (by assumption)
        · intro _; exact hb
      have hcj : (v.ckpt d).1.j = (v.ckS d).2.1 ∧ (v.ckpt d).2.1 = (v.ckS d).2.2 := by
        unfold VSt.ckpt
        rw [if_neg (by rw [hb]; simp)]
        split <;> exact ⟨rfl, rfl⟩
      rw [← hcj.1] at hcw
      rw [← hcj.2] at hcf
      generalize v.ckpt d = ck at *
      obtain ⟨v3, d3, e3⟩ := ck
      dsimp only at *
      refine ⟨[vChunk bV bD bJ2 bM2 v3.j.lay v3.epoch v3.slot v3.broken, [(bM2, ob2)], chJ2, chD2], Drop.flat (by simp), ?_⟩
      by_cases he : e3 ≠ 0
      · rw [if_pos he] at hW
        refine CmpD.no he ?_
        skip
        rw [hW]
        exact Done.mk ⟨_, Drop.flat (vk_lay2 ..).symm, rfl, _, chD2, ⟨bJ2, bM2, ob2, chJ2, gs2, rfl, hj2, hM2, hg2, hp2⟩, fun h => absurd h he, hD2, rfl⟩
      · rw [if_neg he] at hW
        obtain rfl : e3 = 0 := by omega
        rw [hbr rfl]
        have hap2 : Apt X gs2 := by
          have h5 := hp2
          rw [hfz rfl, List.map_eq_nil_iff] at h5
          subst h5
          intro g hg; cases hg
        repeat (first | refine CmpD.yes rfl ?_)
        exact ⟨_, Drop.refl _, v3, d3, bJ2, bM2, ob2, chJ2, gs2, chD2, hW, ⟨hj2, hM2, hg2, hp2, hap2⟩, hD2, hcw.1, by omega, hcf.mono (by omega), hbr rfl, hJ3, rfl, rfl⟩
    · rw [if_neg c1] at hW
      exact ⟨_, Drop.refl _, v, d, bJ, bM, ob, chJ, gs, chD, hW, hA.mono hJ2, hD.mono hJ2, hw, hgr, hf.mono (by omega), hb, Imm.le_refl _, rfl, rfl⟩
  rintro vs gE3 J3 S3 hJ3 ⟨v2, d2, bJ2, bM2, ob2, chJ2, gs2, chD2, hW2, hA2, hD2, hw2, hgr2, hf2, hb2, hle3, rfl, rfl⟩
  refine CodeF.den ?_
  repeat (first | refine LoadD.own 0 rfl _ rfl rfl ?_)
  rw [hn]
  refine Tri.frame (jk_Append hA2.j hw2 hD2 (hf2.mono (by omega)) (by omega) aL capL ls (hi.mono (Imm.le_trans hJ2 hle3)) (by omega) false) [2, 3] rfl rfl ?_
  unfold VSt.app at hW2
  have hlay : (v2.j.appendB d2 (ls.map Img.pr) false).1.lay = v2.j.lay := append_lay _ _ _ _
  generalize v2.j.appendB d2 (ls.map Img.pr) false = ap at *
  obtain ⟨j4, d4, n4, e4⟩ := ap
  dsimp only at hW2 hlay ⊢
  rintro r J4 A' hJ4 ⟨rfl, chJ4, chD4, hj4, hD4, rfl⟩
  refine ⟨Nat.le_refl _, ?_⟩
  skip
  refine Tri.frame1 0 rfl (v_did bV bD bJ2 bM2 v2.j.lay v2.epoch v2.slot false J4 e4) ?_
  rintro r _ A' hJ5 ⟨rfl, rfl, rfl⟩
  refine ⟨_, rfl, ?_⟩
  have hA4 := hA2.mono hJ4
  by_cases he : e4 ≠ 0
  · rw [if_pos he] at hW2
    refine CmpD.no he ?_
    skip
    rw [hW2, decide_eq_true he]
    exact Done.mk ⟨[vChunk bV bD bJ2 bM2 v2.j.lay v2.epoch v2.slot true ++ ((bM2, ob2) :: chJ4), chD4], Drop.flat (by simp), rfl, _, chD4, ⟨bJ2, bM2, ob2, chJ4, gs2, by rw [hlay], hj4, hA4.m, hA4.ok, hA4.pr⟩, fun h => absurd h he, hD4, rfl⟩
  rw [if_neg he] at hW2
  obtain rfl : e4 = 0 := by omega
  rw [show (false || decide ((0 : Int) ≠ 0)) = false from rfl]
  repeat (first | refine CmpD.yes rfl ?_)
  rw [← hn]
  have hi4 := hi.mono (Imm.le_trans hJ2 (Imm.le_trans hle3 hJ4))
  have hlen4 : ∀ g ∈ ls, g.data.length = 4096 := fun g hg => (hR6.2.2.1 g.pr (List.mem_map_of_mem hg)).2.2
  refine CodeF.loopD [0, 12, 99, 100, 101] (fun vs J' S' => ∃ (k : Nat) (ob3 : Obj) (gs3 : List Img), k ≤ i ∧ MapR ob3 (gs3.map hdr) ∧ (∀ g ∈ gs3, ImgOk J' g) ∧ Apt X gs3 ∧ gs3.map Img.pr = ((ls.map Img.pr).take k).foldl pput v2.fresh ∧ J4.le J' ∧
      vs = [.pointer (some ⟨bV, 0, none⟩), .int .i64 n4, .slice aL i capL, .int .i64 i, .int .i64 k] ∧ S' = [vChunk bV bD bJ2 bM2 v2.j.lay v2.epoch v2.slot false, [(bM2, ob3)], chJ4, chD4])
    (fun vs _ _ => match vs with | [_, _, _, _, .int _ k] => ((i : Int) - k).toNat | _ => 0) ?_ ?_
  · exact ⟨_, Drop.refl _, 0, ob2, gs2, by omega, hA4.m, hA4.ok, hA4.ap, hA4.pr, Imm.le_refl _, rfl, rfl⟩
  rintro vs gE4 J5 S5 hJ5 ⟨k, ob3, gs3, hk, hM3, hg3, hap3, hp3, hle5, rfl, rfl⟩
  refine CmpD.split (fun (c1 : (k : Int) < i) => ?_) (fun (c1 : ¬ (k : Int) < i) => ?_)
  · have hil : k < ls.length := by omega
    have htk : (ls.map Img.pr).take (k + 1) = (ls.map Img.pr).take k ++ [ls[k].pr] := by rw [List.take_add_one, List.getElem?_map, List.getElem?_eq_getElem hil]; rfl
    have hcell := imgCells_at hil
    have hgm := List.getElem_mem hil
    have hi5 := hi4.mono hle5
    rcases hi5.1.mem with q0 | ⟨bL, oL, cL, TL, fL, rfl, hIL, hcL⟩
    · omega
    have hsrc : (cL.drop (oL + k * 2)).take 2 = [.int .i64 ls[k].blk, .slice ls[k].a ls[k].len ls[k].cap] := by
      rw [take_part hcL (by omega), hcell]
    have hgk := hi5.2 _ hgm
    have hgd := hlen4 _ hgm
    generalize ls[k] = g at *
    have hgl : g.len = 4096 := by have := hgk.2.len; rw [bts_length] at this; omega
    refine Chk.mk (by omega) ?_
    refine LoadD.imm hIL [.int .i64 g.blk, .slice g.a g.len g.cap] hsrc rfl ?_
    conv => whnf
    intro b8
    refine StoreD.st 4 rfl rfl rfl ?_
    refine CodeF.sched [[], [0], [0, 1], [0, 1, 2], [], [4], [], [6], [6, 7], [0, 1, 2, 3, 4, 5, 6, 7, 8]] [0, 1, 2, 3, 4, 5, 6, 7, 8, 9] (by kernel_rfl) ?_
    repeat (first | refine LoadP.at 0 rfl _ rfl rfl ?_ | refine LoadP.at 4 rfl _ rfl rfl ?_)
    refine Tri.free (clone_fixN J5 g.a g.len g.cap g.data hgk.2 (by omega) (by omega)) ?_
    rintro r J6 _ hJ6 ⟨a', cap', rfl, hcl, hnw⟩
    repeat (first | refine Chk.mk ⟨rfl, rfl, trivial⟩ ?_)
    refine mapUpdateD tabOk rfl rfl rfl rfl rfl 1 rfl hM3 ?_
    intro ob4 hM4
    refine ToD.to (((k + 1 : Nat)) : Int) (by rw [wrap_i64 (by omega) (by omega)]; omega) ?_
    have hM5 : MapR ob4 ((iput gs3 ⟨g.blk, a', g.len, cap', g.data⟩).map hdr) := by rw [iput_hdr]; exact hM4
    refine ⟨_, Drop.pick [0, 1, 2, 3] _ rfl, ⟨k + 1, ob4, iput gs3 ⟨g.blk, a', g.len, cap', g.data⟩, by omega, hM5, ?_, hap3.iput fun b off ha hXb => ?_, ?_, Imm.le_trans hle5 hJ6, rfl, rfl⟩, ?_⟩
    · intro y hy
      rcases iput_mem hy with rfl | hy
      · exact ⟨hgk.1, hcl⟩
      · exact (hg3 y hy).mono hJ6
    · obtain ⟨o, ho⟩ := hX b hXb
      have h5 := Imm.le_trans hJ2 (Imm.le_trans hle3 (Imm.le_trans hJ4 hle5)) b o ho
      rw [hnw b off ha] at h5; cases h5
    · rw [iput_pr, hp3, htk, List.foldl_append]; rfl
    · show ((i : Int) - ((k + 1 : Nat) : Int)).toNat < ((i : Int) - (k : Int)).toNat; omega
  obtain rfl : k = i := by omega
  rw [List.take_of_length_le (by omega)] at hp3
  skip
  rw [hW2]
  have hfin : VkX X J5 bV bD { v2 with j := j4, fresh := (ls.map Img.pr).foldl pput v2.fresh } (vChunk bV bD bJ2 bM2 v2.j.lay v2.epoch v2.slot false ++ ((bM2, ob3) :: chJ4)) := ⟨bJ2, bM2, ob3, chJ4, gs3, by rw [hlay, hb2], hj4, hM3, hg3, hp3, hap3⟩
  exact Done.mk ⟨[vChunk bV bD bJ2 bM2 v2.j.lay v2.epoch v2.slot false ++ ((bM2, ob3) :: chJ4), chD4], Drop.flat (by simp), rfl, _, chD4, hfin.vk, fun _ => hfin, hD4.mono hle5, rfl⟩
theorem vk_Commit {bV bD : Nat} {v : VSt} {ch : List Blk} {I : Imm} (h : Vk I bV bD v ch) (hw : v.j.Wf) (hep : v.epoch = v.j.epoch) (hsl : 0 ≤ v.slot ∧ v.slot ≤ 1) (hfr : v.fresh.length ≤ 1000) (hgr : v.j.groups.length ≤ 800000) {d : DSt} {chD : List Blk} (hD : Dk I bD d chD) (hf : d.Few 700000)
    (aL : Option Addr) (capL : Nat) (ls : List Img) (hi : ImgsOk I aL ls) (hll : ls.length ≤ 1000000) :
    Tri Tryz.prog 16 #[.pointer (some ⟨bV, 0, none⟩), .slice aL ls.length capL] I [ch, chD] fun r J S' =>
      r = .tuple #[.int .i64 (v.commit d (ls.map Img.pr)).2.2.1, .int .i64 (v.commit d (ls.map Img.pr)).2.2.2] ∧ ∃ ch' chD', Vk J bV bD (v.commit d (ls.map Img.pr)).1 ch' ∧ Dk J bD (v.commit d (ls.map Img.pr)).2.1 chD' ∧ S' = [ch', chD'] := by
  refine (vk_CommitX (X := fun _ => False) (fun _ h => h.elim) h.all hw hep hsl hfr hgr hD hf aL capL ls hi hll).mono ?_
  rintro r J S' hJ ⟨h1, ch', chD', h2, _, h3, h4⟩
  exact ⟨h1, ch', chD', h2, h3, h4⟩
end Go.Proofs.YtegdcjnjnoeinaaGreat

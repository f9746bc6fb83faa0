/- Texts of this claim laid together: Dk2, Pure, Layout, Ring, Journal, May, JTail, Jk, Jk2, Jk3, Jk4, Jk5, Same, Oct, Super, Get, Choose, Ref01, Ref02, Ref03, Home, Home2, SameImgs, Awake10, Do, Gather, Pos, HdP, HdA, Head, GetG, RingS. -/
import Derived.Test.YtegdcjnjnoeinaaGreatBCacheStays3
import Derived.Test.YtegdcjnjnoeinaaGreatBCacheStays1
import Derived.Test.YtegdcjnjnoeinaaGreatBCacheStays2
namespace Go.Proofs.YtegdcjnjnoeinaaGreat
open Go.RowKit Go.Sl
set_option maxRecDepth 20000

theorem dk_Read {I : Imm} {bD : Nat} {st : DSt} {ch : List Blk} (h : Dk I bD st ch) (n : Int) :
    Tri Tryz.prog 39 #[.pointer (some ⟨bD, 0, none⟩), .int .i64 n] I [ch] fun v J S' => ∃ a cap chB, v = .tuple #[.slice a (st.read n).1.length cap, .int .i64 (st.read n).2] ∧ OwnB chB a (st.read n).1.length cap (st.read n).1 ∧ I = J ∧ S' = [ch, chB] := by
  obtain ⟨hw, d, chS, chN, chW, bS, bN, bW, rfl, hD, q1, q2, q3, q4, q5, q6, q7⟩ := h
  have hl := hD.hN.len1
  have hl' : st.now.length = d.now.len := by rw [← q2]; simpa using hl
  have hr := hw.range
  refine Tri.lay (S2 := [dChunk bD d, chS, chN, chW]) (by simp) ?_
  refine Tri.drop ?_ (fun _ _ _ _ h => h)
  refine Tri.of (args := [.pointer (some ⟨bD, 0, none⟩), .int .i64 n]) tabOk Tryz.func39 rfl (by kernel_rfl) (by kernel_rfl) ?_
  refine Tri.frame1 0 rfl (disk_wrong bD d n I) ?_
  rintro v J S' hJ ⟨rfl, rfl, rfl⟩
  refine ⟨_, rfl, ?_⟩
  unfold DSt.read
  rw [hl']
  refine CmpD.split (fun c1 => ?_) (fun c1 => ?_)
  rotate_left
  · rw [if_pos c1]
    exact Done.mk ⟨[dChunk bD d ++ (chS ++ (chN ++ chW)), []], Drop.flat (by simp), none, 0, [], rfl, OwnC.nil _ _, rfl, rfl⟩
  rw [if_neg (by omega)]
  have hn := (wrongE_dec d.now.len (by omega) n).1 c1
  refine LoadD.own 0 rfl [.bool d.down] rfl rfl ?_
  rw [q5]
  cases hdn : st.down
  rotate_left
  · exact Done.mk ⟨[dChunk bD d ++ (chS ++ (chN ++ chW)), []], Drop.flat (by simp), none, 0, [], rfl, OwnC.nil _ _, rfl, rfl⟩
  rw [if_neg (by simp)]
  obtain ⟨i, rfl⟩ : ∃ i : Nat, n = i := ⟨n.toNat, by omega⟩
  have hi : i < bN.length := by have : bN.length = d.now.len := by simpa using hl
                                omega
  have hbk := hD.okN _ (List.getElem_mem hi)
  have hcell : (bN.map Bk.cell)[i]? = some bN[i].cell := by rw [List.getElem?_map, List.getElem?_eq_getElem hi]; rfl
  have hdat : st.now.getD i [] = bN[i].data := by rw [← q2, List.getD_eq_getElem?_getD, List.getElem?_map, List.getElem?_eq_getElem hi]; rfl
  have hdl : bN[i].data.length = 4096 := by have := hbk.len; rwa [bts_length] at this
  obtain ⟨bk, hbk'⟩ : ∃ bk, bk = bN[i] := ⟨_, rfl⟩
  rw [← hbk'] at hbk hcell hdat hdl
  rw [show ((i : Int)).toNat = i from rfl, hdat, hdl]
  clear hbk'
  have hslc := hD.hN.slC (I := I) (S := [dChunk bD d, chS, chN, chW]) 2 rfl
  rcases hslc.mem with h0 | ⟨b, off, ha, hc⟩
  · omega
  obtain ⟨⟨sa, sl, sc⟩, ⟨na, nl, nc⟩, ⟨wa, wl, wc⟩, count, down, ⟨ao, al⟩, ⟨fo, fl⟩⟩ := d
  dsimp only at ha hl hl' hn hc
  subst ha
  refine LoadD.own 0 rfl [.slice (some ⟨b, off, none⟩) nl nc] rfl rfl ?_
  refine Chk.mk (by omega) ?_
  refine LoadD.mk [bk.cell] (hc.at (i := i) hcell) ?_
  refine (clone_bytes I _ bk.a 4096 bk.cap (bts bk.data) (Rds.slC (by exact hbk)) (bts_plain _) (by omega)).mono ?_
  rintro v J S' hJ ⟨a', cap', chB, rfl, hB, rfl, rfl⟩
  exact Done.mk ⟨[_ ++ (chS ++ (chN ++ chW)), chB], Drop.flat (by simp), a', cap', chB, rfl, hB, rfl, rfl⟩
/-- a disk of blocks -/
def DSt.of (l : List Dat) : DSt := ⟨l, l, [], 0, false, ⟨false, 0⟩, ⟨false, 0⟩⟩
theorem DSt.of_few (l : List Dat) : (DSt.of l).Few 0 := ⟨Nat.le_refl _, Int.le_refl _, Int.le_refl _⟩
theorem dk_fresh {J : Imm} {bD : Nat} {sH nH : Hd} {chS chN : List Blk} {bkS : List Bk} {l : List Dat} {n : Nat} (hn : 1 ≤ n ∧ n ≤ 512) (h1 : sH.len = n) (h3 : bkS.map Bk.data = l) (hl : ∀ b ∈ l, b.length = 4096) (h4 : DiskAt J (freshD sH nH) chS chN [] bkS bkS []) :
    Dk J bD (DSt.of l) (dChunk bD (freshD sH nH) ++ (chS ++ (chN ++ []))) := by
  have hS := h4.hS.len1
  rw [List.length_map] at hS
  have : l.length = n := by rw [← h3, List.length_map, hS]; exact h1
  exact ⟨⟨rfl, by show 1 ≤ l.length ∧ l.length ≤ 512; omega, hl, hl, fun w hw => (List.not_mem_nil hw).elim, fun h => (Bool.false_ne_true h).elim, fun h => (Bool.false_ne_true h).elim⟩, freshD sH nH, chS, chN, [], bkS, bkS, [], rfl, h4, h3, h3, rfl, rfl, rfl, rfl, rfl⟩
def noughts : Dat := List.replicate 4096 0
theorem dk_New (I : Imm) (n : Nat) (hn : 1 ≤ n ∧ n ≤ 512) :
    Tri Tryz.prog 42 #[.int .i64 n] I [] fun v J S' => ∃ bD ch, v = .tuple #[.pointer (some ⟨bD, 0, none⟩), .int .i64 0] ∧ Dk J bD (DSt.of (List.replicate n noughts)) ch ∧ S' = [ch] := by
  refine Tri.drop (disk_New I n hn) ?_
  rintro v J S' hJ ⟨bD, sH, nH, chS, chN, bkS, rfl, rfl, h1, h2, h3, h4⟩
  have e : blocksOf (List.replicate (n * 4096) 0) n = List.replicate n noughts := by
    unfold blocksOf noughts
    apply List.ext_getElem
    · simp
    · intro i hi _
      simp only [List.length_map, List.length_range] at hi
      simp only [List.getElem_map, List.getElem_range, List.drop_replicate, List.take_replicate, List.getElem_replicate]
      congr 1
      omega
  rw [e] at h3
  refine ⟨[_], Drop.flat (by simp), bD, _, rfl, dk_fresh hn h1 h3 ?_ h4, rfl⟩
  intro b hb
  rw [(List.mem_replicate.1 hb).2]
  exact List.length_replicate
end Go.Proofs.YtegdcjnjnoeinaaGreat
namespace Go.Proofs.YtegdcjnjnoeinaaGreat
open Go.RowKit Go.Sl

def hidP (l : List PImg) : Dat := l.flatMap fun g => be g.1.toNat 2 ++ hidK g.2 8
def listP (l : List PImg) : Dat := hidP l ++ List.replicate (4026 - 66 * l.length) 0
def headP (l : List PImg) : Dat := be l.length 2 ++ be (crcMore 0 (listP l)) 4 ++ listP l
def putP (e s : Nat) (l : List PImg) : List Dat := sprK (stampB e s) (headP l) 8 :: l.map fun g => markK (stampB e s) g.2 8
theorem hidAll_pr (gs : List Img) : hidAll gs = hidP (gs.map Img.pr) := by unfold hidAll hidP; rw [List.flatMap_map]
theorem putL_pr (e s : Nat) (gs : List Img) : putL e s gs = putP e s (gs.map Img.pr) := by
  unfold putL putP headL headP listL listP
  rw [hidAll_pr, List.length_map, List.map_map]; rfl
theorem putP_length (e s : Nat) (l : List PImg) : (putP e s l).length = l.length + 1 := by simp [putP]
def RightP (e s : Int) (l : List PImg) : Prop := 1 ≤ e ∧ e ≤ 8388608 ∧ 1 ≤ s ∧ s ≤ 549755813888 ∧ 1 ≤ l.length ∧ l.length ≤ 32 ∧ (∀ g ∈ l, 0 ≤ g.1 ∧ g.1 < 512 ∧ g.2.length = 4096) ∧ (l.map Prod.fst).Nodup
instance (e s : Int) (l : List PImg) : Decidable (RightP e s l) := by unfold RightP; infer_instance
theorem ImgsOk.len {J : Imm} {a : Option Addr} {gs : List Img} (h : ImgsOk J a gs) {g : Img} (hg : g ∈ gs) : g.data.length = g.len := by
  have := (h.2 g hg).2.len; rwa [bts_length] at this
theorem right_pr {J : Imm} {a : Option Addr} {gs : List Img} (h : ImgsOk J a gs) (e s : Int) : RightG e s gs ↔ RightP e s (gs.map Img.pr) := by
  unfold RightG RightP
  rw [List.length_map, List.map_map]
  have : (∀ g ∈ gs, 0 ≤ g.blk ∧ g.blk < 512 ∧ g.len = 4096) ↔ (∀ g ∈ gs.map Img.pr, 0 ≤ g.1 ∧ g.1 < 512 ∧ g.2.length = 4096) := by
    constructor
    · intro k g hg
      obtain ⟨x, hx, rfl⟩ := List.mem_map.1 hg
      have := k x hx
      exact ⟨this.1, this.2.1, by show x.data.length = _; rw [h.len hx]; exact this.2.2⟩
    · intro k g hg
      have := k g.pr (List.mem_map_of_mem hg)
      exact ⟨this.1, this.2.1, by rw [← h.len hg]; exact this.2.2⟩
  rw [this]; rfl
/-- a list of images, fixed -/
def ImgV (J : Imm) (v : Value) (l : List PImg) : Prop := ∃ a cap gs, v = .slice a gs.length cap ∧ ImgsOk J a gs ∧ gs.map Img.pr = l
theorem ImgsOk.mono {I J : Imm} {a : Option Addr} {gs : List Img} (h : ImgsOk I a gs) (hJ : I.le J) : ImgsOk J a gs := ⟨h.1.mono hJ, fun g hg => (h.2 g hg).mono hJ⟩
theorem ImgV.mono {I J : Imm} {v : Value} {l : List PImg} (h : ImgV I v l) (hJ : I.le J) : ImgV J v l := by
  obtain ⟨a, cap, gs, h1, h2, h3⟩ := h; exact ⟨a, cap, gs, h1, h2.mono hJ, h3⟩
/-- blocks, fixed -/
theorem put_of (e s : Int) (hes : In64 e ∧ In64 s) (a : Option Addr) (cap : Nat) (gs : List Img) (I : Imm) (hi : ImgsOk I a gs) (hlen : gs.length ≤ 9223372036854775806) :
    Tri Tryz.prog 79 #[.agg #[.int .i64 e, .int .i64 s, .slice a gs.length cap]] I [] fun v J _ =>
      (¬ RightP e s (gs.map Img.pr) ∧ v = .tuple #[.slice none 0 0, .int .i64 80]) ∨
      (RightP e s (gs.map Img.pr) ∧ ∃ aO capO, ∃ bs : List Bk, v = .tuple #[.slice aO (gs.length + 1) capO, .int .i64 0] ∧ Rds J aO (gs.length + 1) (bs.map Bk.cell) ∧ bs.map Bk.data = putP e.toNat s.toNat (gs.map Img.pr) ∧ (∀ b ∈ bs, BkOk J b)) := by
  have hp := record_Put e s hes a cap gs I hi hlen
  rw [right_pr hi] at hp
  by_cases hR : RightP e s (gs.map Img.pr)
  · refine Tri.fixed hp ?_
    rintro v J S' hJ (⟨h, _⟩ | ⟨h, aO, capO, chO, bs, rfl, h1, h2, h3, rfl⟩)
    · exact absurd hR h
    · refine ⟨0, chO, rfl, fun J' hJ' hm => .inr ⟨h, aO, capO, bs, rfl, Rds.of_own h1 hm, by rw [h2, putL_pr], fun b hb => (h3 b hb).mono hJ'⟩⟩
  · refine hp.mono ?_
    rintro v J S' hJ (⟨h, rfl, rfl⟩ | ⟨h, _⟩)
    · exact .inl ⟨h, rfl⟩
    · exact absurd h hR
end Go.Proofs.YtegdcjnjnoeinaaGreat
namespace Go.Proofs.YtegdcjnjnoeinaaGreat
open Go.RowKit Go.Sl

/-- a layout as a value -/
@[reducible] def layV (b l lb bi i ib d : Int) : Value := .agg #[.int .i64 b, .int .i64 l, .int .i64 lb, .int .i64 bi, .int .i64 i, .int .i64 ib, .int .i64 d]
/-- the ring's length -/
def layL (n : Int) : Int := if n / 8 < 16 then 16 else n / 8
/-- what both answer -/
def layA (n : Int) : Value := if n < 64 ∨ 512 < n then .tuple #[layV 0 0 0 0 0 0 0, .int .i64 2] else .tuple #[layV n 2 (layL n) (2 + layL n) (3 + layL n) (n / 16) (3 + layL n + n / 16), .int .i64 0]
theorem layL_range {n : Int} (h : 64 ≤ n ∧ n ≤ 512) : 16 ≤ layL n ∧ layL n ≤ 64 := by unfold layL; split <;> omega

theorem layout_Of (n : Int) (I : Imm) : Tri Tryz.prog 105 #[.int .i64 n] I [] fun v J _ => v = layA n ∧ I = J := by
  refine Tri.of (args := [.int .i64 n]) tabOk Tryz.func105 rfl (by kernel_rfl) (by kernel_rfl) ?_
  conv => whnf
  intro b0
  refine CmpD.split (fun c1 => ?_) (fun c1 => ?_)
  · refine StoreD.st 0 rfl rfl rfl ?_
    refine LoadD.own 0 rfl _ rfl rfl ?_
    refine Done.mk ⟨?_, rfl⟩
    rw [layA, if_pos (by omega)]; rfl
  refine CmpD.split (fun c2 => ?_) (fun c2 => ?_)
  · refine StoreD.st 0 rfl rfl rfl ?_
    refine LoadD.own 0 rfl _ rfl rfl ?_
    refine Done.mk ⟨?_, rfl⟩
    rw [layA, if_pos (by omega)]; rfl
  have hL := layL_range (n := n) (by omega)
  refine Chk.mk (by omega) ?_
  refine ToD.quo (by omega) (by omega) (by omega) ?_
  refine ToD.to (layL n) (by unfold layL; split <;> split <;> omega) ?_
  refine Chk.mk (by omega) ?_
  refine ToD.quo (by omega) (by omega) (by omega) ?_
  conv => whnf
  intro b1
  refine StoreD.st 1 rfl rfl rfl ?_
  refine LoadD.own 1 rfl _ rfl rfl ?_
  refine LoadD.own 1 rfl _ rfl rfl ?_
  refine ToD.i64 (by omega) (by omega) ?_
  refine StoreD.st 1 rfl rfl rfl ?_
  refine LoadD.own 1 rfl _ rfl rfl ?_
  refine ToD.to (3 + layL n) (by rw [wrap_i64 (by omega) (by omega)]; omega) ?_
  refine StoreD.st 1 rfl rfl rfl ?_
  refine LoadD.own 1 rfl _ rfl rfl ?_
  refine LoadD.own 1 rfl _ rfl rfl ?_
  refine ToD.i64 (by omega) (by omega) ?_
  refine StoreD.st 1 rfl rfl rfl ?_
  refine LoadD.own 1 rfl _ rfl rfl ?_
  refine StoreD.st 0 rfl rfl rfl ?_
  refine LoadD.own 0 rfl _ rfl rfl ?_
  refine Done.mk ⟨?_, rfl⟩
  rw [layA, if_neg (by omega)]; rfl
end Go.Proofs.YtegdcjnjnoeinaaGreat
namespace Go.Proofs.YtegdcjnjnoeinaaGreat
open Go.RowKit Go.Sl

/-- a ring as a value -/
@[reducible] def rg (s t u h : Int) : Value := .agg #[.int .i64 s, .int .i64 t, .int .i64 u, .int .i64 h]
/-- may a ring be -/
def Ok (s t u h : Int) : Prop := 1 ≤ s ∧ s ≤ 512 ∧ 0 ≤ t ∧ t < s ∧ 0 ≤ u ∧ 0 ≤ h ∧ u + h ≤ s
instance (s t u h : Int) : Decidable (Ok s t u h) := by unfold Ok; infer_instance

theorem ring_within (n h : Int) (I : Imm) (S : St) : Tri Tryz.prog 193 #[.int .i64 n, .int .i64 h] I S fun v J S' => ∃ b, v = .bool b ∧ (b = true ↔ 0 ≤ n ∧ n ≤ h) ∧ I = J ∧ S' = S := by
  refine Tri.of (args := [.int .i64 n, .int .i64 h]) tabOk Tryz.func193 rfl (by kernel_rfl) (by kernel_rfl) ?_
  refine CmpD.split (fun h0 => ?_) (fun h0 => ?_)
  · refine CmpD.keep ?_
    refine Done.mk ⟨_, rfl, ?_, rfl, rfl⟩
    simp [h0]
  · refine Done.mk ⟨_, rfl, ?_, rfl, rfl⟩
    simp [h0]

theorem ring_Right (s t u h : Int) (I : Imm) (hs : In64 s) (ht : In64 t) (hu : In64 u) (hh : In64 h) : Tri Tryz.prog 155 #[rg s t u h] I [] fun v J _ => ∃ b, v = .bool b ∧ (b = true ↔ Ok s t u h) ∧ I = J := by
  unfold In64 at *
  by_cases hmin : s = -9223372036854775808
  · subst hmin
    refine Tri.of (args := [rg _ t u h]) tabOk Tryz.func155 rfl (by kernel_rfl) (by kernel_rfl) ?_
    conv => whnf
    intro b
    refine LoadD.own 0 rfl _ rfl rfl ?_
    refine ToD.to 9223372036854775807 (by decide) ?_
    refine (ring_within _ _ I _).mono ?_
    rintro v J S' hJ ⟨b1, rfl, h1, rfl, rfl⟩
    cases b1
    · refine Done.mk ⟨_, rfl, by simp [Ok], rfl⟩
    · have := h1.1 rfl; omega
  refine Tri.of (args := [rg s t u h]) tabOk Tryz.func155 rfl (by kernel_rfl) (by kernel_rfl) ?_
  conv => whnf
  intro b
  refine LoadD.own 0 rfl _ rfl rfl ?_
  refine ToD.i64 (by omega) (by omega) ?_
  refine (ring_within _ _ I _).mono ?_
  rintro v J S' hJ ⟨b1, rfl, h1, rfl, rfl⟩
  cases b1
  · refine Done.mk ⟨_, rfl, ?_, rfl⟩
    simp [Ok]; simp at h1; omega
  replace h1 := h1.1 rfl
  refine LoadD.own 0 rfl _ rfl rfl ?_
  refine LoadD.own 0 rfl _ rfl rfl ?_
  refine ToD.i64 (by omega) (by omega) ?_
  refine (ring_within _ _ _ _).mono ?_
  rintro v J S' hJ2 ⟨b2, rfl, h2, rfl, rfl⟩
  cases b2
  · refine Done.mk ⟨_, rfl, ?_, rfl⟩
    simp [Ok]; simp at h2; omega
  replace h2 := h2.1 rfl
  refine LoadD.own 0 rfl _ rfl rfl ?_
  refine LoadD.own 0 rfl _ rfl rfl ?_
  refine (ring_within _ _ _ _).mono ?_
  rintro v J S' hJ3 ⟨b3, rfl, h3, rfl, rfl⟩
  cases b3
  · refine Done.mk ⟨_, rfl, ?_, rfl⟩
    simp [Ok]; simp at h3; omega
  replace h3 := h3.1 rfl
  refine LoadD.own 0 rfl _ rfl rfl ?_
  refine LoadD.own 0 rfl _ rfl rfl ?_
  refine LoadD.own 0 rfl _ rfl rfl ?_
  refine ToD.i64 (by omega) (by omega) ?_
  refine (ring_within _ _ _ _).mono ?_
  rintro v J S' hJ4 ⟨b4, rfl, h4, rfl, rfl⟩
  refine Done.mk ⟨_, rfl, ?_, rfl⟩
  rw [h4]; unfold Ok; omega

theorem ring_Free (s t u h : Int) (I : Imm) (hs : In64 s) (ht : In64 t) (hu : In64 u) (hh : In64 h) : Tri Tryz.prog 81 #[rg s t u h] I [] fun v J _ => v = .int .i64 (if Ok s t u h then s - u - h else 0) ∧ I = J := by
  have hR := ring_Right s t u h I hs ht hu hh
  unfold In64 at *
  refine Tri.of (args := [rg s t u h]) tabOk Tryz.func81 rfl (by kernel_rfl) (by kernel_rfl) ?_
  conv => whnf
  intro b
  refine LoadD.own 0 rfl _ rfl rfl ?_
  refine Tri.free hR ?_
  rintro v J _ hJ ⟨b1, rfl, h1, rfl⟩
  cases b1
  · refine Done.mk ⟨?_, rfl⟩
    rw [if_neg (by simpa using h1)]; rfl
  replace h1 := h1.1 rfl
  have h1' := h1
  unfold Ok at h1'
  repeat (first | refine LoadD.own 0 rfl _ rfl rfl ?_ | refine ToD.i64 (by omega) (by omega) ?_)
  refine Done.mk ⟨?_, rfl⟩
  rw [if_pos h1]; rfl

abbrev R5 := Int × Int × Int × Int × Int
def dropS (s t u h n : Int) : R5 := if ¬ Ok s t u h ∨ n < 0 ∨ u < n then (0, 0, 0, 0, 2) else (s, (t + n) % s, u - n, h, 0)
def putS (s t u h n k : Int) : R5 × Int := if ¬ Ok s t u h ∨ n < 0 ∨ k < 0 ∨ n < k ∨ h < k then ((0, 0, 0, 0, 2), 0) else if s - u - h < n - k then ((0, 0, 0, 0, 5), 0) else ((s, t, u + n, h - k, 0), (t + u) % s)
/-- a result: a ring and an error -/
def Is5 (v : Value) (r : R5) : Prop := ∃ a b c d e, v = .tuple #[rg a b c d, .int .i64 e] ∧ r = (a, b, c, d, e)
theorem Is5.mk (a b c d e : Int) {r : R5} (h : r = (a, b, c, d, e)) : Is5 (.tuple #[rg a b c d, .int .i64 e]) r := ⟨a, b, c, d, e, rfl, h⟩

section
variable (s t u h n : Int) (I : Imm) (hs : In64 s) (ht : In64 t) (hu : In64 u) (hh : In64 h) (hn : In64 n)
include hs ht hu hh hn
theorem ring_Drop : Tri Tryz.prog 166 #[rg s t u h, .int .i64 n] I [] fun v J _ => Is5 v (dropS s t u h n) ∧ I = J := by
  have hR := ring_Right s t u h I hs ht hu hh
  unfold In64 at *
  refine Tri.of (args := [rg s t u h, .int .i64 n]) tabOk Tryz.func166 rfl (by kernel_rfl) (by kernel_rfl) ?_
  conv => whnf
  intro b
  conv => whnf
  intro b2
  refine LoadD.own 0 rfl _ rfl rfl ?_
  refine Tri.free hR ?_
  rintro v J _ hJ ⟨b1, rfl, h1, rfl⟩
  cases b1
  · refine StoreD.st 1 rfl rfl rfl ?_
    refine LoadD.own 1 rfl _ rfl rfl ?_
    refine Done.mk ⟨Is5.mk 0 0 0 0 2 ?_, rfl⟩
    rw [dropS, if_pos (.inl (by simpa using h1))]
  replace h1 := h1.1 rfl
  have h1' := h1
  unfold Ok at h1'
  refine CmpD.split (fun c => ?_) (fun c => ?_)
  · refine StoreD.st 1 rfl rfl rfl ?_
    refine LoadD.own 1 rfl _ rfl rfl ?_
    refine Done.mk ⟨Is5.mk 0 0 0 0 2 ?_, rfl⟩
    rw [dropS, if_pos (.inr (.inl c))]
  refine LoadD.own 0 rfl _ rfl rfl ?_
  refine CmpD.split (fun c2 => ?_) (fun c2 => ?_)
  · refine StoreD.st 1 rfl rfl rfl ?_
    refine LoadD.own 1 rfl _ rfl rfl ?_
    refine Done.mk ⟨Is5.mk 0 0 0 0 2 ?_, rfl⟩
    rw [dropS, if_pos (.inr (.inr c2))]
  refine LoadD.own 0 rfl _ rfl rfl ?_
  refine ToD.i64 (by omega) (by omega) ?_
  refine LoadD.own 0 rfl _ rfl rfl ?_
  refine Chk.mk (by omega) ?_
  refine ToD.rem (by omega) ?_
  refine StoreD.st 0 rfl rfl rfl ?_
  refine LoadD.own 0 rfl _ rfl rfl ?_
  refine ToD.i64 (by omega) (by omega) ?_
  refine StoreD.st 0 rfl rfl rfl ?_
  refine LoadD.own 0 rfl _ rfl rfl ?_
  refine StoreD.st 1 rfl rfl rfl ?_
  refine LoadD.own 1 rfl _ rfl rfl ?_
  refine Done.mk ⟨Is5.mk s ((t + n) % s) (u - n) h 0 ?_, rfl⟩
  rw [dropS, if_neg (by unfold Ok; omega)]

theorem ring_Put (k : Int) (hk : In64 k) : Tri Tryz.prog 158 #[rg s t u h, .int .i64 n, .int .i64 k] I [] fun v J _ =>
    (∃ a b c d x e, v = .tuple #[rg a b c d, .int .i64 x, .int .i64 e] ∧ putS s t u h n k = ((a, b, c, d, e), x)) ∧ I = J := by
  have hR := ring_Right s t u h I hs ht hu hh
  have hF := ring_Free s t u h I hs ht hu hh
  unfold In64 at *
  refine Tri.of (args := [rg s t u h, .int .i64 n, .int .i64 k]) tabOk Tryz.func158 rfl (by kernel_rfl) (by kernel_rfl) ?_
  conv => whnf
  intro b
  conv => whnf
  intro b2
  refine LoadD.own 0 rfl _ rfl rfl ?_
  refine Tri.free hR ?_
  rintro v J _ hJ ⟨b1, rfl, h1, rfl⟩
  cases b1
  · refine StoreD.st 1 rfl rfl rfl ?_
    refine LoadD.own 1 rfl _ rfl rfl ?_
    refine Done.mk ⟨⟨_, _, _, _, _, _, rfl, ?_⟩, rfl⟩
    rw [putS, if_pos (.inl (by simpa using h1))]
  replace h1 := h1.1 rfl
  have h1' := h1
  unfold Ok at h1'
  refine CmpD.split (fun c => ?_) (fun c => ?_)
  · refine StoreD.st 1 rfl rfl rfl ?_
    refine LoadD.own 1 rfl _ rfl rfl ?_
    refine Done.mk ⟨⟨_, _, _, _, _, _, rfl, ?_⟩, rfl⟩
    rw [putS, if_pos (.inr (.inl c))]
  refine CmpD.split (fun c1 => ?_) (fun c1 => ?_)
  · refine StoreD.st 1 rfl rfl rfl ?_
    refine LoadD.own 1 rfl _ rfl rfl ?_
    refine Done.mk ⟨⟨_, _, _, _, _, _, rfl, ?_⟩, rfl⟩
    rw [putS, if_pos (.inr (.inr (.inl c1)))]
  refine LoadD.own 0 rfl _ rfl rfl ?_
  refine ToD.to (min n h) (by omega) ?_
  refine CmpD.split (fun c2 => ?_) (fun c2 => ?_)
  · refine StoreD.st 1 rfl rfl rfl ?_
    refine LoadD.own 1 rfl _ rfl rfl ?_
    refine Done.mk ⟨⟨_, _, _, _, _, _, rfl, ?_⟩, rfl⟩
    rw [putS, if_pos (by omega)]
  refine ToD.i64 (by omega) (by omega) ?_
  refine LoadD.own 0 rfl _ rfl rfl ?_
  refine Tri.free hF ?_
  rintro v J _ hJ ⟨rfl, rfl⟩
  rw [if_pos h1]
  refine CmpD.split (fun c3 => ?_) (fun c3 => ?_)
  · refine StoreD.st 1 rfl rfl rfl ?_
    refine LoadD.own 1 rfl _ rfl rfl ?_
    refine Done.mk ⟨⟨_, _, _, _, _, _, rfl, ?_⟩, rfl⟩
    rw [putS, if_neg (by unfold Ok; omega), if_pos c3]
  refine LoadD.own 0 rfl _ rfl rfl ?_
  refine LoadD.own 0 rfl _ rfl rfl ?_
  refine ToD.i64 (by omega) (by omega) ?_
  refine LoadD.own 0 rfl _ rfl rfl ?_
  refine Chk.mk (by omega) ?_
  refine ToD.rem (by omega) ?_
  refine LoadD.own 0 rfl _ rfl rfl ?_
  refine ToD.i64 (by omega) (by omega) ?_
  refine StoreD.st 0 rfl rfl rfl ?_
  refine LoadD.own 0 rfl _ rfl rfl ?_
  refine ToD.i64 (by omega) (by omega) ?_
  refine StoreD.st 0 rfl rfl rfl ?_
  refine LoadD.own 0 rfl _ rfl rfl ?_
  refine StoreD.st 1 rfl rfl rfl ?_
  refine LoadD.own 1 rfl _ rfl rfl ?_
  refine Done.mk ⟨⟨_, _, _, _, _, _, rfl, ?_⟩, rfl⟩
  rw [putS, if_neg (by unfold Ok; omega), if_neg (by omega)]
end
end Go.Proofs.YtegdcjnjnoeinaaGreat
namespace Go.Proofs.YtegdcjnjnoeinaaGreat
open Go.RowKit Go.Sl
set_option maxRecDepth 20000

/-- a layout's numbers -/
structure Lay where
  b : Int
  l : Int
  lb : Int
  bi : Int
  i : Int
  ib : Int
  d : Int
@[reducible] def Lay.vals (x : Lay) : List Value := [.int .i64 x.b, .int .i64 x.l, .int .i64 x.lb, .int .i64 x.bi, .int .i64 x.i, .int .i64 x.ib, .int .i64 x.d]
@[reducible] def Lay.v (x : Lay) : Value := layV x.b x.l x.lb x.bi x.i x.ib x.d
def layOf (n : Int) : Lay := ⟨n, 2, layL n, 2 + layL n, 3 + layL n, n / 16, 3 + layL n + n / 16⟩
/-- a journal's record -/
structure JRec where
  disk : Nat
  lay : Lay
  s : Int
  t : Int
  u : Int
  h : Int
  epoch : Int
  next : Int
  synced : Int
  groups : Hd
  broken : Bool
@[reducible] def JRec.cells (j : JRec) : List Value := .pointer (some ⟨j.disk, 0, none⟩) :: j.lay.vals ++ [.int .i64 j.s, .int .i64 j.t, .int .i64 j.u, .int .i64 j.h, .int .i64 j.epoch, .int .i64 j.next, .int .i64 j.synced, j.groups.v, .bool j.broken]
@[reducible] def jChunk (b : Nat) (j : JRec) : List Blk := [(b, row j.cells 211)]

theorem jr_turned (b : Nat) (j : JRec) (s t u h e : Int) (I : Imm) : Tri Tryz.prog 159 #[.pointer (some ⟨b, 0, none⟩), rg s t u h, .int .i64 e] I [jChunk b j] fun v J S' =>
    v = .int .i64 e ∧ I = J ∧ S' = [jChunk b (if e = 0 then { j with s := s, t := t, u := u, h := h } else j)] := by
  refine Tri.drop ?_ (fun _ _ _ _ h => h)
  obtain ⟨disk, ⟨l1, l2, l3, l4, l5, l6, l7⟩, rs, rt, ru, rh, ep, nx, sy, ⟨ga, gl, gc⟩, br⟩ := j
  refine Tri.of (args := [.pointer (some ⟨b, 0, none⟩), rg s t u h, .int .i64 e]) tabOk Tryz.func159 rfl (by kernel_rfl) (by kernel_rfl) ?_
  conv => whnf
  intro b4
  refine CmpD.split (fun c => ?_) (fun c => ?_)
  · refine LoadD.own 1 rfl _ rfl rfl ?_
    refine StoreD.st 0 rfl rfl rfl ?_
    refine Done.mk ⟨_, Drop.pick [0] _ rfl, rfl, rfl, ?_⟩
    rw [if_pos c]; rfl
  · refine Done.mk ⟨_, Drop.pick [0] _ rfl, rfl, rfl, ?_⟩
    rw [if_neg c]; rfl
theorem jr_did (b : Nat) (j : JRec) (e : Int) (I : Imm) : Tri Tryz.prog 160 #[.pointer (some ⟨b, 0, none⟩), .int .i64 e] I [jChunk b j] fun v J S' =>
    v = .int .i64 e ∧ I = J ∧ S' = [jChunk b { j with broken := j.broken || !decide (e = 0) }] := by
  obtain ⟨disk, ⟨l1, l2, l3, l4, l5, l6, l7⟩, rs, rt, ru, rh, ep, nx, sy, ⟨ga, gl, gc⟩, br⟩ := j
  refine Tri.of (args := [.pointer (some ⟨b, 0, none⟩), .int .i64 e]) tabOk Tryz.func160 rfl (by kernel_rfl) (by kernel_rfl) ?_
  cases br
  · refine LoadD.own 0 rfl [.bool false] rfl rfl ?_
    refine CmpD.split (fun c => ?_) (fun c => ?_)
    · refine StoreD.st 0 rfl rfl rfl ?_
      refine Done.mk ⟨rfl, rfl, ?_⟩
      rw [decide_eq_true c]; rfl
    · refine StoreD.st 0 rfl rfl rfl ?_
      refine Done.mk ⟨rfl, rfl, ?_⟩
      rw [decide_eq_false c]; rfl
  · refine LoadD.own 0 rfl [.bool true] rfl rfl ?_
    refine StoreD.st 0 rfl rfl rfl ?_
    exact Done.mk ⟨rfl, rfl, rfl⟩
theorem lay_cmp {o : Oper} {ρ : Env} {op : BinOp} {yt : TypeId} {x y : Operand} {K : Value → Prop} (p q : Lay) (ho : o.op = .binOp op 45 x y yt) (hop : op = .eql ∨ op = .neq)
    (hx : ρ.ev x = p.v) (hy : ρ.ev y = q.v) (h : CmpD ([p.b, p.l, p.lb, p.bi, p.i, p.ib, p.d] = [q.b, q.l, q.lb, q.bi, q.i, q.ib, q.d]) fun t => boolF (xor (op == .neq) t) fun t => K (.bool t)) : PureD Tryz.prog o ρ K :=
  eq_ints (k := .i64) tabOk [p.b, p.l, p.lb, p.bi, p.i, p.ib, p.d] [q.b, q.l, q.lb, q.bi, q.i, q.ib, q.d] ho hop rfl hx hy (by kernel_rfl) (by kernel_rfl) (by kernel_rfl) rfl rfl h
set_option maxHeartbeats 2000000 in
theorem jr_Open (bD : Nat) (d : DRec) (n : Nat) (hn : 64 ≤ n ∧ n ≤ 512) (hd : d.now.len = n) (x : Lay) (epoch seq tail : Int) (_hseq : In64 seq) (I : Imm) :
    Tri Tryz.prog 109 #[.pointer (some ⟨bD, 0, none⟩), x.v, .int .i64 epoch, .int .i64 seq, .int .i64 tail] I [dChunk bD d] fun v J S' =>
      (¬ (x = layOf n ∧ 1 ≤ epoch ∧ epoch ≤ 8388608 ∧ 1 ≤ seq ∧ seq ≤ 549755813888 ∧ 0 ≤ tail ∧ tail < layL n) ∧ v = .tuple #[.pointer none, .int .i64 2] ∧ I = J ∧ S' = [dChunk bD d]) ∨
      (x = layOf n ∧ 1 ≤ epoch ∧ epoch ≤ 8388608 ∧ 1 ≤ seq ∧ seq ≤ 549755813888 ∧ 0 ≤ tail ∧ tail < layL n ∧ I = J ∧ ∃ b, v = .tuple #[.pointer (some ⟨b, 0, none⟩), .int .i64 0] ∧ S' = [dChunk bD d, jChunk b ⟨bD, x, layL n, tail, 0, 0, epoch, seq, seq - 1, ⟨none, 0, 0⟩, false⟩]) := by
  refine Tri.drop ?_ (fun _ _ _ _ h => h)
  obtain ⟨x1, x2, x3, x4, x5, x6, x7⟩ := x
  refine Tri.of (args := [.pointer (some ⟨bD, 0, none⟩), layV x1 x2 x3 x4 x5 x6 x7, .int .i64 epoch, .int .i64 seq, .int .i64 tail]) tabOk Tryz.func109 rfl (by kernel_rfl) (by kernel_rfl) ?_
  conv => whnf
  intro b6
  refine Tri.frame1 0 rfl (disk_Size bD d I) ?_
  rintro v J S' hJ ⟨rfl, rfl, rfl⟩
  refine ⟨_, rfl, ?_⟩
  rw [hd]
  refine CmpD.no (by omega) ?_
  refine Tri.frame1 0 rfl (disk_Size bD d I) ?_
  rintro v J S' hJ ⟨rfl, rfl, rfl⟩
  refine ⟨_, rfl, ?_⟩
  rw [hd]
  refine Tri.free (layout_Of n I) ?_
  rintro v J _ hJ ⟨rfl, rfl⟩
  rw [layA, if_neg (by omega)]
  have hL := layL_range (n := (n : Int)) (by omega)
  have hlay : ∀ {p : Prop}, ¬ p → ¬ (((⟨x1, x2, x3, x4, x5, x6, x7⟩ : Lay) = layOf n) ∧ p) := fun h h' => h h'.2
  conv => whnf
  intro b12
  refine StoreD.st 2 rfl rfl rfl ?_
  refine CmpD.yes rfl ?_
  refine LoadD.own 2 rfl _ rfl rfl ?_
  refine LoadD.own 1 rfl _ rfl rfl ?_
  refine lay_cmp (layOf n) ⟨x1, x2, x3, x4, x5, x6, x7⟩ rfl (.inr rfl) rfl rfl ?_
  refine CmpD.split (fun c1 => ?_) (fun c1 => ?_)
  rotate_left
  · refine Done.mk ⟨_, Drop.pick [0] _ rfl, .inl ⟨fun h => c1 ?_, rfl, rfl, rfl⟩⟩
    have := h.1
    unfold layOf at this
    injection this with q1 q2 q3 q4 q5 q6 q7
    subst q1 q2 q3 q4 q5 q6 q7
    rfl
  have hx : (⟨x1, x2, x3, x4, x5, x6, x7⟩ : Lay) = layOf n := by
    simp only [List.cons.injEq, and_true] at c1
    obtain ⟨q1, q2, q3, q4, q5, q6, q7⟩ := c1
    rw [← q1, ← q2, ← q3, ← q4, ← q5, ← q6, ← q7]
  have hx3 : x3 = layL n := by
    unfold layOf at hx
    injection hx
  refine CmpD.split (fun c2 => ?_) (fun c2 => ?_)
  · exact Done.mk ⟨_, Drop.pick [0] _ rfl, .inl ⟨hlay (by omega), rfl, rfl, rfl⟩⟩
  refine CmpD.split (fun c3 => ?_) (fun c3 => ?_)
  · exact Done.mk ⟨_, Drop.pick [0] _ rfl, .inl ⟨hlay (by omega), rfl, rfl, rfl⟩⟩
  refine CmpD.split (fun c4 => ?_) (fun c4 => ?_)
  · exact Done.mk ⟨_, Drop.pick [0] _ rfl, .inl ⟨hlay (by omega), rfl, rfl, rfl⟩⟩
  refine CmpD.split (fun c5 => ?_) (fun c5 => ?_)
  · exact Done.mk ⟨_, Drop.pick [0] _ rfl, .inl ⟨hlay (by omega), rfl, rfl, rfl⟩⟩
  refine CmpD.split (fun c6 => ?_) (fun c6 => ?_)
  · exact Done.mk ⟨_, Drop.pick [0] _ rfl, .inl ⟨hlay (by omega), rfl, rfl, rfl⟩⟩
  refine LoadD.own 1 rfl [.int .i64 x3] rfl rfl ?_
  refine CmpD.split (fun c7 => ?_) (fun c7 => ?_)
  · exact Done.mk ⟨_, Drop.pick [0] _ rfl, .inl ⟨hlay (by omega), rfl, rfl, rfl⟩⟩
  refine LoadD.own 1 rfl _ rfl rfl ?_
  refine LoadD.own 1 rfl [.int .i64 x3] rfl rfl ?_
  refine ToD.i64 (by omega) (by omega) ?_
  conv => whnf
  intro bJ
  refine Done.mk ⟨_, Drop.pick [0, 3] _ rfl, .inr ⟨hx, by omega, by omega, by omega, by omega, by omega, by omega, rfl, bJ, rfl, ?_⟩⟩
  rw [← hx3]; rfl
end Go.Proofs.YtegdcjnjnoeinaaGreat
namespace Go.Proofs.YtegdcjnjnoeinaaGreat
open Go.RowKit Go.Sl

theorem jr_may1 (b : Nat) (j : JRec) (g : FuncId) (p0 : Nat) (I : Imm) (S : St) (k : Nat) (hk : S[k]? = some (jChunk b j)) {Q : Value → Imm → St → Prop} (hg : j.broken = false → Tri Tryz.prog g #[.pointer (some ⟨p0, 0, none⟩)] I S Q) :
    Tri Tryz.prog 156 #[.pointer (some ⟨b, 0, none⟩), .func (.func g) #[] #[.pointer (some ⟨p0, 0, none⟩)]] I S fun v J S' => (j.broken = true ∧ v = .int .i64 4 ∧ I = J ∧ S' = S) ∨ (j.broken = false ∧ Q v J S') := by
  obtain ⟨disk, ⟨l1, l2, l3, l4, l5, l6, l7⟩, rs, rt, ru, rh, ep, nx, sy, ⟨ga, gl, gc⟩, br⟩ := j
  refine Tri.of (args := [.pointer (some ⟨b, 0, none⟩), .func (.func g) #[] #[.pointer (some ⟨p0, 0, none⟩)]]) tabOk Tryz.func156 rfl (by kernel_rfl) (by kernel_rfl) ?_
  refine LoadD.own k hk [.pointer (some ⟨disk, 0, none⟩)] rfl rfl ?_
  refine LoadD.own k hk [.bool br] rfl rfl ?_
  cases br
  · refine (hg rfl).mono ?_
    intro v J S' hJ hq
    cases v <;> exact Done.mk (.inr ⟨rfl, hq⟩)
  · exact Done.mk (.inl ⟨rfl, rfl, rfl, rfl⟩)

theorem jr_may2 (b : Nat) (j : JRec) (g : FuncId) (p0 p1 : Nat) (I : Imm) (S : St) (k : Nat) (hk : S[k]? = some (jChunk b j)) {Q : Value → Imm → St → Prop} (hg : j.broken = false → Tri Tryz.prog g #[.pointer (some ⟨p0, 0, none⟩), .pointer (some ⟨p1, 0, none⟩)] I S Q) :
    Tri Tryz.prog 156 #[.pointer (some ⟨b, 0, none⟩), .func (.func g) #[] #[.pointer (some ⟨p0, 0, none⟩), .pointer (some ⟨p1, 0, none⟩)]] I S fun v J S' => (j.broken = true ∧ v = .int .i64 4 ∧ I = J ∧ S' = S) ∨ (j.broken = false ∧ Q v J S') := by
  obtain ⟨disk, ⟨l1, l2, l3, l4, l5, l6, l7⟩, rs, rt, ru, rh, ep, nx, sy, ⟨ga, gl, gc⟩, br⟩ := j
  refine Tri.of (args := [.pointer (some ⟨b, 0, none⟩), .func (.func g) #[] #[.pointer (some ⟨p0, 0, none⟩), .pointer (some ⟨p1, 0, none⟩)]]) tabOk Tryz.func156 rfl (by kernel_rfl) (by kernel_rfl) ?_
  refine LoadD.own k hk [.pointer (some ⟨disk, 0, none⟩)] rfl rfl ?_
  refine LoadD.own k hk [.bool br] rfl rfl ?_
  cases br
  · refine (hg rfl).mono ?_
    intro v J S' hJ hq
    cases v <;> exact Done.mk (.inr ⟨rfl, hq⟩)
  · exact Done.mk (.inl ⟨rfl, rfl, rfl, rfl⟩)

theorem jr_may4 (b : Nat) (j : JRec) (g : FuncId) (p0 p1 p2 p3 : Nat) (I : Imm) (S : St) (k : Nat) (hk : S[k]? = some (jChunk b j)) {Q : Value → Imm → St → Prop} (hg : j.broken = false → Tri Tryz.prog g #[.pointer (some ⟨p0, 0, none⟩), .pointer (some ⟨p1, 0, none⟩), .pointer (some ⟨p2, 0, none⟩), .pointer (some ⟨p3, 0, none⟩)] I S Q) :
    Tri Tryz.prog 156 #[.pointer (some ⟨b, 0, none⟩), .func (.func g) #[] #[.pointer (some ⟨p0, 0, none⟩), .pointer (some ⟨p1, 0, none⟩), .pointer (some ⟨p2, 0, none⟩), .pointer (some ⟨p3, 0, none⟩)]] I S fun v J S' => (j.broken = true ∧ v = .int .i64 4 ∧ I = J ∧ S' = S) ∨ (j.broken = false ∧ Q v J S') := by
  obtain ⟨disk, ⟨l1, l2, l3, l4, l5, l6, l7⟩, rs, rt, ru, rh, ep, nx, sy, ⟨ga, gl, gc⟩, br⟩ := j
  refine Tri.of (args := [.pointer (some ⟨b, 0, none⟩), .func (.func g) #[] #[.pointer (some ⟨p0, 0, none⟩), .pointer (some ⟨p1, 0, none⟩), .pointer (some ⟨p2, 0, none⟩), .pointer (some ⟨p3, 0, none⟩)]]) tabOk Tryz.func156 rfl (by kernel_rfl) (by kernel_rfl) ?_
  refine LoadD.own k hk [.pointer (some ⟨disk, 0, none⟩)] rfl rfl ?_
  refine LoadD.own k hk [.bool br] rfl rfl ?_
  cases br
  · refine (hg rfl).mono ?_
    intro v J S' hJ hq
    cases v <;> exact Done.mk (.inr ⟨rfl, hq⟩)
  · exact Done.mk (.inl ⟨rfl, rfl, rfl, rfl⟩)

end Go.Proofs.YtegdcjnjnoeinaaGreat
namespace Go.Proofs.YtegdcjnjnoeinaaGreat
open Go.RowKit Go.Sl
set_option maxRecDepth 20000

/-- groups, as they lie -/
def gCells (gs : List (Int × Int)) : List Value := gs.flatMap fun g => [.int .i64 g.1, .int .i64 g.2]
theorem gCells_length (gs : List (Int × Int)) : (gCells gs).length = gs.length * 2 := by
  unfold gCells
  induction gs with
  | nil => rfl
  | cons g l ih => rw [List.flatMap_cons, List.length_append, ih]; simp; omega
theorem gCells_snoc (gs : List (Int × Int)) (g : Int × Int) : gCells (gs ++ [g]) = gCells gs ++ [.int .i64 g.1, .int .i64 g.2] := by simp [gCells]
theorem jr_none (bJ : Nat) (j : JRec) (I : Imm) : Tri Tryz.prog 154 #[.pointer (some ⟨bJ, 0, none⟩)] I [jChunk bJ j] fun v J S' => v = .bool false ∧ I = J ∧ S' = [jChunk bJ j] := by
  refine Tri.of (args := [.pointer (some ⟨bJ, 0, none⟩)]) tabOk Tryz.func154 rfl (by kernel_rfl) (by kernel_rfl) ?_
  refine LoadD.own 0 rfl [.pointer (some ⟨j.disk, 0, none⟩)] rfl rfl ?_
  exact Done.mk ⟨rfl, rfl, rfl⟩
end Go.Proofs.YtegdcjnjnoeinaaGreat
namespace Go.Proofs.YtegdcjnjnoeinaaGreat
open Go.RowKit Go.Sl
set_option maxRecDepth 20000

structure JSt where
  lay : Lay
  s : Int
  t : Int
  u : Int
  h : Int
  epoch : Int
  next : Int
  synced : Int
  groups : List (Int × Int)
  broken : Bool
/-- numbers in range -/
structure JSt.Wf (j : JSt) : Prop where
  log : j.lay.l = 2
  ring : Ok j.s j.t j.u j.h
  epoch : In64 j.epoch
  next : 1 ≤ j.next ∧ j.next ≤ 549755813889
  synced : 0 ≤ j.synced ∧ j.synced < j.next
  few : j.groups.length ≤ 1000000
  groups : ∀ g ∈ j.groups, In64 g.1 ∧ In64 g.2
@[reducible] def JSt.at (j : JSt) (bD : Nat) (g : Hd) : JRec := ⟨bD, j.lay, j.s, j.t, j.u, j.h, j.epoch, j.next, j.synced, g, j.broken⟩
def Jk (bJ bD : Nat) (j : JSt) (ch : List Blk) : Prop := ∃ (g : Hd) (chG : List Blk), ch = jChunk bJ (j.at bD g) ++ chG ∧ OwnC chG 2 g.a g.len g.cap (gCells j.groups)
/-- writes one by one, until one errs -/
def wrAll (f : Nat → Int) : List Dat → Nat → DSt → DSt × Int
  | [], _, d => (d, 0)
  | b :: bs, i, d => if (d.write (f i) b).2 ≠ 0 then d.write (f i) b else wrAll f bs (i + 1) (d.write (f i) b).1
def JSt.append (j : JSt) (d : DSt) (l : List PImg) (held : Bool) : JSt × DSt × Int × Int :=
  if ¬ RightP j.epoch j.next l then (j, d, 0, 80) else
  if j.s < l.length + 1 then (j, d, 0, 232) else
  match putS j.s j.t j.u j.h (l.length + 1) (if held then l.length + 1 else 0) with
  | ((s, t, u, h, e), at_) => if e ≠ 0 then (j, d, 0, e) else
    match wrAll (fun i => j.lay.l + (at_ + i) % s) (putP j.epoch.toNat j.next.toNat l) 0 d with
    | (d', e') => if e' ≠ 0 then ({ j with s := s, t := t, u := u, h := h, broken := true }, d', 0, e') else
      ({ j with s := s, t := t, u := u, h := h, groups := j.groups ++ [(j.next, (l.length + 1 : Int))], next := j.next + 1 }, d', j.next, 0)
theorem putS_mid {s t u h n k : Int} (hr : Ok s t u h) {s' t' u' h' e a : Int} (hp : putS s t u h n k = ((s', t', u', h', e), a)) (he : e = 0) : s' = s ∧ t' = t ∧ Ok s' t' u' h' ∧ 0 ≤ a ∧ a < s := by
  unfold putS at hp
  subst he
  split at hp
  · simp at hp
  · split at hp
    · simp at hp
    · rename_i h1 h2
      simp only [Prod.mk.injEq] at hp
      obtain ⟨⟨rfl, rfl, rfl, rfl, _⟩, rfl⟩ := hp
      unfold Ok at hr h1 ⊢
      have := Int.emod_nonneg (t + u) (b := s) (by omega)
      have := Int.emod_lt_of_pos (t + u) (b := s) (by omega)
      refine ⟨rfl, rfl, ?_, by omega, by omega⟩
      omega
@[reducible] def pBox (b : Nat) (v : Value) (T : TypeId) : List Blk := [(b, row [v] T)]
set_option maxHeartbeats 4000000 in
theorem jk_Append1 (bj bl br bs bJ bD : Nat) (j : JSt) (hj : j.Wf) (hb : j.broken = false) (g : Hd) (chG : List Blk) (hG : OwnC chG 2 g.a g.len g.cap (gCells j.groups)) (d : DSt) (chD : List Blk) (I : Imm) (hD : Dk I bD d chD) (k : Nat) (hd : d.Few k) (hk : k ≤ 900000)
    (aL : Option Addr) (capL : Nat) (gs : List Img) (hi : ImgsOk I aL gs) (hgl : gs.length ≤ 9223372036854775806) (hg6 : j.groups.length ≤ 900000) (held : Bool) :
    Tri Tryz.prog 157 #[.pointer (some ⟨bj, 0, none⟩), .pointer (some ⟨bl, 0, none⟩), .pointer (some ⟨br, 0, none⟩), .pointer (some ⟨bs, 0, none⟩)] I
      [pBox bj (.pointer (some ⟨bJ, 0, none⟩)) 46, pBox bl (.slice aL gs.length capL) 26, pBox br (.bool held) 4, pBox bs (.int .i64 0) 3, jChunk bJ (j.at bD g), chG, chD] fun v J S' =>
      v = .int .i64 (j.append d (gs.map Img.pr) held).2.2.2 ∧ ∃ chJ chD', Jk bJ bD (j.append d (gs.map Img.pr) held).1 chJ ∧ Dk J bD (j.append d (gs.map Img.pr) held).2.1 chD' ∧ S' = [pBox bs (.int .i64 (j.append d (gs.map Img.pr) held).2.2.1) 3, chJ, chD'] := by
  have hrg := hj.ring
  unfold Ok at hrg
  refine Tri.drop ?_ (fun _ _ _ _ h => h)
  refine Tri.of (args := [.pointer (some ⟨bj, 0, none⟩), .pointer (some ⟨bl, 0, none⟩), .pointer (some ⟨br, 0, none⟩), .pointer (some ⟨bs, 0, none⟩)]) tabOk Tryz.func157 rfl (by kernel_rfl) (by kernel_rfl) ?_
  refine CodeF.sched [[], [0], [0, 1], [0, 1, 2], [], [4], [4, 5], [4, 5, 6], [], [0, 1, 2, 3, 4, 5, 6, 7, 8], [0, 1, 2, 3, 4, 5, 6, 7, 8, 9], [0, 1, 2, 3, 4, 5, 6, 7, 8, 9, 10], [0, 1, 2, 3, 4, 5, 6, 7, 8, 9, 10, 11], [0, 1, 2, 3, 4, 5, 6, 7, 8, 9, 10, 11], [0, 1, 2, 3, 4, 5, 6, 7, 8, 9, 10, 11, 12], [0, 1, 2, 3, 4, 5, 6, 7, 8, 9, 10, 11, 12, 13, 14]] [0, 1, 2, 3, 4, 5, 6, 7, 8, 9, 10, 11, 12, 13, 14, 15] (by kernel_rfl) ?_
  repeat (first | refine LoadP.at 0 rfl _ rfl rfl ?_ | refine LoadP.at 1 rfl _ rfl rfl ?_ | refine LoadP.at 4 rfl _ rfl rfl ?_)
  refine Tri.free (put_of j.epoch j.next ⟨hj.epoch, by have := hj.next; unfold In64; omega⟩ aL capL gs I hi hgl) ?_
  unfold JSt.append
  rw [List.length_map]
  rintro v J _ hJ (⟨c1, rfl⟩ | ⟨c1, aO, capO, bs2, rfl, hO, hbd, hbk⟩)
  · repeat (first | refine CmpD.no (by decide) ?_)
    refine Done.mk ?_
    rw [if_pos c1]
    exact ⟨[pBox bs (.int .i64 0) 3, jChunk bJ (j.at bD g) ++ chG, chD], (Drop.pick [3, 4, 5, 6] _ rfl).trans (Drop.flat (by simp [St.at])), rfl, _, _, ⟨g, chG, rfl, hG⟩, hD.mono hJ, rfl⟩
  rw [if_neg (by simpa using c1)]
  have hbl : bs2.length = gs.length + 1 := by have := congrArg List.length hbd; rw [putP_length, List.length_map, List.length_map] at this; exact this
  have hgl2 : gs.length ≤ 32 := by have := c1.2.2.2.2.2.1; rwa [List.length_map] at this
  have hnx : j.next ≤ 549755813888 := c1.2.2.2.1
  have hDJ := hD.mono hJ
  repeat (first | refine LoadD.own 0 rfl _ rfl rfl ?_ | refine LoadD.own 4 rfl _ rfl rfl ?_ | refine CmpD.yes rfl ?_)
  refine CmpD.split (fun c2 => ?_) (fun c2 => ?_) <;> replace c2 := id (α := _) c2 <;> dsimp only [JSt.at] at c2
  · skip
    refine Done.mk ?_
    rw [if_pos (by omega)]
    exact ⟨[pBox bs (.int .i64 0) 3, jChunk bJ (j.at bD g) ++ chG, chD], (Drop.pick [3, 4, 5, 6] _ rfl).trans (Drop.flat (by simp [St.at])), rfl, _, _, ⟨g, chG, rfl, hG⟩, hDJ, rfl⟩
  rw [if_neg (by omega)]
  repeat (first | refine LoadD.own 2 rfl _ rfl rfl ?_)
  have hrgk := hj.ring
  cases held
  all_goals
    repeat (first | refine LoadD.own 0 rfl _ rfl rfl ?_ | refine LoadD.own 4 rfl _ rfl rfl ?_)
    refine Tri.free (ring_Put _ _ _ _ _ _ ?_ ?_ ?_ ?_ ?_ _ ?_) ?_
    iterate 6 (unfold In64; (try dsimp only [JSt.at]); omega)
    rintro v J2 _ hJ2 ⟨⟨s', t', u', h', at_, e', rfl, hput⟩, rfl⟩
    first | rw [if_pos rfl] | rw [if_neg Bool.false_ne_true]
    first | rw [show putS j.s j.t j.u j.h ((gs.length : Int) + 1) 0 = _ from hput] | rw [show putS j.s j.t j.u j.h ((gs.length : Int) + 1) ((gs.length : Int) + 1) = _ from hput]
    dsimp only
    conv => whnf
    intro b8
    repeat (first | refine LoadD.own 0 rfl _ rfl rfl ?_ | refine LoadD.own 7 rfl _ rfl rfl ?_ | refine StoreD.st 7 rfl rfl rfl ?_)
    refine Tri.frame1 4 rfl (jr_turned bJ (j.at bD g) s' t' u' h' e' J) ?_
    rintro v J3 S' hJ3 ⟨rfl, rfl, rfl⟩
    refine ⟨_, rfl, ?_⟩
    refine CmpD.split (fun c3 => ?_) (fun c3 => ?_)
    rotate_left
    · skip
      refine Done.mk ?_
      rw [if_pos c3, if_neg c3]
      exact ⟨[pBox bs (.int .i64 0) 3, jChunk bJ (j.at bD g) ++ chG, chD], (Drop.pick [3, 4, 5, 6] _ rfl).trans (Drop.flat (by simp [St.at])), rfl, _, _, ⟨g, chG, rfl, hG⟩, hDJ, rfl⟩
    rw [if_neg (by simpa using c3), if_pos c3]
    subst c3
    obtain ⟨es, et, hr', ha1, ha2⟩ := putS_mid hrgk hput rfl
    have hr2 := hr'
    unfold Ok at hr2
    skip
    have hP := putP_length j.epoch.toNat j.next.toNat (gs.map Img.pr)
    obtain ⟨B, hB⟩ : ∃ B, B = putP j.epoch.toNat j.next.toNat (gs.map Img.pr) := ⟨_, rfl⟩
    rw [List.length_map, ← hB] at hP
    rw [← hB] at hbd ⊢
    obtain ⟨W, hW⟩ : ∃ W, W = wrAll (fun i => j.lay.l + (at_ + i) % s') B 0 d := ⟨_, rfl⟩
    rw [← hW]
    rcases hO.mem with q0 | ⟨bO, oO, cO, TO, fO, rfl, hIO, ht1⟩
    · omega
    refine CodeF.loopD [0, 3, 5, 9, 61, 62, 63] (fun vs J' S' => ∃ (i : Nat) (d' : DSt) (chD' chR : List Blk), i ≤ gs.length + 1 ∧ W = wrAll (fun i => j.lay.l + (at_ + i) % s') (B.drop i) i d' ∧ d'.Few (k + i) ∧ Dk J' bD d' chD' ∧ J.le J' ∧
        vs = [.pointer (some ⟨bj, 0, none⟩), .pointer (some ⟨bs, 0, none⟩), .slice (some ⟨bO, oO, none⟩) (gs.length + 1) capO, .int .i64 at_, .slice (some ⟨bO, oO, none⟩) (gs.length + 1) capO, .int .i64 (gs.length + 1 : Nat), .int .i64 i] ∧
        S' = [pBox bj (.pointer (some ⟨bJ, 0, none⟩)) 46, pBox bl (.slice aL gs.length capL) 26, chR, pBox bs (.int .i64 0) 3, jChunk bJ ({ j with s := s', t := t', u := u', h := h' }.at bD g), chG, chD'])
      (fun vs _ _ => match vs with | [_, _, _, _, _, _, .int _ i] => ((gs.length + 1 : Int) - i).toNat | _ => 0) ?_ ?_
    · exact ⟨_, (Drop.pick [0, 1, 2, 3, 4, 5, 6] _ rfl), 0, d, chD, _, by omega, by rw [hW]; rfl, hd, hDJ, J.le_refl, rfl, rfl⟩
    rintro vs gE J' S' hJ' ⟨i, d', chD', chR, hi1, hWi, hdi, hDi, hle, rfl, rfl⟩
    refine CmpD.split (fun c4 => ?_) (fun c4 => ?_)
    · have hib : i < bs2.length := by omega
      have hcell : (bs2.map Bk.cell)[i]? = some bs2[i].cell := by rw [List.getElem?_map, List.getElem?_eq_getElem hib]; rfl
      have hbki := hbk _ (List.getElem_mem hib)
      have hBi : B.drop i = bs2[i].data :: B.drop (i + 1) := by
        have hiB : i < B.length := by omega
        rw [List.drop_eq_getElem_cons hiB]
        congr 1
        simp only [← hbd, List.getElem_map]
      obtain ⟨bk, hbke⟩ : ∃ bk, bk = bs2[i] := ⟨_, rfl⟩
      rw [← hbke] at hcell hbki hBi
      refine Chk.mk (by omega) ?_
      refine LoadD.imm (hle _ _ hIO) _ (take_get ht1 hcell) rfl ?_
      refine CodeF.sched [[], [], [1], [1, 2], [1, 2, 3], [], [5], [5, 6], [5, 6, 7], [5, 6, 7, 8], [], [], [10, 11], [], [13], [13, 14], [13, 14, 15], [13, 14, 15, 16], [10, 11, 12, 13, 14, 15, 16, 17], [5, 6, 7, 8, 9, 10, 11, 12, 13, 14, 15, 16, 17, 18], [], [1, 2, 3, 4, 5, 6, 7, 8, 9, 10, 11, 12, 13, 14, 15, 16, 17, 18, 19, 20], [0, 1, 2, 3, 4, 5, 6, 7, 8, 9, 10, 11, 12, 13, 14, 15, 16, 17, 18, 19, 20, 21], [0, 1, 2, 3, 4, 5, 6, 7, 8, 9, 10, 11, 12, 13, 14, 15, 16, 17, 18, 19, 20, 21, 22]] [0, 1, 2, 3, 4, 5, 6, 7, 8, 9, 10, 11, 12, 13, 14, 15, 16, 17, 18, 19, 20, 21, 22, 23] (by kernel_rfl) ?_
      have hm1 := Int.emod_nonneg (at_ + i) (b := s') (by omega)
      have hm2 := Int.emod_lt_of_pos (at_ + i) (b := s') (by omega)
      have hlog := hj.log
      repeat (first | refine LoadP.at 0 rfl _ rfl rfl ?_ | refine LoadP.at 4 rfl _ rfl rfl ?_)
      refine ToD.i64 (by omega) (by omega) ?_
      repeat (first | refine LoadP.at 0 rfl _ rfl rfl ?_ | refine LoadP.at 4 rfl _ rfl rfl ?_)
      refine Chk.mk (show s' ≠ 0 by omega) ?_
      refine ToD.rem (by omega) ?_
      refine ToD.i64 (show -9223372036854775808 ≤ j.lay.l + (at_ + i) % s' by omega) (show j.lay.l + (at_ + i) % s' ≤ 9223372036854775807 by omega) ?_
      refine Tri.frame1 6 rfl (dk_Write hDi (hdi.mono (by omega)) (j.lay.l + (at_ + i) % s') bk.a 4096 bk.cap bk.data (BkOk.mono hbki hle)) ?_
      rintro v J4 S4 hJ4 ⟨rfl, chD2, hD2, rfl⟩
      refine ⟨_, rfl, ?_⟩
      repeat (first | refine Chk.mk ⟨rfl, trivial⟩ ?_)
      refine Tri.frame1 4 rfl (jr_did bJ ({ j with s := s', t := t', u := u', h := h' }.at bD g) _ J4) ?_
      rintro v J5 S5 hJ5 ⟨rfl, rfl, rfl⟩
      refine ⟨_, rfl, ?_⟩
      rw [hBi, wrAll] at hWi
      refine CmpD.split (fun c5 => ?_) (fun c5 => ?_)
      · rw [if_neg (by simpa using c5)] at hWi
        skip
        refine ToD.i64 (by omega) (by omega) ?_
        refine ⟨_, Drop.pick [0, 1, 2, 3, 4, 5, 6] _ rfl, ⟨i + 1, _, chD2, chR, by omega, hWi, hdi.write _ _, hD2, Imm.le_trans hle hJ4, rfl, ?_⟩, ?_⟩
        · rw [decide_eq_true c5]
          show [_, _, _, _, jChunk bJ { ({ j with s := s', t := t', u := u', h := h' } : JSt).at bD g with broken := j.broken || !true }, _, _] = _
          rw [hb]; rfl
        · show ((gs.length + 1 : Int) - ((i : Int) + 1)).toNat < ((gs.length + 1 : Int) - (i : Int)).toNat
          omega
      · rw [if_pos c5] at hWi
        skip
        refine Done.mk ?_
        rw [hWi, if_pos c5]
        refine ⟨[pBox bs (.int .i64 0) 3, jChunk bJ ({ j with s := s', t := t', u := u', h := h', broken := true }.at bD g) ++ chG, chD2], ?_, rfl, _, _, ⟨g, chG, rfl, hG⟩, hD2, rfl⟩
        rw [decide_eq_false c5]
        refine (Drop.pick [3, 4, 5, 6] _ rfl).trans (Drop.flat ?_)
        show List.flatten [_, jChunk bJ { ({ j with s := s', t := t', u := u', h := h' } : JSt).at bD g with broken := j.broken || !false }, _, _] = _
        rw [hb]; simp
    · obtain rfl : i = gs.length + 1 := by omega
      rw [List.drop_of_length_le (by omega), wrAll] at hWi
      rw [hWi, if_neg (by simp)]
      repeat (first | refine LoadD.own 0 rfl _ rfl rfl ?_ | refine LoadD.own 4 rfl _ rfl rfl ?_ | refine StoreD.st 3 rfl rfl rfl ?_)
      refine CodeF.sched [[], [], [1], [1, 2], [1, 2, 3], [], [], [6], [5, 6, 7], [5, 6, 7, 8], [1, 2, 3, 4, 5, 6, 7, 8, 9], [0, 1, 2, 3, 4, 5, 6, 7, 8, 9, 10], [0, 1, 2, 3, 4, 5, 6, 7, 8, 9, 10, 11], [0, 1, 2, 3, 4, 5, 6, 7, 8, 9, 10, 11, 12]] [0, 1, 2, 3, 4, 5, 6, 7, 8, 9, 10, 11, 12, 13] (by kernel_rfl) ?_
      repeat (first | refine LoadP.at 0 rfl _ rfl rfl ?_ | refine LoadP.at 3 rfl _ rfl rfl ?_ | refine LoadP.at 4 rfl _ rfl rfl ?_)
      conv => whnf
      intro bN
      repeat (first | refine Chk.mk ⟨rfl, rfl, rfl, trivial⟩ ?_)
      refine appendD tabOk rfl rfl rfl rfl rfl rfl rfl 5 rfl hG (SrcOk.slice (n := 1) (news := [.int .i64 j.next, .int .i64 (gs.length + 1 : Nat)]) tabOk rfl ((OwnC.whole (len := 1) (size := 2) rfl).slC 7 rfl) (by intro v hv; simp only [List.mem_cons, List.not_mem_nil, or_false] at hv; rcases hv with rfl | rfl <;> rfl)) rfl ?_ ?_ ?_
      · have := hG.n; rw [gCells_length] at this
        show (g.len + 1) * 16 ≤ _
        omega
      · have := hG.n; rw [gCells_length] at this
        show g.len + 1 ≤ _
        omega
      have hn0 := hj.next
      intro a2 cap2 ch2 hG2
      repeat (first | refine LoadD.own 0 rfl _ rfl rfl ?_ | refine LoadD.own 4 rfl _ rfl rfl ?_ | refine StoreD.st 4 rfl rfl rfl ?_ | refine Chk.mk ⟨rfl, trivial⟩ ?_)
      refine ToD.i64 (show -9223372036854775808 ≤ j.next + 1 by omega) (show j.next + 1 ≤ _ by omega) ?_
      repeat (first | refine StoreD.st 4 rfl rfl rfl ?_)
      refine Done.mk ?_
      refine ⟨[pBox bs (.int .i64 j.next) 3, jChunk bJ ({ j with s := s', t := t', u := u', h := h', groups := j.groups ++ [(j.next, (gs.length + 1 : Int))], next := j.next + 1 }.at bD ⟨a2, g.len + 1, cap2⟩) ++ ch2, chD'], ?_, rfl, _, _, ⟨⟨a2, g.len + 1, cap2⟩, ch2, rfl, ?_⟩, hDi, rfl⟩
      · refine (Drop.pick [3, 4, 5, 6] _ rfl).trans (Drop.flat ?_)
        simp [St.at]
        exact ⟨rfl, rfl⟩
      · rw [gCells_snoc]; exact hG2
end Go.Proofs.YtegdcjnjnoeinaaGreat
namespace Go.Proofs.YtegdcjnjnoeinaaGreat
open Go.RowKit Go.Sl
set_option maxRecDepth 20000

def JSt.appendB (j : JSt) (d : DSt) (l : List PImg) (held : Bool) : JSt × DSt × Int × Int := if j.broken then (j, d, 0, 4) else j.append d l held
set_option maxHeartbeats 1000000 in
theorem jk_Append {bJ bD : Nat} {j : JSt} {ch : List Blk} (hJ0 : Jk bJ bD j ch) (hj : j.Wf) {I : Imm} {d : DSt} {chD : List Blk} (hD : Dk I bD d chD) (hd : d.Few 900000) (hg6 : j.groups.length ≤ 900000)
    (aL : Option Addr) (capL : Nat) (gs : List Img) (hi : ImgsOk I aL gs) (hgl : gs.length ≤ 9223372036854775806) (held : Bool) :
    Tri Tryz.prog 84 #[.pointer (some ⟨bJ, 0, none⟩), .slice aL gs.length capL, .bool held] I [ch, chD] fun v J S' =>
      v = .tuple #[.int .i64 (j.appendB d (gs.map Img.pr) held).2.2.1, .int .i64 (j.appendB d (gs.map Img.pr) held).2.2.2] ∧ ∃ chJ chD', Jk bJ bD (j.appendB d (gs.map Img.pr) held).1 chJ ∧ Dk J bD (j.appendB d (gs.map Img.pr) held).2.1 chD' ∧ S' = [chJ, chD'] := by
  obtain ⟨g, chG, rfl, hG⟩ := hJ0
  have hm := fun bj bl br bs => jr_may4 bJ (j.at bD g) 157 bj bl br bs I [pBox bj (.pointer (some ⟨bJ, 0, none⟩)) 46, pBox bl (.slice aL gs.length capL) 26, pBox br (.bool held) 4, pBox bs (.int .i64 0) 3, jChunk bJ (j.at bD g), chG, chD] 4 rfl
    (fun hb => jk_Append1 bj bl br bs bJ bD j hj hb g chG hG d chD I hD 900000 hd (Nat.le_refl _) aL capL gs hi hgl hg6 held)
  refine Tri.lay (S2 := [jChunk bJ (j.at bD g), chG, chD]) (by simp) ?_
  refine Tri.drop ?_ (fun _ _ _ _ h => h)
  refine Tri.of (args := [.pointer (some ⟨bJ, 0, none⟩), .slice aL gs.length capL, .bool held]) tabOk Tryz.func84 rfl (by kernel_rfl) (by kernel_rfl) ?_
  conv => whnf
  intro b3
  conv => whnf
  intro b4
  conv => whnf
  intro b5
  conv => whnf
  intro b8
  repeat (first | refine LoadD.own 3 rfl _ rfl rfl ?_ | refine StoreD.st 6 rfl rfl rfl ?_)
  refine Tri.frameX (hm b3 b4 b5 b8) [3, 4, 5, 6, 0, 1, 2] rfl rfl ?_
  unfold JSt.appendB
  rintro v J A' hJ (⟨hb, rfl, rfl, rfl⟩ | ⟨hb, rfl, chJ, chD', h1, h2, rfl⟩)
  · refine LoadD.own 10 rfl [.int .i64 0] rfl rfl ?_
    rw [if_pos hb]
    exact Done.mk ⟨[jChunk bJ (j.at bD g) ++ chG, chD], (Drop.pick [11, 12, 13] _ rfl).trans (Drop.flat (by simp [St.at])), rfl, _, _, ⟨g, chG, rfl, hG⟩, hD, rfl⟩
  · rw [if_neg (by have hb : j.broken = false := hb; rw [hb]; simp)]
    refine LoadD.own 7 rfl [.int .i64 _] rfl rfl ?_
    exact Done.mk ⟨[chJ, chD'], (Drop.pick [8, 9] _ rfl).trans (Drop.flat (by simp [St.at])), rfl, _, _, h1, h2, rfl⟩
end Go.Proofs.YtegdcjnjnoeinaaGreat
namespace Go.Proofs.YtegdcjnjnoeinaaGreat
open Go.RowKit Go.Sl
set_option maxRecDepth 20000

def JSt.flush (j : JSt) (d : DSt) : JSt × DSt × Int := if j.broken then (j, d, 4) else if d.flush.2 ≠ 0 then ({ j with broken := true }, d.flush.1, d.flush.2) else ({ j with synced := j.next - 1 }, d.flush.1, 0)
theorem jk_Flush1 (bx bJ bD : Nat) (j : JSt) (hj : j.Wf) (hb : j.broken = false) (g : Hd) (chG : List Blk) (hG : OwnC chG 2 g.a g.len g.cap (gCells j.groups)) (d : DSt) (chD : List Blk) (I : Imm) (hD : Dk I bD d chD) :
    Tri Tryz.prog 161 #[.pointer (some ⟨bx, 0, none⟩)] I [pBox bx (.pointer (some ⟨bJ, 0, none⟩)) 46, jChunk bJ (j.at bD g), chG, chD] fun v J S' =>
      v = .int .i64 (j.flush d).2.2 ∧ ∃ chJ chD', Jk bJ bD (j.flush d).1 chJ ∧ Dk J bD (j.flush d).2.1 chD' ∧ S' = [chJ, chD'] := by
  have hn := hj.next
  unfold JSt.flush
  rw [if_neg (by rw [hb]; simp)]
  refine Tri.drop ?_ (fun _ _ _ _ h => h)
  refine Tri.of (args := [.pointer (some ⟨bx, 0, none⟩)]) tabOk Tryz.func161 rfl (by kernel_rfl) (by kernel_rfl) ?_
  refine CodeF.sched [[], [], [1], [1, 2], [1, 2, 3], [1, 2, 3, 4], [0, 1, 2, 3, 4, 5], [0, 1, 2, 3, 4, 5, 6]] [0, 1, 2, 3, 4, 5, 6, 7] (by kernel_rfl) ?_
  repeat (first | refine LoadP.at 0 rfl _ rfl rfl ?_ | refine LoadP.at 1 rfl _ rfl rfl ?_)
  refine Tri.frame1 3 rfl (dk_Flush hD) ?_
  rintro v J S' hJ ⟨rfl, chD', hD', rfl⟩
  refine ⟨_, rfl, ?_⟩
  repeat (first | refine Chk.mk ⟨rfl, trivial⟩ ?_)
  refine Tri.frame1 1 rfl (jr_did bJ (j.at bD g) _ J) ?_
  rintro v J S' hJ2 ⟨rfl, rfl, rfl⟩
  refine ⟨_, rfl, ?_⟩
  refine CmpD.split (fun c1 => ?_) (fun c1 => ?_)
  · rw [if_neg (by simpa using c1)]
    refine CodeF.sched [[], [], [1], [1, 2], [1, 2, 3], [1, 2, 3, 4], [0, 1, 2, 3, 4, 5], [0, 1, 2, 3, 4, 5, 6], [0, 1, 2, 3, 4, 5, 6, 7]] [0, 1, 2, 3, 4, 5, 6, 7, 8] (by kernel_rfl) ?_
    repeat (first | refine LoadP.at 0 rfl _ rfl rfl ?_ | refine LoadP.at 1 rfl _ rfl rfl ?_)
    refine ToD.i64 (show -9223372036854775808 ≤ j.next - 1 by omega) (show j.next - 1 ≤ _ by omega) ?_
    repeat (first | refine StoreD.st 1 rfl rfl rfl ?_)
    refine Done.mk ⟨[jChunk bJ ({ j with synced := j.next - 1 }.at bD g) ++ chG, chD'], (Drop.pick [1, 2, 3] _ rfl).trans (Drop.flat ?_), rfl, _, _, ⟨g, chG, rfl, hG⟩, hD', rfl⟩
    rw [decide_eq_true c1]
    simp [St.at, hb]
    rfl
  · rw [if_pos c1]
    skip
    refine Done.mk ⟨[jChunk bJ ({ j with broken := true }.at bD g) ++ chG, chD'], (Drop.pick [1, 2, 3] _ rfl).trans (Drop.flat ?_), rfl, _, _, ⟨g, chG, rfl, hG⟩, hD', rfl⟩
    rw [decide_eq_false c1]
    simp [St.at, hb]
theorem jk_Flush {bJ bD : Nat} {j : JSt} {ch : List Blk} (hJ0 : Jk bJ bD j ch) (hj : j.Wf) {I : Imm} {d : DSt} {chD : List Blk} (hD : Dk I bD d chD) :
    Tri Tryz.prog 88 #[.pointer (some ⟨bJ, 0, none⟩)] I [ch, chD] fun v J S' =>
      v = .int .i64 (j.flush d).2.2 ∧ ∃ chJ chD', Jk bJ bD (j.flush d).1 chJ ∧ Dk J bD (j.flush d).2.1 chD' ∧ S' = [chJ, chD'] := by
  obtain ⟨g, chG, rfl, hG⟩ := hJ0
  have hm := fun bx => jr_may1 bJ (j.at bD g) 161 bx I [pBox bx (.pointer (some ⟨bJ, 0, none⟩)) 46, jChunk bJ (j.at bD g), chG, chD] 1 rfl (fun hb => jk_Flush1 bx bJ bD j hj hb g chG hG d chD I hD)
  refine Tri.lay (S2 := [jChunk bJ (j.at bD g), chG, chD]) (by simp) ?_
  refine Tri.drop ?_ (fun _ _ _ _ h => h)
  refine Tri.of (args := [.pointer (some ⟨bJ, 0, none⟩)]) tabOk Tryz.func88 rfl (by kernel_rfl) (by kernel_rfl) ?_
  conv => whnf
  intro b3
  repeat (first | refine LoadD.own 3 rfl _ rfl rfl ?_)
  refine Tri.frameX (hm b3) [3, 0, 1, 2] rfl rfl ?_
  rintro v J A' hJ (⟨hb, rfl, rfl, rfl⟩ | ⟨hb, rfl, chJ, chD', h1, h2, rfl⟩)
  · unfold JSt.flush
    rw [if_pos hb]
    exact Done.mk ⟨[jChunk bJ (j.at bD g) ++ chG, chD], (Drop.pick [5, 6, 7] _ rfl).trans (Drop.flat (by simp [St.at])), rfl, _, _, ⟨g, chG, rfl, hG⟩, hD, rfl⟩
  · exact Done.mk ⟨[chJ, chD'], (Drop.pick [4, 5] _ rfl).trans (Drop.flat (by simp [St.at])), rfl, _, _, h1, h2, rfl⟩
/-- groups let go, one by one -/
def relAll (seq : Int) : List (Int × Int) → Int → Int → Int → Int → List (Int × Int) × R5
  | [], s, t, u, h => ([], (s, t, u, h, 0))
  | g :: gs, s, t, u, h => if g.1 ≤ seq then (match dropS s t u h g.2 with
    | (s', t', u', h', e) => if e = 0 then relAll seq gs s' t' u' h' else (g :: gs, (s, t, u, h, e))) else (g :: gs, (s, t, u, h, 0))
def JSt.release (j : JSt) (seq : Int) : JSt × Int := if j.broken then (j, 4) else if j.synced < seq then (j, 2) else match relAll seq j.groups j.s j.t j.u j.h with
  | (gs, (s, t, u, h, e)) => ({ j with s := s, t := t, u := u, h := h, groups := gs }, e)
theorem dropS_mid {s t u h n : Int} (hr : Ok s t u h) {s' t' u' h' e : Int} (hp : dropS s t u h n = (s', t', u', h', e)) (he : e = 0) : Ok s' t' u' h' := by
  unfold dropS at hp
  subst he
  split at hp
  · simp at hp
  · rename_i h1
    simp only [Prod.mk.injEq] at hp
    obtain ⟨rfl, rfl, rfl, rfl, _⟩ := hp
    unfold Ok at hr h1 ⊢
    have := Int.emod_nonneg (t + n) (b := s) (by omega)
    have := Int.emod_lt_of_pos (t + n) (b := s) (by omega)
    omega
set_option maxHeartbeats 2000000 in
theorem jk_Release1 (bn bx bJ bD : Nat) (seq : Int) (j : JSt) (hj : j.Wf) (hb : j.broken = false) (g : Hd) (chG : List Blk) (hG : OwnC chG 2 g.a g.len g.cap (gCells j.groups)) (I : Imm) :
    Tri Tryz.prog 165 #[.pointer (some ⟨bn, 0, none⟩), .pointer (some ⟨bx, 0, none⟩)] I [pBox bn (.int .i64 seq) 3, pBox bx (.pointer (some ⟨bJ, 0, none⟩)) 46, jChunk bJ (j.at bD g), chG] fun v J S' =>
      I = J ∧ v = .int .i64 (j.release seq).2 ∧ ∃ chJ, Jk bJ bD (j.release seq).1 chJ ∧ S' = [chJ] := by
  unfold JSt.release
  rw [if_neg (by rw [hb]; simp)]
  refine Tri.drop ?_ (fun _ _ _ _ h => h)
  refine Tri.of (args := [.pointer (some ⟨bn, 0, none⟩), .pointer (some ⟨bx, 0, none⟩)]) tabOk Tryz.func165 rfl (by kernel_rfl) (by kernel_rfl) ?_
  refine CodeF.sched [[], [], [1], [1, 2], [1, 2, 3], [0, 1, 2, 3, 4]] [0, 1, 2, 3, 4, 5] (by kernel_rfl) ?_
  repeat (first | refine LoadP.at 0 rfl _ rfl rfl ?_ | refine LoadP.at 1 rfl _ rfl rfl ?_ | refine LoadP.at 2 rfl _ rfl rfl ?_)
  refine CmpD.split (fun c1 => ?_) (fun c1 => ?_)
  · replace c1 : j.synced < seq := c1
    rw [if_pos c1]
    exact Done.mk ⟨[jChunk bJ (j.at bD g) ++ chG], (Drop.pick [2, 3] _ rfl).trans (Drop.flat (by simp [St.at])), rfl, rfl, _, ⟨g, chG, rfl, hG⟩, rfl⟩
  replace c1 : ¬ j.synced < seq := c1
  rw [if_neg c1]
  obtain ⟨W, hW⟩ : ∃ W, W = relAll seq j.groups j.s j.t j.u j.h := ⟨_, rfl⟩
  rw [← hW]
  refine CodeF.loopD [0, 1] (fun vs J' S' => ∃ (gs : List (Int × Int)) (g' : Hd) (chG' : List Blk) (s t u h : Int), gs.length ≤ 1000000 ∧ (∀ x ∈ gs, In64 x.1 ∧ In64 x.2) ∧ W = relAll seq gs s t u h ∧ Ok s t u h ∧ OwnC chG' 2 g'.a g'.len g'.cap (gCells gs) ∧ J' = I ∧
      vs = [.pointer (some ⟨bn, 0, none⟩), .pointer (some ⟨bx, 0, none⟩)] ∧
      S' = [pBox bn (.int .i64 seq) 3, pBox bx (.pointer (some ⟨bJ, 0, none⟩)) 46, jChunk bJ ({ j with s := s, t := t, u := u, h := h, groups := gs }.at bD g'), chG'])
    (fun _ _ S' => match S' with | [_, _, [(_, .cells c _ _)], _] => (match c[15]? with | some (Value.slice _ l _) => l | _ => 0) | _ => 0) ?_ ?_
  · exact ⟨_, Drop.refl _, j.groups, g, chG, j.s, j.t, j.u, j.h, hj.few, hj.groups, hW, hj.ring, hG, rfl, rfl, rfl⟩
  rintro vs gE J' S' hJ' ⟨gs, ⟨ga, gl, gc⟩, chG', s, t, u, h, hfew, hin, hWi, hr, hG', rfl, rfl, rfl⟩
  dsimp only at hG'
  have hr2 := hr
  unfold Ok at hr2
  have hgl : gs.length = gl := by have := hG'.n; rw [gCells_length] at this; omega
  refine CodeF.sched [[], [0], [0, 1], [0, 1, 2], [0, 1, 2, 3], [0, 1, 2, 3, 4], [0, 1, 2, 3, 4, 5], [0, 1, 2, 3, 4, 5, 6], [0, 1, 2, 3, 4, 5, 6, 7], [0, 1, 2, 3, 4, 5, 6, 7, 8], [0, 1, 2, 3, 4, 5, 6, 7, 8, 9], [0, 1, 2, 3, 4, 5, 6, 7, 8, 9, 10], [0, 1, 2, 3, 4, 5, 6, 7, 8, 9, 10, 11], [0, 1, 2, 3, 4, 5, 6, 7, 8, 9, 10, 11, 12], [0, 1, 2, 3, 4, 5, 6], [0, 1, 2, 3, 4, 5, 6, 7, 8, 9, 10, 11, 12, 13, 14], [0, 1, 2, 3, 4, 5, 6, 7, 8, 9, 10, 11, 12, 13, 14, 15]] [0, 1, 2, 3, 4, 5, 6, 7, 8, 9, 10, 11, 12, 13, 14, 15, 16] (by kernel_rfl) ?_
  repeat (first | refine LoadP.at 1 rfl _ rfl rfl ?_ | refine LoadP.at 2 rfl _ rfl rfl ?_)
  match gs, hgl, hG', hWi, hin, hfew with
  | [], hgl, hG', hWi, _, _ =>
    obtain rfl : gl = 0 := by simpa using hgl.symm
    refine CmpD.no (by show ¬ (0 : Int) < ((0 : Nat) : Int); decide) ?_
    refine Done.mk ?_
    rw [hWi, relAll]
    exact ⟨[jChunk bJ ({ j with s := s, t := t, u := u, h := h, groups := [] }.at bD ⟨ga, 0, gc⟩) ++ chG'], (Drop.pick [2, 3] _ rfl).trans (Drop.flat (by simp [St.at])), rfl, rfl, _, ⟨⟨ga, 0, gc⟩, chG', rfl, hG'⟩, rfl⟩
  | (gq, gb) :: gs, hgl, hG', hWi, hin, hfew =>
    simp only [List.length_cons] at hgl hfew
    have hi := hin (gq, gb) (by simp)
    rcases hG'.at' with q0 | ⟨bG, pre, post, TG, rfl, rfl, hpost⟩
    · have := hG'.le; omega
    have ht : ((pre ++ gCells ((gq, gb) :: gs) ++ post).drop pre.length).take 1 = [.int .i64 gq] := by
      rw [List.append_assoc, List.drop_left]; simp [gCells]
    have ht2 : ((pre ++ gCells ((gq, gb) :: gs) ++ post).drop (pre.length + 1)).take 1 = [.int .i64 gb] := by
      rw [List.append_assoc, ← List.drop_drop, List.drop_left]; simp [gCells]
    refine CmpD.yes (by show (0 : Int) < (gl : Int); omega) ?_
    repeat (first | refine LoadP.at 1 rfl _ rfl rfl ?_ | refine LoadP.at 2 rfl _ rfl rfl ?_)
    refine Chk.mk (by show (0 : Int) ≤ 0 ∧ (0 : Int) < (gl : Int); omega) ?_
    refine LoadP.at 3 rfl [.int .i64 gq] ht rfl ?_
    repeat (first | refine LoadP.at 0 rfl _ rfl rfl ?_)
    refine CmpD.split (fun c2 => ?_) (fun c2 => ?_)
    rotate_left
    · refine Done.mk ?_
      rw [hWi, relAll, if_neg (by exact c2)]
      exact ⟨[jChunk bJ ({ j with s := s, t := t, u := u, h := h, groups := (gq, gb) :: gs }.at bD ⟨_, gl, gc⟩) ++ _], (Drop.pick [2, 3] _ rfl).trans (Drop.flat (by simp [St.at])), rfl, rfl, _, ⟨⟨_, gl, gc⟩, _, rfl, hG'⟩, rfl⟩
    refine CodeF.sched [[], [], [1], [1, 2], [1, 2, 3], [], [5], [5, 6], [5, 6, 7], [5, 6, 7, 8], [5, 6, 7, 8, 9], [5, 6, 7, 8, 9, 10], [1, 2, 3, 4, 5, 6, 7, 8, 9, 10, 11], [1, 2, 3, 4, 5, 6, 7, 8, 9, 10, 11, 12], [1, 2, 3, 4, 5, 6, 7, 8, 9, 10, 11, 12], [0, 1, 2, 3, 4, 5, 6, 7, 8, 9, 10, 11, 12, 13, 14], [0, 1, 2, 3, 4, 5, 6, 7, 8, 9, 10, 11, 12, 13, 14, 15]] [0, 1, 2, 3, 4, 5, 6, 7, 8, 9, 10, 11, 12, 13, 14, 15, 16] (by kernel_rfl) ?_
    repeat (first | refine LoadP.at 1 rfl _ rfl rfl ?_ | refine LoadP.at 2 rfl _ rfl rfl ?_)
    refine Chk.mk (by show (0 : Int) ≤ 0 ∧ (0 : Int) < (gl : Int); omega) ?_
    refine LoadP.at 3 rfl [.int .i64 gb] ht2 rfl ?_
    refine Tri.free (ring_Drop s t u h gb J' (by unfold In64; omega) (by unfold In64; omega) (by unfold In64; omega) (by unfold In64; omega) hi.2) ?_
    rintro v J2 _ hJ2 ⟨⟨s', t', u', h', e', rfl, hd⟩, rfl⟩
    repeat (first | refine Chk.mk ⟨rfl, trivial⟩ ?_)
    refine Tri.frame1 2 rfl (jr_turned bJ ({ j with s := s, t := t, u := u, h := h, groups := (gq, gb) :: gs }.at bD ⟨some ⟨bG, pre.length, none⟩, gl, gc⟩) s' t' u' h' e' J') ?_
    rintro v J3 S' hJ3 ⟨rfl, rfl, rfl⟩
    refine ⟨_, rfl, ?_⟩
    rw [relAll, if_pos (by exact c2), hd] at hWi
    dsimp only at hWi
    refine CmpD.split (fun c3 => ?_) (fun c3 => ?_)
    rotate_left
    · skip
      refine Done.mk ?_
      rw [hWi, if_neg c3, if_neg c3]
      exact ⟨[jChunk bJ ({ j with s := s, t := t, u := u, h := h, groups := (gq, gb) :: gs }.at bD ⟨_, gl, gc⟩) ++ _], (Drop.pick [2, 3] _ rfl).trans (Drop.flat (by simp [St.at])), rfl, rfl, _, ⟨⟨_, gl, gc⟩, _, rfl, hG'⟩, rfl⟩
    rw [if_pos c3] at hWi ⊢
    have hr3 := dropS_mid hr hd c3
    refine CodeF.sched [[], [], [1], [1, 2], [1, 2, 3], [1, 2, 3, 4], [0, 1, 2, 3, 4, 5], [0, 1, 2, 3, 4, 5, 6], [0, 1, 2, 3, 4, 5, 6, 7]] [0, 1, 2, 3, 4, 5, 6, 7, 8] (by kernel_rfl) ?_
    repeat (first | refine LoadP.at 1 rfl _ rfl rfl ?_ | refine LoadP.at 2 rfl _ rfl rfl ?_)
    refine sliceD tabOk rfl rfl rfl rfl 1 gl gc ⟨_, rfl⟩ rfl rfl (.inl rfl) ⟨by omega, hG'.le, Nat.le_refl _⟩ ?_
    have hp := hG'.part 1 gl (by omega) (Nat.le_refl _)
    have e2 : ((gCells ((gq, gb) :: gs)).drop (1 * 2)).take ((gl - 1) * 2) = gCells gs := by
      have e : gCells ((gq, gb) :: gs) = [.int .i64 gq, .int .i64 gb] ++ gCells gs := by simp [gCells]
      rw [e]
      show (gCells gs).take _ = _
      exact List.take_of_length_le (by rw [gCells_length]; omega)
    rw [e2] at hp
    repeat (first | refine StoreD.st 2 rfl rfl rfl ?_ | refine Chk.mk ⟨rfl, trivial⟩ ?_)
    refine ⟨[pBox bn (.int .i64 seq) 3, pBox bx (.pointer (some ⟨bJ, 0, none⟩)) 46, jChunk bJ ({ j with s := s', t := t', u := u', h := h', groups := gs }.at bD ⟨slAddr (some ⟨bG, pre.length, none⟩) 1 gc 2, gl - 1, gc - 1⟩), [(bG, row (pre ++ gCells ((gq, gb) :: gs) ++ post) TG)]], Drop.refl _, ⟨gs, ⟨_, _, _⟩, _, s', t', u', h', by omega, fun x hx => hin x (by simp [hx]), hWi, hr3, hp, rfl, rfl, rfl⟩, ?_⟩
    show gl - 1 < gl
    omega
theorem jk_Release {bJ bD : Nat} {j : JSt} {ch : List Blk} (hJ0 : Jk bJ bD j ch) (hj : j.Wf) (seq : Int) (I : Imm) :
    Tri Tryz.prog 95 #[.pointer (some ⟨bJ, 0, none⟩), .int .i64 seq] I [ch] fun v J S' =>
      I = J ∧ v = .int .i64 (j.release seq).2 ∧ ∃ chJ, Jk bJ bD (j.release seq).1 chJ ∧ S' = [chJ] := by
  obtain ⟨g, chG, rfl, hG⟩ := hJ0
  have hm := fun bn bx => jr_may2 bJ (j.at bD g) 165 bn bx I [pBox bn (.int .i64 seq) 3, pBox bx (.pointer (some ⟨bJ, 0, none⟩)) 46, jChunk bJ (j.at bD g), chG] 2 rfl (fun hb => jk_Release1 bn bx bJ bD seq j hj hb g chG hG I)
  refine Tri.lay (S2 := [jChunk bJ (j.at bD g), chG]) (by simp) ?_
  refine Tri.drop ?_ (fun _ _ _ _ h => h)
  refine Tri.of (args := [.pointer (some ⟨bJ, 0, none⟩), .int .i64 seq]) tabOk Tryz.func95 rfl (by kernel_rfl) (by kernel_rfl) ?_
  conv => whnf
  intro bx
  conv => whnf
  intro bn
  repeat (first | refine LoadD.own 2 rfl _ rfl rfl ?_)
  refine Tri.frameX (hm bn bx) [3, 2, 0, 1] rfl rfl ?_
  rintro v J A' hJ (⟨hb, rfl, rfl, rfl⟩ | ⟨hb, rfl, rfl, chJ, h1, rfl⟩)
  · unfold JSt.release
    rw [if_pos hb]
    exact Done.mk ⟨[jChunk bJ (j.at bD g) ++ chG], (Drop.pick [6, 7] _ rfl).trans (Drop.flat (by simp [St.at])), rfl, rfl, _, ⟨g, chG, rfl, hG⟩, rfl⟩
  · exact Done.mk ⟨[chJ], (Drop.pick [4] _ rfl).trans (Drop.flat (by simp [St.at])), rfl, rfl, _, h1, rfl⟩
end Go.Proofs.YtegdcjnjnoeinaaGreat
namespace Go.Proofs.YtegdcjnjnoeinaaGreat
open Go.RowKit Go.Sl
set_option maxRecDepth 20000

def openJ (n : Nat) (epoch seq tail : Int) : JSt := ⟨layOf n, layL n, tail, 0, 0, epoch, seq, seq - 1, [], false⟩
def OpenOk (n : Nat) (x : Lay) (epoch seq tail : Int) : Prop := x = layOf n ∧ 1 ≤ epoch ∧ epoch ≤ 8388608 ∧ 1 ≤ seq ∧ seq ≤ 549755813888 ∧ 0 ≤ tail ∧ tail < layL n
theorem jk_Open {I : Imm} {bD : Nat} {st : DSt} {ch : List Blk} (h : Dk I bD st ch) (n : Nat) (hn : st.now.length = n) (hn2 : 64 ≤ n) (x : Lay) (epoch seq tail : Int) (hseq : In64 seq) :
    Tri Tryz.prog 109 #[.pointer (some ⟨bD, 0, none⟩), x.v, .int .i64 epoch, .int .i64 seq, .int .i64 tail] I [ch] fun v J S' =>
      (¬ OpenOk n x epoch seq tail ∧ v = .tuple #[.pointer none, .int .i64 2] ∧ I = J ∧ S' = [ch]) ∨
      (OpenOk n x epoch seq tail ∧ I = J ∧ ∃ bJ chJ, v = .tuple #[.pointer (some ⟨bJ, 0, none⟩), .int .i64 0] ∧ Jk bJ bD (openJ n epoch seq tail) chJ ∧ S' = [ch, chJ]) := by
  obtain ⟨hw, d, chS, chN, chW, bS, bN, bW, rfl, hD, q1, q2, q3, q4, q5, q6, q7⟩ := h
  have hl := hD.hN.len1
  have hl' : st.now.length = d.now.len := by rw [← q2]; simpa using hl
  have hr := hw.range
  refine Tri.abs (S2 := [dChunk bD d, chS ++ (chN ++ chW)]) (by simp) (Tri.frameX (jr_Open bD d n (by omega) (by omega) x epoch seq tail hseq I) [0] rfl rfl (K := fun v J S' => (¬ OpenOk n x epoch seq tail ∧ v = .tuple #[.pointer none, .int .i64 2] ∧ I = J ∧ Drop S' [dChunk bD d ++ (chS ++ (chN ++ chW))]) ∨
      (OpenOk n x epoch seq tail ∧ I = J ∧ ∃ bJ chJ, v = .tuple #[.pointer (some ⟨bJ, 0, none⟩), .int .i64 0] ∧ Jk bJ bD (openJ n epoch seq tail) chJ ∧ Drop S' [dChunk bD d ++ (chS ++ (chN ++ chW)), chJ])) ?_) ?_
  · rintro v J S' hJ (⟨c, rfl, rfl, rfl⟩ | ⟨c1, c2, c3, c4, c5, c6, c7, rfl, bJ, rfl, rfl⟩)
    · exact .inl ⟨c, rfl, rfl, (Drop.pick [2, 1] _ rfl).trans (Drop.flat (by simp [St.at]))⟩
    · refine .inr ⟨⟨c1, c2, c3, c4, c5, c6, c7⟩, rfl, bJ, _, rfl, ⟨⟨none, 0, 0⟩, [], ?_, OwnC.nil _ _⟩, (Drop.pick [2, 1, 3] _ rfl).trans (Drop.flat (by simp [St.at]; rfl))⟩
      rw [List.append_nil, c1]; rfl
  · rintro v J S' hJ (⟨c, rfl, rfl, hd⟩ | ⟨c, rfl, bJ, chJ, rfl, hj, hd⟩)
    · exact ⟨_, hd, .inl ⟨c, rfl, rfl, rfl⟩⟩
    · exact ⟨_, hd, .inr ⟨c, rfl, bJ, chJ, rfl, hj, rfl⟩⟩
theorem layL_64' : layL ((64 : Nat) : Int) = 16 := by decide
theorem openJ_wf (n : Nat) (hn : 64 ≤ n ∧ n ≤ 512) {epoch seq tail : Int} (h : OpenOk n (layOf n) epoch seq tail) : (openJ n epoch seq tail).Wf := by
  obtain ⟨_, h1, h2, h3, h4, h5, h6⟩ := h
  have := layL_range (n := (n : Int)) (by omega)
  refine ⟨rfl, ?_, ?_, ?_, ?_, by simp [openJ], by simp [openJ]⟩
  · unfold Ok; show 1 ≤ layL n ∧ layL n ≤ 512 ∧ 0 ≤ tail ∧ tail < layL n ∧ (0 : Int) ≤ 0 ∧ (0 : Int) ≤ 0 ∧ (0 : Int) + 0 ≤ layL n; omega
  · show In64 epoch; unfold In64; omega
  · show 1 ≤ seq ∧ seq ≤ 549755813889; omega
  · show 0 ≤ seq - 1 ∧ seq - 1 < seq; omega
/-! ### where nothing fails -/
def DSt.Calm (d : DSt) : Prop := d.down = false ∧ d.arm.on = false ∧ d.fault.on = false
theorem DSt.stop_calm {d : DSt} (h : d.Calm) : d.stop = (d, 0) := by
  obtain ⟨safe, now, ws, c, dn, ⟨a1, a2⟩, ⟨f1, f2⟩⟩ := d
  obtain ⟨h1, h2, h3⟩ := h
  simp only at h1 h2 h3
  subst h1 h2 h3
  rfl
def DSt.put (d : DSt) (n : Int) (b : Dat) : DSt := { d with now := d.now.set n.toNat b, writes := d.writes ++ [(n, b)], count := d.count + 1 }
theorem DSt.write_calm {d : DSt} (h : d.Calm) {n : Int} {b : Dat} (hn : 0 ≤ n ∧ n < d.now.length) (hb : b.length = 4096) : d.write n b = (d.put n b, 0) := by
  unfold DSt.write
  have hw : wrongE d.now.length n = 0 := (wrongE_dec _ (by omega) n).2 hn
  rw [if_neg (by omega), if_neg (by omega), DSt.stop_calm h, if_neg (by simp)]
  rfl
theorem DSt.Calm.put {d : DSt} (h : d.Calm) (n : Int) (b : Dat) : (d.put n b).Calm := h
theorem DSt.put_len (d : DSt) (n : Int) (b : Dat) : (d.put n b).now.length = d.now.length := by simp [DSt.put]
def wrD (f : Nat → Int) : List Dat → Nat → DSt → DSt
  | [], _, d => d
  | b :: bs, i, d => wrD f bs (i + 1) (d.put (f i) b)
theorem wrAll_calm (f : Nat → Int) : ∀ (bs : List Dat) (i : Nat) (d : DSt), d.Calm → (∀ b ∈ bs, b.length = 4096) → (∀ k, 0 ≤ f k ∧ f k < d.now.length) → wrAll f bs i d = (wrD f bs i d, 0)
  | [], _, _, _, _, _ => rfl
  | b :: bs, i, d, hc, hb, hf => by
    rw [wrAll, DSt.write_calm hc (hf i) (hb b (by simp)), if_neg (by simp), wrD]
    exact wrAll_calm f bs (i + 1) _ (hc.put _ _) (fun x hx => hb x (by simp [hx])) (by rw [DSt.put_len]; exact hf)
theorem wrD_calm (f : Nat → Int) : ∀ (bs : List Dat) (i : Nat) (d : DSt), d.Calm → (wrD f bs i d).Calm
  | [], _, _, h => h
  | _ :: bs, i, _, h => wrD_calm f bs (i + 1) _ (h.put _ _)
theorem wrD_len (f : Nat → Int) : ∀ (bs : List Dat) (i : Nat) (d : DSt), (wrD f bs i d).now.length = d.now.length
  | [], _, _ => rfl
  | b :: bs, i, d => by rw [wrD, wrD_len f bs, DSt.put_len]
theorem wrD_few (f : Nat → Int) : ∀ (bs : List Dat) (i : Nat) (d : DSt) (k : Nat), d.Few k → (wrD f bs i d).Few (k + bs.length)
  | [], _, _, _, h => h
  | b :: bs, i, d, k, h => by
    have : (d.put (f i) b).Few (k + 1) := by
      obtain ⟨h1, h2, h3⟩ := h
      exact ⟨by show (d.writes ++ [_]).length ≤ _; simp; omega, by show 0 ≤ d.count + 1; omega, by show d.count + 1 ≤ _; omega⟩
    have := wrD_few f bs (i + 1) _ _ this
    rw [wrD, List.length_cons]
    exact this.mono (by omega)
theorem sprK_length {m l : List UInt8} (hm : m.length = 8) : ∀ k, k * 504 ≤ l.length → (sprK m l k).length = 512 * k
  | 0, _ => by rw [sprK_zero]; rfl
  | k + 1, h => by
    rw [sprK_succ, List.length_append, List.length_append, sprK_length hm k (by omega), List.length_take, List.length_drop, hm]
    omega
theorem hidP_length : ∀ (l : List PImg), (∀ g ∈ l, g.2.length = 4096) → (hidP l).length = 66 * l.length
  | [], _ => rfl
  | g :: l, h => by
    have e : hidP (g :: l) = be g.1.toNat 2 ++ hidK g.2 8 ++ hidP l := by simp [hidP]
    have := h g (by simp)
    rw [e, List.length_append, List.length_append, be_length, hidK_length _ _ (by omega) (by omega), hidP_length l (fun x hx => h x (by simp [hx])), List.length_cons]
    omega
theorem putP_len {e s : Nat} {l : List PImg} (hl : l.length ≤ 32) (h : ∀ g ∈ l, g.2.length = 4096) : ∀ b ∈ putP e s l, b.length = 4096 := by
  have hlist : (listP l).length = 4026 := by
    rw [listP, List.length_append, hidP_length l h, List.length_replicate]; omega
  have hhead : (headP l).length = 4032 := by rw [headP, List.length_append, List.length_append, be_length, be_length, hlist]
  intro b hb
  rcases List.mem_cons.1 hb with rfl | hb
  · rw [sprK_length (stampB_length _ _) 8 (by omega)]
  · obtain ⟨g, hg, rfl⟩ := List.mem_map.1 hb
    have := h g hg
    rw [markK_length (stampB_length _ _) 8 (by omega) (by omega)]; exact this
/-- a group that fits is appended -/
theorem JSt.append_calm {j : JSt} {d : DSt} {l : List PImg} {held : Bool} (hb : j.broken = false) (hR : RightP j.epoch j.next l) (hs : (l.length : Int) + 1 ≤ j.s) (hlog : j.lay.l = 2) (hd : d.Calm) (hlen : j.s + 2 ≤ d.now.length)
    {t u h at_ : Int} (hp : putS j.s j.t j.u j.h (l.length + 1) (if held then l.length + 1 else 0) = ((j.s, t, u, h, 0), at_)) :
    j.appendB d l held = ({ j with t := t, u := u, h := h, groups := j.groups ++ [(j.next, (l.length + 1 : Int))], next := j.next + 1 }, wrD (fun i => 2 + (at_ + i) % j.s) (putP j.epoch.toNat j.next.toNat l) 0 d, j.next, 0) := by
  unfold JSt.appendB JSt.append
  rw [if_neg (by simp [hb]), if_neg (by simpa using hR), if_neg (by omega), hp]
  dsimp only
  rw [if_neg (by simp), hlog, wrAll_calm _ _ _ _ hd (putP_len hR.2.2.2.2.2.1 fun g hg => (hR.2.2.2.2.2.2.1 g hg).2.2)]
  · dsimp only
    rw [if_neg (by simp)]
  · intro k
    have := Int.emod_nonneg (at_ + k) (b := j.s) (by omega)
    have := Int.emod_lt_of_pos (at_ + k) (b := j.s) (by omega)
    omega
/-! ### images, fixed -/
theorem Rds.of_ownS {ch : List Blk} {a : Option Addr} {len cap size : Nat} {vs : List Value} (h : OwnC ch size a len cap vs) {J : Imm} (hJ : ∀ x ∈ ch, J x.1 = some x.2) : Rds J a (len * size) vs := by
  refine ⟨h.n, ?_⟩
  rcases h.at' with h0 | ⟨b, pre, post, T, ha, hc, hp⟩
  · left; have := h.le; rw [show len = 0 by omega]; simp
  · right
    refine ⟨b, _, _, T, (0, 0), ha, hJ (b, _) (by rw [hc]; exact List.mem_singleton.2 rfl), ?_⟩
    have := own_take pre vs post
    rw [h.n] at this
    exact this
end Go.Proofs.YtegdcjnjnoeinaaGreat
namespace Go.Proofs.YtegdcjnjnoeinaaGreat
open Go.RowKit Go.Sl
set_option maxRecDepth 20000

def blocksN (n : Int) : Int := if n < 1 ∨ 32 < n then 0 else n + 1
theorem record_Blocks (n : Int) (I : Imm) (S : St) : Tri Tryz.prog 83 #[.int .i64 n] I S fun v J S' => v = .int .i64 (blocksN n) ∧ I = J ∧ S' = S := by
  refine Tri.of (args := [.int .i64 n]) tabOk Tryz.func83 rfl (by kernel_rfl) (by kernel_rfl) ?_
  unfold blocksN
  refine CmpD.split (fun c1 => ?_) (fun c1 => ?_)
  · rw [if_pos (.inl c1)]; exact Done.mk ⟨rfl, rfl, rfl⟩
  refine CmpD.split (fun c2 => ?_) (fun c2 => ?_)
  · rw [if_pos (.inr c2)]; exact Done.mk ⟨rfl, rfl, rfl⟩
  rw [if_neg (by omega)]
  refine ToD.i64 (by omega) (by omega) ?_
  exact Done.mk ⟨rfl, rfl, rfl⟩
def JSt.turn (j : JSt) (r : R5) : JSt × Int := match r with
  | (s, t, u, h, e) => if e = 0 then ({ j with s := s, t := t, u := u, h := h }, 0) else (j, e)
theorem jk_Next {bJ bD : Nat} {j : JSt} {ch : List Blk} (hJ0 : Jk bJ bD j ch) (I : Imm) : Tri Tryz.prog 80 #[.pointer (some ⟨bJ, 0, none⟩)] I [ch] fun v J S' => v = .int .i64 j.next ∧ I = J ∧ S' = [ch] := by
  obtain ⟨g, chG, rfl, hG⟩ := hJ0
  refine Tri.abs1 (Q := fun v J S' => v = .int .i64 j.next ∧ I = J ∧ S' = [jChunk bJ (j.at bD g)]) ?_ (fun v J S' hJ h => ⟨_, h.2.2, h.1, h.2.1, rfl⟩)
  refine Tri.of (args := [.pointer (some ⟨bJ, 0, none⟩)]) tabOk Tryz.func80 rfl (by kernel_rfl) (by kernel_rfl) ?_
  refine Tri.nf (jr_none bJ (j.at bD g) I) ?_
  rintro _ _ _ _ ⟨rfl, rfl, rfl⟩
  refine LoadD.own 0 rfl [.int .i64 j.next] rfl rfl ?_
  exact Done.mk ⟨rfl, rfl, rfl⟩
theorem jk_Synced {bJ bD : Nat} {j : JSt} {ch : List Blk} (hJ0 : Jk bJ bD j ch) (I : Imm) : Tri Tryz.prog 96 #[.pointer (some ⟨bJ, 0, none⟩)] I [ch] fun v J S' => v = .int .i64 j.synced ∧ I = J ∧ S' = [ch] := by
  obtain ⟨g, chG, rfl, hG⟩ := hJ0
  refine Tri.abs1 (Q := fun v J S' => v = .int .i64 j.synced ∧ I = J ∧ S' = [jChunk bJ (j.at bD g)]) ?_ (fun v J S' hJ h => ⟨_, h.2.2, h.1, h.2.1, rfl⟩)
  refine Tri.of (args := [.pointer (some ⟨bJ, 0, none⟩)]) tabOk Tryz.func96 rfl (by kernel_rfl) (by kernel_rfl) ?_
  refine Tri.nf (jr_none bJ (j.at bD g) I) ?_
  rintro _ _ _ _ ⟨rfl, rfl, rfl⟩
  refine LoadD.own 0 rfl [.int .i64 j.synced] rfl rfl ?_
  exact Done.mk ⟨rfl, rfl, rfl⟩
theorem jk_Ring {bJ bD : Nat} {j : JSt} {ch : List Blk} (hJ0 : Jk bJ bD j ch) (I : Imm) : Tri Tryz.prog 82 #[.pointer (some ⟨bJ, 0, none⟩)] I [ch] fun v J S' => v = rg j.s j.t j.u j.h ∧ I = J ∧ S' = [ch] := by
  obtain ⟨g, chG, rfl, hG⟩ := hJ0
  refine Tri.abs1 (Q := fun v J S' => v = rg j.s j.t j.u j.h ∧ I = J ∧ S' = [jChunk bJ (j.at bD g)]) ?_ (fun v J S' hJ h => ⟨_, h.2.2, h.1, h.2.1, rfl⟩)
  refine Tri.drop ?_ (fun _ _ _ _ h => h)
  refine Tri.of (args := [.pointer (some ⟨bJ, 0, none⟩)]) tabOk Tryz.func82 rfl (by kernel_rfl) (by kernel_rfl) ?_
  conv => whnf
  intro b2
  refine Tri.frame1 0 rfl (jr_none bJ (j.at bD g) I) ?_
  rintro _ _ _ _ ⟨rfl, rfl, rfl⟩
  refine ⟨_, rfl, ?_⟩
  repeat (first | refine LoadD.own 0 rfl _ rfl rfl ?_ | refine LoadD.own 1 rfl _ rfl rfl ?_ | refine StoreD.st 1 rfl rfl rfl ?_)
  exact Done.mk ⟨_, Drop.pick [0] _ rfl, rfl, rfl, rfl⟩
end Go.Proofs.YtegdcjnjnoeinaaGreat
namespace Go.Proofs.YtegdcjnjnoeinaaGreat
open Go.RowKit Go.Sl
set_option maxRecDepth 20000

theorem same_bytes {I : Imm} {S : St} {a1 a2 : Option Addr} {n1 n2 c1 c2 : Nat} {l1 l2 : List UInt8} (h1 : SlC I S a1 n1 (bts l1)) (h2 : SlC I S a2 n2 (bts l2)) :
    Tri Tryz.prog 18 #[.slice a1 n1 c1, .slice a2 n2 c2] I S fun v J S' => v = .bool (decide (l1 = l2)) ∧ I = J ∧ S' = S := by
  refine Tri.of (args := [.slice a1 n1 c1, .slice a2 n2 c2]) tabOk Tryz.func18 rfl (by kernel_rfl) (by kernel_rfl) ?_
  refine convStrD tabOk rfl rfl rfl rfl rfl h1 ?_
  refine convStrD tabOk rfl rfl rfl rfl rfl h2 ?_
  refine CmpD.keep ?_
  refine Done.mk ⟨?_, rfl, rfl⟩
  rw [bytes_toList, bytes_toList]; rfl
theorem bytes_Equal {I : Imm} {S : St} {a1 a2 : Option Addr} {n1 n2 c1 c2 : Nat} {l1 l2 : List UInt8} (h1 : SlC I S a1 n1 (bts l1)) (h2 : SlC I S a2 n2 (bts l2)) :
    Tri Tryz.prog 226 #[.slice a1 n1 c1, .slice a2 n2 c2] I S fun v J S' => v = .bool (decide (l1 = l2)) ∧ I = J ∧ S' = S := by
  refine Tri.of (args := [.slice a1 n1 c1, .slice a2 n2 c2]) tabOk Tryz.func226 rfl (by kernel_rfl) (by kernel_rfl) ?_
  refine convStrD tabOk rfl rfl rfl rfl rfl h1 ?_
  refine convStrD tabOk rfl rfl rfl rfl rfl h2 ?_
  refine CmpD.keep ?_
  refine Done.mk ⟨?_, rfl, rfl⟩
  rw [bytes_toList, bytes_toList]; rfl
end Go.Proofs.YtegdcjnjnoeinaaGreat
namespace Go.Proofs.YtegdcjnjnoeinaaGreat
open Go.RowKit Go.Sl
set_option maxRecDepth 20000

theorem snoc_ind {α : Type} {p : List α → Prop} (h0 : p []) (h1 : ∀ l a, p l → p (l ++ [a])) (l : List α) : p l := by
  have : ∀ n (l : List α), l.length = n → p l := by
    intro n
    induction n with
    | zero => intro l hl; rw [List.length_eq_zero_iff.1 hl]; exact h0
    | succ n ih =>
      intro l hl
      have hne : l ≠ [] := by rintro rfl; simp at hl
      rw [← List.dropLast_concat_getLast hne]
      exact h1 _ _ (ih _ (by rw [List.length_dropLast]; omega))
  exact this _ l rfl
/-- bytes as a number, the greatest first -/
def nb (l : List UInt8) : Nat := l.foldl (fun v b => v * 256 ||| b.toNat) 0
theorem nb_snoc (l : List UInt8) (b : UInt8) : nb (l ++ [b]) = nb l * 256 ||| b.toNat := by simp [nb]
theorem nb_lt (l : List UInt8) : nb l < 2 ^ (8 * l.length) := by
  refine snoc_ind (p := fun l => nb l < 2 ^ (8 * l.length)) (by simp [nb]) ?_ l
  · intro l b ih
    rw [nb_snoc, List.length_append, List.length_singleton]
    have hb : b.toNat < 2 ^ (8 * (l.length + 1)) := Nat.lt_of_lt_of_le b.toNat_lt (Nat.pow_le_pow_right (by omega) (by omega))
    refine Nat.or_lt_two_pow ?_ hb
    rw [show 8 * (l.length + 1) = 8 * l.length + 8 by omega, Nat.pow_add]
    omega
def numV (l : List UInt8) (at_ : Int) (n : Nat) : Nat × Bool := if at_ < 0 ∨ (l.length : Int) - n < at_ then (0, false) else (nb ((l.drop at_.toNat).take n), true)
theorem octets_number {I : Imm} {S : St} {a : Option Addr} {len cap : Nat} {l : List UInt8} (h : SlC I S a len (bts l)) (hlen : len ≤ 1000000000) (at_ : Int) (hat : In64 at_) (n : Nat) (hn : n ≤ 8) :
    Tri Tryz.prog 251 #[.slice a len cap, .int .i64 at_, .int .i64 n] I S fun v J S' => v = .tuple #[.int .u64 (numV l at_ n).1, .bool (numV l at_ n).2] ∧ I = J ∧ S' = S := by
  have hl : l.length = len := by rw [← bts_length, h.len]
  unfold In64 at hat
  unfold numV
  refine Tri.of (args := [.slice a len cap, .int .i64 at_, .int .i64 n]) tabOk Tryz.func251 rfl (by kernel_rfl) (by kernel_rfl) ?_
  refine CmpD.split (fun c1 => ?_) (fun c1 => ?_)
  · rw [if_pos (.inl c1)]; exact Done.mk ⟨rfl, rfl, rfl⟩
  refine ToD.i64 (by omega) (by omega) ?_
  refine CmpD.split (fun c2 => ?_) (fun c2 => ?_)
  · rw [if_pos (.inr (by rw [hl]; exact c2))]; exact Done.mk ⟨rfl, rfl, rfl⟩
  rw [if_neg (by rw [hl]; omega)]
  obtain ⟨k, rfl⟩ : ∃ k : Nat, at_ = k := ⟨at_.toNat, by omega⟩
  rw [show ((k : Int)).toNat = k from rfl]
  refine CodeF.loopD [0, 1, 8, 20, 21] (fun vs J' S' => ∃ (i : Nat), i ≤ n ∧ vs = [.slice a len cap, .int .i64 k, .int .u64 (nb ((l.drop k).take i) : Nat), .int .i64 n, .int .i64 i] ∧ I = J' ∧ S' = S)
    (fun vs _ _ => match vs with | [_, _, _, _, .int _ i] => ((n : Int) - i).toNat | _ => 0) ?_ ?_
  · exact ⟨_, Drop.refl _, 0, by omega, rfl, rfl, rfl⟩
  rintro vs g J' S' hJ' ⟨i, hi, rfl, rfl, rfl⟩
  refine CmpD.split (fun c3 => ?_) (fun c3 => ?_)
  · have hin : k + i < l.length := by omega
    rcases h.mem with h0 | ⟨b, off, rfl, hc⟩
    · omega
    have hv := nb_lt ((l.drop k).take i)
    have hvl : ((l.drop k).take i).length ≤ 7 := by rw [List.length_take]; omega
    have hv2 : nb ((l.drop k).take i) < 2 ^ 56 := Nat.lt_of_lt_of_le hv (Nat.pow_le_pow_right (by omega) (by omega))
    have htk : (l.drop k).take (i + 1) = (l.drop k).take i ++ [l[k + i]] := by
      rw [List.take_add_one, List.getElem?_drop, List.getElem?_eq_getElem hin]; rfl
    refine Chk.mk (by omega) ?_
    refine ToD.to ((nb ((l.drop k).take i) * 256 : Nat) : Int) ?_ ?_
    · rw [wrap_u rfl (by show 0 ≤ (nb ((l.drop k).take i) : Int) * 2 ^ 8; omega) (by show (nb ((l.drop k).take i) : Int) * 2 ^ 8 < 2 ^ 64; omega)]
      show (nb ((l.drop k).take i) : Int) * 2 ^ 8 = _; omega
    refine ToD.i64 (by omega) (by omega) ?_
    refine Chk.mk (by omega) ?_
    refine LoadD.mk [byte l[k + i]] (hc.at (i := k + i) (bts_get (List.getElem?_eq_getElem hin))) ?_
    have hb := l[k + i].toNat_lt
    refine ToD.to ((l[k + i].toNat : Nat) : Int) (wrap_u rfl (by omega) (by show (l[k + i].toNat : Int) < 2 ^ 64; omega)) ?_
    refine ToD.to ((nb ((l.drop k).take i) * 256 ||| l[k + i].toNat : Nat) : Int) (u64_or_nat _ _ (by omega) (by omega)) ?_
    refine ToD.i64 (by omega) (by omega) ?_
    refine ⟨_, Drop.refl _, ⟨i + 1, by omega, by rw [htk, nb_snoc]; rfl, rfl, rfl⟩, ?_⟩
    show ((n : Int) - ((i : Int) + 1)).toNat < ((n : Int) - (i : Int)).toNat
    omega
  · obtain rfl : i = n := by omega
    exact Done.mk ⟨rfl, rfl, rfl⟩
theorem octets_U64 {I : Imm} {S : St} {a : Option Addr} {len cap : Nat} {l : List UInt8} (h : SlC I S a len (bts l)) (hlen : len ≤ 1000000000) (at_ : Int) (hat : In64 at_) :
    Tri Tryz.prog 225 #[.slice a len cap, .int .i64 at_] I S fun v J S' => v = .tuple #[.int .u64 (numV l at_ 8).1, .bool (numV l at_ 8).2] ∧ I = J ∧ S' = S := by
  refine Tri.of (args := [.slice a len cap, .int .i64 at_]) tabOk Tryz.func225 rfl (by kernel_rfl) (by kernel_rfl) ?_
  refine Tri.mono (octets_number h hlen at_ hat 8 (by omega)) ?_
  rintro v J S' hJ ⟨rfl, rfl, rfl⟩
  exact Done.mk ⟨rfl, rfl, rfl⟩
end Go.Proofs.YtegdcjnjnoeinaaGreat
namespace Go.Proofs.YtegdcjnjnoeinaaGreat
open Go.RowKit Go.Sl
set_option maxRecDepth 20000

structure Sup where
  blocks : Int
  epoch : Int
  seq : Int
  tail : Int
@[reducible] def Sup.v (s : Sup) : Value := .agg #[.int .i64 s.blocks, .int .i64 s.epoch, .int .i64 s.seq, .int .i64 s.tail]
def RightS (s : Sup) : Prop := 64 ≤ s.blocks ∧ s.blocks ≤ 512 ∧ 1 ≤ s.epoch ∧ s.epoch ≤ 8388608 ∧ 1 ≤ s.seq ∧ s.seq ≤ 549755813888 ∧ 0 ≤ s.tail ∧ s.tail ≤ 511
instance (s : Sup) : Decidable (RightS s) := by unfold RightS; infer_instance
def magicL : Dat := [76, 69, 68, 71, 69, 82, 48, 49]
def sup40 (s : Sup) : Dat := magicL ++ be s.blocks.toNat 8 ++ be s.epoch.toNat 8 ++ be s.seq.toNat 8 ++ be s.tail.toNat 8
def sup44 (s : Sup) : Dat := sup40 s ++ be (crcMore 0 (sup40 s)) 4
def supL (s : Sup) : Dat := sup44 s ++ List.replicate 4052 0
theorem sup40_length (s : Sup) : (sup40 s).length = 40 := by simp [sup40, be_length, magicL]
theorem sup44_length (s : Sup) : (sup44 s).length = 44 := by simp [sup44, be_length, sup40_length]
theorem supL_length (s : Sup) : (supL s).length = 4096 := by rw [supL, List.length_append, sup44_length, List.length_replicate]
theorem super_within (a n b : Int) (I : Imm) (S : St) : Tri Tryz.prog 204 #[.int .i64 a, .int .i64 n, .int .i64 b] I S fun v J S' => v = .bool (decide (a ≤ n ∧ n ≤ b)) ∧ I = J ∧ S' = S := by
  refine Tri.of (args := [.int .i64 a, .int .i64 n, .int .i64 b]) tabOk Tryz.func204 rfl (by kernel_rfl) (by kernel_rfl) ?_
  refine CmpD.split (fun c1 => ?_) (fun c1 => ?_)
  · refine CmpD.keep ?_
    refine Done.mk ⟨?_, rfl, rfl⟩
    show Value.bool _ = Value.bool _
    congr 1; simp [show a ≤ n by omega]
  · refine Done.mk ⟨?_, rfl, rfl⟩
    show Value.bool _ = Value.bool _
    rw [decide_eq_false (by omega)]
theorem super_right (s : Sup) (I : Imm) : Tri Tryz.prog 179 #[s.v] I [] fun v J _ => v = .bool (decide (RightS s)) ∧ I = J := by
  refine Tri.of (args := [s.v]) tabOk Tryz.func179 rfl (by kernel_rfl) (by kernel_rfl) ?_
  conv => whnf
  intro b
  repeat (first | refine LoadD.own 0 rfl _ rfl rfl ?_)
  refine Tri.nf (super_within 64 s.blocks 512 I _) ?_
  rintro _ _ _ _ ⟨rfl, rfl, rfl⟩
  have no : ¬ RightS s → decide (RightS s) = false := decide_eq_false
  by_cases c1 : 64 ≤ s.blocks ∧ s.blocks ≤ 512
  rotate_left
  · rw [decide_eq_false c1, no (fun h => c1 ⟨h.1, h.2.1⟩)]
    exact Done.mk ⟨rfl, rfl⟩
  rw [decide_eq_true c1]
  repeat (first | refine LoadD.own 0 rfl _ rfl rfl ?_)
  refine Tri.nf (super_within 1 s.epoch 8388608 I _) ?_
  rintro _ _ _ _ ⟨rfl, rfl, rfl⟩
  by_cases c2 : 1 ≤ s.epoch ∧ s.epoch ≤ 8388608
  rotate_left
  · rw [decide_eq_false c2, no (fun h => c2 ⟨h.2.2.1, h.2.2.2.1⟩)]
    exact Done.mk ⟨rfl, rfl⟩
  rw [decide_eq_true c2]
  repeat (first | refine LoadD.own 0 rfl _ rfl rfl ?_)
  refine Tri.nf (super_within 1 s.seq 549755813888 I _) ?_
  rintro _ _ _ _ ⟨rfl, rfl, rfl⟩
  by_cases c3 : 1 ≤ s.seq ∧ s.seq ≤ 549755813888
  rotate_left
  · rw [decide_eq_false c3, no (fun h => c3 ⟨h.2.2.2.2.1, h.2.2.2.2.2.1⟩)]
    exact Done.mk ⟨rfl, rfl⟩
  rw [decide_eq_true c3]
  repeat (first | refine LoadD.own 0 rfl _ rfl rfl ?_)
  refine Tri.nf (super_within 0 s.tail 511 I _) ?_
  rintro _ _ _ _ ⟨rfl, rfl, rfl⟩
  have e : decide (0 ≤ s.tail ∧ s.tail ≤ 511) = decide (RightS s) := by
    by_cases h : RightS s
    · rw [decide_eq_true h, decide_eq_true ⟨h.2.2.2.2.2.2.1, h.2.2.2.2.2.2.2⟩]
    · rw [no h, decide_eq_false (fun h' => h ⟨c1.1, c1.2, c2.1, c2.2, c3.1, c3.2, h'.1, h'.2⟩)]
  rw [e]
  exact Done.mk ⟨rfl, rfl⟩
set_option maxHeartbeats 1000000 in
theorem super_Put (s : Sup) (I : Imm) : Tri Tryz.prog 124 #[s.v] I [] fun v J S' => I = J ∧
    ((¬ RightS s ∧ v = .tuple #[.slice none 0 0, .int .i64 2] ∧ S' = []) ∨ (RightS s ∧ ∃ a cap ch, v = .tuple #[.slice a 4096 cap, .int .i64 0] ∧ OwnB ch a 4096 cap (supL s) ∧ S' = [ch])) := by
  refine Tri.drop ?_ (fun _ _ _ _ h => h)
  refine Tri.of (args := [s.v]) tabOk Tryz.func124 rfl (by kernel_rfl) (by kernel_rfl) ?_
  conv => whnf
  intro b
  repeat (first | refine LoadD.own 0 rfl _ rfl rfl ?_)
  refine Tri.free (super_right s I) ?_
  rintro v J _ hJ ⟨rfl, rfl⟩
  by_cases hR : RightS s
  rotate_left
  · rw [decide_eq_false hR]
    exact Done.mk ⟨[], ⟨_, List.Perm.refl _⟩, rfl, .inl ⟨hR, rfl, rfl⟩⟩
  rw [decide_eq_true hR]
  have hR2 := hR
  unfold RightS at hR2
  conv => whnf
  intro bM
  refine convMarkD tabOk rfl rfl rfl rfl 1 rfl ?_
  repeat (first | refine LoadD.own 0 rfl _ rfl rfl ?_)
  conv => whnf
  intro bN
  obtain ⟨nB, hB⟩ : ∃ n : Nat, s.blocks = n := ⟨s.blocks.toNat, by omega⟩
  obtain ⟨nE, hE⟩ : ∃ n : Nat, s.epoch = n := ⟨s.epoch.toNat, by omega⟩
  obtain ⟨nS, hS⟩ : ∃ n : Nat, s.seq = n := ⟨s.seq.toNat, by omega⟩
  obtain ⟨nT, hTl⟩ : ∃ n : Nat, s.tail = n := ⟨s.tail.toNat, by omega⟩
  have h40 : sup40 s = magicL ++ [nB, nE, nS, nT].flatMap (fun n => be n 8) := by
    unfold sup40
    rw [hB, hE, hS, hTl]
    simp
  refine CodeF.loopD [4, 20, 21, 22] (fun vs J' S' => ∃ (i : Nat) (a : Option Addr) (cap : Nat) (ch : List Blk), i ≤ 4 ∧ S' = [[(bN, row [.int .i64 s.blocks, .int .i64 s.epoch, .int .i64 s.seq, .int .i64 s.tail] 3)], ch] ∧ SlC I S' a (8 + 8 * i) (bts (magicL ++ (([nB, nE, nS, nT] : List Nat).take i).flatMap (fun n => be n 8))) ∧ vs = [.slice a (8 + 8 * i : Nat) cap, .slice (some ⟨bN, 0, none⟩) 4 4, .int .i64 4, .int .i64 i] ∧ I = J')
    (fun vs _ _ => match vs with | [_, _, _, .int _ i] => ((4 : Int) - i).toNat | _ => 0) ?_ ?_
  · refine ⟨_, Drop.pick [2, 1] _ rfl, 0, some ⟨bM, 0, none⟩, 8, _, by omega, rfl, ⟨rfl, .inr ⟨bM, 0, rfl, _, _, _, .own 1 List.mem_cons_self, rfl, rfl⟩⟩, rfl, rfl⟩
  rintro vs gE J' S' hJ' ⟨i, a, cap, ch, hi, rfl, hsl, rfl, rfl⟩
  refine CmpD.split (fun c1 => ?_) (fun c1 => ?_)
  · have h4 : i = 0 ∨ i = 1 ∨ i = 2 ∨ i = 3 := by omega
    rcases h4 with rfl | rfl | rfl | rfl
    all_goals
      refine Chk.mk (by decide) ?_
      refine LoadD.own 0 rfl _ rfl rfl ?_
      first
        | refine ToD.to (nB : Int) (by show IntKind.u64.wrap s.blocks = _; rw [hB]; exact wrap_u64 nB (by omega)) ?_
        | refine ToD.to (nE : Int) (by show IntKind.u64.wrap s.epoch = _; rw [hE]; exact wrap_u64 nE (by omega)) ?_
        | refine ToD.to (nS : Int) (by show IntKind.u64.wrap s.seq = _; rw [hS]; exact wrap_u64 nS (by omega)) ?_
        | refine ToD.to (nT : Int) (by show IntKind.u64.wrap s.tail = _; rw [hTl]; exact wrap_u64 nT (by omega)) ?_
      refine Tri.nf (octets_Add64 I _ a _ cap _ hsl _ (by omega) (by omega)) ?_
      rintro v J2 S2 hJ2 ⟨a2, cap2, ch2, rfl, hown, rfl, rfl⟩
      refine ToD.i64 (by decide) (by decide) ?_
      first
        | refine ⟨_, Drop.pick [0, 2] _ rfl, ⟨1, a2, cap2, ch2, ?_, rfl, ?_, rfl, rfl⟩, ?_⟩
        | refine ⟨_, Drop.pick [0, 2] _ rfl, ⟨2, a2, cap2, ch2, ?_, rfl, ?_, rfl, rfl⟩, ?_⟩
        | refine ⟨_, Drop.pick [0, 2] _ rfl, ⟨3, a2, cap2, ch2, ?_, rfl, ?_, rfl, rfl⟩, ?_⟩
        | refine ⟨_, Drop.pick [0, 2] _ rfl, ⟨4, a2, cap2, ch2, ?_, rfl, ?_, rfl, rfl⟩, ?_⟩
      · decide
      · have := hown.slC1 (I := I) (S := [[(bN, row [.int .i64 s.blocks, .int .i64 s.epoch, .int .i64 s.seq, .int .i64 s.tail] 3)], ch2]) 1 rfl
        show SlC I [[(bN, row [.int .i64 s.blocks, .int .i64 s.epoch, .int .i64 s.seq, .int .i64 s.tail] 3)], ch2] a2 _ _
        simpa [List.append_assoc] using this
      · first
        | (show (4 - (((0 : Nat) : Int) + 1)).toNat < (4 - ((0 : Nat) : Int)).toNat; decide)
        | (show (4 - (((1 : Nat) : Int) + 1)).toNat < (4 - ((1 : Nat) : Int)).toNat; decide)
        | (show (4 - (((2 : Nat) : Int) + 1)).toNat < (4 - ((2 : Nat) : Int)).toNat; decide)
        | (show (4 - (((3 : Nat) : Int) + 1)).toNat < (4 - ((3 : Nat) : Int)).toNat; decide)
  · obtain rfl : i = 4 := by omega
    have h40' : magicL ++ (([nB, nE, nS, nT] : List Nat).take 4).flatMap (fun n => be n 8) = sup40 s := by rw [h40]; rfl
    rw [h40'] at hsl
    skip
    refine Tri.nf (sums_Crc I _ a _ cap _ hsl (by omega)) ?_
    rintro v J2 S2 hJ2 ⟨rfl, rfl, rfl⟩
    have hcrc : crcMore 0 (sup40 s) < 4294967296 := Nat.xor_lt_two_pow (n := 32) (crcReg_lt (by decide) _) (by decide)
    refine Tri.nf (octets_Add32 I _ a _ cap _ hsl _ hcrc (by omega)) ?_
    rintro v J2 S2 hJ2 ⟨a2, cap2, ch2, rfl, hown, rfl, rfl⟩
    refine ToD.to ((4052 : Nat) : Int) (by decide) ?_
    refine appendZD tabOk rfl rfl rfl rfl rfl rfl rfl rfl 2 rfl hown 4052 rfl rfl (by decide) (by intro v hv; have hv : v ∈ [Value.int .u8 0] := hv; simp at hv; subst hv; rfl) (by show (8 + 8 * 4 + 4 + 4052) * 1 ≤ _; omega) (by omega) ?_
    intro a3 cap3 ch3 hown3
    refine Done.mk ⟨[ch3], Drop.pick [2] _ rfl, rfl, .inr ⟨hR, a3, cap3, ch3, rfl, ?_, rfl⟩⟩
    have e : bts (supL s) = bts (sup40 s ++ be (crcMore 0 (sup40 s)) 4) ++ rows 4052 [Value.int .u8 0] := by rw [rows_zero, ← bts_append]; rfl
    rw [OwnB, e]
    exact hown3
end Go.Proofs.YtegdcjnjnoeinaaGreat
namespace Go.Proofs.YtegdcjnjnoeinaaGreat
open Go.RowKit Go.Sl
set_option maxRecDepth 20000

theorem be_snoc (v n : Nat) : be v (n + 1) = be (v / 256) n ++ [UInt8.ofNat v] := by
  unfold be
  rw [List.range_succ, List.map_append, List.map_singleton]
  congr 1
  · apply List.map_congr_left
    intro i hi
    have := List.mem_range.1 hi
    congr 1
    rw [show 8 * (n + 1 - 1 - i) = 8 + 8 * (n - 1 - i) by omega, Nat.pow_add, Nat.div_div_eq_div_mul]
  · congr 2
    rw [show 8 * (n + 1 - 1 - n) = 0 by omega]; simp
theorem or_low (a b : Nat) (h : b < 256) : a * 256 ||| b = a * 256 + b := by
  have := Nat.shiftLeft_add_eq_or_of_lt (i := 8) (b := b) (by omega) a
  rw [Nat.shiftLeft_eq] at this
  exact this.symm
theorem nb_be : ∀ (n v : Nat), v < 256 ^ n → nb (be v n) = v
  | 0, v, h => by simp [be, nb] at *; omega
  | n + 1, v, h => by
    rw [be_snoc, nb_snoc, nb_be n (v / 256) (by rw [Nat.pow_succ] at h; omega)]
    have e : (UInt8.ofNat v).toNat = v % 256 := by simp [UInt8.toNat_ofNat']
    rw [e, or_low _ _ (by omega)]; omega
theorem supL_at (s : Sup) : ((supL s).drop 8).take 8 = be s.blocks.toNat 8 ∧ ((supL s).drop 16).take 8 = be s.epoch.toNat 8 ∧ ((supL s).drop 24).take 8 = be s.seq.toNat 8 ∧ ((supL s).drop 32).take 8 = be s.tail.toNat 8 := by
  have key : ∀ (x y z : Dat) (k : Nat), x.length = k → y.length = 8 → ((x ++ y ++ z).drop k).take 8 = y := by
    intro x y z k hx hy
    subst hx
    rw [List.append_assoc, List.drop_left, ← hy, List.take_left]
  refine ⟨?_, ?_, ?_, ?_⟩
  · rw [show supL s = magicL ++ be s.blocks.toNat 8 ++ (be s.epoch.toNat 8 ++ be s.seq.toNat 8 ++ be s.tail.toNat 8 ++ be (crcMore 0 (sup40 s)) 4 ++ List.replicate 4052 0) by simp [supL, sup44, sup40]]
    exact key _ _ _ _ rfl (be_length _ _)
  · rw [show supL s = (magicL ++ be s.blocks.toNat 8) ++ be s.epoch.toNat 8 ++ (be s.seq.toNat 8 ++ be s.tail.toNat 8 ++ be (crcMore 0 (sup40 s)) 4 ++ List.replicate 4052 0) by simp [supL, sup44, sup40]]
    exact key _ _ _ _ (by simp [be_length, magicL]) (be_length _ _)
  · rw [show supL s = (magicL ++ be s.blocks.toNat 8 ++ be s.epoch.toNat 8) ++ be s.seq.toNat 8 ++ (be s.tail.toNat 8 ++ be (crcMore 0 (sup40 s)) 4 ++ List.replicate 4052 0) by simp [supL, sup44, sup40]]
    exact key _ _ _ _ (by simp [be_length, magicL]) (be_length _ _)
  · rw [show supL s = (magicL ++ be s.blocks.toNat 8 ++ be s.epoch.toNat 8 ++ be s.seq.toNat 8) ++ be s.tail.toNat 8 ++ (be (crcMore 0 (sup40 s)) 4 ++ List.replicate 4052 0) by simp [supL, sup44, sup40]]
    exact key _ _ _ _ (by simp [be_length, magicL]) (be_length _ _)
/-- what bytes say, read -/
def decS (b : Dat) : Sup := ⟨IntKind.i64.wrap ((numV b 8 8).1 : Int), IntKind.i64.wrap ((numV b 16 8).1 : Int), IntKind.i64.wrap ((numV b 24 8).1 : Int), IntKind.i64.wrap ((numV b 32 8).1 : Int)⟩
theorem dec_supL (s : Sup) (h : RightS s) : decS (supL s) = s := by
  obtain ⟨h1, h2, h3, h4, h5, h6, h7, h8⟩ := h
  obtain ⟨a1, a2, a3, a4⟩ := supL_at s
  have key : ∀ (k : Nat) (x : Int), ((supL s).drop k).take 8 = be x.toNat 8 → k ≤ 4000 → 0 ≤ x → x ≤ 549755813888 → IntKind.i64.wrap ((numV (supL s) k 8).1 : Int) = x := by
    intro k x hx hk h0 hm
    unfold numV
    rw [if_neg (by rw [supL_length]; omega)]
    show IntKind.i64.wrap ((nb (((supL s).drop ((k : Int)).toNat).take 8) : Nat) : Int) = x
    rw [show ((k : Int)).toNat = k from rfl, hx, nb_be 8 _ (by omega), wrap_i64 (by omega) (by omega)]
    omega
  unfold decS
  rw [show (8 : Int) = ((8 : Nat) : Int) from rfl, show (16 : Int) = ((16 : Nat) : Int) from rfl, show (24 : Int) = ((24 : Nat) : Int) from rfl, show (32 : Int) = ((32 : Nat) : Int) from rfl,
    key 8 s.blocks a1 (by omega) (by omega) (by omega), key 16 s.epoch a2 (by omega) (by omega) (by omega), key 24 s.seq a3 (by omega) (by omega) (by omega), key 32 s.tail a4 (by omega) (by omega) (by omega)]
def getS (b : Dat) : Option Sup := if RightS (decS b) ∧ supL (decS b) = b then some (decS b) else none
theorem getS_some {b : Dat} {s : Sup} : getS b = some s ↔ RightS s ∧ supL s = b := by
  unfold getS
  constructor
  · intro h
    split at h
    · rename_i h1; cases h; exact h1
    · cases h
  · rintro ⟨h1, h2⟩
    have : decS b = s := by rw [← h2, dec_supL s h1]
    rw [this, if_pos ⟨h1, h2⟩]
@[reducible] def getV (r : Option Sup) : Value := match r with
  | some s => .tuple #[s.v, .int .i64 0]
  | none => .tuple #[Sup.v ⟨0, 0, 0, 0⟩, .int .i64 30]
set_option maxHeartbeats 1000000 in
theorem super_Get {I : Imm} {a : Option Addr} {len cap : Nat} {b : Dat} (h : Rds I a len (bts b)) (hlen : len ≤ 1000000000) : Tri Tryz.prog 197 #[.slice a len cap] I [] fun v J _ => I = J ∧ v = getV (getS b) := by
  refine Tri.of (args := [.slice a len cap]) tabOk Tryz.func197 rfl (by kernel_rfl) (by kernel_rfl) ?_
  conv => whnf
  intro b2
  conv => whnf
  intro b4
  refine CodeF.loopD [0, 2, 4, 11] (fun vs J' S' => ∃ (i : Nat), i ≤ 4 ∧ vs = [.slice a len cap, .pointer (some ⟨b2, 0, none⟩), .pointer (some ⟨b4, 0, none⟩), .int .i64 i] ∧ I = J' ∧
      S' = [[(b2, row [.int .i64 0, .int .i64 0, .int .i64 0, .int .i64 0] 143)], [(b4, row ((List.range 4).map fun (j : Nat) => Value.int .i64 (if j < i then IntKind.i64.wrap ((numV b (8 + 8 * j) 8).1 : Int) else 0)) 279)]])
    (fun vs _ _ => match vs with | [_, _, _, .int _ i] => ((4 : Int) - i).toNat | _ => 0) ?_ ?_
  · exact ⟨_, Drop.refl _, 0, by omega, rfl, rfl, rfl⟩
  rintro vs gE J' S' hJ' ⟨i, hi, rfl, rfl, rfl⟩
  refine CmpD.split (fun c1 => ?_) (fun c1 => ?_)
  · have h4 : i = 0 ∨ i = 1 ∨ i = 2 ∨ i = 3 := by omega
    rcases h4 with rfl | rfl | rfl | rfl
    all_goals
      refine ToD.i64 (by decide) (by decide) ?_
      refine ToD.i64 (by decide) (by decide) ?_
      refine Tri.nf (octets_U64 (l := b) h.slC hlen _ (by unfold In64; decide)) ?_
      rintro v J2 S2 hJ2 ⟨rfl, rfl, rfl⟩
      refine ToD.keep ?_
      refine Chk.mk (by decide) ?_
      refine StoreD.st 1 rfl rfl rfl ?_
      refine ToD.i64 (by decide) (by decide) ?_
      first
        | refine ⟨_, Drop.refl _, ⟨1, by omega, rfl, rfl, rfl⟩, ?_⟩
        | refine ⟨_, Drop.refl _, ⟨2, by omega, rfl, rfl, rfl⟩, ?_⟩
        | refine ⟨_, Drop.refl _, ⟨3, by omega, rfl, rfl, rfl⟩, ?_⟩
        | refine ⟨_, Drop.refl _, ⟨4, by omega, rfl, rfl, rfl⟩, ?_⟩
      first
        | (show (4 - (((0 : Nat) : Int) + 1)).toNat < (4 - ((0 : Nat) : Int)).toNat; decide)
        | (show (4 - (((1 : Nat) : Int) + 1)).toNat < (4 - ((1 : Nat) : Int)).toNat; decide)
        | (show (4 - (((2 : Nat) : Int) + 1)).toNat < (4 - ((2 : Nat) : Int)).toNat; decide)
        | (show (4 - (((3 : Nat) : Int) + 1)).toNat < (4 - ((3 : Nat) : Int)).toNat; decide)
  · obtain rfl : i = 4 := by omega
    have e4 : ((List.range 4).map fun (j : Nat) => Value.int .i64 (if j < 4 then IntKind.i64.wrap ((numV b (8 + 8 * j) 8).1 : Int) else 0)) = [.int .i64 (decS b).blocks, .int .i64 (decS b).epoch, .int .i64 (decS b).seq, .int .i64 (decS b).tail] := rfl
    rw [e4]
    clear e4
    repeat (first | refine LoadD.own 1 rfl _ rfl rfl ?_ | refine Chk.mk (by omega) ?_)
    conv => whnf
    intro b8
    repeat (first | refine LoadD.own 2 rfl _ rfl rfl ?_ | refine StoreD.st 2 rfl rfl rfl ?_)
    refine Tri.frameX (super_Put (decS b) I) [] rfl rfl ?_
    unfold getS
    rintro v J2 S2 hJ2 ⟨rfl, ⟨hR, rfl, rfl⟩ | ⟨hR, a2, cap2, ch2, rfl, hown, rfl⟩⟩
    · rw [if_neg (fun h => hR h.1)]
      repeat (first | refine LoadD.own 0 rfl _ rfl rfl ?_ | refine StoreD.st 0 rfl rfl rfl ?_ | refine CmpD.no (by decide) ?_)
      exact Done.mk ⟨rfl, rfl⟩
    · repeat (first | refine CmpD.yes rfl ?_)
      refine Tri.nf (bytes_Equal (l1 := supL (decS b)) (l2 := b) ?_ ?_) ?_
      · exact hown.slC1 3 rfl
      · exact h.slC
      rintro v J3 S3 hJ3 ⟨rfl, rfl, rfl⟩
      by_cases hb : supL (decS b) = b
      · rw [decide_eq_true hb, if_pos ⟨hR, hb⟩]
        repeat (first | refine LoadD.own 0 rfl _ rfl rfl ?_ | refine LoadD.own 2 rfl _ rfl rfl ?_ | refine StoreD.st 0 rfl rfl rfl ?_)
        exact Done.mk ⟨rfl, rfl⟩
      · rw [decide_eq_false hb, if_neg (fun h => hb h.2)]
        repeat (first | refine LoadD.own 0 rfl _ rfl rfl ?_ | refine StoreD.st 0 rfl rfl rfl ?_)
        exact Done.mk ⟨rfl, rfl⟩
end Go.Proofs.YtegdcjnjnoeinaaGreat
namespace Go.Proofs.YtegdcjnjnoeinaaGreat
open Go.RowKit Go.Sl
set_option maxRecDepth 20000

theorem two_ways (r : Option Sup) {p : Prop} (h1 : ∀ s, r = some s → p) (h2 : r = none → p) : p := by
  cases r with
  | none => exact h2 rfl
  | some s => exact h1 s rfl
@[reducible] def Sup.zero : Sup := ⟨0, 0, 0, 0⟩
def chooseP : Option Sup → Option Sup → Sup × Int × Bool
  | none, none => (Sup.zero, 0, false)
  | none, some y => (y, 1, true)
  | some x, none => (x, 0, true)
  | some x, some y => if y.epoch < x.epoch ∨ (y.epoch = x.epoch ∧ y.seq ≤ x.seq) then (x, 0, true) else (y, 1, true)
@[reducible] def chooseV (r : Sup × Int × Bool) : Value := .tuple #[r.1.v, .int .i64 r.2.1, .bool r.2.2]
theorem replay_Choose {I : Imm} {a1 a2 : Option Addr} {n1 n2 c1 c2 : Nat} {l1 l2 : Dat} (h1 : Rds I a1 n1 (bts l1)) (h2 : Rds I a2 n2 (bts l2)) (hn1 : n1 ≤ 1000000000) (hn2 : n2 ≤ 1000000000) :
    Tri Tryz.prog 168 #[.slice a1 n1 c1, .slice a2 n2 c2] I [] fun v J _ => I = J ∧ v = chooseV (chooseP (getS l1) (getS l2)) := by
  refine Tri.of (args := [.slice a1 n1 c1, .slice a2 n2 c2]) tabOk Tryz.func168 rfl (by kernel_rfl) (by kernel_rfl) ?_
  conv => whnf
  intro b4
  refine Tri.free (super_Get h1 hn1) ?_
  rintro v J _ hJ ⟨rfl, rfl⟩
  refine Go.Proofs.YtegdcjnjnoeinaaGreat.two_ways (getS l1) (fun s1 e1 => ?_) (fun e1 => ?_)
  all_goals
    rw [e1]
    conv => whnf
    intro b7
    repeat (first | refine StoreD.st 1 rfl rfl rfl ?_)
    refine Tri.free (super_Get h2 hn2) ?_
    rintro v J _ hJ ⟨rfl, rfl⟩
    refine Go.Proofs.YtegdcjnjnoeinaaGreat.two_ways (getS l2) (fun s2 e2 => ?_) (fun e2 => ?_)
  all_goals
    rw [e2]
    conv => whnf
    intro b9
    repeat (first | refine LoadD.own 0 rfl _ rfl rfl ?_ | refine LoadD.own 1 rfl _ rfl rfl ?_ | refine LoadD.own 2 rfl _ rfl rfl ?_ | refine StoreD.st 0 rfl rfl rfl ?_ | refine StoreD.st 2 rfl rfl rfl ?_ | refine CmpD.yes rfl ?_ | refine CmpD.no (by decide) ?_)
  · refine CmpD.split (fun c1 => ?_) (fun c1 => ?_)
    · repeat (first | refine LoadD.own 0 rfl _ rfl rfl ?_ | refine LoadD.own 1 rfl _ rfl rfl ?_ | refine StoreD.st 0 rfl rfl rfl ?_)
      refine Done.mk ⟨rfl, ?_⟩
      show _ = chooseV (chooseP (some s1) (some s2))
      rw [chooseP, if_pos (.inl c1)]; rfl
    repeat (first | refine LoadD.own 1 rfl _ rfl rfl ?_ | refine LoadD.own 2 rfl _ rfl rfl ?_)
    refine CmpD.split (fun c2 => ?_) (fun c2 => ?_)
    · repeat (first | refine LoadD.own 1 rfl _ rfl rfl ?_ | refine LoadD.own 2 rfl _ rfl rfl ?_)
      refine CmpD.split (fun c3 => ?_) (fun c3 => ?_)
      · repeat (first | refine LoadD.own 0 rfl _ rfl rfl ?_ | refine LoadD.own 1 rfl _ rfl rfl ?_ | refine StoreD.st 0 rfl rfl rfl ?_)
        refine Done.mk ⟨rfl, ?_⟩
        show _ = chooseV (chooseP (some s1) (some s2))
        rw [chooseP, if_pos (.inr ⟨c2, c3⟩)]; rfl
      · repeat (first | refine LoadD.own 0 rfl _ rfl rfl ?_ | refine LoadD.own 2 rfl _ rfl rfl ?_ | refine StoreD.st 0 rfl rfl rfl ?_)
        refine Done.mk ⟨rfl, ?_⟩
        show _ = chooseV (chooseP (some s1) (some s2))
        rw [chooseP, if_neg (by rintro (h | h); exact c1 h; exact c3 h.2)]; rfl
    · repeat (first | refine LoadD.own 0 rfl _ rfl rfl ?_ | refine LoadD.own 2 rfl _ rfl rfl ?_ | refine StoreD.st 0 rfl rfl rfl ?_)
      refine Done.mk ⟨rfl, ?_⟩
      show _ = chooseV (chooseP (some s1) (some s2))
      rw [chooseP, if_neg (by rintro (h | h); exact c1 h; exact c2 h.1)]; rfl
  all_goals exact Done.mk ⟨rfl, rfl⟩
end Go.Proofs.YtegdcjnjnoeinaaGreat
namespace Go.Proofs.YtegdcjnjnoeinaaGreat
open Go.RowKit Go.Sl
set_option maxRecDepth 20000

end Go.Proofs.YtegdcjnjnoeinaaGreat
namespace Go.Proofs.YtegdcjnjnoeinaaGreat
open Go.RowKit Go.Sl
set_option maxRecDepth 20000

end Go.Proofs.YtegdcjnjnoeinaaGreat
namespace Go.Proofs.YtegdcjnjnoeinaaGreat
open Go.RowKit Go.Sl
set_option maxRecDepth 20000

/-- law 10's superblock as bytes, fixed -/
def superOf (epoch seq : Int) : Sup := ⟨64, epoch, seq, 0⟩
end Go.Proofs.YtegdcjnjnoeinaaGreat
namespace Go.Proofs.YtegdcjnjnoeinaaGreat
open Go.RowKit Go.Sl
set_option maxRecDepth 20000

/-- images and groups, read in what is owned or fixed -/
structure ImgR (I : Imm) (S : St) (g : Img) : Prop where
  rd : SlC I S g.a g.len (bts g.data)
structure ImgsR (I : Imm) (S : St) (a : Option Addr) (gs : List Img) : Prop where
  sl : SlC I S a (gs.length * 2) (imgCells gs)
  each : ∀ g ∈ gs, ImgR I S g
theorem ImgR.mores {I : Imm} {S : St} {g : Img} (h : ImgR I S g) (L : St) : ImgR I (S ++ L) g := ⟨h.rd.mores L⟩
/-- a group, as it lies -/
structure Grp where
  e : Int
  s : Int
  a : Option Addr
  cap : Nat
  gs : List Img
def grpCells (l : List Grp) : List Value := l.flatMap fun g => [.int .i64 g.e, .int .i64 g.s, .slice g.a g.gs.length g.cap]
theorem grpCells_at {ws : List Grp} {i : Nat} (h : i < ws.length) : ((grpCells ws).drop (i * 3)).take 3 = [.int .i64 ws[i].e, .int .i64 ws[i].s, .slice ws[i].a ws[i].gs.length ws[i].cap] := by
  induction ws generalizing i with
  | nil => simp at h
  | cons g ws ih =>
    cases i with
    | zero => rfl
    | succ i =>
      have := ih (i := i) (by simpa using h)
      have e : grpCells (g :: ws) = [.int .i64 g.e, .int .i64 g.s, .slice g.a g.gs.length g.cap] ++ grpCells ws := by simp [grpCells]
      rw [e, show (i + 1) * 3 = [Value.int .i64 g.e, .int .i64 g.s, .slice g.a g.gs.length g.cap].length + i * 3 by simp; omega, ← List.drop_drop, List.drop_left]
      simpa using this
structure GrpsR (I : Imm) (S : St) (a : Option Addr) (l : List Grp) : Prop where
  sl : SlC I S a (l.length * 3) (grpCells l)
  each : ∀ g ∈ l, ImgsR I S g.a g.gs ∧ g.gs.length ≤ 1000000
/-- the last image of each block, as a map holds it -/
def hdr (g : Img) : Int × Value := (g.blk, .slice g.a g.len g.cap)
def iput (ms : List Img) (g : Img) : List Img := if g.blk ∈ ms.map Img.blk then ms.map (fun x => if x.blk = g.blk then g else x) else ms ++ [g]
theorem iput_hdr (ms : List Img) (g : Img) : (iput ms g).map hdr = mput (ms.map hdr) g.blk (.slice g.a g.len g.cap) := by
  unfold iput mput
  have e : (ms.map hdr).map Prod.fst = ms.map Img.blk := by rw [List.map_map]; rfl
  rw [e]
  split
  · rw [List.map_map, List.map_map]
    apply List.map_congr_left
    intro x _
    show hdr (if x.blk = g.blk then g else x) = if (hdr x).1 = g.blk then (g.blk, _) else hdr x
    show hdr (if x.blk = g.blk then g else x) = if x.blk = g.blk then (g.blk, _) else hdr x
    split <;> rfl
  · rw [List.map_append]; rfl
theorem iput_mem {ms : List Img} {g x : Img} (h : x ∈ iput ms g) : x = g ∨ x ∈ ms := by
  unfold iput at h
  split at h
  · obtain ⟨y, hy, rfl⟩ := List.mem_map.1 h
    split
    · exact .inl rfl
    · exact .inr hy
  · rcases List.mem_append.1 h with h | h
    · exact .inr h
    · exact .inl (by simpa using h)
theorem iput_len (ms : List Img) (g : Img) : (iput ms g).length ≤ ms.length + 1 := by
  unfold iput; split <;> simp
/-- as values -/
def pput (ms : List PImg) (g : PImg) : List PImg := if g.1 ∈ ms.map Prod.fst then ms.map (fun x => if x.1 = g.1 then g else x) else ms ++ [g]
theorem iput_pr (ms : List Img) (g : Img) : (iput ms g).map Img.pr = pput (ms.map Img.pr) g.pr := by
  unfold iput pput
  have e : (ms.map Img.pr).map Prod.fst = ms.map Img.blk := by rw [List.map_map]; rfl
  rw [e]
  show List.map Img.pr (if g.blk ∈ ms.map Img.blk then _ else _) = if g.blk ∈ ms.map Img.blk then _ else _
  split
  · rw [List.map_map, List.map_map]
    apply List.map_congr_left
    intro x _
    show Img.pr (if x.blk = g.blk then g else x) = if x.blk = g.blk then g.pr else x.pr
    split <;> rfl
  · rw [List.map_append]; rfl
/-- images to their homes: the last of each block, in the blocks' order -/
def lastP (l : List PImg) : List PImg := l.foldl pput []
def homeP (l : List PImg) : List PImg := (sortI ((lastP l).map Prod.fst)).map fun n => (n, ((lastP l).lookup n).getD [])
def HomeOk (lay : Lay) (l : List PImg) : Prop := ∀ g ∈ l, lay.bi ≤ g.1 ∧ g.1 < lay.b
instance (lay : Lay) (l : List PImg) : Decidable (HomeOk lay l) := by unfold HomeOk; infer_instance
end Go.Proofs.YtegdcjnjnoeinaaGreat
namespace Go.Proofs.YtegdcjnjnoeinaaGreat
open Go.RowKit Go.Sl
set_option maxRecDepth 20000

def OwnImgs : List (List Blk) → List Img → Prop
  | [], [] => True
  | c :: cs, g :: gs => OwnB c g.a g.len g.cap g.data ∧ OwnImgs cs gs
  | _, _ => False
theorem OwnImgs.snoc : ∀ {cs : List (List Blk)} {gs : List Img} {c : List Blk} {g : Img}, OwnImgs cs gs → OwnB c g.a g.len g.cap g.data → OwnImgs (cs ++ [c]) (gs ++ [g])
  | [], [], _, _, _, h => ⟨h, trivial⟩
  | _ :: _, _ :: _, _, _, h, k => ⟨h.1, OwnImgs.snoc h.2 k⟩
  | [], _ :: _, _, _, h, _ => h.elim
  | _ :: _, [], _, _, h, _ => h.elim
theorem lookup_both : ∀ (ms : List Img) (n : Int), n ∈ ms.map Img.blk → ∃ g ∈ ms, g.blk = n ∧ mget (ms.map hdr) n = some (.slice g.a g.len g.cap) ∧ (ms.map Img.pr).lookup n = some g.data
  | [], n, h => by simp at h
  | x :: ms, n, h => by
    by_cases hx : n = x.blk
    · refine ⟨x, by simp, hx.symm, ?_, ?_⟩
      · unfold mget
        rw [List.map_cons, hdr, List.lookup_cons, show (n == x.blk) = true by simpa using hx]
      · rw [List.map_cons, Img.pr, List.lookup_cons, show (n == x.blk) = true by simpa using hx]
    · have hn : n ∈ ms.map Img.blk := by
        rw [List.map_cons] at h
        rcases List.mem_cons.1 h with h | h
        · exact absurd h hx
        · exact h
      obtain ⟨g, hg, h1, h2, h3⟩ := lookup_both ms n hn
      have hb : (n == x.blk) = false := by simpa using hx
      refine ⟨g, by simp [hg], h1, ?_, ?_⟩
      · unfold mget at h2 ⊢
        rw [List.map_cons, hdr, List.lookup_cons, hb]; exact h2
      · rw [List.map_cons, Img.pr, List.lookup_cons, hb]; exact h3
def allI (l : List Grp) : List Img := l.flatMap Grp.gs
def allP (l : List Grp) : List PImg := l.flatMap fun g => g.gs.map Img.pr
theorem allP_eq (l : List Grp) : allP l = (allI l).map Img.pr := by unfold allP allI; rw [List.map_flatMap]
theorem foldl_pr (l : List Img) : ∀ ms : List Img, (l.foldl iput ms).map Img.pr = (l.map Img.pr).foldl pput (ms.map Img.pr) := by
  induction l with
  | nil => intro ms; rfl
  | cons g l ih => intro ms; rw [List.foldl_cons, ih, iput_pr, List.map_cons, List.foldl_cons]
theorem fold_mem : ∀ (l ms : List Img), ∀ x ∈ l.foldl iput ms, x ∈ l ∨ x ∈ ms
  | [], ms, x, h => .inr h
  | g :: l, ms, x, h => by
    rcases fold_mem l (iput ms g) x h with h | h
    · exact .inl (by simp [h])
    · rcases iput_mem h with rfl | h
      · exact .inl (by simp)
      · exact .inr h
theorem fold_len : ∀ (l ms : List Img), (l.foldl iput ms).length ≤ ms.length + l.length
  | [], ms => by simp
  | g :: l, ms => by
    have h1 := fold_len l (iput ms g)
    have h2 := iput_len ms g
    rw [List.foldl_cons, List.length_cons]; omega
@[reducible] def layBox (b : Nat) (x : Lay) : List Blk := [(b, row x.vals 45)]
set_option maxHeartbeats 8000000 in
theorem home_one (c0 : List Blk) {I : Imm} {aG : Option Addr} {capG : Nat} {l : List Grp} (hG : GrpsR I [c0] aG l) (hl : l.length ≤ 1000000) (hall : (allI l).length ≤ 1000000) (hfew : ∀ g ∈ allI l, g.len ≤ 100000000) (x : Lay) :
    Tri Tryz.prog 108 #[x.v, .slice aG l.length capG] I [c0] fun v _ S' =>
      ((¬ (64 ≤ x.b ∧ x.b ≤ 512 ∧ x = layOf x.b.toNat) ∧ v = .tuple #[.slice none 0 0, .int .i64 2] ∧ S' = [c0]) ∨
       ((64 ≤ x.b ∧ x.b ≤ 512 ∧ x = layOf x.b.toNat) ∧ ¬ HomeOk x (allP l) ∧ v = .tuple #[.slice none 0 0, .int .i64 90] ∧ S' = [c0]) ∨
       ((64 ≤ x.b ∧ x.b ≤ 512 ∧ x = layOf x.b.toNat) ∧ HomeOk x (allP l) ∧ ∃ (aO : Option Addr) (capO : Nat) (chO : List Blk) (chs : List (List Blk)) (outs : List Img), v = .tuple #[.slice aO outs.length capO, .int .i64 0] ∧ OwnC chO 2 aO outs.length capO (imgCells outs) ∧ OwnImgs chs outs ∧ outs.map Img.pr = homeP (allP l) ∧ S' = c0 :: chO :: chs)) := by
  refine Tri.drop ?_ (fun _ _ _ _ h => h)
  refine Tri.of (args := [x.v, .slice aG l.length capG]) tabOk Tryz.func108 rfl (by kernel_rfl) (by kernel_rfl) ?_
  conv => whnf
  intro bl
  repeat (first | refine LoadD.own 1 rfl _ rfl rfl ?_)
  refine Tri.free (layout_Of x.b I) ?_
  rintro v J _ hJ ⟨rfl, rfl⟩
  by_cases hb : x.b < 64 ∨ 512 < x.b
  · rw [layA, if_pos hb]
    conv => whnf
    intro b6
    repeat (first | refine StoreD.st 2 rfl rfl rfl ?_ | refine CmpD.no (by decide) ?_)
    exact Done.mk ⟨[c0], Drop.pick [0] _ rfl, .inl ⟨by omega, rfl, rfl⟩⟩
  rw [layA, if_neg hb]
  conv => whnf
  intro b6
  repeat (first | refine LoadD.own 1 rfl _ rfl rfl ?_ | refine LoadD.own 2 rfl _ rfl rfl ?_ | refine StoreD.st 2 rfl rfl rfl ?_ | refine CmpD.yes rfl ?_)
  refine lay_cmp (layOf x.b.toNat) x rfl (.inr rfl) ?_ ?_ ?_
  · show Value.agg _ = _
    have hx : ((x.b.toNat : Nat) : Int) = x.b := by omega
    unfold layOf
    rw [hx]; rfl
  · rfl
  refine CmpD.split (fun c1 => ?_) (fun c1 => ?_)
  rotate_left
  · skip
    refine Done.mk ⟨[c0], Drop.pick [0] _ rfl, .inl ⟨fun h => c1 ?_, rfl, rfl⟩⟩
    rw [← h.2.2]
  have hx : x = layOf x.b.toNat := by
    simp only [List.cons.injEq, and_true] at c1
    obtain ⟨q1, q2, q3, q4, q5, q6, q7⟩ := c1
    obtain ⟨x1, x2, x3, x4, x5, x6, x7⟩ := x
    dsimp only at q1 q2 q3 q4 q5 q6 q7 ⊢
    rw [Lay.mk.injEq]
    exact ⟨q1.symm, q2.symm, q3.symm, q4.symm, q5.symm, q6.symm, q7.symm⟩
  have hX : 64 ≤ x.b ∧ x.b ≤ 512 ∧ x = layOf x.b.toNat := ⟨by omega, by omega, hx⟩
  skip
  refine makeMapD rfl ?_
  intro r
  skip
  refine CodeF.loopD [2, 8, 30, 31, 32] (fun vs J' S' => ∃ (i : Nat) (ob : Obj), i ≤ l.length ∧ HomeOk x (allP (l.take i)) ∧ MapR ob (((allI (l.take i)).foldl iput []).map hdr) ∧ vs = [.pointer (some ⟨bl, 0, none⟩), .map (some r), .slice aG l.length capG, .int .i64 l.length, .int .i64 i] ∧ I = J' ∧ S' = [c0, layBox bl x, [(r, ob)]])
    (fun vs _ _ => match vs with | [_, _, _, _, .int _ i] => ((l.length : Int) - i).toNat | _ => 0) ?_ ?_
  · exact ⟨_, Drop.pick [0, 1, 3] _ rfl, 0, _, by omega, by intro g hg; simp [allP] at hg, MapR.nil, rfl, rfl, rfl⟩
  rintro vs gE J' S' hJ' ⟨i, ob, hi, hok, hM, rfl, rfl, rfl⟩
  refine CmpD.split (fun c2 => ?_) (fun c2 => ?_)
  · have hil : i < l.length := by omega
    have hg := hG.each _ (List.getElem_mem hil)
    have htk : l.take (i + 1) = l.take i ++ [l[i]] := by rw [List.take_add_one, List.getElem?_eq_getElem hil]; rfl
    rcases (hG.sl.mores [layBox bl x, [(r, ob)]]).mem with h0 | ⟨bg, off, rfl, hc⟩
    · omega
    have hcell := hc.part (i := i * 3) (m := 3) (by omega)
    rw [grpCells_at hil] at hcell
    generalize hgi : l[i] = gi at *
    obtain ⟨hgR, hgl⟩ := hg
    refine Chk.mk (by omega) ?_
    refine LoadD.mk _ hcell ?_
    conv => whnf
    intro b10
    repeat (first | refine LoadD.own 3 rfl _ rfl rfl ?_ | refine StoreD.st 3 rfl rfl rfl ?_)
    refine CodeF.loopD [2, 8, 30, 31, 32, 37, 38, 39] (fun vs J' S' => ∃ (k : Nat) (ob : Obj), k ≤ gi.gs.length ∧ HomeOk x (allP (l.take i) ++ (gi.gs.take k).map Img.pr) ∧ MapR ob (((allI (l.take i) ++ gi.gs.take k).foldl iput []).map hdr) ∧ vs = [.pointer (some ⟨bl, 0, none⟩), .map (some r), .slice (some ⟨bg, off, none⟩) l.length capG, .int .i64 l.length, .int .i64 i, .slice gi.a gi.gs.length gi.cap, .int .i64 gi.gs.length, .int .i64 k] ∧ I = J' ∧ S' = [c0, layBox bl x, [(r, ob)]])
      (fun vs _ _ => match vs with | [_, _, _, _, _, _, _, .int _ k] => ((gi.gs.length : Int) - k).toNat | _ => 0) ?_ ?_
    · exact ⟨_, Drop.pick [0, 1, 2] _ rfl, 0, ob, by omega, by simpa using hok, by simpa using hM, rfl, rfl, rfl⟩
    rintro vs gE2 J2 S2 hJ2 ⟨k, ob2, hk, hok2, hM2, rfl, rfl, rfl⟩
    refine CmpD.split (fun c3 => ?_) (fun c3 => ?_)
    · have hkl : k < gi.gs.length := by omega
      have him := hgR.each _ (List.getElem_mem hkl)
      have htk2 : gi.gs.take (k + 1) = gi.gs.take k ++ [gi.gs[k]] := by rw [List.take_add_one, List.getElem?_eq_getElem hkl]; rfl
      have hmem : gi.gs[k].pr ∈ allP l := by
        unfold allP
        exact List.mem_flatMap.2 ⟨gi, by rw [← hgi]; exact List.getElem_mem hil, List.mem_map_of_mem (List.getElem_mem hkl)⟩
      rcases (hgR.sl.mores [layBox bl x, [(r, ob2)]]).mem with h0 | ⟨bi, offi, hgia, hci⟩
      · omega
      have hcelli := hci.part (i := k * 2) (m := 2) (by omega)
      rw [imgCells_at hkl] at hcelli
      generalize hgk : gi.gs[k] = g at *
      rw [hgia]
      refine Chk.mk (by omega) ?_
      refine LoadD.mk _ hcelli ?_
      conv => whnf
      intro b12
      repeat (first | refine LoadD.own 1 rfl _ rfl rfl ?_ | refine LoadD.own 3 rfl _ rfl rfl ?_ | refine StoreD.st 3 rfl rfl rfl ?_)
      refine CmpD.split (fun c4 => ?_) (fun c4 => ?_)
      · skip
        refine Done.mk ⟨[c0], Drop.pick [0] _ rfl, .inr (.inl ⟨hX, fun h => ?_, rfl, rfl⟩)⟩
        have := (h _ hmem).1
        exact absurd c4 (by show ¬ g.blk < x.bi; exact Int.not_lt.2 this)
      repeat (first | refine LoadD.own 1 rfl _ rfl rfl ?_ | refine LoadD.own 3 rfl _ rfl rfl ?_)
      refine CmpD.split (fun c5 => ?_) (fun c5 => ?_)
      · skip
        refine Done.mk ⟨[c0], Drop.pick [0] _ rfl, .inr (.inl ⟨hX, fun h => ?_, rfl, rfl⟩)⟩
        have := (h _ hmem).2
        exact absurd c5 (by show ¬ x.b ≤ g.blk; exact Int.not_le.2 this)
      repeat (first | refine LoadD.own 3 rfl _ rfl rfl ?_)
      refine mapUpdateD tabOk rfl rfl rfl rfl rfl 2 rfl hM2 ?_
      intro ob3 hM3
      skip
      refine ToD.i64 (by omega) (by omega) ?_
      refine ⟨_, Drop.pick [0, 1, 2] _ rfl, ⟨k + 1, ob3, by omega, ?_, ?_, by rw [← hgia]; rfl, rfl, rfl⟩, ?_⟩
      · rw [htk2, List.map_append, ← List.append_assoc]
        intro q hq
        rcases List.mem_append.1 hq with hq | hq
        · exact hok2 q hq
        · simp only [List.map_cons, List.map_nil, List.mem_singleton] at hq
          subst hq
          exact ⟨Int.not_lt.1 c4, Int.not_le.1 c5⟩
      · rw [htk2, ← List.append_assoc, List.foldl_append, List.foldl_cons, List.foldl_nil, iput_hdr]
        exact hM3
      · show ((gi.gs.length : Int) - ((k : Int) + 1)).toNat < ((gi.gs.length : Int) - (k : Int)).toNat
        omega
    · obtain rfl : k = gi.gs.length := by omega
      rw [List.take_length] at hok2 hM2
      refine ToD.i64 (by omega) (by omega) ?_
      refine ⟨_, Drop.refl _, ⟨i + 1, ob2, by omega, ?_, ?_, rfl, rfl, rfl⟩, ?_⟩
      · rw [htk]; unfold allP at hok2 ⊢; rw [List.flatMap_append]; simpa using hok2
      · rw [htk]; unfold allI at hM2 ⊢; rw [List.flatMap_append]; simpa using hM2
      · show ((l.length : Int) - ((i : Int) + 1)).toNat < ((l.length : Int) - (i : Int)).toNat
        omega
  · obtain rfl : i = l.length := by omega
    rw [List.take_length] at hok hM
    obtain ⟨ms, hms⟩ : ∃ ms, ms = (allI l).foldl iput [] := ⟨_, rfl⟩
    rw [← hms] at hM
    have hmsl : ms.length ≤ 1000000 := by rw [hms]; have := fold_len (allI l) []; simp at this; omega
    have hmspr : ms.map Img.pr = lastP (allP l) := by rw [hms, foldl_pr, allP_eq]; rfl
    have hmsR : ∀ g ∈ ms, ImgR I [c0] g := by
      intro g hg
      rw [hms] at hg
      rcases fold_mem _ _ g hg with h | h
      · unfold allI at h
        obtain ⟨gr, hgr, hgg⟩ := List.mem_flatMap.1 h
        exact (hG.each gr hgr).1.each g hgg
      · simp at h
    have hmsF : ∀ g ∈ ms, g.len ≤ 100000000 := by
      intro g hg
      rw [hms] at hg
      rcases fold_mem _ _ g hg with h | h
      · exact hfew g h
      · simp at h
    have hkeys : keysOf (ms.map hdr) = sortI ((lastP (allP l)).map Prod.fst) := by
      unfold keysOf
      rw [← hmspr, List.map_map, List.map_map]; rfl
    have hkl := keysOf_length (ms.map hdr)
    rw [List.length_map] at hkl
    have hkm : ∀ n ∈ keysOf (ms.map hdr), n ∈ ms.map Img.blk := by
      intro n hn
      unfold keysOf at hn
      have := (sortI_perm _).mem_iff.1 hn
      rw [List.map_map] at this; exact this
    refine Tri.nf (keys_of r I _) ?_
    rintro v J S' hJ ⟨bk, rfl, rfl, rfl⟩
    refine Tri.frameX (sorted_keys bk r ob (ms.map hdr) hM (by rw [List.length_map]; exact hmsl) I) [3, 2] rfl rfl ?_
    rintro v J S' hJK ⟨aK, capK, chK, rfl, hK, hle, rfl⟩
    rw [List.length_map] at hK ⊢
    obtain ⟨KS, hKS⟩ : ∃ KS, KS = keysOf (ms.map hdr) := ⟨_, rfl⟩
    rw [← hKS] at hK hkeys hkl hkm
    refine CodeF.loopD [8, 13, 64, 65, 66] (fun vs J' S' => ∃ (k : Nat) (aO : Option Addr) (capO : Nat) (chO : List Blk) (chs : List (List Blk)) (outs : List Img), k ≤ ms.length ∧ outs.length = k ∧ OwnC chO 2 aO k capO (imgCells outs) ∧ OwnImgs chs outs ∧ outs.map Img.pr = (KS.take k).map (fun n => (n, ((lastP (allP l)).lookup n).getD [])) ∧
        vs = [.map (some r), .slice aO k capO, .slice aK ms.length capK, .int .i64 ms.length, .int .i64 k] ∧ J = J' ∧ S' = c0 :: [(r, ob)] :: chK :: chO :: chs)
      (fun vs _ _ => match vs with | [_, _, _, _, .int _ k] => ((ms.length : Int) - k).toNat | _ => 0) ?_ ?_
    · exact ⟨_, Drop.and (Drop.pick [0, 4, 5] _ rfl), 0, none, 0, [], [], [], by omega, rfl, OwnC.nil _ _, trivial, rfl, rfl, rfl, rfl⟩
    rintro vs gE J' S' hJ' ⟨k, aO, capO, chO, chs, outs, hk, hol, hO, hcs, hpr, rfl, rfl, rfl⟩
    refine CmpD.split (fun c3 => ?_) (fun c3 => ?_)
    · have hkK : k < KS.length := by omega
      have htk : KS.take (k + 1) = KS.take k ++ [KS[k]] := by rw [List.take_add_one, List.getElem?_eq_getElem hkK]; rfl
      obtain ⟨g, hgm, hgb, hget, hlk⟩ := lookup_both ms KS[k] (hkm _ (List.getElem_mem hkK))
      rw [hmspr] at hlk
      have hgR := hmsR g hgm
      have hcell : (ints KS)[k]? = some (.int .i64 KS[k]) := ints_get (List.getElem?_eq_getElem hkK)
      generalize hn : KS[k] = n at *
      rcases hK.at' with q0 | ⟨bK, pre, post, TK, rfl, rfl, hpost⟩
      · have := hK.le; omega
      refine Chk.mk (by omega) ?_
      refine LoadD.own 2 rfl _ (take_get (own_take pre (ints KS) post) hcell) rfl ?_
      refine lookupD tabOk rfl rfl rfl rfl rfl rfl 1 rfl hM ?_
      rw [hget]
      refine Tri.mono (clone_bytes J _ g.a g.len g.cap (bts g.data) (by rw [Nat.mul_one]; exact (hgR.rd.mores ([(r, ob)] :: _ :: chO :: chs)).imm hJK) (bts_plain _) (by have := hmsF g hgm; omega)) ?_
      rintro v J3 S3 hJ3 ⟨a', cap', ch', rfl, hown', rfl, rfl⟩
      conv => whnf
      intro bN
      refine appendD tabOk rfl rfl rfl rfl rfl rfl rfl 3 rfl hO (SrcOk.slice (n := 1) (news := imgCells [⟨n, a', g.len, cap', g.data⟩]) tabOk rfl ((OwnC.whole (len := 1) (size := 2) rfl).slC _ (two_get1 (c0 :: [(r, ob)] :: _ :: chO :: chs) ch' _)) (by intro v hv; simp [imgCells] at hv; rcases hv with rfl | rfl <;> rfl)) rfl (by show (k + 1) * 32 ≤ _; omega) (by omega) ?_
      intro a2 cap2 ch2 hO2
      refine ToD.i64 (by omega) (by omega) ?_
      refine ⟨c0 :: [(r, ob)] :: _ :: ch2 :: (chs ++ [ch']), Drop.init (c0 :: [(r, ob)] :: _ :: ch2 :: (chs ++ [ch'])) _, ⟨k + 1, a2, cap2, ch2, chs ++ [ch'], outs ++ [⟨n, a', g.len, cap', g.data⟩], by omega, by simp [hol], by rw [imgCells_snoc]; exact hO2, hcs.snoc hown', ?_, rfl, rfl, rfl⟩, ?_⟩
      · rw [htk, List.map_append, List.map_append, hpr]
        simp [hlk]
      · show ((ms.length : Int) - ((k : Int) + 1)).toNat < ((ms.length : Int) - (k : Int)).toNat
        omega
    · obtain rfl : k = ms.length := by omega
      skip
      refine Done.mk ⟨c0 :: chO :: chs, ?_, .inr (.inr ⟨hX, hok, aO, capO, chO, chs, outs, by rw [hol]; rfl, by rw [hol]; exact hO, hcs, ?_, rfl⟩)⟩
      · exact ⟨[(r, ob)] ++ chK, by
          classical
          refine List.perm_iff_count.2 fun y => ?_
          simp only [List.flatten_cons, List.count_append]
          omega⟩
      · rw [hpr, List.take_of_length_le (by omega), hkeys]; rfl
theorem ImgsR.pack {I : Imm} {S : St} {a : Option Addr} {gs : List Img} (h : ImgsR I S a gs) : ImgsR I [S.flatten] a gs := ⟨h.sl.pack, fun g hg => ⟨(h.each g hg).rd.pack⟩⟩
theorem home_any {I : Imm} {S : St} {aG : Option Addr} {capG : Nat} {l : List Grp} (hG : GrpsR I S aG l) (hl : l.length ≤ 1000000) (hall : (allI l).length ≤ 1000000) (hfew : ∀ g ∈ allI l, g.len ≤ 100000000) (x : Lay) :
    Tri Tryz.prog 108 #[x.v, .slice aG l.length capG] I S fun v _ S' =>
      ((¬ (64 ≤ x.b ∧ x.b ≤ 512 ∧ x = layOf x.b.toNat) ∧ v = .tuple #[.slice none 0 0, .int .i64 2] ∧ S' = S) ∨
       ((64 ≤ x.b ∧ x.b ≤ 512 ∧ x = layOf x.b.toNat) ∧ ¬ HomeOk x (allP l) ∧ v = .tuple #[.slice none 0 0, .int .i64 90] ∧ S' = S) ∨
       ((64 ≤ x.b ∧ x.b ≤ 512 ∧ x = layOf x.b.toNat) ∧ HomeOk x (allP l) ∧ ∃ (aO : Option Addr) (capO : Nat) (chO : List Blk) (chs : List (List Blk)) (outs : List Img), v = .tuple #[.slice aO outs.length capO, .int .i64 0] ∧ OwnC chO 2 aO outs.length capO (imgCells outs) ∧ OwnImgs chs outs ∧ outs.map Img.pr = homeP (allP l) ∧ S' = S ++ (chO :: chs))) := by
  refine Tri.pack ((home_one S.flatten ⟨hG.sl.pack, fun g hg => ⟨(hG.each g hg).1.pack, (hG.each g hg).2⟩⟩ hl hall hfew x).mono ?_)
  rintro v J S' hJ (⟨h1, rfl, rfl⟩ | ⟨h1, h2, rfl, rfl⟩ | ⟨h1, h2, aO, capO, chO, chs, outs, rfl, h3, h4, h5, rfl⟩)
  · exact ⟨[], rfl, .inl ⟨h1, rfl, by simp⟩⟩
  · exact ⟨[], rfl, .inr (.inl ⟨h1, h2, rfl, by simp⟩)⟩
  · exact ⟨chO :: chs, rfl, .inr (.inr ⟨h1, h2, aO, capO, chO, chs, outs, rfl, h3, h4, h5, rfl⟩)⟩
theorem OwnImgs.at' : ∀ {cs : List (List Blk)} {gs : List Img}, OwnImgs cs gs → ∀ g ∈ gs, ∃ (i : Nat) (c : List Blk), cs[i]? = some c ∧ OwnB c g.a g.len g.cap g.data
  | [], [], _, g, hg => by simp at hg
  | c :: cs, x :: gs, h, g, hg => by
    rcases List.mem_cons.1 hg with rfl | hg
    · exact ⟨0, c, rfl, h.1⟩
    · obtain ⟨i, c', hi, ho⟩ := OwnImgs.at' h.2 g hg
      exact ⟨i + 1, c', hi, ho⟩
  | [], _ :: _, h, _, _ => h.elim
  | _ :: _, [], h, _, _ => h.elim
end Go.Proofs.YtegdcjnjnoeinaaGreat
namespace Go.Proofs.YtegdcjnjnoeinaaGreat
open Go.RowKit Go.Sl
set_option maxRecDepth 20000

theorem SlC.split {I : Imm} {S : St} {a : Option Addr} {n : Nat} {vs : List Value} (h : SlC I S a n vs) (hn : n ≠ 0) : ∃ b off, a = some ⟨b, off, none⟩ ∧ Cells I S b off n vs := by
  rcases h.mem with h0 | h
  · exact absurd h0 hn
  · exact h
end Go.Proofs.YtegdcjnjnoeinaaGreat
namespace Go.Proofs.YtegdcjnjnoeinaaGreat
open Go.RowKit Go.Sl
set_option maxRecDepth 20000

theorem get_supL {s : Sup} (h : RightS s) : getS (supL s) = some s := getS_some.2 ⟨h, rfl⟩
end Go.Proofs.YtegdcjnjnoeinaaGreat
namespace Go.Proofs.YtegdcjnjnoeinaaGreat
open Go.RowKit Go.Sl
set_option maxRecDepth 20000

theorem super_PutF (s : Sup) (I : Imm) : Tri Tryz.prog 124 #[s.v] I [] fun v J _ =>
    (¬ RightS s ∧ v = .tuple #[.slice none 0 0, .int .i64 2]) ∨ (RightS s ∧ ∃ a cap, v = .tuple #[.slice a 4096 cap, .int .i64 0] ∧ Rds J a 4096 (bts (supL s))) := by
  by_cases hR : RightS s
  · refine Tri.fixed (super_Put s I) ?_
    rintro v J S' hJ ⟨rfl, ⟨h, _⟩ | ⟨_, a, cap, ch, rfl, hown, rfl⟩⟩
    · exact absurd hR h
    · exact ⟨0, ch, rfl, fun J' hJ' hm => .inr ⟨hR, a, cap, rfl, Rds.of_own hown hm⟩⟩
  · refine (super_Put s I).mono ?_
    rintro v J S' hJ ⟨rfl, ⟨_, rfl, rfl⟩ | ⟨h, _⟩⟩
    · exact .inl ⟨hR, rfl⟩
    · exact absurd h hR
def wrImgs : List PImg → DSt → DSt × Int
  | [], d => (d, 0)
  | g :: gs, d => if (d.write g.1 g.2).2 ≠ 0 then d.write g.1 g.2 else wrImgs gs (d.write g.1 g.2).1
def DoOk (d : DSt) (l : List PImg) : Prop := ∀ g ∈ l, 2 ≤ g.1 ∧ g.1 < d.now.length ∧ g.2.length = 4096
instance (d : DSt) (l : List PImg) : Decidable (DoOk d l) := by unfold DoOk; infer_instance
def lastWr (d : DSt) (slot : Int) (s : Sup) : DSt × Int := if (d.write slot (supL s)).2 ≠ 0 then d.write slot (supL s) else (d.write slot (supL s)).1.flush
def doP (d : DSt) (l : List PImg) (s : Sup) (slot : Int) : DSt × Int :=
  if ¬ RightS s ∨ slot < 0 ∨ 1 < slot ∨ ¬ DoOk d l then (d, 2) else if (wrImgs l d).2 ≠ 0 then wrImgs l d else if (wrImgs l d).1.flush.2 ≠ 0 then (wrImgs l d).1.flush else lastWr (wrImgs l d).1.flush.1 slot s
theorem wrImgs_few : ∀ (l : List PImg) (d : DSt) (k : Nat), d.Few k → (wrImgs l d).1.Few (k + l.length)
  | [], _, _, h => h
  | g :: l, d, k, h => by
    have h1 := h.write g.1 g.2
    rw [wrImgs]
    split
    · exact h1.mono (by simp)
    · have := wrImgs_few l _ _ h1
      rw [List.length_cons]
      exact this.mono (by omega)
set_option maxHeartbeats 4000000 in
theorem dk_Do {I : Imm} {bD : Nat} {d : DSt} {ch : List Blk} (hD : Dk I bD d ch) (k : Nat) (hf : d.Few k) (aL : Option Addr) (capL : Nat) (gs : List Img) (hi : ImgsOk I aL gs) (hk : k + gs.length ≤ 900000) (s : Sup) (slot : Int) :
    Tri Tryz.prog 93 #[.pointer (some ⟨bD, 0, none⟩), .slice aL gs.length capL, s.v, .int .i64 slot] I [ch] fun v J S' => v = .int .i64 (doP d (gs.map Img.pr) s slot).2 ∧ ∃ ch', Dk J bD (doP d (gs.map Img.pr) s slot).1 ch' ∧ S' = [ch'] := by
  have hr := hD.wf.range
  refine Tri.drop ?_ (fun _ _ _ _ h => h)
  refine Tri.of (args := [.pointer (some ⟨bD, 0, none⟩), .slice aL gs.length capL, s.v, .int .i64 slot]) tabOk Tryz.func93 rfl (by kernel_rfl) (by kernel_rfl) ?_
  conv => whnf
  intro b6
  refine Tri.frame1 0 rfl (dk_Size hD) ?_
  rintro v J S' hJ ⟨rfl, rfl, rfl⟩
  refine ⟨_, rfl, ?_⟩
  refine CmpD.no (by omega) ?_
  repeat (first | refine LoadD.own 1 rfl _ rfl rfl ?_)
  unfold doP
  refine Tri.free (super_PutF s I) ?_
  rintro v J _ hJ (⟨hR, rfl⟩ | ⟨hR, aB, capB, rfl, hB⟩)
  · repeat (first | refine CmpD.no (by decide) ?_)
    refine Done.mk ⟨[ch], Drop.pick [0] _ rfl, ?_⟩
    rw [if_pos (.inl hR)]
    exact ⟨rfl, ch, hD.mono hJ, rfl⟩
  repeat (first | refine CmpD.yes rfl ?_)
  refine CmpD.split (fun c1 => ?_) (fun c1 => ?_)
  · skip
    refine Done.mk ⟨[ch], Drop.pick [0] _ rfl, ?_⟩
    rw [if_pos (.inr (.inl c1))]
    exact ⟨rfl, ch, hD.mono hJ, rfl⟩
  refine CmpD.split (fun c2 => ?_) (fun c2 => ?_)
  · skip
    refine Done.mk ⟨[ch], Drop.pick [0] _ rfl, ?_⟩
    rw [if_pos (.inr (.inr (.inl c2)))]
    exact ⟨rfl, ch, hD.mono hJ, rfl⟩
  have hDJ := hD.mono hJ
  have hiJ := hi.mono hJ
  skip
  refine CodeF.loopD [0, 1, 3, 9, 36, 37, 38] (fun vs J' S' => ∃ (i : Nat), i ≤ gs.length ∧ DoOk d ((gs.take i).map Img.pr) ∧ vs = [.pointer (some ⟨bD, 0, none⟩), .slice aL gs.length capL, .int .i64 slot, .slice aB 4096 capB, .slice aL gs.length capL, .int .i64 gs.length, .int .i64 i] ∧ J = J' ∧ S' = [ch])
    (fun vs _ _ => match vs with | [_, _, _, _, _, _, .int _ i] => ((gs.length : Int) - i).toNat | _ => 0) ?_ ?_
  · exact ⟨_, Drop.pick [0] _ rfl, 0, by omega, by intro g hg; simp at hg, rfl, rfl, rfl⟩
  rintro vs gE J' S' hJ' ⟨i, hil, hok, rfl, rfl, rfl⟩
  refine CmpD.split (fun c3 => ?_) (fun c3 => ?_)
  · have hlt : i < gs.length := by omega
    rcases hiJ.1.mem with q0 | ⟨bA, oA, cA, TA, fA, rfl, hIA, hcA⟩
    · omega
    have hcell := take_part hcA (i := i * 2) (m := 2) (by omega)
    rw [imgCells_at hlt] at hcell
    have hmem : gs[i] ∈ gs := List.getElem_mem hlt
    have htk : gs.take (i + 1) = gs.take i ++ [gs[i]] := by rw [List.take_add_one, List.getElem?_eq_getElem hlt]; rfl
    have hlen := hiJ.len hmem
    have bad : ¬ (2 ≤ gs[i].blk ∧ gs[i].blk < d.now.length ∧ gs[i].len = 4096) → ∃ S'', Drop [ch, [(b6, row [.int .i64 s.blocks, .int .i64 s.epoch, .int .i64 s.seq, .int .i64 s.tail] 143)]] S'' ∧ True := fun _ => ⟨[ch], Drop.pick [0] _ rfl, trivial⟩
    have no : ¬ (2 ≤ gs[i].blk ∧ gs[i].blk < d.now.length ∧ gs[i].len = 4096) → ¬ DoOk d (gs.map Img.pr) := by
      intro h h'
      have := h' gs[i].pr (List.mem_map_of_mem hmem)
      exact h ⟨this.1, this.2.1, by rw [← hlen]; exact this.2.2⟩
    clear bad
    generalize gs[i] = g at *
    refine Chk.mk (by omega) ?_
    refine LoadD.imm hIA _ hcell rfl ?_
    conv => whnf
    intro b12
    repeat (first | refine StoreD.st 1 rfl rfl rfl ?_)
    refine CodeF.sched [[], [0], [0, 1], [0, 1, 2], [0, 1, 2, 3], [0, 1, 2, 3, 4], [0, 1, 2, 3], [0, 1, 2, 3, 6], [0, 1, 2, 3, 4, 5, 6, 7], [0, 1, 2, 3, 4, 5, 6, 7, 8], [0, 1, 2, 3, 4, 5, 6, 7, 8, 9], [0, 1, 2, 3, 4, 5, 6, 7, 8, 9, 10], [0, 1, 2, 3, 4, 5, 6, 7, 8, 9, 10, 11], [0, 1, 2, 3, 4, 5, 6, 7, 8, 9, 10, 11, 12], [0, 1, 2, 3, 4, 5, 6, 7, 8, 9, 10, 11, 12, 13], [0, 1, 2, 3, 4, 5, 6, 7, 8, 9, 10, 11, 12, 13, 14]] [0, 1, 2, 3, 4, 5, 6, 7, 8, 9, 10, 11, 12, 13, 14, 15] (by kernel_rfl) ?_
    repeat (first | refine LoadP.at 1 rfl _ rfl rfl ?_)
    refine CmpD.split (fun c4 => ?_) (fun c4 => ?_)
    · skip
      refine Done.mk ⟨[ch], Drop.pick [0] _ rfl, ?_⟩
      rw [if_pos (.inr (.inr (.inr (no (fun h => by omega)))))]
      exact ⟨rfl, ch, hDJ, rfl⟩
    repeat (first | refine LoadP.at 1 rfl _ rfl rfl ?_)
    refine Tri.frame1 0 rfl (dk_Size hDJ) ?_
    rintro v J2 S' hJ2 ⟨rfl, rfl, rfl⟩
    refine ⟨_, rfl, ?_⟩
    repeat (first | refine Chk.mk ⟨rfl, trivial⟩ ?_)
    refine CmpD.split (fun c5 => ?_) (fun c5 => ?_)
    · skip
      refine Done.mk ⟨[ch], Drop.pick [0] _ rfl, ?_⟩
      rw [if_pos (.inr (.inr (.inr (no (fun h => by omega)))))]
      exact ⟨rfl, ch, hDJ, rfl⟩
    repeat (first | refine LoadP.at 1 rfl _ rfl rfl ?_)
    refine CmpD.split (fun c6 => ?_) (fun c6 => ?_)
    rotate_left
    · skip
      refine Done.mk ⟨[ch], Drop.pick [0] _ rfl, ?_⟩
      rw [if_pos (.inr (.inr (.inr (no (fun h => by omega)))))]
      exact ⟨rfl, ch, hDJ, rfl⟩
    skip
    refine ToD.i64 (by omega) (by omega) ?_
    refine ⟨[ch], Drop.pick [0] _ rfl, ⟨i + 1, by omega, ?_, rfl, rfl, rfl⟩, ?_⟩
    · rw [htk, List.map_append]
      intro q hq
      rcases List.mem_append.1 hq with hq | hq
      · exact hok q hq
      · simp only [List.map_cons, List.map_nil, List.mem_singleton] at hq
        subst hq
        exact ⟨by show 2 ≤ g.blk; omega, by show g.blk < _; omega, by show g.data.length = _; omega⟩
    · show ((gs.length : Int) - ((i : Int) + 1)).toNat < ((gs.length : Int) - (i : Int)).toNat
      omega
  · obtain rfl : i = gs.length := by omega
    rw [List.take_length] at hok
    rw [if_neg (by rintro (h | h | h | h); exact h hR; exact c1 h; exact c2 h; exact h hok)]
    obtain ⟨W, hW⟩ : ∃ W, W = wrImgs (gs.map Img.pr) d := ⟨_, rfl⟩
    have hWf : W.1.Few (k + gs.length) := by rw [hW]; have := wrImgs_few (gs.map Img.pr) d k hf; rwa [List.length_map] at this
    rw [← hW]
    refine CodeF.loopD [0, 3, 9, 59, 60, 61] (fun vs J' S' => ∃ (i : Nat) (d' : DSt) (ch' : List Blk), i ≤ gs.length ∧ W = wrImgs ((gs.drop i).map Img.pr) d' ∧ d'.Few (k + i) ∧ Dk J' bD d' ch' ∧ J.le J' ∧ vs = [.pointer (some ⟨bD, 0, none⟩), .int .i64 slot, .slice aB 4096 capB, .slice aL gs.length capL, .int .i64 gs.length, .int .i64 i] ∧ S' = [ch'])
      (fun vs _ _ => match vs with | [_, _, _, _, _, .int _ i] => ((gs.length : Int) - i).toNat | _ => 0) ?_ ?_
    · exact ⟨[ch], Drop.refl _, 0, d, ch, by omega, by rw [hW]; rfl, hf, hDJ, J.le_refl, rfl, rfl⟩
    rintro vs gE2 J2 S2 hJ2 ⟨i, d', ch', hil2, hWi, hfi, hDi, hle, rfl, rfl⟩
    refine CmpD.split (fun c4 => ?_) (fun c4 => ?_)
    · have hlt : i < gs.length := by omega
      rcases hiJ.1.mem with q0 | ⟨bA, oA, cA, TA, fA, rfl, hIA, hcA⟩
      · omega
      have hcell := take_part hcA (i := i * 2) (m := 2) (by omega)
      rw [imgCells_at hlt] at hcell
      have hmem : gs[i] ∈ gs := List.getElem_mem hlt
      have hlen := hiJ.len hmem
      have hok2 := hok gs[i].pr (List.mem_map_of_mem hmem)
      have hdata := (hiJ.2 _ hmem).2
      have hdr : gs.drop i = gs[i] :: gs.drop (i + 1) := List.drop_eq_getElem_cons hlt
      generalize gs[i] = g at *
      rw [hdr, List.map_cons, wrImgs] at hWi
      refine Chk.mk (by omega) ?_
      refine LoadD.imm (hle _ _ hIA) _ hcell rfl ?_
      conv => whnf
      intro b14
      repeat (first | refine LoadD.own 1 rfl _ rfl rfl ?_ | refine StoreD.st 1 rfl rfl rfl ?_)
      refine Tri.frame1 0 rfl (dk_Write hDi (hfi.mono (by omega)) g.blk g.a g.len g.cap g.data (hdata.mono hle)) ?_
      rintro v J3 S3 hJ3 ⟨rfl, ch3, hD3, rfl⟩
      refine ⟨_, rfl, ?_⟩
      refine CmpD.split (fun c5 => ?_) (fun c5 => ?_)
      · rw [if_neg (by simpa using c5)] at hWi
        skip
        refine ToD.i64 (by omega) (by omega) ?_
        refine ⟨[ch3], Drop.pick [0] _ rfl, ⟨i + 1, _, ch3, by omega, hWi, hfi.write _ _, hD3, Imm.le_trans hle hJ3, rfl, rfl⟩, ?_⟩
        show ((gs.length : Int) - ((i : Int) + 1)).toNat < ((gs.length : Int) - (i : Int)).toNat
        omega
      · rw [if_pos c5] at hWi
        skip
        refine Done.mk ⟨[ch3], Drop.pick [0] _ rfl, ?_⟩
        rw [hWi, if_pos c5]
        exact ⟨rfl, ch3, hD3, rfl⟩
    · obtain rfl : i = gs.length := by omega
      rw [List.drop_length, List.map_nil, wrImgs] at hWi
      subst hWi
      dsimp only at hWf ⊢
      rw [if_neg (by simp)]
      refine Tri.frame1 0 rfl (dk_Flush hDi) ?_
      rintro v J3 S3 hJ3 ⟨rfl, ch3, hD3, rfl⟩
      refine ⟨_, rfl, ?_⟩
      refine CmpD.split (fun c5 => ?_) (fun c5 => ?_)
      rotate_left
      · skip
        refine Done.mk ⟨[ch3], Drop.refl _, ?_⟩
        rw [if_pos c5]
        exact ⟨rfl, ch3, hD3, rfl⟩
      rw [if_neg (by simpa using c5)]
      unfold lastWr
      refine Tri.frame1 0 rfl (dk_Write hD3 (hWf.flush.mono (by omega)) slot aB 4096 capB (supL s) (hB.mono (Imm.le_trans hle hJ3))) ?_
      rintro v J4 S4 hJ4 ⟨rfl, ch4, hD4, rfl⟩
      refine ⟨_, rfl, ?_⟩
      refine CmpD.split (fun c6 => ?_) (fun c6 => ?_)
      rotate_left
      · skip
        refine Done.mk ⟨[ch4], Drop.refl _, ?_⟩
        rw [if_pos c6]
        exact ⟨rfl, ch4, hD4, rfl⟩
      rw [if_neg (by simpa using c6)]
      refine Tri.frame1 0 rfl (dk_Flush hD4) ?_
      rintro v J5 S5 hJ5 ⟨rfl, ch5, hD5, rfl⟩
      refine ⟨_, rfl, ?_⟩
      exact Done.mk ⟨[ch5], Drop.refl _, rfl, ch5, hD5, rfl⟩
end Go.Proofs.YtegdcjnjnoeinaaGreat
namespace Go.Proofs.YtegdcjnjnoeinaaGreat
open Go.RowKit Go.Sl
set_option maxRecDepth 20000

/-- what stands between stamps -/
def gatK (b : List UInt8) : Nat → List UInt8
  | 0 => []
  | k + 1 => gatK b k ++ (b.drop (k * 512 + 8)).take 504
theorem gatK_zero (b : List UInt8) : gatK b 0 = [] := rfl
theorem gatK_succ (b : List UInt8) (k : Nat) : gatK b (k + 1) = gatK b k ++ (b.drop (k * 512 + 8)).take 504 := rfl
attribute [irreducible] gatK
theorem gatK_length {b : List UInt8} (h : b.length = 4096) : ∀ k, k ≤ 8 → (gatK b k).length = 504 * k
  | 0, _ => by rw [gatK_zero]; rfl
  | k + 1, hk => by rw [gatK_succ, List.length_append, gatK_length h k (by omega), List.length_take, List.length_drop]; omega
theorem gathered_own (I : Imm) (b off cap : Nat) (l : List UInt8) (h : Rds I (some ⟨b, off, none⟩) 4096 (bts l)) (hcap : 4096 ≤ cap) :
    Tri Tryz.prog 263 #[.slice (some ⟨b, off, none⟩) 4096 cap] I [] fun v J S' => ∃ a' cap' ch, v = .slice a' 4032 cap' ∧ OwnB ch a' 4032 cap' (gatK l 8) ∧ I = J ∧ S' = [ch] := by
  have hll : l.length = 4096 := by rw [← bts_length, h.len]
  refine Tri.lay (S2 := [[]]) (by simp) ?_
  refine Tri.drop ?_ (fun _ _ _ _ h => h)
  refine Tri.of (args := [.slice (some ⟨b, off, none⟩) 4096 cap]) tabOk Tryz.func263 rfl (by kernel_rfl) (by kernel_rfl) ?_
  conv => whnf
  intro b3
  refine Tri.frame (chunk_of (some ⟨b, off, none⟩) 4096 cap 512 (by omega) I) [] rfl rfl ?_
  rintro v J A' hJ ⟨c1, c2, rfl, rfl, rfl⟩
  refine ⟨by simp, ?_⟩
  refine CodeF.rangeF rfl [[], [(b3, row [.slice none 0 0] 32)]] (chunkBoxes c1 c2 (some ⟨b, off, none⟩) 4096 cap 512) ⟨[], by simp; rfl⟩ _ _ (chunk_at c1 c2 b off 4096 cap 512 (by omega) hcap (by omega) I)
    (fun i J' S' => i ≤ 8 ∧ I = J' ∧ ∃ ah caph chH, S' = [chH, [(b3, row [.slice ah (504 * i) caph] 32)]] ∧ OwnB chH ah (504 * i) caph (gatK l i))
    (fun _ _ _ => False) ⟨by omega, rfl, none, 0, [], rfl, by rw [gatK_zero]; exact OwnC.nil _ _⟩ ?round ?done ?stop
  case round =>
    rintro i x J' S' hJ' ⟨hi, rfl⟩ ⟨hi2, rfl, ah, caph, chH, rfl, hownH⟩
    have hmin : min 512 (4096 - i * 512) = 512 := by omega
    rw [hmin]
    refine CodeF.sched [[], [], [], [2], [2, 3], [1, 2, 3, 4], [0, 1, 2, 3, 4, 5], [0, 1, 2, 3, 4, 5, 6]] [0, 1, 2, 3, 4, 5, 6, 7] (by kernel_rfl) ?_
    refine LoadP.at 1 rfl _ rfl rfl ?_
    refine ToD.to (8 : Int) (by decide) ?_
    refine sliceD tabOk rfl rfl rfl rfl 8 512 512 ⟨_, rfl⟩ rfl rfl (.inl rfl) (by omega) ?_
    refine Chk.mk ⟨rfl, trivial⟩ ?_
    have hx : slAddr (some ⟨b, off + i * 512, none⟩) 8 512 1 = some ⟨b, off + i * 512 + 8, none⟩ := by simp [slAddr, add_none]
    have hcells : SlC I [chH, [(b3, row [.slice ah (504 * i) caph] 32)]] (some ⟨b, off + i * 512 + 8, none⟩) (504 * 1) (bts ((l.drop (i * 512 + 8)).take 504)) := by
      have := (Rds_part h (i * 512 + 8) 504 (by omega)).slC (S := [chH, [(b3, row [.slice ah (504 * i) caph] 32)]])
      rw [Nat.mul_one]
      exact this
    refine appendD tabOk rfl rfl rfl rfl rfl rfl rfl 0 rfl hownH (SrcOk.slice (n := 504) tabOk rfl (by show SlC _ _ (slAddr (some ⟨b, off + i * 512, none⟩) 8 512 1) _ _; rw [hx]; exact hcells) (bts_plain _)) rfl (by show (504 * i + 504) * 1 ≤ _; omega) (by omega) ?_
    intro ah' caph' chH' hownH'
    refine StoreD.st 1 rfl rfl rfl ?_
    have e5 : 504 * i + 504 = 504 * (i + 1) := by omega
    refine ⟨_, Drop.refl _, by omega, rfl, ah', caph', chH', by rw [← e5]; rfl, ?_⟩
    rw [gatK_succ, ← e5, OwnB, bts_append]
    exact hownH'
  case done =>
    rintro i J' S' hJ' hf ⟨hi2, rfl, ah, caph, chH, rfl, hownH⟩
    obtain rfl : i = 8 := by omega
    refine LoadD.own 1 rfl _ rfl rfl ?_
    exact Done.mk ⟨_, Drop.pick [0] _ rfl, ah, caph, chH, rfl, hownH, rfl, rfl⟩
  case stop =>
    rintro e J' S' hJ' hs
    exact hs.elim
/-! ### Stamped -/
def stampOk (b : List UInt8) (m : List UInt8) : Nat → Prop
  | 0 => True
  | k + 1 => stampOk b m k ∧ (b.drop (k * 512)).take 8 = m
instance stampDec (b m : List UInt8) : ∀ k, Decidable (stampOk b m k)
  | 0 => isTrue trivial
  | k + 1 => by unfold stampOk; have := stampDec b m k; infer_instance
theorem stampOk_iff (b m : List UInt8) : ∀ n, stampOk b m n ↔ ∀ k, k < n → (b.drop (k * 512)).take 8 = m
  | 0 => by simp [stampOk]
  | n + 1 => by
    rw [stampOk, stampOk_iff b m n]
    constructor
    · rintro ⟨h1, h2⟩ k hk
      rcases Nat.lt_or_ge k n with g | g
      · exact h1 k g
      · obtain rfl : k = n := by omega
        exact h2
    · exact fun h => ⟨fun k hk => h k (by omega), h n (by omega)⟩
def Stmp (b : List UInt8) (e s : Int) : Prop := b.length = 4096 ∧ 1 ≤ e ∧ e ≤ 8388608 ∧ 1 ≤ s ∧ s ≤ 549755813888 ∧ ∀ k, k < 8 → (b.drop (k * 512)).take 8 = stampB e.toNat s.toNat
theorem stamped_of (I : Imm) (a : Option Addr) (len cap : Nat) (l : List UInt8) (h : Rds I a len (bts l)) (hcap : len ≤ cap) (e s : Int) :
    Tri Tryz.prog 253 #[.slice a len cap, .int .i64 e, .int .i64 s] I [] fun v _ _ => ∃ br, v = .bool br ∧ (br = true ↔ Stmp l e s) := by
  have hll : l.length = len := by rw [← bts_length, h.len]
  refine Tri.of (args := [.slice a len cap, .int .i64 e, .int .i64 s]) tabOk Tryz.func253 rfl (by kernel_rfl) (by kernel_rfl) ?_
  conv => whnf
  intro b6
  have no : ∀ {p : Prop}, (Stmp l e s → p) → ¬ p → (false = true ↔ Stmp l e s) := fun h1 h2 => by simp only [Bool.false_eq_true, false_iff]; exact fun h3 => h2 (h1 h3)
  refine CmpD.split (fun c1 => ?_) (fun c1 => ?_)
  rotate_left
  · repeat (first | refine LoadD.own 0 rfl _ rfl rfl ?_ | refine StoreD.st 0 rfl rfl rfl ?_)
    exact Done.mk ⟨false, rfl, no (fun h => h.1) (by omega)⟩
  skip
  refine CmpD.split (fun c2 => ?_) (fun c2 => ?_)
  · repeat (first | refine LoadD.own 0 rfl _ rfl rfl ?_ | refine StoreD.st 0 rfl rfl rfl ?_)
    exact Done.mk ⟨false, rfl, no (fun h => h.2.1) (by omega)⟩
  skip
  refine CmpD.split (fun c3 => ?_) (fun c3 => ?_)
  · repeat (first | refine LoadD.own 0 rfl _ rfl rfl ?_ | refine StoreD.st 0 rfl rfl rfl ?_)
    exact Done.mk ⟨false, rfl, no (fun h => h.2.2.1) (by omega)⟩
  skip
  refine CmpD.split (fun c4 => ?_) (fun c4 => ?_)
  · repeat (first | refine LoadD.own 0 rfl _ rfl rfl ?_ | refine StoreD.st 0 rfl rfl rfl ?_)
    exact Done.mk ⟨false, rfl, no (fun h => h.2.2.2.1) (by omega)⟩
  skip
  refine CmpD.split (fun c5 => ?_) (fun c5 => ?_)
  · repeat (first | refine LoadD.own 0 rfl _ rfl rfl ?_ | refine StoreD.st 0 rfl rfl rfl ?_)
    exact Done.mk ⟨false, rfl, no (fun h => h.2.2.2.2.1) (by omega)⟩
  obtain rfl : len = 4096 := by omega
  obtain ⟨en, rfl⟩ : ∃ en : Nat, e = en := ⟨e.toNat, by omega⟩
  obtain ⟨sn, rfl⟩ : ∃ sn : Nat, s = sn := ⟨s.toNat, by omega⟩
  rcases h.mem with q0 | ⟨b, off, c, T, fr, rfl, hIb, hc⟩
  · omega
  skip
  refine Tri.free (stamp_fix en sn (by omega) (by omega) I) ?_
  rintro v J _ hJ1 ⟨aM, capM, rfl, hM⟩
  have hJ := h.mono hJ1
  obtain ⟨m, hm⟩ : ∃ m, m = stampB en sn := ⟨_, rfl⟩
  rw [← hm] at hM
  have hst : ∀ {p : Prop}, (stampOk l m 8 → p) → ¬ p → (false = true ↔ Stmp l en sn) := fun h1 h2 => no (fun h3 => h1 ((stampOk_iff l m 8).2 (by rw [hm]; exact h3.2.2.2.2.2))) h2
  conv => whnf
  intro b7
  repeat (first | refine StoreD.st 1 rfl rfl rfl ?_)
  refine Tri.frame (stamps_of (some ⟨b, off, none⟩) 4096 cap J) [] rfl rfl ?_
  rintro v J2 A' hJ2 ⟨bS, rfl, rfl, rfl⟩
  refine ⟨by simp, ?_⟩
  refine CodeF.rangeF rfl [[(b6, row [.bool false] 4)], [(b7, row [.slice aM 8 capM] 32)]] [[(bS, row [.slice (some ⟨b, off, none⟩) 4096 cap] 32)]] ⟨[], by simp; rfl⟩ _ _ (stamps_it bS b off 4096 cap hcap (by omega) (by omega) J)
    (fun i J' S' => i ≤ 8 ∧ J = J' ∧ stampOk l m i ∧ S' = [[(b6, row [.bool false] 4)], [(b7, row [.slice aM 8 capM] 32)]])
    (fun e J' S' => e = .ret ∧ (false = true ↔ Stmp l en sn) ∧ S' = [[(b6, row [.bool false] 4)]]) ⟨by omega, rfl, trivial, rfl⟩ ?round ?done ?stop
  case round =>
    rintro i x J' S' hJ' ⟨hi, rfl⟩ ⟨hi2, rfl, hok, rfl⟩
    refine LoadD.own 1 rfl _ rfl rfl ?_
    refine Tri.nf (bytes_Equal (Rds_part hJ (i * 512) 8 (by omega)).slC hM.slC) ?_
    rintro v J3 S3 hJ3 ⟨rfl, rfl, rfl⟩
    by_cases hd : (l.drop (i * 512)).take 8 = m
    · rw [decide_eq_true hd]
      exact ⟨_, Drop.refl _, by omega, rfl, ⟨hok, hd⟩, rfl⟩
    · rw [decide_eq_false hd]
      refine StoreD.st 0 rfl rfl rfl ?_
      refine ⟨_, Drop.pick [0] _ rfl, rfl, hst (fun h => (stampOk_iff l m 8).1 h i (by omega)) hd, rfl⟩
  case done =>
    rintro i J' S' hJ' hf ⟨hi2, rfl, hok, rfl⟩
    obtain rfl : i = 8 := by omega
    refine StoreD.st 0 rfl rfl rfl ?_
    refine LoadD.own 0 rfl _ rfl rfl ?_
    refine Done.mk ⟨true, rfl, ?_⟩
    simp only [true_iff]
    refine ⟨by omega, by omega, by omega, by omega, by omega, ?_⟩
    have := (stampOk_iff l m 8).1 hok
    rw [hm] at this
    exact this
  case stop =>
    rintro e J' S' hJ' ⟨rfl, hno, rfl⟩
    refine LoadD.own 0 rfl _ rfl rfl ?_
    exact Done.mk ⟨false, rfl, hno⟩
/-! ### shown -/
/-- a block with what the stamps hid -/
def shoK (b hid : List UInt8) : Nat → List UInt8
  | 0 => b
  | k + 1 => put8 (shoK b hid k) ((hid.drop (8 * k)).take 8) k
theorem shoK_zero (b hid : List UInt8) : shoK b hid 0 = b := rfl
theorem shoK_succ (b hid : List UInt8) (k : Nat) : shoK b hid (k + 1) = put8 (shoK b hid k) ((hid.drop (8 * k)).take 8) k := rfl
attribute [irreducible] shoK
theorem put8_length {l m : List UInt8} {k : Nat} (hm : m.length = 8) (hl : l.length = 4096) (hk : k < 8) : (put8 l m k).length = 4096 := by
  unfold put8
  simp only [List.length_append, List.length_take, List.length_drop, hm, hl]
  omega
theorem hid_part {hid : List UInt8} (h : hid.length = 64) {k : Nat} (hk : k < 8) : ((hid.drop (8 * k)).take 8).length = 8 := by
  rw [List.length_take, List.length_drop]; omega
theorem shoK_length {b hid : List UInt8} (hb : b.length = 4096) (hh : hid.length = 64) : ∀ k, k ≤ 8 → (shoK b hid k).length = 4096
  | 0, _ => by rw [shoK_zero]; exact hb
  | k + 1, hk => by rw [shoK_succ]; exact put8_length (hid_part hh (by omega)) (shoK_length hb hh k (by omega)) (by omega)
theorem shown_own (I : Imm) (a : Option Addr) (cap : Nat) (l : List UInt8) (h : Rds I a 4096 (bts l)) (bH offH capH : Nat) (hid : List UInt8) (hH : Rds I (some ⟨bH, offH, none⟩) 64 (bts hid)) (hcapH : 64 ≤ capH) :
    Tri Tryz.prog 254 #[.slice a 4096 cap, .slice (some ⟨bH, offH, none⟩) 64 capH] I [] fun v J S' => ∃ a' cap' ch, v = .slice a' 4096 cap' ∧ OwnB ch a' 4096 cap' (shoK l hid 8) ∧ I = J ∧ S' = [ch] := by
  have hll : l.length = 4096 := by rw [← bts_length, h.len]
  have hhl : hid.length = 64 := by rw [← bts_length, hH.len]
  refine Tri.drop ?_ (fun _ _ _ _ h => h)
  refine Tri.of (args := [.slice a 4096 cap, .slice (some ⟨bH, offH, none⟩) 64 capH]) tabOk Tryz.func254 rfl (by kernel_rfl) (by kernel_rfl) ?_
  conv => whnf
  intro b3
  refine (clone_bytes I _ a 4096 cap (bts l) (by rw [Nat.mul_one]; exact h.slC) (bts_plain l) (by omega)).mono ?_
  rintro v J S' hJ ⟨a1, cap1, ch1, rfl, hown1, rfl, rfl⟩
  rcases hown1.at' with q0 | ⟨bO, pre, post, TO, rfl, rfl, hpost⟩
  · have := hown1.le; omega
  refine Tri.frame (stamps_of (some ⟨bO, pre.length, none⟩) 4096 cap1 I) [] rfl rfl ?_
  rintro v J A' hJ ⟨bS, rfl, rfl, rfl⟩
  refine ⟨by simp, ?_⟩
  refine CodeF.rangeF rfl [[(b3, row [.slice (some ⟨bH, offH, none⟩) 64 capH] 32)], [(bO, row (pre ++ bts l ++ post) TO)]] [[(bS, row [.slice (some ⟨bO, pre.length, none⟩) 4096 cap1] 32)]] ⟨[], by simp⟩ _ _ (stamps_it bS bO pre.length 4096 cap1 hown1.le (by omega) (by omega) I)
    (fun i J' S' => i ≤ 8 ∧ I = J' ∧ ∃ aH, (i < 8 → aH = some ⟨bH, offH + 8 * i, none⟩) ∧ S' = [[(b3, row [.slice aH (64 - 8 * i) (capH - 8 * i)] 32)], [(bO, row (pre ++ bts (shoK l hid i) ++ post) TO)]])
    (fun _ _ _ => False) ⟨by omega, rfl, _, fun _ => rfl, by rw [shoK_zero]; rfl⟩ ?round ?done ?stop
  case round =>
    rintro i x J' S' hJ' ⟨hi, rfl⟩ ⟨hi2, rfl, aH, haH, rfl⟩
    have hi8 : i < 8 := by omega
    obtain rfl := haH hi8
    have hXl := shoK_length hll hhl i (by omega)
    refine LoadD.own 0 rfl _ rfl rfl ?_
    refine sliceD tabOk rfl rfl rfl rfl 0 8 (capH - 8 * i) rfl ⟨_, rfl⟩ rfl (.inl rfl) (by omega) ?_
    have hx : slAddr (some ⟨bH, offH + 8 * i, none⟩) 0 (capH - 8 * i) 1 = some ⟨bH, offH + 8 * i, none⟩ := by unfold slAddr; split <;> simp [add_none]
    have hpart := hid_part hhl hi8
    have hcells : SlC I [[(b3, row [.slice (some ⟨bH, offH + 8 * i, none⟩) (64 - 8 * i) (capH - 8 * i)] 32)], [(bO, row (pre ++ bts (shoK l hid i) ++ post) TO)]] (some ⟨bH, offH + 8 * i, none⟩) (8 * 1) (bts ((hid.drop (8 * i)).take 8)) := (Rds_part hH (8 * i) 8 (by omega)).slC
    refine copyD tabOk rfl rfl rfl rfl rfl rfl rfl 1 rfl (SrcOk.slice (n := 8) tabOk rfl (by show SlC _ _ (slAddr (some ⟨bH, offH + 8 * i, none⟩) 0 (capH - 8 * i) 1) _ _; rw [hx]; exact hcells) (bts_plain _)) (Nat.le_refl _) (by simp only [List.length_append, bts_length]; show pre.length + i * 512 + 8 * 1 ≤ _; omega) (Nat.le_refl _) ?_
    have hsp : splice (pre ++ bts (shoK l hid i) ++ post) (pre.length + i * 512) (bts ((hid.drop (8 * i)).take 8)) = pre ++ bts (shoK l hid (i + 1)) ++ post := by
      rw [splice_mid _ _ _ _ _ (by rw [bts_length, bts_length]; omega), shoK_succ, bts_put8, bts_length, hpart]
    rw [hsp]
    refine LoadD.own 0 rfl _ rfl rfl ?_
    refine sliceD tabOk rfl rfl rfl rfl 8 (64 - 8 * i) (capH - 8 * i) ⟨_, rfl⟩ rfl rfl (.inl rfl) (by omega) ?_
    refine StoreD.st 0 rfl rfl rfl ?_
    refine ⟨_, Drop.refl _, by omega, rfl, slAddr (some ⟨bH, offH + 8 * i, none⟩) 8 (capH - 8 * i) 1, ?_, ?_⟩
    · intro h8
      unfold slAddr
      rw [if_neg (by omega)]
      simp [add_none, Nat.mul_add, Nat.add_assoc]
    · rw [show 64 - 8 * i - 8 = 64 - 8 * (i + 1) by omega, show capH - 8 * i - 8 = capH - 8 * (i + 1) by omega]; rfl
  case done =>
    rintro i J' S' hJ' hf ⟨hi2, rfl, aH, haH, rfl⟩
    obtain rfl : i = 8 := by omega
    exact Done.mk ⟨_, Drop.pick [1] _ rfl, _, _, _, rfl, ⟨by rw [bts_length, shoK_length hll hhl _ (by omega)], hown1.le, .inr ⟨bO, pre, post, TO, rfl, rfl, hpost⟩⟩, rfl, rfl⟩
  case stop =>
    rintro e J' S' hJ' hs
    exact hs.elim
end Go.Proofs.YtegdcjnjnoeinaaGreat
namespace Go.Proofs.YtegdcjnjnoeinaaGreat
open Go.RowKit Go.Sl
set_option maxRecDepth 20000

theorem put8_at {l m : Dat} {k j : Nat} (hm : m.length = 8) (hl : l.length = 4096) (hk : k < 8) :
    (put8 l m k)[j]? = if j / 512 = k ∧ j % 512 < 8 then m[j % 512]? else l[j]? := by
  unfold put8
  have h1 : (l.take (k * 512)).length = k * 512 := by rw [List.length_take]; omega
  rw [List.append_assoc]
  rcases Nat.lt_or_ge j (k * 512) with g | g
  · rw [List.getElem?_append_left (by omega), List.getElem?_take, if_pos g, if_neg (by omega)]
  rw [List.getElem?_append_right (by omega), h1]
  rcases Nat.lt_or_ge (j - k * 512) 8 with g2 | g2
  · rw [List.getElem?_append_left (by omega), if_pos (by omega)]
    congr 1; omega
  · rw [List.getElem?_append_right (by omega), hm, List.getElem?_drop]
    have e : k * 512 + 8 + (j - k * 512 - 8) = j := by omega
    rw [e, if_neg (by omega)]
theorem markK_at {m l : Dat} (hm : m.length = 8) (hl : l.length = 4096) : ∀ (n : Nat), n ≤ 8 → ∀ j, j < 4096 → (markK m l n)[j]? = if j / 512 < n ∧ j % 512 < 8 then m[j % 512]? else l[j]?
  | 0, _, j, _ => by rw [markK_zero, if_neg (by omega)]
  | n + 1, hn, j, hj => by
    rw [markK_succ, put8_at hm (by rw [markK_length hm n (by omega) (by omega)]; exact hl) (by omega), markK_at hm hl n (by omega) j hj]
    by_cases h1 : j / 512 = n ∧ j % 512 < 8
    · rw [if_pos h1, if_pos (by omega)]
    · rw [if_neg h1]
      by_cases h2 : j / 512 < n ∧ j % 512 < 8
      · rw [if_pos h2, if_pos (by omega)]
      · rw [if_neg h2, if_neg (by omega)]
theorem shoK_at {b hid : Dat} (hb : b.length = 4096) (hh : hid.length = 64) : ∀ (n : Nat), n ≤ 8 → ∀ j, j < 4096 → (shoK b hid n)[j]? = if j / 512 < n ∧ j % 512 < 8 then hid[8 * (j / 512) + j % 512]? else b[j]?
  | 0, _, j, _ => by rw [shoK_zero, if_neg (by omega)]
  | n + 1, hn, j, hj => by
    rw [shoK_succ, put8_at (hid_part hh (by omega)) (shoK_length hb hh n (by omega)) (by omega), shoK_at hb hh n (by omega) j hj]
    by_cases h1 : j / 512 = n ∧ j % 512 < 8
    · rw [if_pos h1, if_pos (by omega), List.getElem?_take, if_pos h1.2, List.getElem?_drop, h1.1]
    · rw [if_neg h1]
      by_cases h2 : j / 512 < n ∧ j % 512 < 8
      · rw [if_pos h2, if_pos (by omega)]
      · rw [if_neg h2, if_neg (by omega)]
theorem hidK_at {l : Dat} (hl : l.length = 4096) : ∀ (n : Nat), n ≤ 8 → ∀ i, i < 8 * n → (hidK l n)[i]? = l[i / 8 * 512 + i % 8]?
  | 0, _, i, hi => by omega
  | n + 1, hn, i, hi => by
    have hk := hidK_length l n (by omega) (by omega)
    rw [hidK_succ]
    rcases Nat.lt_or_ge i (8 * n) with g | g
    · rw [List.getElem?_append_left (by omega), hidK_at hl n (by omega) i g]
    · rw [List.getElem?_append_right (by omega), hk, List.getElem?_take, if_pos (by omega), List.getElem?_drop]
      congr 1; omega
theorem gatK_at {b : Dat} (hb : b.length = 4096) : ∀ (n : Nat), n ≤ 8 → ∀ i, i < 504 * n → (gatK b n)[i]? = b[i / 504 * 512 + 8 + i % 504]?
  | 0, _, i, hi => by omega
  | n + 1, hn, i, hi => by
    have hk := gatK_length hb n (by omega)
    rw [gatK_succ]
    rcases Nat.lt_or_ge i (504 * n) with g | g
    · rw [List.getElem?_append_left (by omega), gatK_at hb n (by omega) i g]
    · rw [List.getElem?_append_right (by omega), hk, List.getElem?_take, if_pos (by omega), List.getElem?_drop]
      congr 1; omega
theorem sprK_at {m l : Dat} (hm : m.length = 8) (hl : l.length = 4032) : ∀ (n : Nat), n ≤ 8 → ∀ j, j < 512 * n → (sprK m l n)[j]? = if j % 512 < 8 then m[j % 512]? else l[j / 512 * 504 + (j % 512 - 8)]?
  | 0, _, j, hj => by omega
  | n + 1, hn, j, hj => by
    have hk := sprK_length (l := l) hm n (by omega)
    rw [sprK_succ, List.append_assoc]
    rcases Nat.lt_or_ge j (512 * n) with g | g
    · rw [List.getElem?_append_left (by omega), sprK_at hm hl n (by omega) j g]
    · rw [List.getElem?_append_right (by omega), hk]
      have e1 : j % 512 = j - 512 * n := by omega
      have e2 : j / 512 = n := by omega
      rw [e1, e2]
      rcases Nat.lt_or_ge (j - 512 * n) 8 with g2 | g2
      · rw [List.getElem?_append_left (by omega), if_pos g2]
      · rw [List.getElem?_append_right (by omega), hm, List.getElem?_take, if_pos (by omega), List.getElem?_drop, if_neg (by omega)]
theorem ext4096 {x y : Dat} (hx : x.length = 4096) (hy : y.length = 4096) (h : ∀ j, j < 4096 → x[j]? = y[j]?) : x = y := by
  apply List.ext_getElem?
  intro i
  rcases Nat.lt_or_ge i 4096 with g | g
  · exact h i g
  · rw [List.getElem?_eq_none (by omega), List.getElem?_eq_none (by omega)]
theorem extN {x y : Dat} (n : Nat) (hx : x.length = n) (hy : y.length = n) (h : ∀ j, j < n → x[j]? = y[j]?) : x = y := by
  apply List.ext_getElem?
  intro i
  rcases Nat.lt_or_ge i n with g | g
  · exact h i g
  · rw [List.getElem?_eq_none (by omega), List.getElem?_eq_none (by omega)]
/-- what is hidden is shown again -/
theorem sho_mark {m l : Dat} (hm : m.length = 8) (hl : l.length = 4096) : shoK (markK m l 8) (hidK l 8) 8 = l := by
  have hh := hidK_length l 8 (by omega) (by omega)
  have hk := markK_length (l := l) hm 8 (by omega) (by omega)
  refine ext4096 (shoK_length (by omega) (by omega) 8 (by omega)) hl fun j hj => ?_
  rw [shoK_at (by omega) (by omega) 8 (by omega) j hj]
  by_cases h : j / 512 < 8 ∧ j % 512 < 8
  · rw [if_pos h, hidK_at hl 8 (by omega) _ (by omega)]
    congr 1; omega
  · rw [if_neg h, markK_at hm hl 8 (by omega) j hj, if_neg h]
theorem hid_sho {b hid : Dat} (hb : b.length = 4096) (hh : hid.length = 64) : hidK (shoK b hid 8) 8 = hid := by
  have hs := shoK_length hb hh 8 (by omega)
  have hl := hidK_length (shoK b hid 8) 8 (by omega) (by omega)
  refine extN 64 (by omega) hh fun i hi => ?_
  rw [hidK_at hs 8 (by omega) i (by omega), shoK_at hb hh 8 (by omega) _ (by omega), if_pos (by omega)]
  congr 1; omega
theorem gat_spr {m l : Dat} (hm : m.length = 8) (hl : l.length = 4032) : gatK (sprK m l 8) 8 = l := by
  have hs : (sprK m l 8).length = 4096 := by rw [sprK_length hm 8 (by omega)]
  have hg := gatK_length hs 8 (by omega)
  refine extN 4032 (by omega) hl fun i hi => ?_
  rw [gatK_at hs 8 (by omega) i (by omega), sprK_at hm hl 8 (by omega) _ (by omega), if_neg (by omega)]
  congr 1; omega
/-- a block bears a stamp -/
def Bears (m b : Dat) : Prop := ∀ k, k < 8 → (b.drop (k * 512)).take 8 = m
theorem bears_at {m b : Dat} (hm : m.length = 8) (hb : b.length = 4096) : Bears m b ↔ ∀ j, j < 4096 → j % 512 < 8 → b[j]? = m[j % 512]? := by
  constructor
  · intro h j hj hj8
    have := congrArg (·[j % 512]?) (h (j / 512) (by omega))
    simp only [List.getElem?_take, if_pos hj8, List.getElem?_drop] at this
    rw [← this]
    congr 1; omega
  · intro h k hk
    refine extN 8 (by rw [List.length_take, List.length_drop]; omega) hm fun i hi => ?_
    rw [List.getElem?_take, if_pos hi, List.getElem?_drop, h _ (by omega) (by omega)]
    congr 1; omega
theorem mark_bears {m l : Dat} (hm : m.length = 8) (hl : l.length = 4096) : Bears m (markK m l 8) := by
  refine (bears_at hm (by rw [markK_length hm 8 (by omega) (by omega)]; exact hl)).2 fun j hj h8 => ?_
  rw [markK_at hm hl 8 (by omega) j hj, if_pos (by omega)]
theorem spr_bears {m l : Dat} (hm : m.length = 8) (hl : l.length = 4032) : Bears m (sprK m l 8) := by
  refine (bears_at hm (by rw [sprK_length hm 8 (by omega)])).2 fun j hj h8 => ?_
  rw [sprK_at hm hl 8 (by omega) j (by omega), if_pos h8]
/-- a block that bears the stamp is as one that is marked -/
theorem mark_sho {m b hid : Dat} (hm : m.length = 8) (hb : b.length = 4096) (hh : hid.length = 64) (h : Bears m b) : markK m (shoK b hid 8) 8 = b := by
  have hs := shoK_length hb hh 8 (by omega)
  refine ext4096 (by rw [markK_length hm 8 (by omega) (by omega)]; exact hs) hb fun j hj => ?_
  rw [markK_at hm hs 8 (by omega) j hj]
  by_cases h8 : j / 512 < 8 ∧ j % 512 < 8
  · rw [if_pos h8, (bears_at hm hb).1 h j hj h8.2]
  · rw [if_neg h8, shoK_at hb hh 8 (by omega) j hj, if_neg h8]
end Go.Proofs.YtegdcjnjnoeinaaGreat
namespace Go.Proofs.YtegdcjnjnoeinaaGreat
open Go.RowKit Go.Sl
set_option maxRecDepth 20000

def hbE (b : Dat) : Nat := (numV b 0 8).1 / 1099511627776
def hbS (b : Dat) : Nat := (numV b 0 8).1 % 1099511627776
def cntB (b : Dat) : Nat := (numV (gatK b 8) 0 2).1
def blkB (b : Dat) (i : Nat) : Int := ((numV (gatK b 8) (6 + 66 * i : Nat) 2).1 : Nat)
def hidB (b : Dat) (i : Nat) : Dat := ((gatK b 8).drop (8 + 66 * i)).take 64
def imsB (b : Dat) : List PImg := (List.range (cntB b)).map fun i => (blkB b i, shoK noughts (hidB b i) 8)
def hblk (e s : Nat) (l : List PImg) : Dat := sprK (stampB e s) (headP l) 8
def hdP (b : Dat) : Option (Nat × Nat × List PImg) := if RightP (hbE b) (hbS b) (imsB b) ∧ hblk (hbE b) (hbS b) (imsB b) = b then some (hbE b, hbS b, imsB b) else none
theorem noughts_length : noughts.length = 4096 := List.length_replicate
theorem headP_length {l : List PImg} (hl : l.length ≤ 32) (h : ∀ g ∈ l, g.2.length = 4096) : (headP l).length = 4032 := by
  have hlist : (listP l).length = 4026 := by
    rw [listP, List.length_append, hidP_length l h, List.length_replicate]; omega
  rw [headP, List.length_append, List.length_append, be_length, be_length, hlist]
theorem RightP.lens {e s : Int} {l : List PImg} (h : RightP e s l) : ∀ g ∈ l, g.2.length = 4096 := fun g hg => (h.2.2.2.2.2.2.1 g hg).2.2
theorem hblk_length {e s : Nat} {l : List PImg} (hl : l.length ≤ 32) (h : ∀ g ∈ l, g.2.length = 4096) : (hblk e s l).length = 4096 := by
  unfold hblk
  rw [sprK_length (stampB_length _ _) 8 (by rw [headP_length hl h]; omega)]
theorem hblk_bears {e s : Nat} {l : List PImg} (hl : l.length ≤ 32) (h : ∀ g ∈ l, g.2.length = 4096) : Bears (stampB e s) (hblk e s l) := spr_bears (stampB_length _ _) (headP_length hl h)
theorem hdP_some {b : Dat} {e s : Nat} {l : List PImg} (h : hdP b = some (e, s, l)) : e = hbE b ∧ s = hbS b ∧ l = imsB b ∧ RightP e s l ∧ hblk e s l = b ∧ b.length = 4096 ∧ Bears (stampB e s) b := by
  unfold hdP at h
  split at h
  · rename_i hc
    cases h
    obtain ⟨h1, h2⟩ := hc
    refine ⟨rfl, rfl, rfl, h1, h2, ?_, ?_⟩
    · have := hblk_length (e := hbE b) (s := hbS b) h1.2.2.2.2.2.1 h1.lens
      rwa [h2] at this
    · have := hblk_bears (e := hbE b) (s := hbS b) h1.2.2.2.2.2.1 h1.lens
      rwa [h2] at this
  · cases h
theorem imsB_length (b : Dat) : (imsB b).length = cntB b := by simp [imsB]
theorem gat_hblk {e s : Nat} {l : List PImg} (hl : l.length ≤ 32) (h : ∀ g ∈ l, g.2.length = 4096) : gatK (hblk e s l) 8 = headP l := gat_spr (stampB_length _ _) (headP_length hl h)
/-- a block that bears no stamp of its own numbers is no head -/
theorem hdP_stmp {b : Dat} (h : ¬ Stmp b (hbE b) (hbS b)) : hdP b = none := by
  cases hd : hdP b with
  | none => rfl
  | some x =>
    obtain ⟨e, s, l⟩ := x
    obtain ⟨rfl, rfl, _, hR, _, hb, hst⟩ := hdP_some hd
    exact absurd ⟨hb, hR.1, hR.2.1, hR.2.2.1, hR.2.2.2.1, by rw [Int.toNat_natCast, Int.toNat_natCast]; exact hst⟩ h
theorem hdP_cnt {b : Dat} (h : ¬ (1 ≤ cntB b ∧ cntB b ≤ 32)) : hdP b = none := by
  cases hd : hdP b with
  | none => rfl
  | some x =>
    obtain ⟨e, s, l⟩ := x
    obtain ⟨_, _, rfl, hR, _⟩ := hdP_some hd
    have h1 := hR.2.2.2.2.1
    have h2 := hR.2.2.2.2.2.1
    rw [imsB_length] at h1 h2
    exact absurd ⟨h1, h2⟩ h
/-! ### a group read back -/
def getL (b : Dat) (rest : List Dat) : List PImg := (List.range rest.length).map fun i => (blkB b i, shoK (rest.getD i []) (hidB b i) 8)
def RestOk (e s : Nat) (rest : List Dat) : Prop := ∀ r ∈ rest, r.length = 4096 ∧ Bears (stampB e s) r
open Classical in
noncomputable def getP (bs : List Dat) : Option (Nat × Nat × List PImg) := match bs with
  | [] => none
  | b :: rest => match hdP b with
    | none => none
    | some (e, s, l) => if rest.length = l.length ∧ RestOk e s rest then some (e, s, getL b rest) else none
theorem getP_none {b : Dat} {rest : List Dat} (h : hdP b = none) : getP (b :: rest) = none := by unfold getP; dsimp only; rw [h]
theorem getP_bad {b : Dat} {rest : List Dat} {e s : Nat} {l : List PImg} (h : hdP b = some (e, s, l)) (hr : ¬ (rest.length = l.length ∧ RestOk e s rest)) : getP (b :: rest) = none := by
  unfold getP; dsimp only; rw [h]; dsimp only; rw [if_neg hr]
theorem getP_good {b : Dat} {rest : List Dat} {e s : Nat} {l : List PImg} (h : hdP b = some (e, s, l)) (hr : rest.length = l.length ∧ RestOk e s rest) : getP (b :: rest) = some (e, s, getL b rest) := by
  unfold getP; dsimp only; rw [h]; dsimp only; rw [if_pos hr]
/-- the list part of a head, image by image -/
theorem hidP_cons (g : PImg) (l : List PImg) : hidP (g :: l) = be g.1.toNat 2 ++ hidK g.2 8 ++ hidP l := by simp [hidP]
theorem hidP_drop : ∀ (l : List PImg), (∀ g ∈ l, g.2.length = 4096) → ∀ (i : Nat) (h : i < l.length), (hidP l).drop (66 * i) = be l[i].1.toNat 2 ++ hidK l[i].2 8 ++ hidP (l.drop (i + 1))
  | [], _, i, h => by simp at h
  | g :: l, hl, 0, _ => by simp [hidP_cons]
  | g :: l, hl, i + 1, h => by
    have hg := hl g (by simp)
    have h66 : (be g.1.toNat 2 ++ hidK g.2 8).length = 66 := by rw [List.length_append, be_length, hidK_length _ _ (by omega) (by omega)]
    rw [hidP_cons, show 66 * (i + 1) = (be g.1.toNat 2 ++ hidK g.2 8).length + 66 * i by rw [h66]; omega, ← List.drop_drop, List.drop_left]
    simpa using hidP_drop l (fun x hx => hl x (by simp [hx])) i (by simpa using h)
theorem headP_drop {l : List PImg} (h : ∀ g ∈ l, g.2.length = 4096) (i : Nat) (hi : i < l.length) : ∃ T, (headP l).drop (6 + 66 * i) = be l[i].1.toNat 2 ++ (hidK l[i].2 8 ++ T) := by
  refine ⟨hidP (l.drop (i + 1)) ++ List.replicate (4026 - 66 * l.length) 0, ?_⟩
  have h6 : (be l.length 2 ++ be (crcMore 0 (listP l)) 4).length = 6 := by rw [List.length_append, be_length, be_length]
  have hp := hidP_length l h
  rw [headP, show 6 + 66 * i = (be l.length 2 ++ be (crcMore 0 (listP l)) 4).length + 66 * i by rw [h6], ← List.drop_drop, List.drop_left, listP]
  rw [List.drop_append_of_le_length (by omega), hidP_drop l h i hi]
  simp
theorem numV_at {l : Dat} {k n : Nat} {x : Dat} {T : Dat} (h : l.drop k = x ++ T) (hx : x.length = n) (hn : 0 < n) : numV l (k : Nat) n = (nb x, true) := by
  have hl := congrArg List.length h
  rw [List.length_drop, List.length_append, hx] at hl
  unfold numV
  rw [if_neg (by omega), Int.toNat_natCast, h, ← hx, List.take_left]
theorem blk_small {e s : Int} {l : List PImg} (h : RightP e s l) {g : PImg} (hg : g ∈ l) : ∃ n : Nat, g.1 = n ∧ n < 512 := by
  have := h.2.2.2.2.2.2.1 g hg
  exact ⟨g.1.toNat, by omega, by omega⟩
theorem stamp_num {e s : Nat} (he : e ≤ 8388608) (hs : s ≤ 549755813888) : nb (stampB e s) = e * 1099511627776 + s := by
  unfold stampB
  have h1 : e * 2 ^ 40 % 2 ^ 64 = e * 2 ^ 40 := Nat.mod_eq_of_lt (by omega)
  rw [h1]
  have h2 : e * 2 ^ 40 ||| s = e * 2 ^ 40 + s := by
    rw [Nat.mul_comm, ← Nat.two_pow_add_eq_or_of_lt (by omega)]
  rw [h2, nb_be _ _ (by show _ < 256 ^ 8; omega)]
theorem hblk_front {e s : Nat} {l : List PImg} (hl : l.length ≤ 32) (h : ∀ g ∈ l, g.2.length = 4096) : ∃ T, hblk e s l = stampB e s ++ T := by
  have hb := hblk_bears (e := e) (s := s) hl h 0 (by omega)
  refine ⟨(hblk e s l).drop 8, ?_⟩
  rw [Nat.zero_mul, List.drop_zero] at hb
  rw [← hb, List.take_append_drop]
theorem hb_of {e s : Nat} {l : List PImg} (h : RightP e s l) : hbE (hblk e s l) = e ∧ hbS (hblk e s l) = s ∧ cntB (hblk e s l) = l.length ∧ ∀ (i : Nat) (hi : i < l.length), blkB (hblk e s l) i = l[i].1 ∧ hidB (hblk e s l) i = hidK l[i].2 8 := by
  have h32 := h.2.2.2.2.2.1
  have hl := h.lens
  obtain ⟨T, hT⟩ := hblk_front (e := e) (s := s) h32 hl
  have hn : numV (hblk e s l) 0 8 = (nb (stampB e s), true) := numV_at (k := 0) (by rw [List.drop_zero]; exact hT) (stampB_length _ _) (by omega)
  have h1 := h.2.1
  have h2 := h.2.2.2.1
  have hst := stamp_num (e := e) (s := s) (by omega) (by omega)
  have hg := gat_hblk (e := e) (s := s) h32 hl
  refine ⟨?_, ?_, ?_, ?_⟩
  · unfold hbE; rw [hn, hst]; dsimp only; omega
  · unfold hbS; rw [hn, hst]; dsimp only; omega
  · unfold cntB
    rw [hg]
    have : numV (headP l) 0 2 = (nb (be l.length 2), true) := numV_at (k := 0) (T := be (crcMore 0 (listP l)) 4 ++ listP l) (by rw [List.drop_zero, headP, List.append_assoc]) (be_length _ _) (by omega)
    rw [this, nb_be _ _ (by show _ < 256 ^ 2; omega)]
  · intro i hi
    obtain ⟨T2, hT2⟩ := headP_drop hl i hi
    obtain ⟨n, hn1, hn2⟩ := blk_small h (List.getElem_mem hi)
    unfold blkB hidB
    rw [hg]
    constructor
    · rw [numV_at hT2 (be_length _ _) (by omega)]
      dsimp only
      rw [nb_be _ _ (by rw [hn1, Int.toNat_natCast]; show _ < 256 ^ 2; omega), hn1, Int.toNat_natCast]
    · have hk : (hidK l[i].2 8).length = 64 := hidK_length l[i].2 8 (by rw [hl _ (List.getElem_mem hi)]; omega) (by rw [hl _ (List.getElem_mem hi)])
      rw [show 8 + 66 * i = (6 + 66 * i) + (be l[i].1.toNat 2).length by rw [be_length]; omega, ← List.drop_drop, hT2, List.drop_left]
      exact List.take_left' hk
theorem getElem_eq_of {α : Type} {l m : List α} (h : l.length = m.length) (k : ∀ (i : Nat) (h1 : i < l.length) (h2 : i < m.length), l[i] = m[i]) : l = m := List.ext_getElem h fun i h1 h2 => k i h1 h2
/-- a head read back: the images' data but for what is hidden -/
theorem hdP_put {e s : Nat} {l : List PImg} (h : RightP e s l) : hdP (hblk e s l) = some (e, s, l.map fun g => (g.1, shoK noughts (hidK g.2 8) 8)) := by
  obtain ⟨h1, h2, h3, h4⟩ := hb_of h
  have hl := h.lens
  have hims : imsB (hblk e s l) = l.map fun g => (g.1, shoK noughts (hidK g.2 8) 8) := by
    refine getElem_eq_of (by rw [imsB_length, h3, List.length_map]) fun i i1 i2 => ?_
    rw [List.length_map] at i2
    simp only [imsB, List.getElem_map, List.getElem_range]
    rw [(h4 i i2).1, (h4 i i2).2]
  have hh : ∀ g ∈ l, (hidK g.2 8).length = 64 := fun g hg => hidK_length _ _ (by rw [hl g hg]; omega) (by rw [hl g hg])
  have hhid : hidP (l.map fun g => ((g.1, shoK noughts (hidK g.2 8) 8) : PImg)) = hidP l := by
    unfold hidP
    rw [List.flatMap_map]
    have : ∀ (m : List PImg), (∀ g ∈ m, g ∈ l) → (m.flatMap fun g => be g.1.toNat 2 ++ hidK (shoK noughts (hidK g.2 8) 8) 8) = m.flatMap fun g => be g.1.toNat 2 ++ hidK g.2 8 := by
      intro m
      induction m with
      | nil => intro _; rfl
      | cons g m ih =>
        intro hm
        rw [List.flatMap_cons, List.flatMap_cons, ih fun x hx => hm x (by simp [hx]), hid_sho noughts_length (hh g (hm g (by simp)))]
    exact this l fun g hg => hg
  have hR : RightP e s (l.map fun g => ((g.1, shoK noughts (hidK g.2 8) 8) : PImg)) := by
    obtain ⟨r1, r2, r3, r4, r5, r6, r7, r8⟩ := h
    refine ⟨r1, r2, r3, r4, by rw [List.length_map]; exact r5, by rw [List.length_map]; exact r6, ?_, ?_⟩
    · intro g hg
      obtain ⟨x, hx, rfl⟩ := List.mem_map.1 hg
      exact ⟨(r7 x hx).1, (r7 x hx).2.1, shoK_length noughts_length (hh x hx) 8 (by omega)⟩
    · rw [List.map_map]
      exact r8
  have hblk' : hblk e s (l.map fun g => ((g.1, shoK noughts (hidK g.2 8) 8) : PImg)) = hblk e s l := by
    unfold hblk headP listP
    rw [hhid, List.length_map]
  unfold hdP
  rw [h1, h2, hims, if_pos ⟨hR, hblk'⟩]
theorem putP_eq (e s : Nat) (l : List PImg) : putP e s l = hblk e s l :: l.map fun g => markK (stampB e s) g.2 8 := rfl
/-- a group read back -/
theorem getP_put {e s : Nat} {l : List PImg} (h : RightP e s l) : getP (putP e s l) = some (e, s, l) := by
  have hl := h.lens
  obtain ⟨h1, h2, h3, h4⟩ := hb_of h
  rw [putP_eq, getP_good (hdP_put h) ⟨by simp, ?_⟩]
  · congr 2
    refine congrArg _ (getElem_eq_of (by simp [getL]) fun i i1 i2 => ?_)
    have hi := List.getElem_mem i2
    simp only [getL, List.length_map, List.getElem_map, List.getElem_range]
    rw [(h4 i i2).1, (h4 i i2).2, List.getD_eq_getElem?_getD, List.getElem?_map, List.getElem?_eq_getElem i2]
    simp only [Option.map_some, Option.getD_some]
    rw [sho_mark (stampB_length _ _) (hl _ hi)]
  · intro r hr
    obtain ⟨g, hg, rfl⟩ := List.mem_map.1 hr
    exact ⟨by rw [markK_length (stampB_length _ _) 8 (by rw [hl g hg]; omega) (by rw [hl g hg])]; exact hl g hg, mark_bears (stampB_length _ _) (hl g hg)⟩
/-- and no other blocks are read as it -/
theorem getP_some {bs : List Dat} {e s : Nat} {l : List PImg} (h : getP bs = some (e, s, l)) : RightP e s l ∧ putP e s l = bs := by
  unfold getP at h
  match bs, h with
  | b :: rest, h =>
    dsimp only at h
    cases hd : hdP b with
    | none => rw [hd] at h; cases h
    | some x =>
      obtain ⟨e', s', l'⟩ := x
      rw [hd] at h
      dsimp only at h
      split at h
      · rename_i hc
        cases h
        obtain ⟨hc1, hc2⟩ := hc
        obtain ⟨q1, q2, q3, hR, hb, hb4, hbe⟩ := hdP_some hd
        have hcl : cntB b = rest.length := by rw [hc1, q3, imsB_length]
        have hgl : gatK b 8 = headP l' := by rw [← hb]; exact gat_hblk hR.2.2.2.2.2.1 hR.lens
        have hgb : (gatK b 8).length = 4032 := gatK_length hb4 8 (by omega)
        have hhid : ∀ i, i < rest.length → (hidB b i).length = 64 := by
          intro i hi
          have := hR.2.2.2.2.2.1
          unfold hidB
          rw [List.length_take, List.length_drop, hgb]; omega
        have hrl : ∀ i, i < rest.length → (rest.getD i []).length = 4096 ∧ Bears (stampB e s) (rest.getD i []) := by
          intro i hi
          rw [List.getD_eq_getElem?_getD, List.getElem?_eq_getElem hi]
          exact hc2 _ (List.getElem_mem hi)
        have hll : (getL b rest).length = l'.length := by simp [getL, hc1]
        have hel : ∀ (i : Nat) (h1 : i < l'.length), l'[i] = (blkB b i, shoK noughts (hidB b i) 8) := by
          intro i h1
          have : l'[i] = (imsB b)[i]'(by rw [← q3]; exact h1) := by simp only [q3]
          rw [this]; simp [imsB]
        have hfst : (getL b rest).map Prod.fst = l'.map Prod.fst := by
          refine getElem_eq_of (by simp [hll]) fun i i1 i2 => ?_
          rw [List.length_map] at i1 i2
          simp only [getL, List.getElem_map, List.getElem_range, hel i i2]
        have hR' : RightP e s (getL b rest) := by
          obtain ⟨r1, r2, r3, r4, r5, r6, r7, r8⟩ := hR
          refine ⟨r1, r2, r3, r4, by omega, by omega, ?_, by rw [hfst]; exact r8⟩
          intro g hg
          obtain ⟨i, hi, rfl⟩ := List.mem_map.1 hg
          have hi := List.mem_range.1 hi
          have hm := r7 _ (List.getElem_mem (by omega : i < l'.length))
          rw [hel i (by omega)] at hm
          exact ⟨hm.1, hm.2.1, shoK_length (hrl i hi).1 (hhid i hi) 8 (by omega)⟩
        refine ⟨hR', ?_⟩
        have hhp : hidP (getL b rest) = hidP l' := by
          have key : ∀ (m1 m2 : List PImg), m1.length = m2.length → (∀ (i : Nat) (h1 : i < m1.length) (h2 : i < m2.length), be m1[i].1.toNat 2 ++ hidK m1[i].2 8 = be m2[i].1.toNat 2 ++ hidK m2[i].2 8) → hidP m1 = hidP m2 := by
            intro m1
            induction m1 with
            | nil => intro m2 hm _; cases m2 with
              | nil => rfl
              | cons _ _ => simp at hm
            | cons g m1 ih => intro m2 hm hk; cases m2 with
              | nil => simp at hm
              | cons g2 m2 =>
                rw [hidP_cons, hidP_cons, ih m2 (by simpa using hm) (fun i h1 h2 => by have := hk (i + 1) (by simpa using h1) (by simpa using h2); simpa using this)]
                have := hk 0 (by simp) (by simp)
                simp only [List.getElem_cons_zero] at this
                rw [this]
          refine key _ _ hll fun i i1 i2 => ?_
          rw [hel i i2]
          simp only [getL, List.getElem_map, List.getElem_range]
          rw [hid_sho (hrl i (by omega)).1 (hhid i (by omega)), hid_sho noughts_length (hhid i (by omega))]
        have hbk : hblk e s (getL b rest) = b := by
          have : hblk e s (getL b rest) = hblk e s l' := by unfold hblk headP listP; rw [hhp, hll]
          rw [this, hb]
        rw [putP_eq, hbk]
        congr 1
        refine getElem_eq_of (by rw [List.length_map, hll, hc1]) fun i i1 i2 => ?_
        simp only [getL, List.getElem_map, List.getElem_range]
        have h3 := hrl i i2
        have h4 : rest.getD i [] = rest[i] := by rw [List.getD_eq_getElem?_getD, List.getElem?_eq_getElem i2]; rfl
        rw [mark_sho (stampB_length _ _) h3.1 (hhid i i2) h3.2, h4]
      · cases h
end Go.Proofs.YtegdcjnjnoeinaaGreat
namespace Go.Proofs.YtegdcjnjnoeinaaGreat
open Go.RowKit Go.Sl
set_option maxRecDepth 20000

theorem nb_lt2 (l : Dat) (at_ : Int) : (numV l at_ 2).1 < 65536 := by
  unfold numV
  split
  · show (0 : Nat) < 65536; omega
  · have := nb_lt ((l.drop at_.toNat).take 2)
    have h2 : ((l.drop at_.toNat).take 2).length ≤ 2 := by rw [List.length_take]; omega
    exact Nat.lt_of_lt_of_le this (Nat.pow_le_pow_right (by omega) (by omega : 8 * _ ≤ 16))
theorem nb_lt8 (l : Dat) (at_ : Int) : (numV l at_ 8).1 < 18446744073709551616 := by
  unfold numV
  split
  · show (0 : Nat) < 18446744073709551616; omega
  · have := nb_lt ((l.drop at_.toNat).take 8)
    have h2 : ((l.drop at_.toNat).take 8).length ≤ 8 := by rw [List.length_take]; omega
    exact Nat.lt_of_lt_of_le this (Nat.pow_le_pow_right (by omega) (by omega : 8 * _ ≤ 64))
theorem octets_U16 {I : Imm} {S : St} {a : Option Addr} {len cap : Nat} {l : List UInt8} (h : SlC I S a len (bts l)) (hlen : len ≤ 1000000000) (at_ : Int) (hat : In64 at_) :
    Tri Tryz.prog 264 #[.slice a len cap, .int .i64 at_] I S fun v J S' => v = .tuple #[.int .u16 (numV l at_ 2).1, .bool (numV l at_ 2).2] ∧ I = J ∧ S' = S := by
  refine Tri.of (args := [.slice a len cap, .int .i64 at_]) tabOk Tryz.func264 rfl (by kernel_rfl) (by kernel_rfl) ?_
  refine Tri.mono (octets_number h hlen at_ hat 2 (by omega)) ?_
  rintro v J S' hJ ⟨rfl, rfl, rfl⟩
  have := nb_lt2 l at_
  refine ToD.to ((numV l at_ 2).1 : Int) (wrap_u rfl (by omega) (by show ((numV l at_ 2).1 : Int) < 2 ^ 16; omega)) ?_
  exact Done.mk ⟨rfl, rfl, rfl⟩
theorem gathered_fix (I : Imm) (b off cap : Nat) (l : List UInt8) (h : Rds I (some ⟨b, off, none⟩) 4096 (bts l)) (hcap : 4096 ≤ cap) :
    Tri Tryz.prog 263 #[.slice (some ⟨b, off, none⟩) 4096 cap] I [] fun v J _ => ∃ b' off' cap', v = .slice (some ⟨b', off', none⟩) 4032 cap' ∧ 4032 ≤ cap' ∧ Rds J (some ⟨b', off', none⟩) 4032 (bts (gatK l 8)) := by
  refine Tri.fixed (gathered_own I b off cap l h hcap) ?_
  rintro v J S' hJ ⟨a', cap', ch, rfl, hown, rfl, rfl⟩
  refine ⟨0, ch, rfl, fun J' hJ' hm => ?_⟩
  rcases hown.at' with q0 | ⟨bI, pre, post, TI, rfl, _, _⟩
  · have := hown.le; omega
  · exact ⟨_, _, _, rfl, hown.le, Rds.of_own hown hm⟩
theorem shown_fix (I : Imm) (a : Option Addr) (cap : Nat) (l : List UInt8) (h : Rds I a 4096 (bts l)) (bH offH capH : Nat) (hid : List UInt8) (hH : Rds I (some ⟨bH, offH, none⟩) 64 (bts hid)) (hcapH : 64 ≤ capH) :
    Tri Tryz.prog 254 #[.slice a 4096 cap, .slice (some ⟨bH, offH, none⟩) 64 capH] I [] fun v J _ => ∃ a' cap', v = .slice a' 4096 cap' ∧ Rds J a' 4096 (bts (shoK l hid 8)) := by
  refine Tri.fixed (shown_own I a cap l h bH offH capH hid hH hcapH) ?_
  rintro v J S' hJ ⟨a', cap', ch, rfl, hown, rfl, rfl⟩
  exact ⟨0, ch, rfl, fun J' hJ' hm => ⟨a', cap', rfl, Rds.of_own hown hm⟩⟩
/-- what hides, as it lies -/
structure Hs where
  b : Nat
  off : Nat
  cap : Nat
@[reducible] def Hs.cell (h : Hs) : Value := .slice (some ⟨h.b, h.off, none⟩) 64 h.cap
def HsOk (J : Imm) (h : Hs) (d : Dat) : Prop := 64 ≤ h.cap ∧ Rds J (some ⟨h.b, h.off, none⟩) 64 (bts d)
theorem HsOk.mono {I J : Imm} {h : Hs} {d : Dat} (k : HsOk I h d) (hJ : I.le J) : HsOk J h d := ⟨k.1, k.2.mono hJ⟩
end Go.Proofs.YtegdcjnjnoeinaaGreat
namespace Go.Proofs.YtegdcjnjnoeinaaGreat
open Go.RowKit Go.Sl
set_option maxRecDepth 20000

@[reducible] def gBox (b : Nat) (e s : Int) (a : Option Addr) (n cap : Nat) : List Blk := [(b, row [.int .i64 e, .int .i64 s, .slice a n cap] 128)]
def ZOk (ch : List Blk) (ims : List Img) : Prop := ∀ g ∈ ims, ∃ bz, g.a = some ⟨bz, 0, none⟩ ∧ g.len = 4096 ∧ (bz, row (bts noughts) 5) ∈ ch
theorem rows_noughts : rows 4096 [Value.int .u8 0] = bts noughts := rows_zero 4096
set_option maxHeartbeats 4000000 in
theorem record_head (I : Imm) (a : Option Addr) (len cap : Nat) (b : Dat) (h : Rds I a len (bts b)) (hcap : len ≤ cap) (hlen : len ≤ 1000000000) :
    Tri Tryz.prog 252 #[.slice a len cap] I [] fun v J S' =>
      (hdP b = none ∧ ∃ x y aI n capI aH m capH, v = .tuple #[.agg #[.int .i64 x, .int .i64 y, .slice aI n capI], .slice aH m capH, .bool false] ∧ S' = [[]]) ∨
      (hdP b = some (hbE b, hbS b, imsB b) ∧ ∃ aI capI chI ims aH capH, ∃ hs : List Hs, v = .tuple #[.agg #[.int .i64 (hbE b : Nat), .int .i64 (hbS b : Nat), .slice aI (cntB b) capI], .slice aH (cntB b) capH, .bool true] ∧ OwnC chI 2 aI (cntB b) capI (imgCells ims) ∧
        ims.map Img.blk = (List.range (cntB b)).map (blkB b) ∧ Rds J aH (cntB b) (hs.map Hs.cell) ∧ (∀ k, k < cntB b → ∃ x, hs[k]? = some x ∧ HsOk J x (hidB b k)) ∧ S' = [chI]) := by
  have hll : b.length = len := by rw [← bts_length, h.len]
  refine Tri.drop ?_ (fun _ _ _ _ h => h)
  have hU := octets_U64 (S := []) (cap := cap) h.slC hlen 0 (by unfold In64; omega)
  have hEn : hbE b = (numV b 0 8).1 / 1099511627776 := rfl
  have hSn : hbS b = (numV b 0 8).1 % 1099511627776 := rfl
  have hn8 := nb_lt8 b 0
  have hk8 : (numV b 0 8).2 = false → b.length < 8 := by
    unfold numV
    split
    · intro _; omega
    · intro h; simp at h
  have none8 : b.length < 8 → hdP b = none := fun hl => hdP_stmp fun h => by have := h.1; omega
  generalize numV b 0 8 = nn at *
  obtain ⟨n, ok⟩ := nn
  dsimp only at hU hEn hSn hn8 hk8
  obtain ⟨e, he⟩ : ∃ e, e = hbE b := ⟨_, rfl⟩
  obtain ⟨s, hs⟩ : ∃ s, s = hbS b := ⟨_, rfl⟩
  refine Tri.of (args := [.slice a len cap]) tabOk Tryz.func252 rfl (by kernel_rfl) (by kernel_rfl) ?_
  conv => whnf
  intro b2
  refine Tri.free hU ?_
  rintro v _ _ hJ ⟨rfl, rfl, rfl⟩
  refine Chk.mk (by decide) ?_
  refine ToD.to ((e : Nat) : Int) (by rw [he, hEn]; exact shr_nat n 40 _ rfl (by omega)) ?_
  refine ToD.i64 (by omega) (by omega) ?_
  refine ToD.to ((s : Nat) : Int) (by
    rw [hs, hSn]
    show bits .and .u64 (n : Int) ((1099511627775 : Nat) : Int) = _
    rw [u64_and_nat _ _ hn8 (by omega), show (1099511627775 : Nat) = 2 ^ 40 - 1 from rfl, Nat.and_two_pow_sub_one_eq_mod]) ?_
  refine ToD.i64 (by omega) (by omega) ?_
  conv => whnf
  intro b7
  repeat (first | refine StoreD.st 1 rfl rfl rfl ?_)
  cases ok
  · repeat (first | refine LoadD.own 0 rfl _ rfl rfl ?_ | refine LoadD.own 1 rfl _ rfl rfl ?_ | refine StoreD.st 0 rfl rfl rfl ?_)
    exact Done.mk ⟨[[]], Drop.pick [] _ rfl |>.trans (Drop.flat rfl), .inl ⟨none8 (hk8 rfl), _, _, _, _, _, _, _, _, rfl, rfl⟩⟩
  repeat (first | refine LoadD.own 1 rfl _ rfl rfl ?_)
  refine Tri.free (stamped_of I a len cap b h hcap e s) ?_
  rintro v J1 _ hJ1 ⟨br, rfl, hbr⟩
  cases br
  · repeat (first | refine LoadD.own 0 rfl _ rfl rfl ?_ | refine LoadD.own 1 rfl _ rfl rfl ?_ | refine StoreD.st 0 rfl rfl rfl ?_)
    refine Done.mk ⟨[[]], Drop.pick [] _ rfl |>.trans (Drop.flat rfl), .inl ⟨hdP_stmp ?_, _, _, _, _, _, _, _, _, rfl, rfl⟩⟩
    rw [← he, ← hs]
    intro h'
    exact absurd (hbr.2 h') (by simp)
  have hst := hbr.1 rfl
  have hb4 := hst.1
  obtain rfl : len = 4096 := by omega
  have hbJ := h.mono hJ1
  rcases hbJ.mem with q0 | ⟨bb, bo, cb, Tb, fb, rfl, hIb, hcb⟩
  · omega
  skip
  refine Tri.free (gathered_fix J1 bb bo cap b hbJ hcap) ?_
  rintro v J2 _ hJ2 ⟨bi, oi, capi, rfl, hci, hin⟩
  have hU2 := octets_U16 (S := []) (cap := capi) hin.slC (by omega) 0 (by unfold In64; omega)
  have hc16 := nb_lt2 (gatK b 8) 0
  rw [show (numV (gatK b 8) 0 2).1 = cntB b from rfl] at hU2 hc16
  obtain ⟨c, hc⟩ : ∃ c, c = cntB b := ⟨_, rfl⟩
  rw [← hc] at hU2 hc16
  refine Tri.free hU2 ?_
  rintro v _ _ hJ ⟨rfl, rfl, rfl⟩
  refine ToD.i64 (by omega) (by omega) ?_
  refine Tri.free (record_Blocks c J2 []) ?_
  rintro v _ _ hJ ⟨rfl, rfl, rfl⟩
  refine CmpD.split (fun c0 => ?_) (fun c0 => ?_)
  · repeat (first | refine LoadD.own 0 rfl _ rfl rfl ?_ | refine LoadD.own 1 rfl _ rfl rfl ?_ | refine StoreD.st 0 rfl rfl rfl ?_)
    refine Done.mk ⟨[[]], Drop.pick [] _ rfl |>.trans (Drop.flat rfl), .inl ⟨hdP_cnt ?_, _, _, _, _, _, _, _, _, rfl, rfl⟩⟩
    rw [← hc]
    intro h'
    unfold blocksN at c0
    rw [if_neg (by omega)] at c0
    omega
  have hcr : 1 ≤ c ∧ c ≤ 32 := by
    unfold blocksN at c0
    split at c0 <;> omega
  have hgl : (gatK b 8).length = 4032 := gatK_length hb4 8 (by omega)
  refine ToD.i64 (by omega) (by omega) ?_
  refine CodeF.loopD [0, 2, 7, 8, 9, 11, 12, 57, 58] (fun vs J' S' => ∃ (i : Nat) (aI : Option Addr) (capI : Nat) (chI : List Blk) (aH : Option Addr) (capH : Nat) (chH chZ : List Blk) (ims : List Img) (hl : List Hs), i ≤ c ∧ ims.length = i ∧ hl.length = i ∧
      OwnC chI 2 aI i capI (imgCells ims) ∧ OwnC chH 1 aH i capH (hl.map Hs.cell) ∧ ims.map Img.blk = (List.range i).map (blkB b) ∧ ZOk chZ ims ∧ (∀ k, k < i → ∃ x, hl[k]? = some x ∧ HsOk J2 x (hidB b k)) ∧ J2 = J' ∧
      vs = [.slice (some ⟨bb, bo, none⟩) 4096 cap, .pointer (some ⟨b2, 0, none⟩), .pointer (some ⟨b7, 0, none⟩), .slice (some ⟨bi, oi, none⟩) 4032 capi, .int .u16 c, .slice aH i capH, .int .i64 (6 + 66 * i : Nat), .int .i64 c, .int .i64 i] ∧
      S' = [gBox b2 0 0 none 0 0, gBox b7 e s aI i capI, chI, chH, chZ])
    (fun vs _ _ => match vs with | [_, _, _, _, _, _, _, _, .int _ i] => ((c : Int) - i).toNat | _ => 0) ?_ ?_
  · exact ⟨_, (Drop.pick [0, 1] _ rfl).trans (Drop.flat (by simp [St.at]; rfl)), 0, none, 0, [], none, 0, [], [], [], [], by omega, rfl, rfl, OwnC.nil _ _, OwnC.nil _ _, rfl, by intro g hg; simp at hg, fun k hk => by omega, rfl, rfl, rfl⟩
  · rintro vs gE J' S' hJ' ⟨i, aI, capI, chI, aH, capH, chH, chZ, ims, hl, hi, hil, hhl, hI, hH, hblks, hZ, hHs, rfl, rfl, rfl⟩
    refine CmpD.split (fun c1 => ?_) (fun c1 => ?_)
    · have hlt : i < c := by omega
      have hU3 := octets_U16 (S := []) (cap := capi) hin.slC (by omega) (6 + 66 * i : Nat) (by unfold In64; omega)
      have hb16 := nb_lt2 (gatK b 8) (6 + 66 * i : Nat)
      refine Tri.free hU3 ?_
      rintro v _ _ hJ ⟨rfl, rfl, rfl⟩
      have hbk : blkB b i = ((numV (gatK b 8) (6 + 66 * i : Nat) 2).1 : Nat) := rfl
      generalize (numV (gatK b 8) (6 + 66 * i : Nat) 2).1 = bk at hbk hb16 ⊢
      conv => whnf
      refine CodeF.sched [[], [0], [], [2], [], [2, 3, 4], [2, 3, 4, 5], [0, 1, 2, 3, 4, 5, 6], [0, 1, 2, 3, 4, 5, 6, 7], [0, 1, 2, 3, 4, 5, 6, 7, 8]] [0, 1, 2, 3, 4, 5, 6, 7, 8, 9] (by kernel_rfl) ?_
      repeat (first | refine LoadP.at 1 rfl _ rfl rfl ?_)
      refine ToD.to (bk : Int) (wrap_i64 (by omega) (by omega)) ?_
      refine makeD tabOk rfl rfl rfl 4096 4096 rfl rfl (Nat.le_refl _) (by show 1 * 4096 ≤ _; decide) (by decide) (by show 4096 * 1 ≤ _; decide) rfl (by decide) ?_
      intro bz
      repeat (first | refine Chk.mk ⟨rfl, trivial⟩ ?_)
      conv => whnf
      intro bN
      repeat (first | refine Chk.mk ⟨rfl, trivial⟩ ?_)
      refine appendD tabOk rfl rfl rfl rfl rfl rfl rfl 2 rfl hI (SrcOk.slice (n := 1) (news := imgCells [⟨bk, some ⟨bz, 0, none⟩, 4096, 4096, noughts⟩]) tabOk rfl ((OwnC.whole (len := 1) (size := 2) rfl).slC 6 rfl) (by intro v hv; simp [imgCells] at hv; rcases hv with rfl | rfl <;> rfl)) rfl (by show (i + 1) * 32 ≤ _; omega) (by omega) ?_
      intro aI2 capI2 chI2 hI2
      repeat (first | refine StoreD.st 1 rfl rfl rfl ?_)
      refine ToD.to ((8 + 66 * i : Nat) : Int) (by rw [wrap_i64 (by omega) (by omega)]; omega) ?_
      refine ToD.to ((8 + 66 * i : Nat) : Int) (by rw [wrap_i64 (by omega) (by omega)]; omega) ?_
      refine ToD.to ((72 + 66 * i : Nat) : Int) (by rw [wrap_i64 (by omega) (by omega)]; omega) ?_
      refine sliceD tabOk rfl rfl rfl rfl (8 + 66 * i) (72 + 66 * i) capi ⟨_, rfl⟩ ⟨_, rfl⟩ rfl (.inl rfl) (by omega) ?_
      have hx : Value.slice (slAddr (some ⟨bi, oi, none⟩) (8 + 66 * i) capi 1) (72 + 66 * i - (8 + 66 * i)) (capi - (8 + 66 * i)) = Hs.cell ⟨bi, oi + (8 + 66 * i), capi - (8 + 66 * i)⟩ := by
        unfold slAddr
        rw [if_neg (by omega), show 72 + 66 * i - (8 + 66 * i) = 64 by omega]
        simp [Hs.cell, add_none]
      have hxs : (slAddr (some ⟨bi, oi, none⟩) (8 + 66 * i) capi 5 : Option Addr) = slAddr (some ⟨bi, oi, none⟩) (8 + 66 * i) capi 5 := rfl
      clear hxs
      conv => whnf
      intro bM
      refine appendD tabOk rfl rfl rfl rfl rfl rfl rfl 3 rfl hH (SrcOk.slice (n := 1) (news := [Hs.cell ⟨bi, oi + (8 + 66 * i), capi - (8 + 66 * i)⟩]) tabOk rfl ((OwnC.whole (len := 1) (size := 1) rfl).slC 7 (by rw [← hx]; rfl)) (by intro v hv; simp only [List.mem_singleton] at hv; subst hv; rfl)) rfl (by show (i + 1) * 24 ≤ _; omega) (by omega) ?_
      intro aH2 capH2 chH2 hH2
      refine ToD.to ((6 + 66 * (i + 1) : Nat) : Int) (by rw [wrap_i64 (by omega) (by omega)]; omega) ?_
      refine ToD.i64 (by omega) (by omega) ?_
      refine ⟨[gBox b2 0 0 none 0 0, gBox b7 e s aI2 (i + 1) capI2, chI2, chH2, chZ ++ [(bz, row (bts noughts) 5)]], ?_, ⟨i + 1, aI2, capI2, chI2, aH2, capH2, chH2, chZ ++ [(bz, row (bts noughts) 5)], ims ++ [⟨bk, some ⟨bz, 0, none⟩, 4096, 4096, noughts⟩], hl ++ [⟨bi, oi + (8 + 66 * i), capi - (8 + 66 * i)⟩], by omega, by simp [hil], by simp [hhl], by rw [imgCells_snoc]; exact hI2, by rw [List.map_append]; exact hH2, ?_, ?_, ?_, rfl, rfl, rfl⟩, ?_⟩
      · refine (Drop.pick [0, 1, 2, 3, 4, 5] _ rfl).trans (Drop.flat ?_)
        rw [← rows_noughts]
        simp [St.at]
        exact ⟨rfl, rfl⟩
      · rw [List.map_append, hblks, List.range_succ, List.map_append]
        show _ ++ [((bk : Nat) : Int)] = _ ++ [blkB b i]
        rw [hbk]
      · intro g hg
        rcases List.mem_append.1 hg with hg | hg
        · obtain ⟨x, h1, h2, h3⟩ := hZ g hg
          exact ⟨x, h1, h2, List.mem_append_left _ h3⟩
        · simp only [List.mem_singleton] at hg
          subst hg
          exact ⟨bz, rfl, rfl, by simp⟩
      · intro k hk
        rcases Nat.lt_or_ge k i with g | g
        · obtain ⟨x, h1, h2⟩ := hHs k g
          exact ⟨x, by rw [List.getElem?_append_left (by omega)]; exact h1, h2⟩
        · obtain rfl : k = i := by omega
          refine ⟨_, by rw [List.getElem?_append_right (by omega), hhl, Nat.sub_self]; rfl, ?_, ?_⟩
          · show 64 ≤ capi - (8 + 66 * k); omega
          · exact Rds_part hin (8 + 66 * k) 64 (by omega)
      · show ((c : Int) - ((i : Int) + 1)).toNat < ((c : Int) - i).toNat; omega
    · obtain rfl : i = c := by omega
      repeat (first | refine LoadD.own 1 rfl _ rfl rfl ?_)
      conv => whnf
      intro b15
      repeat (first | refine LoadD.own 1 rfl _ rfl rfl ?_ | refine StoreD.st 5 rfl rfl rfl ?_)
      refine CodeF.fixD 4 (ch := chZ) rfl fun I3 hI3 hZm => ?_
      refine CodeF.fixD 3 (ch := chH) rfl fun I4 hI4 hHm => ?_
      have hHR : Rds I4 aH i (hl.map Hs.cell) := Rds.of_own hH hHm
      have hZR : ∀ g ∈ ims, g.len = 4096 ∧ Rds I4 g.a 4096 (bts noughts) := by
        intro g hg
        obtain ⟨bz, e1, e2, hm⟩ := hZ g hg
        refine ⟨e2, by rw [bts_length]; exact noughts_length, .inr ⟨bz, 0, bts noughts, _, _, e1, hI4 _ _ (hZm _ hm), ?_⟩⟩
        rw [List.drop_zero, List.take_of_length_le (by rw [bts_length, noughts_length]; exact Nat.le_refl _)]
      have hJ4 : J2.le I4 := Imm.le_trans hI3 hI4
      have hb4r := (hbJ.mono hJ2).mono hJ4
      clear hZm hHm hin
      have hbe : ∀ k, k < i → (ims[k]?).map Img.blk = some (blkB b k) := by
        intro k hk
        have := congrArg (·[k]?) hblks
        simp only [List.getElem?_map, List.getElem?_range hk, Option.map_some] at this
        exact this
      refine CodeF.loopD [0, 2, 7, 11, 15, 91, 92, 93] (fun vs J' S' => ∃ (k : Nat) (aF : Option Addr) (capF : Nat) (chF : List Blk) (gF : List Img), k ≤ i ∧ gF.length = k ∧ OwnC chF 2 aF k capF (imgCells gF) ∧ gF.map Img.pr = (List.range k).map (fun k => (blkB b k, shoK noughts (hidB b k) 8)) ∧ (∀ g ∈ gF, ImgOk J' g) ∧ I4.le J' ∧
          vs = [.slice (some ⟨bb, bo, none⟩) 4096 cap, .pointer (some ⟨b2, 0, none⟩), .pointer (some ⟨b7, 0, none⟩), .slice aH i capH, .pointer (some ⟨b15, 0, none⟩), .slice aI i capI, .int .i64 i, .int .i64 k] ∧
          S' = [gBox b2 0 0 none 0 0, gBox b7 e s aI i capI, chI, gBox b15 e s aF k capF, chF])
        (fun vs _ _ => match vs with | [_, _, _, _, _, _, _, .int _ k] => ((i : Int) - k).toNat | _ => 0) ?_ ?_
      · exact ⟨_, Drop.and (Drop.pick [0, 1, 2, 5] _ rfl), 0, none, 0, [], [], by omega, rfl, OwnC.nil _ _, rfl, by simp, Imm.le_refl _, rfl, rfl⟩
      rintro vs gE2 J5 S5 hJ5 ⟨k, aF, capF, chF, gF, hk, hfl, hF, hFp, hFo, hle, rfl, rfl⟩
      refine CmpD.split (fun c2 => ?_) (fun c2 => ?_)
      · have hlt : k < ims.length := by omega
        have hcell := imgCells_at hlt
        obtain ⟨hz1, hz2⟩ := hZR _ (List.getElem_mem hlt)
        have hbk := hbe k (by omega)
        rw [List.getElem?_eq_getElem hlt, Option.map_some, Option.some.injEq] at hbk
        obtain ⟨hx, hx1, hx2⟩ := hHs k (by omega)
        have hxc : (hl.map Hs.cell)[k]? = some hx.cell := by rw [List.getElem?_map, hx1]; rfl
        obtain ⟨bI, oI, rfl, hcI⟩ := SlC.cells (hI.slC (I := J5) (S := [gBox b2 0 0 none 0 0, gBox b7 e s aI i capI, chI, gBox b15 e s aF k capF, chF]) 2 rfl) (by omega)
        rcases hHR.mem with q0 | ⟨bH, oH, cH, TH, fH, rfl, hIH, hcH⟩
        · omega
        generalize ims[k] = g at *
        have hbl : blkB b k < 65536 ∧ 0 ≤ blkB b k := by
          have := nb_lt2 (gatK b 8) (6 + 66 * k : Nat)
          unfold blkB; omega
        refine Chk.mk (by omega) ?_
        refine LoadD.mk [.int .i64 g.blk, .slice g.a g.len g.cap] (by have := hcI.part (i := k * 2) (m := 2) (by omega); rw [hcell] at this; exact this) ?_
        conv => whnf
        intro b17
        repeat (first | refine StoreD.st 5 rfl rfl rfl ?_)
        refine CodeF.sched [[], [0], [], [2], [], [4], [], [], [6, 7], [6, 7, 8], [4, 5, 6, 7, 8, 9], [2, 3, 4, 5, 6, 7, 8, 9, 10], [2, 3, 4, 5, 6, 7, 8, 9, 10, 11], [0, 1, 2, 3, 4, 5, 6, 7, 8, 9, 10, 11, 12], [0, 1, 2, 3, 4, 5, 6, 7, 8, 9, 10, 11, 12, 13], [0, 1, 2, 3, 4, 5, 6, 7, 8, 9, 10, 11, 12, 13, 14]] [0, 1, 2, 3, 4, 5, 6, 7, 8, 9, 10, 11, 12, 13, 14, 15] (by kernel_rfl) ?_
        repeat (first | refine LoadP.at 3 rfl _ rfl rfl ?_ | refine LoadP.at 5 rfl _ rfl rfl ?_)
        refine Chk.mk (by omega) ?_
        refine LoadP.imm [hx.cell] ⟨cH, TH, fH, .imm (hle _ _ hIH), take_get hcH hxc, rfl⟩ ?_
        rw [hz1]
        refine Tri.free (shown_fix J5 g.a g.cap noughts (hz2.mono hle) hx.b hx.off hx.cap (hidB b k) (hx2.2.mono (Imm.le_trans hJ4 hle)) hx2.1) ?_
        rintro v J6 _ hJ6 ⟨a6, cap6, rfl, h6⟩
        repeat (first | refine Chk.mk ⟨rfl, rfl, trivial⟩ ?_)
        conv => whnf
        intro bN
        repeat (first | refine Chk.mk ⟨rfl, trivial⟩ ?_)
        refine appendD tabOk rfl rfl rfl rfl rfl rfl rfl 4 rfl hF (SrcOk.slice (n := 1) (news := imgCells [⟨g.blk, a6, 4096, cap6, shoK noughts (hidB b k) 8⟩]) tabOk rfl ((OwnC.whole (len := 1) (size := 2) rfl).slC 6 rfl) (by intro v hv; simp [imgCells] at hv; rcases hv with rfl | rfl <;> rfl)) rfl (by show (k + 1) * 32 ≤ _; omega) (by omega) ?_
        intro aF2 capF2 chF2 hF2
        repeat (first | refine StoreD.st 3 rfl rfl rfl ?_)
        refine ToD.i64 (by omega) (by omega) ?_
        refine ⟨_, Drop.pick [0, 1, 2, 3, 4] _ rfl, ⟨k + 1, aF2, capF2, chF2, gF ++ [⟨g.blk, a6, 4096, cap6, shoK noughts (hidB b k) 8⟩], by omega, by simp [hfl], by rw [imgCells_snoc]; exact hF2, ?_, ?_, Imm.le_trans hle hJ6, rfl, rfl⟩, ?_⟩
        · rw [List.map_append, hFp, List.range_succ, List.map_append]
          show _ ++ [(g.blk, shoK noughts (hidB b k) 8)] = _ ++ [(blkB b k, shoK noughts (hidB b k) 8)]
          rw [hbk]
        · intro y hy
          rcases List.mem_append.1 hy with hy | hy
          · exact (hFo y hy).mono hJ6
          · simp only [List.mem_singleton] at hy
            subst hy
            exact ⟨by show In64 g.blk; rw [hbk]; unfold In64; omega, h6⟩
        · show ((i : Int) - ((k : Int) + 1)).toNat < ((i : Int) - k).toNat; omega
      · obtain rfl : k = i := by omega
        repeat (first | refine LoadD.own 3 rfl _ rfl rfl ?_)
        have hFi : gF.map Img.pr = imsB b := by rw [hFp, imsB, ← hc]
        refine Tri.fix 4 (ch := chF) rfl fun I7 hI7 hFm => ?_
        have hFok : ImgsOk I7 aF gF := ⟨by have := Rds.of_ownS hF hFm; rw [hfl]; exact this, fun g hg => (hFo g hg).mono hI7⟩
        have hput := put_of e s ⟨by unfold In64; omega, by unfold In64; omega⟩ aF capF gF I7 hFok (by omega)
        rw [hfl, hFi] at hput
        refine Tri.free hput ?_
        rintro v J8 _ hJ8 (⟨hR, rfl⟩ | ⟨hR, aO, capO, bs, rfl, hO, hOd, hOk⟩)
        · skip
          refine CodeF.sched [[], [], [], [2], [2, 3], [2, 3, 4], [2, 3, 4, 5], [2, 3, 4, 5, 6], [2, 3, 4], [2, 3, 4, 5, 6, 7, 8], [2, 3, 4, 5, 6, 7, 8, 9], [0, 2, 3, 4, 5, 6, 7, 8, 9], [0, 1, 2, 3, 4, 5, 6, 7, 8, 9, 11], [0, 1, 2, 3, 4, 5, 6, 7, 8, 9, 10, 11, 12]] [0, 1, 2, 3, 4, 5, 6, 7, 8, 9, 10, 11, 12, 13] (by kernel_rfl) ?_
          repeat (first | refine LoadD.own 0 rfl _ rfl rfl ?_ | refine LoadP.at 1 rfl _ rfl rfl ?_ | refine StoreD.st 0 rfl rfl rfl ?_ | refine CmpD.no (by decide) ?_)
          refine Done.mk ⟨[[]], Drop.pick [] _ rfl |>.trans (Drop.flat rfl), .inl ⟨?_, _, _, _, _, _, _, _, _, rfl, rfl⟩⟩
          unfold hdP
          rw [if_neg (fun h' => hR (by rw [he, hs]; exact h'.1))]
        · rcases hO.mem with q0 | ⟨bO, oO, cO, TO, fO, rfl, hIO, hcO⟩
          · omega
          skip
          refine CodeF.sched [[], [], [], [2], [2, 3], [2, 3, 4], [2, 3, 4, 5], [2, 3, 4, 5, 6], [2, 3, 4], [2, 3, 4, 5, 6, 7, 8], [2, 3, 4, 5, 6, 7, 8, 9], [0, 2, 3, 4, 5, 6, 7, 8, 9], [0, 1, 2, 3, 4, 5, 6, 7, 8, 9, 11], [0, 1, 2, 3, 4, 5, 6, 7, 8, 9, 10, 11, 12]] [0, 1, 2, 3, 4, 5, 6, 7, 8, 9, 10, 11, 12, 13] (by kernel_rfl) ?_
          repeat (first | refine LoadP.at 1 rfl _ rfl rfl ?_ | refine CmpD.yes rfl ?_)
          refine Chk.mk (by omega) ?_
          obtain ⟨b0, bs', rfl⟩ : ∃ b0 bs', bs = b0 :: bs' := by
            cases bs with
            | nil => simp [putP] at hOd
            | cons b0 bs' => exact ⟨b0, bs', rfl⟩
          have hb0d : b0.data = hblk e s (imsB b) := by
            have := congrArg (·[0]?) hOd
            simpa [putP_eq] using this
          have hb0 := hOk b0 (by simp)
          refine LoadP.imm [b0.cell] ⟨cO, TO, fO, .imm hIO, take_get (i := 0) hcO rfl, rfl⟩ ?_
          refine Tri.nf (bytes_Equal (Rds.slC hb0) (hb4r.mono (Imm.le_trans hle (Imm.le_trans hI7 hJ8))).slC) ?_
          rintro v _ _ _ ⟨rfl, rfl, rfl⟩
          by_cases heq : b0.data = b
          · rw [decide_eq_true heq]
            repeat (first | refine LoadD.own 0 rfl _ rfl rfl ?_ | refine StoreD.st 0 rfl rfl rfl ?_ | refine Chk.mk ⟨rfl, trivial⟩ ?_)
            have hsome : hdP b = some (hbE b, hbS b, imsB b) := by
              unfold hdP
              rw [if_pos ⟨by rw [← he, ← hs]; exact hR, by rw [← he, ← hs, ← hb0d]; exact heq⟩]
            rw [← he, ← hs] at hsome
            refine Done.mk ⟨[chI], Drop.pick [2] _ rfl, ?_⟩
            rw [← he, ← hs, ← hc]
            refine .inr ⟨hsome, aI, capI, chI, ims, aH, capH, hl, rfl, hI, hblks, hHR.mono (Imm.le_trans hle (Imm.le_trans hI7 hJ8)), fun k hk => ?_, rfl⟩
            obtain ⟨x, h1, h2⟩ := hHs k hk
            exact ⟨x, h1, h2.mono (Imm.le_trans hJ4 (Imm.le_trans hle (Imm.le_trans hI7 hJ8)))⟩
          · rw [decide_eq_false heq]
            repeat (first | refine LoadD.own 0 rfl _ rfl rfl ?_ | refine StoreD.st 0 rfl rfl rfl ?_ | refine Chk.mk ⟨rfl, trivial⟩ ?_)
            refine Done.mk ⟨[[]], Drop.pick [] _ rfl |>.trans (Drop.flat rfl), .inl ⟨?_, _, _, _, _, _, _, _, _, rfl, rfl⟩⟩
            unfold hdP
            rw [if_neg (fun h' => heq (by rw [hb0d, he, hs]; exact h'.2))]
end Go.Proofs.YtegdcjnjnoeinaaGreat
namespace Go.Proofs.YtegdcjnjnoeinaaGreat
open Go.RowKit Go.Sl
set_option maxRecDepth 20000

def headV (b : Dat) : Value := match hdP b with
  | none => .tuple #[.int .i64 0, .int .i64 0, .int .i64 0, .bool false]
  | some (e, s, l) => .tuple #[.int .i64 (e : Nat), .int .i64 (s : Nat), .int .i64 (l.length : Nat), .bool true]
theorem record_Head (I : Imm) (a : Option Addr) (len cap : Nat) (b : Dat) (h : Rds I a len (bts b)) (hcap : len ≤ cap) (hlen : len ≤ 1000000000) :
    Tri Tryz.prog 227 #[.slice a len cap] I [] fun v _ _ => v = headV b := by
  refine Tri.of (args := [.slice a len cap]) tabOk Tryz.func227 rfl (by kernel_rfl) (by kernel_rfl) ?_
  refine Tri.mono (record_head I a len cap b h hcap hlen) ?_
  rintro v J S' hJ (⟨hn, x, y, aI, n, capI, aH, m, capH, rfl, rfl⟩ | ⟨hs, aI, capI, chI, ims, aH, capH, hl, rfl, hI, hb, hH, hk, rfl⟩)
  · conv => whnf
    intro b6
    repeat (first | refine StoreD.st 1 rfl rfl rfl ?_)
    refine Done.mk ?_
    unfold headV; rw [hn]; rfl
  · conv => whnf
    intro b6
    repeat (first | refine StoreD.st 1 rfl rfl rfl ?_)
    refine CodeF.sched [[], [0], [], [2], [], [4], [4, 5], [0, 1], [0, 1, 2, 3, 7], [0, 1, 2, 3, 4, 5, 6, 7, 8], [0, 1, 2, 3, 4, 5, 6, 7, 8, 9]] [0, 1, 2, 3, 4, 5, 6, 7, 8, 9, 10] (by kernel_rfl) ?_
    repeat (first | refine LoadP.at 1 rfl _ rfl rfl ?_)
    refine Done.mk ?_
    unfold headV; rw [hs]
    show _ = Value.tuple #[_, _, .int .i64 ((imsB b).length : Nat), _]
    rw [imsB_length]; rfl
theorem imgCells_set (gs : List Img) (i : Nat) (hi : i < gs.length) (g : Img) (hb : g.blk = gs[i].blk) : (imgCells gs).take (i * 2 + 1) ++ [.slice g.a g.len g.cap] ++ (imgCells gs).drop (i * 2 + 1 + 1) = imgCells (gs.set i g) := by
  induction gs generalizing i with
  | nil => simp at hi
  | cons x gs ih =>
    have e : ∀ (y : Img) (l : List Img), imgCells (y :: l) = .int .i64 y.blk :: .slice y.a y.len y.cap :: imgCells l := fun y l => by simp [imgCells]
    cases i with
    | zero =>
      simp only [List.getElem_cons_zero] at hb
      rw [e, List.set_cons_zero, e, hb]; simp
    | succ i =>
      simp only [List.getElem_cons_succ] at hb
      have := ih i (by simpa using hi) hb
      rw [e, List.set_cons_succ, e, ← this, show (i + 1) * 2 + 1 = (i * 2 + 1) + 2 by omega, show (i * 2 + 1) + 2 + 1 = (i * 2 + 1 + 1) + 2 by omega]
      rfl
set_option maxHeartbeats 4000000 in
theorem record_Get (I : Imm) (aL : Option Addr) (n capL : Nat) (bks : List Bk) (hn : n ≤ 1000000) (h : Rds I aL n (bks.map Bk.cell)) (hcap : n ≤ capL) (hok : ∀ x ∈ bks, BkOk I x ∧ 4096 ≤ x.cap) :
    Tri Tryz.prog 229 #[.slice aL n capL] I [] fun v J _ =>
      (getP (bks.map Bk.data) = none ∧ v = .tuple #[.agg #[.int .i64 0, .int .i64 0, .slice none 0 0], .int .i64 80]) ∨
      (∃ e s l, getP (bks.map Bk.data) = some (e, s, l) ∧ ∃ aI capI gs, v = .tuple #[.agg #[.int .i64 (e : Nat), .int .i64 (s : Nat), .slice aI gs.length capI], .int .i64 0] ∧ ImgsOk J aI gs ∧ gs.map Img.pr = l) := by
  refine Tri.fixed (Q := fun v J S' => ∃ chI, S' = [chI] ∧
      ((getP (bks.map Bk.data) = none ∧ v = .tuple #[.agg #[.int .i64 0, .int .i64 0, .slice none 0 0], .int .i64 80]) ∨
      (∃ e s l, getP (bks.map Bk.data) = some (e, s, l) ∧ ∃ aI capI gs, v = .tuple #[.agg #[.int .i64 (e : Nat), .int .i64 (s : Nat), .slice aI gs.length capI], .int .i64 0] ∧ OwnC chI 2 aI gs.length capI (imgCells gs) ∧ (∀ g ∈ gs, ImgOk J g) ∧ gs.map Img.pr = l))) ?_ ?_
  rotate_left
  · rintro v J S' hJ ⟨chI, rfl, h⟩
    refine ⟨0, chI, rfl, fun J' hJ' hm => ?_⟩
    rcases h with h | ⟨e, s, l, h1, aI, capI, gs, rfl, hO, hk, hp⟩
    · exact .inl h
    · exact .inr ⟨e, s, l, h1, aI, capI, gs, rfl, ⟨Rds.of_ownS hO hm, fun g hg => (hk g hg).mono hJ'⟩, hp⟩
  have hl : bks.length = n := by have := h.len; rwa [List.length_map] at this
  refine Tri.drop ?_ (fun _ _ _ _ h => h)
  refine Tri.of (args := [.slice aL n capL]) tabOk Tryz.func229 rfl (by kernel_rfl) (by kernel_rfl) ?_
  conv => whnf
  intro b2
  have bad : ∀ (J : Imm) (S : St), getP (bks.map Bk.data) = none → ∃ S'', Drop S S'' ∧ ∃ chI, S'' = [chI] ∧
      ((getP (bks.map Bk.data) = none ∧ Value.tuple #[.agg #[.int .i64 0, .int .i64 0, .slice none 0 0], .int .i64 80] = .tuple #[.agg #[.int .i64 0, .int .i64 0, .slice none 0 0], .int .i64 80]) ∨
      (∃ e s l, getP (bks.map Bk.data) = some (e, s, l) ∧ ∃ aI capI gs, Value.tuple #[.agg #[.int .i64 0, .int .i64 0, .slice none 0 0], .int .i64 80] = .tuple #[.agg #[.int .i64 (e : Nat), .int .i64 (s : Nat), .slice aI gs.length capI], .int .i64 0] ∧ OwnC chI 2 aI gs.length capI (imgCells gs) ∧ (∀ g ∈ gs, ImgOk J g) ∧ gs.map Img.pr = l)) :=
    fun J S hg => ⟨[[]], (Drop.pick [] _ rfl).trans (Drop.flat rfl), [], rfl, .inl ⟨hg, rfl⟩⟩
  refine CmpD.split (fun c0 => ?_) (fun c0 => ?_)
  · repeat (first | refine LoadD.own 0 rfl _ rfl rfl ?_ | refine StoreD.st 0 rfl rfl rfl ?_)
    refine Done.mk (bad _ _ ?_)
    have : bks = [] := List.length_eq_zero_iff.1 (by omega)
    rw [this]; rfl
  rcases h.mem with q0 | ⟨bA, oA, cA, TA, fA, rfl, hIA, hcA⟩
  · omega
  obtain ⟨k0, rest, rfl⟩ : ∃ k0 rest, bks = k0 :: rest := by
    cases bks with
    | nil => simp at hl; omega
    | cons k0 rest => exact ⟨k0, rest, rfl⟩
  have hk0 := hok k0 (by simp)
  have hrest : ∀ x ∈ rest, BkOk I x ∧ 4096 ≤ x.cap := fun x hx => hok x (by simp [hx])
  have hrl : rest.length + 1 = n := by simpa using hl
  skip
  refine Chk.mk (by omega) ?_
  refine LoadD.imm hIA [k0.cell] (take_get (i := 0) hcA rfl) rfl ?_
  refine Tri.frame (record_head I k0.a 4096 k0.cap k0.data hk0.1 hk0.2 (by omega)) [] rfl rfl ?_
  rintro v J1 A' hJ1 (⟨hnone, x, y, aI, m, capI, aH, m2, capH, rfl, rfl⟩ | ⟨hsome, aI, capI, chI, ims, aH, capH, hs, rfl, hI, hblks, hH, hHs, rfl⟩)
  · refine ⟨by simp, ?_⟩
    conv => whnf
    intro b4
    repeat (first | refine LoadD.own 0 rfl _ rfl rfl ?_ | refine StoreD.st 0 rfl rfl rfl ?_ | refine StoreD.st 2 rfl rfl rfl ?_)
    exact Done.mk (bad _ _ (getP_none hnone))
  refine ⟨by simp, ?_⟩
  obtain ⟨_, _, _, hR, _, hb4, _⟩ := hdP_some hsome
  have hc32 := hR.2.2.2.2.2.1
  have hc1 := hR.2.2.2.2.1
  rw [imsB_length] at hc32 hc1
  have hcl : ims.length = cntB k0.data := by have := congrArg List.length hblks; simpa using this
  have hgood := fun (rs : List Dat) => getP_good (rest := rs) hsome
  have hbad := fun (rs : List Dat) => getP_bad (rest := rs) hsome
  rw [imsB_length] at hgood hbad
  obtain ⟨e, he⟩ : ∃ e, e = hbE k0.data := ⟨_, rfl⟩
  obtain ⟨s, hse⟩ : ∃ s, s = hbS k0.data := ⟨_, rfl⟩
  obtain ⟨c, hc⟩ : ∃ c, c = cntB k0.data := ⟨_, rfl⟩
  rw [← hc] at hc32 hc1 hcl hgood hbad hI hH hHs hblks
  rw [← he, ← hse] at hgood hbad
  rw [← he, ← hse, ← hc]
  conv => whnf
  intro b4
  repeat (first | refine LoadD.own 2 rfl _ rfl rfl ?_ | refine StoreD.st 2 rfl rfl rfl ?_)
  refine Tri.free (record_Blocks c J1 []) ?_
  rintro v _ _ hJ ⟨rfl, rfl, rfl⟩
  have hbn : blocksN c = ((c + 1 : Nat) : Int) := by unfold blocksN; rw [if_neg (by omega)]; omega
  rw [hbn]
  refine CmpD.split (fun c1 => ?_) (fun c1 => ?_)
  rotate_left
  · repeat (first | refine LoadD.own 0 rfl _ rfl rfl ?_ | refine StoreD.st 0 rfl rfl rfl ?_)
    refine Done.mk (bad _ _ (hbad _ fun h' => c1 ?_))
    have := h'.1
    rw [List.length_map] at this
    omega
  have hcr : rest.length = c := by omega
  skip
  refine sliceD tabOk rfl rfl rfl rfl 1 n capL ⟨_, rfl⟩ rfl rfl (.inl rfl) (by omega) ?_
  have hx : slAddr (some ⟨bA, oA, none⟩) 1 capL Tryz.t32.size = some ⟨bA, oA + 1, none⟩ := by
    unfold slAddr
    rw [if_neg (by omega)]
    rfl
  have hcA2 : (cA.drop (oA + 1)).take c = rest.map Bk.cell := by
    have := take_part hcA (i := 1) (m := c) (by omega)
    rw [this, List.map_cons, List.drop_succ_cons, List.drop_zero, List.take_of_length_le (by rw [List.length_map]; omega)]
  rcases hI.at' with q0 | ⟨bI, pre, post, TI, rfl, rfl, hpost⟩
  · have := hI.le; omega
  obtain rfl : n = c + 1 := by omega
  obtain ⟨D, hD⟩ : ∃ D, D = rest.map Bk.data := ⟨_, rfl⟩
  have hDl : D.length = c := by rw [hD, List.length_map, hcr]
  have hmap : (k0 :: rest).map Bk.data = k0.data :: D := by rw [hD]; rfl
  rw [hmap] at bad ⊢
  have hR1 := hR.1
  have hR2 := hR.2.1
  have hR3 := hR.2.2.1
  have hR4 := hR.2.2.2.1
  rw [← he] at hR1 hR2
  rw [← hse] at hR3 hR4
  have stm : ∀ r : Dat, Stmp r e s ↔ (r.length = 4096 ∧ Bears (stampB e s) r) := by
    intro r
    constructor
    · intro h'; exact ⟨h'.1, by have := h'.2.2.2.2.2; rwa [Int.toNat_natCast, Int.toNat_natCast] at this⟩
    · rintro ⟨h1, h2⟩; exact ⟨h1, hR1, hR2, hR3, hR4, by rw [Int.toNat_natCast, Int.toNat_natCast]; exact h2⟩
  refine CodeF.loopD [2, 4, 5, 34, 35, 36] (fun vs J' S' => ∃ (i : Nat) (gs : List Img), i ≤ c ∧ gs.length = c ∧ gs.map Img.blk = (List.range c).map (blkB k0.data) ∧ RestOk e s (D.take i) ∧
      (∀ k, k < i → ∃ g, gs[k]? = some g ∧ ImgOk J' g ∧ g.len = 4096 ∧ g.data = shoK (D.getD k []) (hidB k0.data k) 8) ∧ J1.le J' ∧
      vs = [.pointer (some ⟨b2, 0, none⟩), .pointer (some ⟨b4, 0, none⟩), .slice aH c capH, .slice (some ⟨bA, oA + 1, none⟩) c (capL - 1), .int .i64 c, .int .i64 i] ∧
      S' = [gBox b2 0 0 none 0 0, [(bI, row (pre ++ imgCells gs ++ post) TI)], gBox b4 e s (some ⟨bI, pre.length, none⟩) c capI])
    (fun vs _ _ => match vs with | [_, _, _, _, _, .int _ i] => ((c : Int) - i).toNat | _ => 0) ?_ ?_
  · exact ⟨_, Drop.pick [0, 1, 2] _ rfl, 0, ims, by omega, hcl, hblks, by intro r hr; simp at hr, fun k hk => by omega, Imm.le_refl _, by rw [← hx]; rfl, rfl⟩
  rintro vs gE J2 S2 hJ2 ⟨i, gs, hi, hgl, hgb, hrs, hgk, hle, rfl, rfl⟩
  have h2 := hI.n
  refine CmpD.split (fun c2 => ?_) (fun c2 => ?_)
  · have hlt : i < rest.length := by omega
    have hlt2 : i < gs.length := by omega
    have hx2 : (rest.map Bk.cell)[i]? = some rest[i].cell := by rw [List.getElem?_map, List.getElem?_eq_getElem hlt]; rfl
    have hDi : D[i]? = some rest[i].data := by rw [hD, List.getElem?_map, List.getElem?_eq_getElem hlt]; rfl
    have hki := hrest _ (List.getElem_mem hlt)
    obtain ⟨hh, hh1, hh2⟩ := hHs i (by omega)
    have hxc : (hs.map Hs.cell)[i]? = some hh.cell := by rw [List.getElem?_map, hh1]; rfl
    rcases hH.mem with q0 | ⟨bH, oH, cH, TH, fH, rfl, hIH, hcH⟩
    · omega
    generalize rest[i] = ki at *
    have hIJ : I.le J2 := Imm.le_trans hJ1 hle
    refine Chk.mk (by omega) ?_
    refine LoadD.imm (hIJ _ _ hIA) [ki.cell] (take_get hcA2 hx2) rfl ?_
    repeat (first | refine LoadD.own 2 rfl _ rfl rfl ?_)
    refine Tri.free (stamped_of J2 ki.a 4096 ki.cap ki.data (hki.1.mono hIJ) hki.2 e s) ?_
    rintro v J3 _ hJ3 ⟨br, rfl, hbr⟩
    cases br
    · repeat (first | refine LoadD.own 0 rfl _ rfl rfl ?_ | refine StoreD.st 0 rfl rfl rfl ?_)
      refine Done.mk (bad _ _ (hbad _ fun h' => ?_))
      have := (stm ki.data).2 (h'.2 _ (List.mem_of_getElem? hDi))
      exact absurd (hbr.2 this) (by simp)
    have hst := (stm _).1 (hbr.1 rfl)
    have hJ3' := Imm.le_trans hle hJ3
    skip
    refine CodeF.sched [[], [0], [], [], [], [], [4, 5], [4, 5, 6], [3, 4, 5, 6, 7], [0, 1, 2, 3, 4, 5, 6, 7, 8], [0, 1, 2, 3, 4, 5, 6, 7, 8, 9], [0, 1, 2, 3, 4, 5, 6, 7, 8, 9, 10]] [0, 1, 2, 3, 4, 5, 6, 7, 8, 9, 10, 11] (by kernel_rfl) ?_
    repeat (first | refine LoadP.at 2 rfl _ rfl rfl ?_)
    refine Chk.mk (by omega) ?_
    refine LoadP.imm [hh.cell] ⟨cH, TH, fH, .imm (hJ3' _ _ hIH), take_get hcH hxc, rfl⟩ ?_
    refine Tri.free (shown_fix J3 ki.a ki.cap ki.data (hki.1.mono (Imm.le_trans hIJ hJ3)) hh.b hh.off hh.cap (hidB k0.data i) (hh2.2.mono hJ3') hh2.1) ?_
    rintro v J4 _ hJ4 ⟨a6, cap6, rfl, h6⟩
    repeat (first | refine Chk.mk ⟨rfl, trivial⟩ ?_)
    refine Chk.mk (by omega) ?_
    have hgi : gs[i].blk = blkB k0.data i := by
      have := congrArg (·[i]?) hgb
      simp only [List.getElem?_map, List.getElem?_eq_getElem hlt2, Option.map_some, List.getElem?_range (show i < c by omega), Option.some.injEq] at this
      exact this
    have hcells := imgCells_set gs i hlt2 ⟨gs[i].blk, a6, 4096, cap6, shoK ki.data (hidB k0.data i) 8⟩ rfl
    have hcl2 := imgCells_length gs
    have hsp : splice (pre ++ imgCells gs ++ post) (pre.length + (i * 2 + 1)) [.slice a6 4096 cap6] = pre ++ imgCells (gs.set i ⟨gs[i].blk, a6, 4096, cap6, shoK ki.data (hidB k0.data i) 8⟩) ++ post := by
      rw [splice_mid _ _ _ _ _ (by rw [hcl2]; simp; omega), ← hcells]; rfl
    refine StoreD.to 1 rfl _ hsp (by simp only [List.length_append, hcl2]; show pre.length + (i * 2 + 1) + 1 ≤ _; omega) (.inr (.inr (Nat.le_refl _))) _ rfl ?_
    refine ToD.i64 (by omega) (by omega) ?_
    refine ⟨_, Drop.pick [0, 1, 2] _ rfl, ⟨i + 1, gs.set i ⟨gs[i].blk, a6, 4096, cap6, shoK ki.data (hidB k0.data i) 8⟩, by omega, by rw [List.length_set]; exact hgl, ?_, ?_, ?_, Imm.le_trans hJ3' hJ4, rfl, rfl⟩, ?_⟩
    · rw [List.map_set, hgb]
      show List.set _ _ gs[i].blk = _
      rw [hgi]
      refine getElem_eq_of (by simp) fun j j1 j2 => ?_
      rw [List.getElem_set]
      split
      · rename_i he; subst he; simp
      · rfl
    · intro r hr
      rw [List.take_add_one, hDi] at hr
      rcases List.mem_append.1 hr with hr | hr
      · exact hrs r hr
      · simp only [Option.toList_some, List.mem_singleton] at hr
        subst hr
        exact hst
    · intro k hk
      rcases Nat.lt_or_ge k i with g | g
      · obtain ⟨y, y1, y2, y3, y4⟩ := hgk k g
        exact ⟨y, by rw [List.getElem?_set_ne (by omega)]; exact y1, y2.mono (Imm.le_trans hJ3 hJ4), y3, y4⟩
      · obtain rfl : k = i := by omega
        have hbl : In64 gs[k].blk := by
          rw [hgi]
          have := nb_lt2 (gatK k0.data 8) (6 + 66 * k : Nat)
          unfold blkB In64; omega
        refine ⟨_, List.getElem?_set_self hlt2, ⟨hbl, h6⟩, rfl, ?_⟩
        rw [List.getD_eq_getElem?_getD, hDi]; rfl
    · show ((c : Int) - ((i : Int) + 1)).toNat < ((c : Int) - i).toNat; omega
  · obtain rfl : i = c := by omega
    repeat (first | refine LoadD.own 0 rfl _ rfl rfl ?_ | refine LoadD.own 2 rfl _ rfl rfl ?_ | refine StoreD.st 0 rfl rfl rfl ?_)
    rw [List.take_of_length_le (by omega)] at hrs
    have hg := hgood D ⟨hDl, hrs⟩
    have hcl2 := imgCells_length gs
    refine Done.mk ⟨[[(bI, row (pre ++ imgCells gs ++ post) TI)]], Drop.pick [1] _ rfl, _, rfl, .inr ⟨e, s, _, hg, some ⟨bI, pre.length, none⟩, capI, gs, by rw [hgl]; rfl, ⟨hcl2, by rw [hgl]; exact hI.le, .inr ⟨bI, pre, post, TI, rfl, rfl, by rw [hgl]; exact hpost⟩⟩, ?_, ?_⟩⟩
    · intro g hg
      obtain ⟨k, hk, hke⟩ := List.mem_iff_getElem.1 hg
      obtain ⟨y, y1, y2, _⟩ := hgk k (by omega)
      rw [List.getElem?_eq_getElem hk, Option.some.injEq] at y1
      rw [← hke, y1]; exact y2
    · refine getElem_eq_of (by simp [getL, hgl, hDl]) fun k k1 k2 => ?_
      rw [List.length_map] at k1
      obtain ⟨y, y1, y2, y3, y4⟩ := hgk k (by omega)
      rw [List.getElem?_eq_getElem k1, Option.some.injEq] at y1
      have hb := congrArg (·[k]?) hgb
      simp only [List.getElem?_map, List.getElem?_eq_getElem k1, Option.map_some, List.getElem?_range (show k < i by omega), Option.some.injEq] at hb
      simp only [List.getElem_map, getL, List.getElem_range]
      rw [← hb, ← y4, ← y1]
end Go.Proofs.YtegdcjnjnoeinaaGreat
namespace Go.Proofs.YtegdcjnjnoeinaaGreat
open Go.RowKit Go.Sl
set_option maxRecDepth 20000

@[reducible] def rChunk (b bD : Nat) (x : Lay) (e : Int) : List Blk := [(b, row [.pointer (some ⟨bD, 0, none⟩), .int .i64 x.b, .int .i64 x.l, .int .i64 x.lb, .int .i64 x.bi, .int .i64 x.i, .int .i64 x.ib, .int .i64 x.d, .int .i64 e] 226)]
theorem tmod_nat (a b : Nat) : ((a : Int)).tmod (b : Int) = ((a % b : Nat) : Int) := by
  rw [Int.tmod_eq_emod_of_nonneg (by omega)]; rfl
/-- a block of the ring, read -/
theorem ring_block {I : Imm} {bR bD : Nat} {d : DSt} {chD : List Blk} (hD : Dk I bD d chD) (x : Lay) (l lb : Nat) (hl : x.l = l) (hlb : x.lb = lb) (h0 : 0 < lb) (hlen : l + lb ≤ d.now.length) (e : Int) (at_ : Nat) :
    Tri Tryz.prog 228 #[.pointer (some ⟨bR, 0, none⟩), .int .i64 at_] I [rChunk bR bD x e, chD] fun v J S' => ∃ a cap, v = .slice a (d.read ((l + at_ % lb : Nat) : Int)).1.length cap ∧ Rds J a (d.read ((l + at_ % lb : Nat) : Int)).1.length (bts (d.read ((l + at_ % lb : Nat) : Int)).1) ∧ (d.read ((l + at_ % lb : Nat) : Int)).1.length ≤ cap ∧
      S' = [rChunk bR bD x (if e = 0 then (d.read ((l + at_ % lb : Nat) : Int)).2 else e), chD] := by
  have hr := hD.wf.range
  have hm := Nat.mod_lt at_ h0
  refine Tri.drop (Tri.fixed (Q := fun v _ S' => ∃ a cap chB, v = .slice a (d.read ((l + at_ % lb : Nat) : Int)).1.length cap ∧ OwnB chB a (d.read ((l + at_ % lb : Nat) : Int)).1.length cap (d.read ((l + at_ % lb : Nat) : Int)).1 ∧
      S' = [rChunk bR bD x (if e = 0 then (d.read ((l + at_ % lb : Nat) : Int)).2 else e), chD, chB]) ?_ (K := fun v J S' => ∃ a cap, v = .slice a (d.read ((l + at_ % lb : Nat) : Int)).1.length cap ∧ Rds J a (d.read ((l + at_ % lb : Nat) : Int)).1.length (bts (d.read ((l + at_ % lb : Nat) : Int)).1) ∧ (d.read ((l + at_ % lb : Nat) : Int)).1.length ≤ cap ∧
      S' = [rChunk bR bD x (if e = 0 then (d.read ((l + at_ % lb : Nat) : Int)).2 else e), chD, []]) ?_) ?_
  · rcases x with ⟨x1, x2, x3, x4, x5, x6, x7⟩
    dsimp only at hl hlb
    subst hl hlb
    refine Tri.of (args := [.pointer (some ⟨bR, 0, none⟩), .int .i64 at_]) tabOk Tryz.func228 rfl (by kernel_rfl) (by kernel_rfl) ?_
    refine CodeF.sched [[], [0], [0, 1], [0, 1, 2], [], [4], [4, 5], [4, 5, 6], [4, 5, 6, 7], [], [], [10], [10, 11], [10, 11, 12], [10, 11, 12, 13], [9, 10, 11, 12, 13, 14], [4, 5, 6, 7, 8, 9, 10, 11, 12, 13, 14, 15], [0, 1, 2, 3, 4, 5, 6, 7, 8, 9, 10, 11, 12, 13, 14, 15, 16], [0, 1, 2, 3, 4, 5, 6, 7, 8, 9, 10, 11, 12, 13, 14, 15, 16, 17], [0, 1, 2, 3, 4, 5, 6, 7, 8, 9, 10, 11, 12, 13, 14, 15, 16, 17, 18], [0, 1, 2, 3, 4, 5, 6, 7, 8, 9, 10, 11, 12, 13, 14, 15, 16, 17, 18], [0, 1, 2, 3, 4, 5, 6, 7, 8, 9, 10, 11, 12, 13, 14, 15, 16, 17, 18, 19], [0, 1, 2, 3, 4, 5, 6, 7, 8, 9, 10, 11, 12, 13, 14, 15, 16, 17, 18, 19, 20, 21]] [0, 1, 2, 3, 4, 5, 6, 7, 8, 9, 10, 11, 12, 13, 14, 15, 16, 17, 18, 19, 20, 21, 22] (by kernel_rfl) ?_
    repeat (first | refine LoadP.at 0 rfl _ rfl rfl ?_)
    refine Chk.mk (by show (lb : Int) ≠ 0; omega) ?_
    refine ToD.to _ (tmod_nat _ _) ?_
    refine ToD.to (((l + at_ % lb : Nat)) : Int) (by show IntKind.i64.wrap ((l : Int) + ((at_ % lb : Nat) : Int)) = _; rw [wrap_i64 (by omega) (by omega)]; omega) ?_
    refine Tri.frame (dk_Read hD ((l + at_ % lb : Nat) : Int)) [1] rfl rfl ?_
    rintro v J A' hJ ⟨a, cap, chB, rfl, hB, rfl, rfl⟩
    refine ⟨by simp, ?_⟩
    repeat (first | refine LoadD.own 0 rfl _ rfl rfl ?_)
    refine CmpD.split (fun c1 => ?_) (fun c1 => ?_)
    · repeat (first | refine StoreD.st 0 rfl rfl rfl ?_)
      refine Done.mk ⟨a, cap, chB, rfl, hB, ?_⟩
      rw [if_pos c1]; rfl
    · skip
      refine Done.mk ⟨a, cap, chB, rfl, hB, ?_⟩
      rw [if_neg c1]
  · rintro v J S' hJ ⟨a, cap, chB, rfl, hB, rfl⟩
    exact ⟨2, chB, rfl, fun J' hJ' hm => ⟨a, cap, rfl, Rds.of_own hB hm, hB.le, rfl⟩⟩
  · rintro v J S' hJ ⟨a, cap, rfl, h1, h2, rfl⟩
    exact ⟨_, Drop.pick [0, 1] _ rfl, a, cap, rfl, h1, h2, rfl⟩
/-- the ring's block at a place -/
def rbP (d : DSt) (l lb : Nat) (at_ : Nat) : Dat := d.now.getD (l + at_ % lb) []
theorem read_up {d : DSt} (hw : d.Wf) (hdn : d.down = false) {k : Nat} (hk : k < d.now.length) : d.read (k : Int) = (d.now.getD k [], 0) := by
  have hr := hw.range
  unfold DSt.read
  rw [if_neg (by have := (wrongE_dec d.now.length (by omega) (k : Int)).2 ⟨by omega, by omega⟩; omega), hdn, if_neg (by simp), Int.toNat_natCast]
theorem read_down {d : DSt} (hw : d.Wf) (hdn : d.down = true) {k : Nat} (hk : k < d.now.length) : d.read (k : Int) = ([], 6) := by
  have hr := hw.range
  unfold DSt.read
  rw [if_neg (by have := (wrongE_dec d.now.length (by omega) (k : Int)).2 ⟨by omega, by omega⟩; omega), hdn, if_pos rfl]
theorem ring_up {I : Imm} {bR bD : Nat} {d : DSt} {chD : List Blk} (hD : Dk I bD d chD) (hdn : d.down = false) (x : Lay) (l lb : Nat) (hl : x.l = l) (hlb : x.lb = lb) (h0 : 0 < lb) (hlen : l + lb ≤ d.now.length) (at_ : Nat) :
    Tri Tryz.prog 228 #[.pointer (some ⟨bR, 0, none⟩), .int .i64 at_] I [rChunk bR bD x 0, chD] fun v J S' => ∃ bk : Bk, v = bk.cell ∧ bk.data = rbP d l lb at_ ∧ BkOk J bk ∧ 4096 ≤ bk.cap ∧ S' = [rChunk bR bD x 0, chD] := by
  have hm := Nat.mod_lt at_ h0
  have hrd := read_up hD.wf hdn (k := l + at_ % lb) (by omega)
  have hb4 : (d.now.getD (l + at_ % lb) []).length = 4096 := by
    rw [List.getD_eq_getElem?_getD, List.getElem?_eq_getElem (by omega : l + at_ % lb < d.now.length)]
    exact hD.wf.now _ (List.getElem_mem _)
  refine Tri.mono (ring_block hD x l lb hl hlb h0 hlen 0 at_) ?_
  rw [hrd]
  dsimp only
  rw [hb4]
  rintro v J S' hJ ⟨a, cap, rfl, h1, h2, rfl⟩
  exact ⟨⟨a, cap, rbP d l lb at_⟩, rfl, rfl, h1, h2, rfl⟩
theorem ring_down {I : Imm} {bR bD : Nat} {d : DSt} {chD : List Blk} (hD : Dk I bD d chD) (hdn : d.down = true) (x : Lay) (l lb : Nat) (hl : x.l = l) (hlb : x.lb = lb) (h0 : 0 < lb) (hlen : l + lb ≤ d.now.length) (at_ : Nat) :
    Tri Tryz.prog 228 #[.pointer (some ⟨bR, 0, none⟩), .int .i64 at_] I [rChunk bR bD x 0, chD] fun v J S' => ∃ a cap, v = .slice a 0 cap ∧ Rds J a 0 (bts []) ∧ S' = [rChunk bR bD x 6, chD] := by
  have hm := Nat.mod_lt at_ h0
  have hrd := read_down hD.wf hdn (k := l + at_ % lb) (by omega)
  refine Tri.mono (ring_block hD x l lb hl hlb h0 hlen 0 at_) ?_
  rw [hrd]
  rintro v J S' hJ ⟨a, cap, rfl, h1, h2, rfl⟩
  exact ⟨a, cap, rfl, h1, rfl⟩
/-- the group at a place, in so many places -/
theorem group_down {I : Imm} {bR bD : Nat} {d : DSt} {chD : List Blk} (hD : Dk I bD d chD) (hdn : d.down = true) (x : Lay) (l lb : Nat) (hl : x.l = l) (hlb : x.lb = lb) (h0 : 0 < lb) (hlen : l + lb ≤ d.now.length) (at_ : Nat) (room : Int) :
    Tri Tryz.prog 199 #[.pointer (some ⟨bR, 0, none⟩), .int .i64 at_, .int .i64 room] I [rChunk bR bD x 0, chD] fun v _ S' => v = .tuple #[.agg #[.int .i64 0, .int .i64 0, .slice none 0 0], .bool false] ∧ S' = [rChunk bR bD x 6, chD] := by
  have hnone : headV [] = .tuple #[.int .i64 0, .int .i64 0, .int .i64 0, .bool false] := by
    unfold headV
    cases h : hdP [] with
    | none => rfl
    | some p => obtain ⟨e, s, l⟩ := p; have := (hdP_some h).2.2.2.2.2.1; cases this
  refine Tri.drop ?_ (fun _ _ _ _ h => h)
  refine Tri.of (args := [.pointer (some ⟨bR, 0, none⟩), .int .i64 at_, .int .i64 room]) tabOk Tryz.func199 rfl (by kernel_rfl) (by kernel_rfl) ?_
  conv => whnf
  intro b6
  refine Tri.frame (ring_down hD hdn x l lb hl hlb h0 hlen at_) [0, 1] rfl rfl ?_
  rintro v J A' hJ ⟨a, cap, rfl, hR, rfl⟩
  refine ⟨by simp, ?_⟩
  refine Tri.free (record_Head J a 0 cap [] hR (by omega) (by omega)) ?_
  rintro v J2 _ hJ2 rfl
  rw [hnone]
  repeat (first | refine LoadD.own 2 rfl _ rfl rfl ?_ | refine StoreD.st 2 rfl rfl rfl ?_)
  exact Done.mk ⟨_, Drop.pick [0, 1] _ rfl, rfl, rfl⟩
noncomputable def grpP (rb : Nat → Dat) (at_ room : Nat) : Option (Nat × Nat × List PImg) := match hdP (rb at_) with
  | none => none
  | some (_, _, l) => if l.length + 1 ≤ room then getP ((List.range (l.length + 1)).map fun i => rb (at_ + i)) else none
set_option maxHeartbeats 2000000 in
theorem group_up {I : Imm} {bR bD : Nat} {d : DSt} {chD : List Blk} (hD : Dk I bD d chD) (hdn : d.down = false) (x : Lay) (l lb : Nat) (hl : x.l = l) (hlb : x.lb = lb) (h0 : 0 < lb) (hlen : l + lb ≤ d.now.length) (at_ : Nat) (hat : at_ ≤ 900000) (room : Nat) :
    Tri Tryz.prog 199 #[.pointer (some ⟨bR, 0, none⟩), .int .i64 at_, .int .i64 room] I [rChunk bR bD x 0, chD] fun v J S' => S' = [rChunk bR bD x 0, chD] ∧
      ((grpP (rbP d l lb) at_ room = none ∧ v = .tuple #[.agg #[.int .i64 0, .int .i64 0, .slice none 0 0], .bool false]) ∨
       (∃ e s l', grpP (rbP d l lb) at_ room = some (e, s, l') ∧ ∃ aI capI gs, v = .tuple #[.agg #[.int .i64 (e : Nat), .int .i64 (s : Nat), .slice aI gs.length capI], .bool true] ∧ ImgsOk J aI gs ∧ gs.map Img.pr = l')) := by
  refine Tri.drop ?_ (fun _ _ _ _ h => h)
  refine Tri.of (args := [.pointer (some ⟨bR, 0, none⟩), .int .i64 at_, .int .i64 room]) tabOk Tryz.func199 rfl (by kernel_rfl) (by kernel_rfl) ?_
  conv => whnf
  intro b6
  refine Tri.frame (ring_up hD hdn x l lb hl hlb h0 hlen at_) [0, 1] rfl rfl ?_
  rintro v J1 A' hJ1 ⟨bk, rfl, hbd, hbk, hbc, rfl⟩
  refine ⟨by simp, ?_⟩
  refine Tri.free (record_Head J1 bk.a 4096 bk.cap bk.data hbk hbc (by omega)) ?_
  rintro v J2 _ hJ2 rfl
  rw [hbd]
  unfold headV grpP
  cases hh : hdP (rbP d l lb at_) with
  | none =>
    repeat (first | refine LoadD.own 2 rfl _ rfl rfl ?_ | refine StoreD.st 2 rfl rfl rfl ?_)
    exact Done.mk ⟨_, Drop.pick [0, 1] _ rfl, rfl, .inl ⟨rfl, rfl⟩⟩
  | some p =>
    obtain ⟨e, s, li⟩ := p
    have hR := (hdP_some hh).2.2.2.1
    have h1 := hR.2.2.2.2.1
    have h32 := hR.2.2.2.2.2.1
    obtain ⟨n, hn⟩ : ∃ n, n = li.length := ⟨_, rfl⟩
    dsimp only
    rw [← hn] at h1 h32 ⊢
    have hbn : blocksN n = ((n + 1 : Nat) : Int) := by unfold blocksN; rw [if_neg (by omega)]; omega
    skip
    refine Tri.free (record_Blocks n J2 []) ?_
    rintro v _ _ hJ ⟨rfl, rfl, rfl⟩
    rw [hbn]
    refine CmpD.split (fun c1 => ?_) (fun c1 => ?_)
    · repeat (first | refine LoadD.own 2 rfl _ rfl rfl ?_ | refine StoreD.st 2 rfl rfl rfl ?_)
      refine Done.mk ⟨_, Drop.pick [0, 1] _ rfl, rfl, .inl ⟨?_, rfl⟩⟩
      rw [if_neg (by omega)]
    rw [if_pos (by omega)]
    skip
    refine Tri.free (record_Blocks n J2 []) ?_
    rintro v _ _ hJ ⟨rfl, rfl, rfl⟩
    rw [hbn]
    refine CodeF.loopD [0, 1, 6, 12, 35, 36] (fun vs J' S' => ∃ (i : Nat) (aS : Option Addr) (capS : Nat) (chS : List Blk) (bks : List Bk), i ≤ n + 1 ∧ OwnC chS 1 aS i capS (bks.map Bk.cell) ∧ bks.map Bk.data = (List.range i).map (fun i => rbP d l lb (at_ + i)) ∧ (∀ y ∈ bks, BkOk J' y ∧ 4096 ≤ y.cap) ∧ J2.le J' ∧
        vs = [.pointer (some ⟨bR, 0, none⟩), .int .i64 at_, .pointer (some ⟨b6, 0, none⟩), .slice aS i capS, .int .i64 (n + 1 : Nat), .int .i64 i] ∧ S' = [rChunk bR bD x 0, chD, [(b6, row [.int .i64 0, .int .i64 0, .slice none 0 0] 128)], chS])
      (fun vs _ _ => match vs with | [_, _, _, _, _, .int _ i] => ((n + 1 : Nat) - i).toNat | _ => 0) ?_ ?_
    · exact ⟨_, Drop.and (Drop.pick [0, 1, 2] _ rfl), 0, none, 0, [], [], by omega, OwnC.nil _ _, rfl, by simp, Imm.le_refl _, rfl, rfl⟩
    rintro vs gE J' S' hJ' ⟨i, aS, capS, chS, bks, hi, hS, hdat, hok, hle, rfl, rfl⟩
    refine CmpD.split (fun c2 => ?_) (fun c2 => ?_)
    · refine ToD.to (((at_ + i : Nat)) : Int) (by rw [wrap_i64 (by omega) (by omega)]; omega) ?_
      refine Tri.frame (ring_up (hD.mono (Imm.le_trans hJ1 (Imm.le_trans hJ2 hle))) hdn x l lb hl hlb h0 hlen (at_ + i)) [0, 1] rfl rfl ?_
      rintro v J3 A' hJ3 ⟨bk3, rfl, hbd3, hbk3, hbc3, rfl⟩
      refine ⟨by simp, ?_⟩
      conv => whnf
      intro bN
      refine appendD tabOk rfl rfl rfl rfl rfl rfl rfl 3 rfl hS (SrcOk.slice (n := 1) (news := [bk3.cell]) tabOk rfl ((OwnC.whole (len := 1) (size := 1) rfl).slC 4 rfl) (by intro v hv; simp only [List.mem_singleton] at hv; subst hv; rfl)) rfl (by show (i + 1) * 24 ≤ _; omega) (by omega) ?_
      intro a2 cap2 ch2 hO2
      refine ToD.i64 (by omega) (by omega) ?_
      refine ⟨_, Drop.pick [0, 1, 2, 3] _ rfl, ⟨i + 1, a2, cap2, ch2, bks ++ [bk3], by omega, by rw [List.map_append]; exact hO2, ?_, ?_, Imm.le_trans hle hJ3, rfl, rfl⟩, ?_⟩
      · rw [List.map_append, hdat, List.range_succ, List.map_append, List.map_singleton, hbd3]; rfl
      · intro y hy
        rcases List.mem_append.1 hy with hy | hy
        · exact ⟨(hok y hy).1.mono hJ3, (hok y hy).2⟩
        · simp only [List.mem_singleton] at hy
          subst hy
          exact ⟨hbk3, hbc3⟩
      · show ((n + 1 : Nat) - ((i : Int) + 1)).toNat < (((n + 1 : Nat) : Int) - i).toNat; omega
    obtain rfl : i = n + 1 := by omega
    refine Tri.fix 3 (ch := chS) rfl fun I3 hI3 hm => ?_
    have hget := record_Get I3 aS (n + 1) capS bks (by omega) (Rds.of_own hS hm) hS.le (fun y hy => ⟨(hok y hy).1.mono hI3, (hok y hy).2⟩)
    rw [hdat] at hget
    refine Tri.free hget ?_
    rintro v J4 _ hJ4 (⟨hno, rfl⟩ | ⟨e2, s2, l2, hso, aI, capI, gs, rfl, hgs, hgp⟩)
    · conv => whnf
      intro b14
      repeat (first | refine LoadD.own 2 rfl _ rfl rfl ?_ | refine LoadD.own 4 rfl _ rfl rfl ?_ | refine StoreD.st 2 rfl rfl rfl ?_ | refine StoreD.st 4 rfl rfl rfl ?_ | refine CmpD.no (by decide) ?_)
      exact Done.mk ⟨_, Drop.pick [0, 1] _ rfl, rfl, .inl ⟨hno, rfl⟩⟩
    · conv => whnf
      intro b14
      repeat (first | refine LoadD.own 2 rfl _ rfl rfl ?_ | refine LoadD.own 4 rfl _ rfl rfl ?_ | refine StoreD.st 2 rfl rfl rfl ?_ | refine StoreD.st 4 rfl rfl rfl ?_ | refine CmpD.yes rfl ?_)
      exact Done.mk ⟨_, Drop.pick [0, 1] _ rfl, rfl, .inr ⟨e2, s2, l2, hso, aI, capI, gs, rfl, hgs, hgp⟩⟩
end Go.Proofs.YtegdcjnjnoeinaaGreat

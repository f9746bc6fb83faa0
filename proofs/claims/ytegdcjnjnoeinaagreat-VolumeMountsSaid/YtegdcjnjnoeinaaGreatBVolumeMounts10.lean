/- Texts of this claim laid together: Rf11, Format, Commit, AwP, Img11, Awake11. -/
import Derived.Test.YtegdcjnjnoeinaaGreatBVolumeMounts9
import Derived.Test.YtegdcjnjnoeinaaGreatBVolumeMounts7
import Derived.Test.YtegdcjnjnoeinaaGreatBVolumeMounts8
import Derived.Test.YtegdcjnjnoeinaaGreatBVolumeMounts3
import Derived.Test.YtegdcjnjnoeinaaGreatBVolumeMounts6
import Derived.Test.YtegdcjnjnoeinaaGreatBVolumeMounts4
import Derived.Test.YtegdcjnjnoeinaaGreatBVolumeMounts1
import Derived.Test.YtegdcjnjnoeinaaGreatBVolumeMounts2
import Derived.Test.YtegdcjnjnoeinaaGreatBVolumeMounts5
namespace Go.Proofs.YtegdcjnjnoeinaaGreat
open Go.RowKit Go.Sl
set_option maxRecDepth 20000

/-- a disk's cells -/
@[reducible] def rC (s w : Hd) (count : Int) (down : Bool) (arm fault : Int) : List Value := [s.v, w.v, .int .i64 count, .bool down, .int .i64 arm, .int .i64 fault]
theorem RDk.cells {I : Imm} {v : Value} {d : DSt} (h : RDk I v d) : ∃ (s w : Hd), v = rV s w d.count d.down (gv d.arm) (gv d.fault) ∧ s.len = d.now.length := by
  obtain ⟨s, w, bS, gs, rfl, h1, h2, h3, h4⟩ := h.ex
  refine ⟨s, w, rfl, ?_⟩
  have e1 := h1.len
  have e2 := congrArg List.length h3
  have e3 := h.wf.len
  rw [List.length_map] at e1 e2
  omega
/-- a journal's cells -/
@[reducible] def jC (s w : Hd) (count : Int) (down : Bool) (arm fault : Int) (x : Lay) (rs rt ru rh ep first : Int) (sz : Hd) (syn : Int) (br : Bool) : List Value := rC s w count down arm fault ++ (x.vals ++ [.int .i64 rs, .int .i64 rt, .int .i64 ru, .int .i64 rh, .int .i64 ep, .int .i64 first, sz.v, .int .i64 syn, .bool br])
theorem r8_Open {s w : Hd} {count : Int} {down : Bool} {arm fault : Int} (n : Nat) (hn : s.len = n) (hn2 : 64 ≤ n ∧ n ≤ 512) (ep seq tail : Int) (h : OpenOk n (layOf n) ep seq tail) (I : Imm) :
    Tri Tryz.prog 120 #[rV s w count down arm fault, (layOf n).v, .int .i64 ep, .int .i64 seq, .int .i64 tail] I [] fun r J _ => I = J ∧ r = .tuple #[.agg (jC s w count down arm fault (layOf n) (layL n) tail 0 0 ep seq ⟨none, 0, 0⟩ (seq - 1) false).toArray, .int .i64 0] := by
  obtain ⟨sa, sl, sc⟩ := s
  obtain ⟨wa, wl, wc⟩ := w
  dsimp only at hn
  subst hn
  obtain ⟨_, h1, h2, h3, h4, h5, h6⟩ := h
  refine Tri.of (args := [rV ⟨sa, sl, sc⟩ ⟨wa, wl, wc⟩ count down arm fault, (layOf sl).v, .int .i64 ep, .int .i64 seq, .int .i64 tail]) tabOk Tryz.func120 rfl (by kernel_rfl) (by kernel_rfl) ?_
  conv => whnf
  intro b5
  conv => whnf
  intro b6
  conv => whnf
  intro b10
  repeat (first | refine LoadD.own 0 rfl _ rfl rfl ?_)
  refine Tri.free (ref_Of sl I) ?_
  rintro r _ _ hJ ⟨rfl, rfl⟩
  rw [layA, if_neg (by omega)]
  conv => whnf
  intro b12
  repeat (first | refine LoadD.own 1 rfl _ rfl rfl ?_ | refine LoadD.own 3 rfl _ rfl rfl ?_ | refine StoreD.st 3 rfl rfl rfl ?_ | refine CmpD.yes rfl ?_)
  refine lay_cmp (layOf sl) (layOf sl) rfl (.inr rfl) rfl rfl ?_
  refine CmpD.yes rfl ?_
  refine CmpD.no (by omega) ?_
  refine CmpD.no (by omega) ?_
  refine CmpD.no (by omega) ?_
  refine CmpD.no (by omega) ?_
  refine CmpD.no (by omega) ?_
  repeat (first | refine LoadD.own 1 rfl _ rfl rfl ?_)
  refine CmpD.no (by show ¬ layL sl ≤ tail; omega) ?_
  repeat (first | refine LoadD.own 0 rfl _ rfl rfl ?_ | refine LoadD.own 1 rfl _ rfl rfl ?_)
  refine ToD.to (seq - 1) (wrap_i64 (by omega) (by omega)) ?_
  repeat (first | refine LoadD.own 2 rfl _ rfl rfl ?_ | refine StoreD.st 2 rfl rfl rfl ?_)
  exact Done.mk ⟨rfl, rfl⟩
theorem r4_AtD {I : Imm} {v : Value} {d : DSt} (hD : RDk I v d) (hf : d.writes.length ≤ 1000000) (i : Nat) (hi : i < d.now.length) :
    Tri Tryz.prog 116 #[v, .int .i64 i] I [] fun r J _ => I = J ∧ ∃ a len cap, r = .slice a len cap ∧ len = 4096 ∧ Rds I a len (bts (d.now.getD i [])) := by
  have hwf := hD.wf
  have hsnd := hD.snd i (by have := hwf.len; omega)
  obtain ⟨s, w, bS, gs, rfl, h1, h2, h3, h4, h5, h6⟩ := hD.ex
  have hbl : bS.length = d.safe.length := by rw [← h3, List.length_map]
  have hsl : s.len = bS.length := by have := h1.len; rw [List.length_map] at this; exact this.symm
  have hr := hwf.range
  have hll := hwf.len
  have hbk : bS[i]? = some bS[i] := List.getElem?_eq_getElem (by omega)
  have hgl : gs.length = d.writes.length := by rw [← h6, List.length_map]
  have hdat : bS[i].data = d.safe.getD i [] := by
    have e := congrArg (·[i]?) h3
    simp only [List.getElem?_map, hbk] at e
    rw [List.getD_eq_getElem?_getD, ← e]; rfl
  refine (r4_At s w d.count d.down (gv d.arm) (gv d.fault) bS gs I h1 (by omega) h4 h5 (by omega) i hbk (h2 _ (List.getElem_mem _))).mono ?_
  rintro r J _ hJ ⟨rfl, a, len, cap, rfl, hr2⟩
  rw [hdat, h6] at hr2
  have hx : atP (d.safe.getD i []) d.writes i = d.now.getD i [] := by rw [List.getD_eq_getElem?_getD (l := d.now), hsnd]; rfl
  rw [hx] at hr2
  refine ⟨rfl, a, len, cap, rfl, ?_, hr2⟩
  have := hr2.len
  rw [bts_length, get_data_len hwf hi] at this
  omega
theorem foundP_up {d : DSt} (h : d.down = false) {cp : Sup × Int × Bool} (hcp : cp = chooseP (getS (d.now.getD 0 [])) (getS (d.now.getD 1 []))) :
    foundP d = if cp.2.2 = false ∨ cp.1.blocks ≠ d.now.length ∨ layL d.now.length ≤ cp.1.tail ∨ 8388608 ≤ cp.1.epoch then (Sup.zero, 0, 90) else (cp.1, cp.2.1, 0) := by
  unfold foundP
  rw [if_neg (by rw [h]; simp), ← hcp]
@[reducible] def zr : List Value := [.int .i64 0, .int .i64 0, .int .i64 0, .int .i64 0, .int .i64 0, .int .i64 0, .int .i64 0, .int .i64 0, .int .i64 0, .int .i64 0, .int .i64 0, .int .i64 0, .int .i64 0, .slice none 0 0, .int .i64 0, .bool false, .int .i64 0, .int .i64 0, .int .i64 0, .int .i64 0, .int .i64 0, .int .i64 0, .int .i64 0, .int .i64 0, .slice none 0 0, .bool false]
@[reducible] def rvC (v : VSt) : List Value := [.int .i64 v.j.lay.b, .int .i64 v.j.lay.l, .int .i64 v.j.lay.lb, .int .i64 v.j.lay.bi, .int .i64 v.j.lay.i, .int .i64 v.j.lay.ib, .int .i64 v.j.lay.d, .int .i64 v.j.s, .int .i64 v.j.t, .int .i64 v.j.u, .int .i64 v.j.h, .int .i64 v.j.epoch, .int .i64 v.j.next, .slice none 0 0, .int .i64 v.j.synced, .bool false, .int .i64 v.j.lay.b, .int .i64 v.j.lay.l, .int .i64 v.j.lay.lb, .int .i64 v.j.lay.bi, .int .i64 v.j.lay.i, .int .i64 v.j.lay.ib, .int .i64 v.j.lay.d, .int .i64 v.slot, .slice none 0 0, .bool false]
/-- what the document's Mount answers -/
def RMount (J : Imm) (M : DSt × Int × Option VSt) (r : Value) : Prop := ∃ s w : Hd, RDk J (rV s w M.1.count M.1.down (gv M.1.arm) (gv M.1.fault)) M.1 ∧
  ((M.2.1 ≠ 0 ∧ r = .tuple #[.agg (rC s w M.1.count M.1.down (gv M.1.arm) (gv M.1.fault) ++ zr).toArray, .int .i64 M.2.1]) ∨
   (M.2.1 = 0 ∧ ∃ v, M.2.2 = some v ∧ r = .tuple #[.agg (rC s w M.1.count M.1.down (gv M.1.arm) (gv M.1.fault) ++ rvC v).toArray, .int .i64 0]))
theorem RMount.err {J : Imm} {d : DSt} {e : Int} {s w : Hd} (h : RDk J (rV s w d.count d.down (gv d.arm) (gv d.fault)) d) (he : e ≠ 0) (r : Value) (hv : r = .tuple #[.agg (rC s w d.count d.down (gv d.arm) (gv d.fault) ++ zr).toArray, .int .i64 e]) : RMount J (d, e, none) r :=
  ⟨s, w, h, .inl ⟨he, hv⟩⟩
theorem allG_sum : ∀ (l : List G3), (allG l).length ≤ (l.map fun g => g.2.2.length + 1).sum := by
  intro l
  induction l with
  | nil => simp [allG]
  | cons g l ih => simp [allG] at ih ⊢; omega
set_option maxHeartbeats 8000000 in
theorem r11_Mount {I : Imm} {v : Value} {d : DSt} (hD : RDk I v d) (hf : d.Few 700000) :
    Tri Tryz.prog 48 #[v] I [] fun r J _ => RMount J (mountP d) r := by
  have hr := hD.wf.range
  obtain ⟨⟨sa, sl, sc⟩, ⟨wa, wl, wc⟩, rfl, hsl⟩ := hD.cells
  dsimp only at hsl
  subst hsl
  refine Tri.of (args := [rV ⟨sa, d.now.length, sc⟩ ⟨wa, wl, wc⟩ d.count d.down (gv d.arm) (gv d.fault)]) tabOk Tryz.func48 rfl (by kernel_rfl) (by kernel_rfl) ?_
  conv => whnf
  intro b1
  conv => whnf
  intro b2
  conv => whnf
  intro b4
  repeat (first | refine LoadD.own 0 rfl _ rfl rfl ?_ | refine StoreD.st 2 rfl rfl rfl ?_)
  refine Tri.free (ref_Of d.now.length I) ?_
  rintro r _ _ hJ ⟨rfl, rfl⟩
  unfold mountP
  by_cases h64 : d.now.length < 64
  · rw [if_pos h64, layA, if_pos (by omega)]
    conv => whnf
    intro b5
    repeat (first | refine LoadD.own 1 rfl _ rfl rfl ?_ | refine LoadD.own 2 rfl _ rfl rfl ?_ | refine StoreD.st 1 rfl rfl rfl ?_ | refine StoreD.st 3 rfl rfl rfl ?_ | refine CmpD.no (by decide) ?_)
    exact Done.mk (RMount.err hD (by decide) _ rfl)
  rw [if_neg h64, layA, if_neg (by omega)]
  conv => whnf
  intro b5
  repeat (first | refine LoadD.own 0 rfl _ rfl rfl ?_ | refine StoreD.st 3 rfl rfl rfl ?_ | refine CmpD.yes rfl ?_)
  have hfo := found_ok (d := d)
  cases hdn : d.down
  rotate_left
  · rw [show foundP d = (Sup.zero, 0, 6) by unfold foundP; rw [if_pos hdn]]
    rw [if_pos (by decide)]
    repeat (first | refine LoadD.own 1 rfl _ rfl rfl ?_ | refine LoadD.own 2 rfl _ rfl rfl ?_ | refine StoreD.st 1 rfl rfl rfl ?_)
    have hD2 := hD
    rw [hdn] at hD2
    exact Done.mk (RMount.err hD (by decide) _ (by rw [hdn]; rfl))
  skip
  obtain ⟨cp, hcp⟩ : ∃ cp, cp = chooseP (getS (d.now.getD 0 [])) (getS (d.now.getD 1 [])) := ⟨_, rfl⟩
  have hfd := foundP_up hdn hcp
  refine CodeF.cutD [1, 2, 4, 5, 7, 8, 9] (fun vs J' S' => ∃ b7, I = J' ∧ vs = [.pointer (some ⟨b1, 0, none⟩), .pointer (some ⟨b2, 0, none⟩), .pointer (some ⟨b4, 0, none⟩), .pointer (some ⟨b5, 0, none⟩), .pointer (some ⟨b7, 0, none⟩), .int .i64 cp.2.1, .bool cp.2.2] ∧
      S' = [[(b1, row (rC ⟨sa, d.now.length, sc⟩ ⟨wa, wl, wc⟩ d.count false (gv d.arm) (gv d.fault)) 76)], [(b2, row (rC ⟨none, 0, 0⟩ ⟨none, 0, 0⟩ 0 false 0 0 ++ zr) 87)], [(b4, row (rC ⟨sa, d.now.length, sc⟩ ⟨wa, wl, wc⟩ d.count false (gv d.arm) (gv d.fault) ++ zr) 87)], [(b5, row (layOf d.now.length).vals 45)], [(b7, row [.int .i64 cp.1.blocks, .int .i64 cp.1.epoch, .int .i64 cp.1.seq, .int .i64 cp.1.tail] 143)]]) ?_ ?_
  · refine CodeF.schedT [[], [0], [], [0, 1, 2], [0, 1, 2, 3], [0, 1, 2, 3, 4], [0, 1, 2, 3, 4, 5], [0, 1, 2, 3, 4, 5], [0, 1, 2, 3, 4, 5], [], [0, 1, 2, 3, 4, 5, 6, 9], [0, 1, 2, 3, 4, 5, 6, 7, 9, 10], [0, 1, 2, 3, 4, 5, 6, 7, 8, 9, 10, 11]] (.rd 0 (.rd 2 (.alt (.ef 1 (.alt (.ef 3 (.alt (.ef 4 (.rd 5 (.rd 6 (.rd 7 (.rd 8 (.ef 9 (.ef 10 (.rd 11 (.rd 12 .nil))))))))) (.ef 9 (.ef 4 (.rd 5 (.rd 6 (.rd 7 (.rd 8 (.ef 10 (.rd 11 (.rd 12 .nil))))))))))) (.ef 9 (.ef 3 (.ef 4 (.rd 5 (.rd 6 (.rd 7 (.rd 8 (.ef 10 (.rd 11 (.rd 12 .nil)))))))))))) (.ef 9 (.ef 1 (.ef 3 (.ef 4 (.rd 5 (.rd 6 (.rd 7 (.rd 8 (.ef 10 (.rd 11 (.rd 12 .nil)))))))))))))) (by kernel_rfl) ?_
    have hD2 := hD
    rw [hdn] at hD2
    have hwl : d.writes.length ≤ 1000000 := by have := hf.1; omega
    repeat (first | refine LoadP.at 0 rfl _ rfl rfl ?_)
    refine And.intro ?_ ?_
    · skip
      skip
      refine Tri.free (r4_AtD hD2 hwl 0 (by omega)) ?_
      rintro r _ _ hJ0 ⟨rfl, a0, n0, c0, rfl, hn0, hr0⟩
      repeat (first | refine Chk.mk ⟨rfl, trivial⟩ ?_)
      refine And.intro ?_ ?_
      · skip
        skip
        refine Tri.free (r4_AtD hD2 hwl 1 (by omega)) ?_
        rintro r _ _ hJ1 ⟨rfl, a1, n1, c1, rfl, hn1, hr1⟩
        skip
        refine And.intro ?_ ?_
        · skip
          skip
          refine Tri.free (r10_Choose hr0 hr1 (by omega) (by omega)) ?_
          rintro r _ _ hJ3 ⟨rfl, rfl⟩
          rw [← hcp]
          skip
          conv => whnf
          intro b7
          repeat (first | refine StoreD.st 4 rfl rfl rfl ?_ | refine Chk.mk ⟨rfl, rfl, trivial⟩ ?_)
          exact ⟨_, Drop.refl _, b7, rfl, rfl, rfl⟩
        · skip
          skip
          conv => whnf
          intro b7
          repeat (first | refine Chk.mk ⟨rfl, rfl, trivial⟩ ?_)
          refine Tri.free (r10_Choose hr0 hr1 (by omega) (by omega)) ?_
          rintro r _ _ hJ3 ⟨rfl, rfl⟩
          rw [← hcp]
          repeat (first | refine StoreD.st 4 rfl rfl rfl ?_)
          exact ⟨_, Drop.refl _, b7, rfl, rfl, rfl⟩
      · skip
        skip
        conv => whnf
        intro b7
        repeat (first | refine Chk.mk ⟨rfl, rfl, trivial⟩ ?_)
        refine Tri.free (r4_AtD hD2 hwl 1 (by omega)) ?_
        rintro r _ _ hJ1 ⟨rfl, a1, n1, c1, rfl, hn1, hr1⟩
        skip
        refine Tri.free (r10_Choose hr0 hr1 (by omega) (by omega)) ?_
        rintro r _ _ hJ3 ⟨rfl, rfl⟩
        rw [← hcp]
        repeat (first | refine StoreD.st 4 rfl rfl rfl ?_)
        exact ⟨_, Drop.refl _, b7, rfl, rfl, rfl⟩
    · skip
      skip
      conv => whnf
      intro b7
      repeat (first | refine Chk.mk ⟨rfl, rfl, trivial⟩ ?_)
      refine Tri.free (r4_AtD hD2 hwl 0 (by omega)) ?_
      rintro r _ _ hJ0 ⟨rfl, a0, n0, c0, rfl, hn0, hr0⟩
      repeat (first | refine Chk.mk ⟨rfl, trivial⟩ ?_)
      refine Tri.free (r4_AtD hD2 hwl 1 (by omega)) ?_
      rintro r _ _ hJ1 ⟨rfl, a1, n1, c1, rfl, hn1, hr1⟩
      skip
      refine Tri.free (r10_Choose hr0 hr1 (by omega) (by omega)) ?_
      rintro r _ _ hJ3 ⟨rfl, rfl⟩
      rw [← hcp]
      repeat (first | refine StoreD.st 4 rfl rfl rfl ?_)
      exact ⟨_, Drop.refl _, b7, rfl, rfl, rfl⟩
  rintro vs gE J2 S2 hJ2 ⟨b7, rfl, rfl, rfl⟩
  obtain ⟨⟨s1, s2, s3, s4⟩, slot, ok⟩ := cp
  dsimp only at hfd ⊢
  have hD2 := hD
  rw [hdn] at hD2
  have hErr : ∀ (e : Int) (J : Imm), I.le J → e ≠ 0 → RMount J (d, e, none) (.tuple #[.agg (rC ⟨sa, d.now.length, sc⟩ ⟨wa, wl, wc⟩ d.count false (gv d.arm) (gv d.fault) ++ zr).toArray, .int .i64 e]) := fun e J hJ he => RMount.err (hD.mono hJ) he _ (by rw [hdn])
  have hlb : (layOf (d.now.length : Int)).lb = layL d.now.length := rfl
  cases ok
  · rw [show foundP d = (Sup.zero, 0, 90) by rw [hfd, if_pos (.inl rfl)]]
    rw [if_pos (by decide)]
    repeat (first | refine LoadD.own 1 rfl _ rfl rfl ?_ | refine LoadD.own 2 rfl _ rfl rfl ?_ | refine StoreD.st 1 rfl rfl rfl ?_)
    exact Done.mk (hErr 90 I (Imm.le_refl _) (by decide))
  repeat (first | refine LoadD.own 3 rfl _ rfl rfl ?_ | refine LoadD.own 4 rfl _ rfl rfl ?_)
  refine CmpD.split (fun (c1 : s1 = (d.now.length : Int)) => ?_) (fun (c1 : ¬ s1 = (d.now.length : Int)) => ?_)
  rotate_left
  · rw [show foundP d = (Sup.zero, 0, 90) by rw [hfd, if_pos (.inr (.inl c1))]]
    rw [if_pos (by decide)]
    repeat (first | refine LoadD.own 1 rfl _ rfl rfl ?_ | refine LoadD.own 2 rfl _ rfl rfl ?_ | refine StoreD.st 1 rfl rfl rfl ?_)
    exact Done.mk (hErr 90 I (Imm.le_refl _) (by decide))
  repeat (first | refine LoadD.own 3 rfl _ rfl rfl ?_ | refine LoadD.own 4 rfl _ rfl rfl ?_)
  refine CmpD.split (fun (c2 : layL d.now.length ≤ s4) => ?_) (fun (c2 : ¬ layL d.now.length ≤ s4) => ?_)
  · rw [show foundP d = (Sup.zero, 0, 90) by rw [hfd, if_pos (.inr (.inr (.inl c2)))]]
    rw [if_pos (by decide)]
    repeat (first | refine LoadD.own 1 rfl _ rfl rfl ?_ | refine LoadD.own 2 rfl _ rfl rfl ?_ | refine StoreD.st 1 rfl rfl rfl ?_)
    exact Done.mk (hErr 90 I (Imm.le_refl _) (by decide))
  repeat (first | refine LoadD.own 4 rfl _ rfl rfl ?_)
  refine CmpD.split (fun (c3 : 8388608 ≤ s2) => ?_) (fun (c3 : ¬ 8388608 ≤ s2) => ?_)
  · rw [show foundP d = (Sup.zero, 0, 90) by rw [hfd, if_pos (.inr (.inr (.inr c3)))]]
    rw [if_pos (by decide)]
    repeat (first | refine LoadD.own 1 rfl _ rfl rfl ?_ | refine LoadD.own 2 rfl _ rfl rfl ?_ | refine StoreD.st 1 rfl rfl rfl ?_)
    exact Done.mk (hErr 90 I (Imm.le_refl _) (by decide))
  have hfe : foundP d = (⟨s1, s2, s3, s4⟩, slot, 0) := by
    rw [hfd, if_neg (by rintro (h | h | h | h); exact Bool.noConfusion h; exact h c1; exact c2 h; exact c3 h)]
  rw [hfe] at hfo ⊢
  obtain ⟨_, hR, hsl, hb, htl, hep⟩ := hfo rfl
  rw [if_neg (by simp)]
  dsimp only at hR hsl hb htl hep
  obtain ⟨n, hn⟩ : ∃ n, n = d.now.length := ⟨_, rfl⟩
  rw [← hn] at hr h64 hb htl hErr hD2 ⊢
  obtain ⟨r1, r2, r3, r4, r5, r6, r7, r8⟩ := id hR
  dsimp only at r1 r2 r3 r4 r5 r6 r7 r8
  have hlr := layL_range (n := (n : Int)) (by omega)
  repeat (first | refine LoadD.own 0 rfl _ rfl rfl ?_ | refine LoadD.own 3 rfl _ rfl rfl ?_ | refine LoadD.own 4 rfl _ rfl rfl ?_)
  refine Tri.free (r9_Groups hD2 (by have := hf.1; omega) (layOf n) ⟨s1, s2, s3, s4⟩) ?_
  have hsok : ScanOk d.now.length (layOf n) ⟨s1, s2, s3, s4⟩ := by
    rw [← hn]
    exact ⟨by omega, rfl, hb, r7, htl, r3, r4, r5, r6⟩
  have hbd := scan_bound (rb := rbP d 2 (layL (d.now.length : Int)).toNat) (ep := s2) ((layL (d.now.length : Int)).toNat + 1) s4.toNat s3 (layL (d.now.length : Int)).toNat
  have hrt := scanK_right (rb := rbP d 2 (layL (d.now.length : Int)).toNat) (ep := s2) ((layL (d.now.length : Int)).toNat + 1) s4.toNat s3 (layL (d.now.length : Int)).toNat
  rw [show scanK (rbP d 2 (layL (d.now.length : Int)).toNat) s2 ((layL (d.now.length : Int)).toNat + 1) s4.toNat s3 (layL (d.now.length : Int)).toNat = scanL d ⟨s1, s2, s3, s4⟩ from rfl] at hbd hrt
  rw [← hn] at hbd
  obtain ⟨L, hL⟩ : ∃ L, L = scanL d ⟨s1, s2, s3, s4⟩ := ⟨_, rfl⟩
  rw [← hL] at hbd hrt ⊢
  rintro r J2 _ hJ2 (⟨h, _⟩ | ⟨_, h, _⟩ | ⟨_, _, aO, capO, gl, rfl, hG, hGk⟩)
  · exact absurd hsok h
  · rw [hdn] at h; exact Bool.noConfusion h
  have hpl : allP gl = allG L := allP_allG hGk
  have hgl := hGk.len
  rw [← hn]
  obtain ⟨pl, hplc⟩ : ∃ pl, pl = placeP (layL (n : Int)).toNat s4.toNat L := ⟨_, rfl⟩
  dsimp only
  rw [← hplc]
  have hpl16 : pl < (layL (n : Int)).toNat := by rw [hplc]; exact Nat.mod_lt _ (by omega)
  have hall : (allI gl).length ≤ 1000 := by
    have h1 : (allP gl).length = (allI gl).length := by rw [allP_eq, List.length_map]
    have h2 := allG_sum L
    rw [← hpl] at h2
    omega
  have h4 : ∀ g ∈ allG L, g.2.length = 4096 := by
    intro g hg
    obtain ⟨q, hq, hgq⟩ := List.mem_flatMap.1 hg
    exact ((hrt q hq).2.2.2.2.2.2.1 g hgq).2.2
  have hIo : ∀ g ∈ allI gl, ImgOk J2 g := by
    intro g hg
    obtain ⟨q, hq, hgq⟩ := List.mem_flatMap.1 hg
    exact (hGk.each q hq).2 g hgq
  have hfew : ∀ g ∈ allI gl, g.len ≤ 100000000 := by
    intro g hg
    have h1 := (hIo g hg).2.len
    rw [bts_length] at h1
    have h2 := h4 g.pr (by rw [← hpl, allP_eq]; exact List.mem_map_of_mem hg)
    have h3 : g.data.length = 4096 := h2
    omega
  have hGR : GrpsR J2 [] aO gl := ⟨hG.slC, fun g hg => ⟨⟨(hGk.each g hg).1.slC, fun q hq => ⟨((hGk.each g hg).2 q hq).2.slC⟩⟩, by
    have : g.gs.length ≤ (allI gl).length := by
      obtain ⟨x, y, rfl⟩ := List.append_of_mem hg
      simp [allI]; omega
    omega⟩⟩
  have hLayOk : LayOk (layOf n) := ⟨by show (64 : Int) ≤ n; omega, by show (n : Int) ≤ 512; omega, rfl⟩
  repeat (first | refine LoadD.own 3 rfl _ rfl rfl ?_ | refine CmpD.yes rfl ?_)
  refine Tri.free (home_ref hGR (by omega) (by omega) hfew (layOf n)) ?_
  rw [hpl]
  unfold mountL
  dsimp only
  rw [← hplc]
  rintro r J3 _ hJ3 ⟨aI, capI, outs, rfl, hoR, hopr⟩
  have hle3 := Imm.le_trans hJ2 hJ3
  have hLl : L.length ≤ 64 := by omega
  by_cases hhok : HomeOk (layOf n) (allG L)
  rotate_left
  · rw [homeA_2 hLayOk hhok, if_pos (.inl hhok)]
    repeat (first | refine LoadD.own 1 rfl _ rfl rfl ?_ | refine LoadD.own 2 rfl _ rfl rfl ?_ | refine StoreD.st 1 rfl rfl rfl ?_ | refine CmpD.no (by decide) ?_)
    exact Done.mk (hErr 90 J3 hle3 (by decide))
  rw [homeA_3 hLayOk hhok] at hopr ⊢
  dsimp only at hopr ⊢
  rw [hgl]
  repeat (first | refine LoadD.own 4 rfl _ rfl rfl ?_ | refine CmpD.yes rfl ?_)
  refine ToD.to (s3 + (L.length : Int)) (wrap_i64 (by omega) (by omega)) ?_
  refine CmpD.split (fun (c4 : 549755813888 < s3 + (L.length : Int)) => ?_) (fun (c4 : ¬ 549755813888 < s3 + (L.length : Int)) => ?_)
  · rw [if_pos (.inr (by omega))]
    repeat (first | refine LoadD.own 1 rfl _ rfl rfl ?_ | refine LoadD.own 2 rfl _ rfl rfl ?_ | refine StoreD.st 1 rfl rfl rfl ?_)
    exact Done.mk (hErr 90 J3 hle3 (by decide))
  rw [if_neg (by rintro (h | h); exact h hhok; omega)]
  repeat (first | refine LoadD.own 4 rfl _ rfl rfl ?_)
  refine ToD.to (s2 + 1) (wrap_i64 (by omega) (by omega)) ?_
  repeat (first | refine LoadD.own 4 rfl _ rfl rfl ?_ | refine StoreD.st 4 rfl rfl rfl ?_)
  refine ToD.to (s3 + L.length) (wrap_i64 (by omega) (by omega)) ?_
  repeat (first | refine LoadD.own 0 rfl _ rfl rfl ?_ | refine LoadD.own 4 rfl _ rfl rfl ?_ | refine StoreD.st 4 rfl rfl rfl ?_)
  refine ToD.to (1 - slot) (wrap_i64 (by omega) (by omega)) ?_
  have hol : outs.length ≤ 1000 := by
    have h1 := homeP_len (allG L)
    rw [← hopr, List.length_map] at h1
    have h2 := allG_sum L
    omega
  have himg : ImgsOk J3 aI outs := by
    refine ⟨SlC.rds hoR.sl, fun g hg => ?_⟩
    have hm := home_mem (l := allG L) (g := g.pr) (by rw [← hopr]; exact List.mem_map_of_mem hg)
    have hb2 := hhok _ hm
    refine ⟨?_, SlC.rds (hoR.each g hg).rd⟩
    have e1 : (layOf (n : Int)).bi = 2 + layL n := rfl
    have e2 : (layOf (n : Int)).b = n := rfl
    rw [e1, e2] at hb2
    have e3 : g.pr.1 = g.blk := rfl
    rw [e3] at hb2
    unfold In64; omega
  refine Tri.free (r10_Do (hD2.mono hle3) 700000 hf aI capI outs himg (by omega) ⟨s1, s2 + 1, s3 + L.length, pl⟩ (1 - slot) (by unfold In64; omega)) ?_
  rw [hopr]
  have hlen2 := doP_len d (homeP (allG L)) ⟨s1, s2 + 1, s3 + L.length, pl⟩ (1 - slot)
  rw [← hn] at hlen2
  generalize doP d (homeP (allG L)) ⟨s1, s2 + 1, s3 + L.length, pl⟩ (1 - slot) = dp at *
  obtain ⟨d2, e2⟩ := dp
  dsimp only at hlen2 ⊢
  rintro r J4 _ hJ4 ⟨v', rfl, hDD⟩
  obtain ⟨⟨ta, tl, tc⟩, ⟨ua, ul, uc⟩, rfl, htl2⟩ := hDD.cells
  dsimp only at htl2
  rw [hlen2] at htl2
  subst htl2
  repeat (first | refine LoadD.own 0 rfl _ rfl rfl ?_ | refine StoreD.st 0 rfl rfl rfl ?_ | refine StoreD.st 2 rfl rfl rfl ?_)
  by_cases he2 : e2 ≠ 0
  · rw [if_pos he2]
    refine CmpD.no he2 ?_
    repeat (first | refine LoadD.own 1 rfl _ rfl rfl ?_ | refine LoadD.own 2 rfl _ rfl rfl ?_ | refine StoreD.st 1 rfl rfl rfl ?_)
    exact Done.mk (RMount.err hDD he2 _ rfl)
  rw [if_neg he2]
  obtain rfl : e2 = 0 := by omega
  repeat (first | refine LoadD.own 0 rfl _ rfl rfl ?_ | refine LoadD.own 3 rfl _ rfl rfl ?_ | refine LoadD.own 4 rfl _ rfl rfl ?_ | refine CmpD.yes rfl ?_)
  have hopk : OpenOk tl (layOf tl) (s2 + 1) (s3 + L.length) pl := ⟨rfl, by omega, by omega, by omega, by omega, by omega, by omega⟩
  refine Tri.free (r8_Open tl rfl (by omega) (s2 + 1) (s3 + L.length) pl hopk J4) ?_
  rintro r _ _ hJ5 ⟨rfl, rfl⟩
  conv => whnf
  intro b13
  repeat (first | refine LoadD.own 1 rfl _ rfl rfl ?_ | refine LoadD.own 3 rfl _ rfl rfl ?_ | refine LoadD.own 5 rfl _ rfl rfl ?_ | refine StoreD.st 1 rfl rfl rfl ?_ | refine StoreD.st 5 rfl rfl rfl ?_ | refine CmpD.yes rfl ?_)
  exact Done.mk ⟨⟨ta, tl, tc⟩, ⟨ua, ul, uc⟩, hDD, .inr ⟨rfl, _, rfl, rfl⟩⟩
end Go.Proofs.YtegdcjnjnoeinaaGreat
namespace Go.Proofs.YtegdcjnjnoeinaaGreat
open Go.RowKit Go.Sl
set_option maxRecDepth 20000

/-- noughts to the blocks from k on, n of them -/
def blankP : Nat → Nat → DSt → DSt × Int
  | 0, _, d => (d, 0)
  | n + 1, k, d => if (d.write k noughts).2 ≠ 0 then d.write k noughts else blankP n (k + 1) (d.write k noughts).1
def fmtS (m : Nat) (s : Sup) (d : DSt) : DSt × Int :=
  if (blankP m 1 d).2 ≠ 0 then blankP m 1 d else
  if (blankP m 1 d).1.flush.2 ≠ 0 then (blankP m 1 d).1.flush else
  if ((blankP m 1 d).1.flush.1.write 0 (supL s)).2 ≠ 0 then (blankP m 1 d).1.flush.1.write 0 (supL s) else
  ((blankP m 1 d).1.flush.1.write 0 (supL s)).1.flush
def formatP (d : DSt) : DSt × Int :=
  if d.now.length < 64 then (d, 2) else fmtS ((layOf d.now.length).d.toNat - 1) ⟨d.now.length, 1, 1, 0⟩ d
theorem blankP_few : ∀ (n k : Nat) (d : DSt) (q : Nat), d.Few q → (blankP n k d).1.Few (q + n)
  | 0, _, _, _, h => h
  | n + 1, k, d, q, h => by
    have h1 := h.write (k : Int) noughts
    rw [blankP]
    split
    · exact h1.mono (by omega)
    · exact (blankP_few n (k + 1) _ _ h1).mono (by omega)
theorem noughts_bts : bts noughts = rows 4096 [Value.int .u8 0] := by
  show bts (List.replicate 4096 0) = _
  exact (zeros_bts 4096).symm
theorem fmt1 {I : Imm} {b1 b2 b3 bD : Nat} {x : Lay} {d : DSt} {chD : List Blk} (hD : Dk I bD d chD) (hf : d.Few 500000) (hx : 1 ≤ x.d ∧ x.d ≤ 1000) (aN : Option Addr) (capN : Nat) (hN : Rds I aN 4096 (bts noughts)) :
    Tri Tryz.prog 123 #[.pointer (some ⟨b1, 0, none⟩), .pointer (some ⟨b2, 0, none⟩), .pointer (some ⟨b3, 0, none⟩)] I [[(b1, row x.vals 45)], pBox b2 (.pointer (some ⟨bD, 0, none⟩)) 22, pBox b3 (.slice aN 4096 capN) 32, chD]
      fun r J S' => r = .int .i64 (blankP (x.d.toNat - 1) 1 d).2 ∧ ∃ chD', Dk J bD (blankP (x.d.toNat - 1) 1 d).1 chD' ∧ S' = [[(b1, row x.vals 45)], pBox b2 (.pointer (some ⟨bD, 0, none⟩)) 22, pBox b3 (.slice aN 4096 capN) 32, chD'] := by
  obtain ⟨l1, l2, l3, l4, l5, l6, l7⟩ := x
  dsimp only at hx ⊢
  obtain ⟨e, rfl⟩ : ∃ e : Nat, l7 = e := ⟨l7.toNat, by omega⟩
  rw [Int.toNat_natCast]
  refine Tri.of (args := [.pointer (some ⟨b1, 0, none⟩), .pointer (some ⟨b2, 0, none⟩), .pointer (some ⟨b3, 0, none⟩)]) tabOk Tryz.func123 rfl (by kernel_rfl) (by kernel_rfl) ?_
  refine CodeF.loopD [0, 1, 2, 4] (fun vs J' S' => ∃ (k : Nat) (d2 : DSt) (chD2 : List Blk), 1 ≤ k ∧ k ≤ e ∧ blankP (e - 1) 1 d = blankP (e - k) k d2 ∧ d2.Few (500000 + k) ∧ Dk J' bD d2 chD2 ∧ I.le J' ∧
      vs = [.pointer (some ⟨b1, 0, none⟩), .pointer (some ⟨b2, 0, none⟩), .pointer (some ⟨b3, 0, none⟩), .int .i64 k] ∧ S' = [[(b1, row [.int .i64 l1, .int .i64 l2, .int .i64 l3, .int .i64 l4, .int .i64 l5, .int .i64 l6, .int .i64 e] 45)], pBox b2 (.pointer (some ⟨bD, 0, none⟩)) 22, pBox b3 (.slice aN 4096 capN) 32, chD2])
    (fun vs _ _ => match vs with | [_, _, _, .int _ k] => ((e : Int) - k).toNat | _ => 0) ?_ ?_
  · exact ⟨_, Drop.refl _, 1, d, chD, by omega, by omega, rfl, hf.mono (by omega), hD, Imm.le_refl _, rfl, rfl⟩
  rintro vs gE J' S' hJ' ⟨k, d2, chD2, hk1, hk, hbl, hf2, hD2, hle, rfl, rfl⟩
  repeat (first | refine LoadD.own 0 rfl _ rfl rfl ?_)
  refine CmpD.split (fun (c1 : (k : Int) < e) => ?_) (fun (c1 : ¬ (k : Int) < e) => ?_)
  · rw [show e - k = (e - (k + 1)) + 1 by omega, blankP] at hbl
    repeat (first | refine LoadD.own 1 rfl _ rfl rfl ?_ | refine LoadD.own 2 rfl _ rfl rfl ?_)
    refine Tri.frame1 3 rfl (dk_Write hD2 (hf2.mono (by omega)) k aN 4096 capN noughts (hN.mono hle)) ?_
    have hf3 := hf2.write (k : Int) noughts
    generalize d2.write (k : Int) noughts = dw at *
    obtain ⟨d3, e3⟩ := dw
    dsimp only at hbl hf3 ⊢
    rintro r J3 A' hJ3 ⟨rfl, chD3, hD3, rfl⟩
    refine ⟨_, rfl, ?_⟩
    by_cases he : e3 ≠ 0
    · rw [if_pos he] at hbl
      refine CmpD.no he ?_
      skip
      rw [hbl]
      exact Done.mk ⟨rfl, chD3, hD3, rfl⟩
    · rw [if_neg he] at hbl
      obtain rfl : e3 = 0 := by omega
      repeat (first | refine CmpD.yes rfl ?_)
      refine ToD.to (((k + 1 : Nat)) : Int) (by rw [wrap_i64 (by omega) (by omega)]; omega) ?_
      refine ⟨_, Drop.refl _, ⟨k + 1, d3, chD3, by omega, by omega, hbl, hf3.mono (by omega), hD3, Imm.le_trans hle hJ3, rfl, rfl⟩, ?_⟩
      show ((e : Int) - ((k + 1 : Nat) : Int)).toNat < ((e : Int) - (k : Int)).toNat; omega
  · obtain rfl : k = e := by omega
    skip
    rw [hbl, Nat.sub_self]
    exact Done.mk ⟨rfl, chD2, hD2, rfl⟩
theorem fmt2 {I : Imm} {b1 b2 bD : Nat} {d : DSt} {chD : List Blk} (hD : Dk I bD d chD) (hf : d.Few 900000) (aN : Option Addr) (capN : Nat) (b : Dat) (hN : Rds I aN 4096 (bts b)) :
    Tri Tryz.prog 126 #[.pointer (some ⟨b1, 0, none⟩), .pointer (some ⟨b2, 0, none⟩)] I [pBox b1 (.pointer (some ⟨bD, 0, none⟩)) 22, pBox b2 (.slice aN 4096 capN) 32, chD]
      fun r J S' => r = .int .i64 (d.write 0 b).2 ∧ ∃ chD', Dk J bD (d.write 0 b).1 chD' ∧ S' = [pBox b1 (.pointer (some ⟨bD, 0, none⟩)) 22, pBox b2 (.slice aN 4096 capN) 32, chD'] := by
  refine Tri.of (args := [.pointer (some ⟨b1, 0, none⟩), .pointer (some ⟨b2, 0, none⟩)]) tabOk Tryz.func126 rfl (by kernel_rfl) (by kernel_rfl) ?_
  repeat (first | refine LoadD.own 0 rfl _ rfl rfl ?_ | refine LoadD.own 1 rfl _ rfl rfl ?_)
  refine Tri.frame1 2 rfl (dk_Write hD (hf.mono (by omega)) 0 aN 4096 capN b hN) ?_
  rintro r J3 A' hJ3 ⟨rfl, chD3, hD3, rfl⟩
  refine ⟨_, rfl, ?_⟩
  exact Done.mk ⟨rfl, chD3, hD3, rfl⟩
theorem fmt_steps {I : Imm} {bD b1 b3 b5 b7 bN bF : Nat} {x : Lay} {s : Sup} {d : DSt} {chD : List Blk} (hD : Dk I bD d chD) (hf : d.Few 500000) (hld : 1 ≤ x.d ∧ x.d ≤ 1000) (hN : Rds I (some ⟨bN, 0, none⟩) 4096 (bts noughts)) (aS : Option Addr) (capS : Nat) (hS : Rds I aS 4096 (bts (supL s)))
    (hfs : Rds I (some ⟨bF, 0, none⟩) 4 [.func (.func 123) #[] #[.pointer (some ⟨b3, 0, none⟩), .pointer (some ⟨b1, 0, none⟩), .pointer (some ⟨b5, 0, none⟩)], .func (.func 125) #[.pointer (some ⟨bD, 0, none⟩)] #[],
      .func (.func 126) #[] #[.pointer (some ⟨b1, 0, none⟩), .pointer (some ⟨b7, 0, none⟩)], .func (.func 125) #[.pointer (some ⟨bD, 0, none⟩)] #[]]) :
    Tri Tryz.prog 91 #[.slice (some ⟨bF, 0, none⟩) 4 4] I [chD, pBox b1 (.pointer (some ⟨bD, 0, none⟩)) 22, [(b3, row x.vals 45)], pBox b5 (.slice (some ⟨bN, 0, none⟩) 4096 4096) 32, pBox b7 (.slice aS 4096 capS) 32]
      fun r J S' => r = .int .i64 (fmtS (x.d.toNat - 1) s d).2 ∧ ∃ chD' R, Dk J bD (fmtS (x.d.toNat - 1) s d).1 chD' ∧ S' = [chD', pBox b1 (.pointer (some ⟨bD, 0, none⟩)) 22, [(b3, row x.vals 45)], pBox b5 (.slice (some ⟨bN, 0, none⟩) 4096 4096) 32, pBox b7 (.slice aS 4096 capS) 32] ∧ R = chD' := by
  refine vol_first (some ⟨bF, 0, none⟩) 4 4 _ (by omega) hfs ?_
  have hf1 := blankP_few (x.d.toNat - 1) 1 d _ hf
  unfold fmtS
  refine ⟨_, [], [.pointer (some ⟨b3, 0, none⟩), .pointer (some ⟨b1, 0, none⟩), .pointer (some ⟨b5, 0, none⟩)], rfl, ?_⟩
  refine Tri.frame (fmt1 (x := x) hD hf hld (some ⟨bN, 0, none⟩) 4096 hN) [2, 1, 3, 0] rfl rfl ?_
  generalize blankP (x.d.toNat - 1) 1 d = bl at hf1 ⊢
  obtain ⟨d1, e1⟩ := bl
  dsimp only at hf1 ⊢
  rintro r J2 A' hJ2 ⟨rfl, chD1, hD1, rfl⟩
  refine ⟨Nat.le_refl _, ?_⟩
  refine ⟨_, rfl, fun he => ?_, fun he => ?_⟩
  · rw [if_pos he]
    exact ⟨rfl, chD1, _, hD1, rfl, rfl⟩
  rw [if_neg (by simpa using he)]
  refine ⟨_, [.pointer (some ⟨bD, 0, none⟩)], [], rfl, ?_⟩
  refine Tri.frame1 0 rfl (dk_Flush hD1) ?_
  have hf2 := hf1.flush
  generalize d1.flush = fl at hf2 ⊢
  obtain ⟨d2, e2⟩ := fl
  dsimp only at hf2 ⊢
  rintro r J3 A' hJ3 ⟨rfl, chD2, hD2, rfl⟩
  refine ⟨_, rfl, ?_⟩
  refine ⟨_, rfl, fun he => ?_, fun he => ?_⟩
  · rw [if_pos he]
    exact ⟨rfl, chD2, _, hD2, rfl, rfl⟩
  rw [if_neg (by simpa using he)]
  refine ⟨_, [], [.pointer (some ⟨b1, 0, none⟩), .pointer (some ⟨b7, 0, none⟩)], rfl, ?_⟩
  refine Tri.frame (fmt2 hD2 (hf2.mono (by omega)) aS capS (supL s) (hS.mono (Imm.le_trans hJ2 hJ3))) [1, 4, 0] rfl rfl ?_
  generalize d2.write 0 (supL s) = wr
  obtain ⟨d3, e3⟩ := wr
  dsimp only
  rintro r J4 A' hJ4 ⟨rfl, chD3, hD3, rfl⟩
  refine ⟨Nat.le_refl _, ?_⟩
  refine ⟨_, rfl, fun he => ?_, fun he => ?_⟩
  · rw [if_pos he]
    exact ⟨rfl, chD3, _, hD3, rfl, rfl⟩
  rw [if_neg (by simpa using he)]
  refine ⟨_, [.pointer (some ⟨bD, 0, none⟩)], [], rfl, ?_⟩
  refine Tri.frame1 0 rfl (dk_Flush hD3) ?_
  generalize d3.flush = fl
  obtain ⟨d4, e4⟩ := fl
  dsimp only
  rintro r J5 A' hJ5 ⟨rfl, chD4, hD4, rfl⟩
  refine ⟨_, rfl, ?_⟩
  refine ⟨_, rfl, fun he => ?_, fun he => ?_⟩
  · exact ⟨rfl, chD4, _, hD4, rfl, rfl⟩
  · obtain rfl := he
    exact ⟨rfl, chD4, _, hD4, rfl, rfl⟩
set_option maxHeartbeats 4000000 in
theorem vk_Format {I : Imm} {bD : Nat} {d : DSt} {chD : List Blk} (hD : Dk I bD d chD) (hf : d.Few 500000) :
    Tri Tryz.prog 55 #[.pointer (some ⟨bD, 0, none⟩)] I [chD] fun r J S' => r = .int .i64 (formatP d).2 ∧ ∃ chD', Dk J bD (formatP d).1 chD' ∧ S' = [chD'] := by
  have hr := hD.wf.range
  refine Tri.drop ?_ (fun _ _ _ _ h => h)
  refine Tri.of (args := [.pointer (some ⟨bD, 0, none⟩)]) tabOk Tryz.func55 rfl (by kernel_rfl) (by kernel_rfl) ?_
  conv => whnf
  intro b1
  repeat (first | refine LoadD.own 1 rfl _ rfl rfl ?_)
  refine Tri.frame1 0 rfl (dk_Size hD) ?_
  rintro r _ A' hJ ⟨rfl, rfl, rfl⟩
  refine ⟨_, rfl, ?_⟩
  refine CmpD.no (by show ((d.now.length : Nat) : Int) ≠ 0; omega) ?_
  repeat (first | refine LoadD.own 1 rfl _ rfl rfl ?_)
  refine Tri.frame1 0 rfl (dk_Size hD) ?_
  rintro r _ A' hJ ⟨rfl, rfl, rfl⟩
  refine ⟨_, rfl, ?_⟩
  refine Tri.free (layout_Of d.now.length I) ?_
  rintro r _ _ hJ ⟨rfl, rfl⟩
  unfold formatP
  by_cases h64 : d.now.length < 64
  · rw [if_pos h64, layA, if_pos (by omega)]
    conv => whnf
    intro b3
    repeat (first | refine StoreD.st 2 rfl rfl rfl ?_ | refine CmpD.no (by decide) ?_)
    exact Done.mk ⟨_, Drop.pick [0] _ rfl, rfl, chD, hD, rfl⟩
  rw [if_neg h64, layA, if_neg (by omega)]
  conv => whnf
  intro b3
  repeat (first | refine StoreD.st 2 rfl rfl rfl ?_ | refine CmpD.yes rfl ?_)
  refine makeH tabOk rfl rfl rfl 4096 4096 rfl rfl (Nat.le_refl _) (by show 1 * 4096 ≤ _; decide) (by decide) (by show 4096 * 1 ≤ _; decide) rfl (by decide) ?_
  intro bN NB hNB
  conv => whnf
  intro b5
  repeat (first | refine LoadD.own 2 rfl _ rfl rfl ?_ | refine StoreD.st 4 rfl rfl rfl ?_)
  obtain ⟨n, hn⟩ : ∃ n, n = d.now.length := ⟨_, rfl⟩
  rw [← hn] at hr h64 ⊢
  have hlr := layL_range (n := (n : Int)) (by omega)
  refine Tri.free (super_PutF ⟨n, 1, 1, 0⟩ I) ?_
  have hR : RightS ⟨n, 1, 1, 0⟩ := ⟨by show (64 : Int) ≤ n; omega, by show (n : Int) ≤ 512; omega, by show (1 : Int) ≤ 1; decide, by show (1 : Int) ≤ 8388608; decide, by show (1 : Int) ≤ 1; decide, by show (1 : Int) ≤ 549755813888; decide, by show (0 : Int) ≤ 0; decide, by show (0 : Int) ≤ 511; decide⟩
  rintro r J1 _ hJ1 (⟨h, _⟩ | ⟨_, aS, capS, rfl, hSup⟩)
  · exact absurd hR h
  conv => whnf
  intro b7
  repeat (first | refine LoadD.own 1 rfl _ rfl rfl ?_ | refine StoreD.st 5 rfl rfl rfl ?_)
  conv => whnf
  intro bF
  refine Tri.fix 3 rfl fun I5 hI5 hNm => ?_
  refine Tri.fix 6 rfl fun I6 hI6 hFm => ?_
  have hD := hD.mono (Imm.le_trans hJ1 (Imm.le_trans hI5 hI6))
  have hN : Rds I6 (some ⟨bN, 0, none⟩) 4096 (bts noughts) := by
    rw [noughts_bts]
    exact (Rds.of_own (cap := 4096) (by rw [hNB]; show OwnC [(bN, row (rows 4096 [Value.int .u8 0]) _)] 1 _ _ _ _; exact OwnC.whole (by rw [rows_length]; rfl)) hNm).mono hI6
  have hS6 := hSup.mono (Imm.le_trans hI5 hI6)
  have hfs : Rds I6 (some ⟨bF, 0, none⟩) 4 [.func (.func 123) #[] #[.pointer (some ⟨b3, 0, none⟩), .pointer (some ⟨b1, 0, none⟩), .pointer (some ⟨b5, 0, none⟩)], .func (.func 125) #[.pointer (some ⟨bD, 0, none⟩)] #[],
      .func (.func 126) #[] #[.pointer (some ⟨b1, 0, none⟩), .pointer (some ⟨b7, 0, none⟩)], .func (.func 125) #[.pointer (some ⟨bD, 0, none⟩)] #[]] :=
    ⟨rfl, .inr ⟨bF, 0, _, _, _, rfl, hFm _ (List.mem_singleton.2 rfl), rfl⟩⟩
  obtain ⟨x, hx⟩ : ∃ x : Lay, x = layOf (n : Int) := ⟨_, rfl⟩
  have hld : 1 ≤ x.d ∧ x.d ≤ 1000 := by rw [hx]; show 1 ≤ 3 + layL n + (n : Int) / 16 ∧ 3 + layL n + (n : Int) / 16 ≤ 1000; omega
  have hxv : row (layOf (n : Int)).vals 45 = row x.vals 45 := by rw [hx]
  obtain ⟨s, hs⟩ : ∃ s : Sup, s = ⟨n, 1, 1, 0⟩ := ⟨_, rfl⟩
  rw [← hs] at hS6
  refine Tri.frameX (fmt_steps (x := x) (s := s) hD hf hld hN aS capS hS6 hfs) [0, 1, 2, 4, 5] rfl (by rw [hx]; rfl) ?_
  rw [hx, hs]
  rintro r J A' hJ ⟨rfl, chD4, _, hD4, rfl, _⟩
  exact Done.mk ⟨_, Drop.pick [7] _ rfl, rfl, chD4, hD4, rfl⟩
end Go.Proofs.YtegdcjnjnoeinaaGreat
namespace Go.Proofs.YtegdcjnjnoeinaaGreat
open Go.RowKit Go.Sl
set_option maxRecDepth 20000

theorem sortP_length (l : List PImg) : (sortP l).length = l.length := by unfold sortP; rw [List.length_map, (sortI_perm _).length_eq, List.length_map]
theorem release_groups {j : JSt} (hw : j.Wf) (q : Int) : (j.release q).1.groups.length ≤ j.groups.length := by
  unfold JSt.release
  split
  · exact Nat.le_refl _
  split
  · exact Nat.le_refl _
  generalize hq : relAll q j.groups j.s j.t j.u j.h = w
  obtain ⟨gs, s, t, u, h, e⟩ := w
  obtain ⟨_, k, rfl⟩ := relAll_mid q _ _ _ _ _ _ _ _ _ _ _ hw.ring hq
  show (j.groups.drop k).length ≤ _
  rw [List.length_drop]; omega
theorem flush_groups (j : JSt) (d : DSt) : (j.flush d).1.groups = j.groups := by
  unfold JSt.flush
  split
  · rfl
  · split <;> rfl
theorem ckS_wf {v : VSt} {d : DSt} (hw : v.j.Wf) : (v.ckS d).2.1.Wf ∧ (v.ckS d).2.1.groups.length ≤ v.j.groups.length := by
  unfold VSt.ckS
  have h1 := hw.flush d
  have h2 := flush_groups v.j d
  split
  · exact ⟨h1, by rw [h2]; exact Nat.le_refl _⟩
  split
  · exact ⟨h1, by rw [h2]; exact Nat.le_refl _⟩
  · exact ⟨h1.release _, by have := release_groups h1 (v.j.flush d).1.synced; rw [h2] at this; exact this⟩
theorem ckS_few {v : VSt} {d : DSt} {k : Nat} (hf : d.Few k) : (v.ckS d).2.2.Few (k + v.fresh.length + 1) := by
  unfold VSt.ckS
  have h1 := jflush_few (j := v.j) hf
  have h2 := doP_few h1 (sortP v.fresh) v.sup v.slot
  rw [sortP_length] at h2
  split
  · exact h1.mono (by omega)
  split
  · exact h2
  · exact h2
theorem v_Fits (bV bD bJ bM : Nat) (v : VSt) (I : Imm) (S : St) (k : Nat) (br : Bool) (hk : S[k]? = some (vChunk bV bD bJ bM v.j.lay v.epoch v.slot br)) (n : Int) : Tri Tryz.prog 27 #[.pointer (some ⟨bV, 0, none⟩), .int .i64 n] I S fun r J S' => r = .bool (v.fits n) ∧ I = J ∧ S' = S := by
  refine Tri.of (args := [.pointer (some ⟨bV, 0, none⟩), .int .i64 n]) tabOk Tryz.func27 rfl (by kernel_rfl) (by kernel_rfl) ?_
  refine Tri.free (record_Blocks n I []) ?_
  rintro r _ _ hJ ⟨rfl, rfl, rfl⟩
  refine Tri.mono (v_none bV bD bJ bM _ _ _ _ I S k hk) ?_
  rintro r _ _ hJ ⟨rfl, rfl, rfl⟩
  unfold VSt.fits
  refine CmpD.split (fun c1 => ?_) (fun c1 => ?_)
  · refine LoadD.own k hk [.int .i64 v.j.lay.lb] rfl rfl ?_
    refine CmpD.split (fun c2 => ?_) (fun c2 => ?_)
    · rw [decide_eq_true ⟨c1, c2⟩]
      exact Done.mk ⟨rfl, rfl, rfl⟩
    · rw [decide_eq_false (fun h => c2 h.2)]
      exact Done.mk ⟨rfl, rfl, rfl⟩
  · rw [decide_eq_false (fun h => c1 h.1)]
    exact Done.mk ⟨rfl, rfl, rfl⟩
theorem append_lay (j : JSt) (d : DSt) (l : List PImg) (b : Bool) : (j.appendB d l b).1.lay = j.lay := by
  unfold JSt.appendB
  split
  · rfl
  unfold JSt.append
  split
  · rfl
  split
  · rfl
  generalize putS j.s j.t j.u j.h (l.length + 1) (if b = true then l.length + 1 else 0) = q
  obtain ⟨⟨s, t, u, h, e⟩, a⟩ := q
  dsimp only
  split
  · rfl
  split <;> rfl
/-- a volume, laid out -/
structure VAt (J : Imm) (bD bJ bM : Nat) (v : VSt) (ob : Obj) (chJ : List Blk) (gs : List Img) : Prop where
  j : Jk bJ bD v.j chJ
  m : MapR ob (gs.map hdr)
  ok : ∀ g ∈ gs, ImgOk J g
  pr : gs.map Img.pr = v.fresh
theorem VAt.mono {I J : Imm} {bD bJ bM : Nat} {v : VSt} {ob : Obj} {chJ : List Blk} {gs : List Img} (h : VAt I bD bJ bM v ob chJ gs) (hJ : I.le J) : VAt J bD bJ bM v ob chJ gs := ⟨h.j, h.m, fun g hg => (h.ok g hg).mono hJ, h.pr⟩
theorem homeOk_snoc {x : Lay} {l : List PImg} {g : PImg} (h : HomeOk x l) (hg : x.bi ≤ g.1 ∧ g.1 < x.b) : HomeOk x (l ++ [g]) := by
  intro y hy
  rcases List.mem_append.1 hy with hy | hy
  · exact h y hy
  · simp only [List.mem_singleton] at hy; subst hy; exact hg
set_option maxHeartbeats 8000000 in
theorem vk_Commit {bV bD : Nat} {v : VSt} {ch : List Blk} {I : Imm} (h : Vk I bV bD v ch) (hw : v.j.Wf) (hep : v.epoch = v.j.epoch) (hsl : 0 ≤ v.slot ∧ v.slot ≤ 1) (hfr : v.fresh.length ≤ 1000) (hgr : v.j.groups.length ≤ 800000) {d : DSt} {chD : List Blk} (hD : Dk I bD d chD) (hf : d.Few 700000)
    (aL : Option Addr) (capL : Nat) (ls : List Img) (hi : ImgsOk I aL ls) (hll : ls.length ≤ 1000000) :
    Tri Tryz.prog 16 #[.pointer (some ⟨bV, 0, none⟩), .slice aL ls.length capL] I [ch, chD] fun r J S' =>
      r = .tuple #[.int .i64 (v.commit d (ls.map Img.pr)).2.2.1, .int .i64 (v.commit d (ls.map Img.pr)).2.2.2] ∧ ∃ ch' chD', Vk J bV bD (v.commit d (ls.map Img.pr)).1 ch' ∧ Dk J bD (v.commit d (ls.map Img.pr)).2.1 chD' ∧ S' = [ch', chD'] := by
  have h0 := h
  obtain ⟨bJ, bM, ob, chJ, gs, rfl, hj, hM, hg, hp⟩ := h
  have hA : VAt I bD bJ bM v ob chJ gs := ⟨hj, hM, hg, hp⟩
  have hring := hw.ring
  unfold Ok at hring
  have hlog := hw.log
  refine Tri.lay (S2 := [vChunk bV bD bJ bM v.j.lay v.epoch v.slot v.broken, [(bM, ob)], chJ, chD]) (vk_lay2 ..) ?_
  refine Tri.drop ?_ (fun _ _ _ _ h => h)
  refine Tri.ofF (args := [.pointer (some ⟨bV, 0, none⟩), .slice aL ls.length capL]) tabOk Tryz.func16 rfl (by kernel_rfl) (by kernel_rfl) ?_
  refine CodeF.stepD ?_
  refine CodeF.stepD ?_
  refine Tri.nf (v_wrong bV bD bJ bM _ _ _ _ I _ 0 rfl) ?_
  rintro r _ _ hJ ⟨rfl, rfl, rfl⟩
  unfold VSt.commit
  cases hb : v.broken
  rotate_left
  · repeat (first | refine CmpD.no (by decide) ?_)
    rw [if_pos rfl]
    exact Done.mk ⟨_, Drop.flat (by simp [hb]), rfl, _, chD, h0, hD, rfl⟩
  repeat (first | refine CmpD.yes rfl ?_)
  rw [if_neg (by simp)]
  have same : ∀ (J : Imm), I.le J → ∃ ch' chD', Vk J bV bD v ch' ∧ Dk J bD d chD' ∧ [vChunk bV bD bJ bM v.j.lay v.epoch v.slot false ++ ((bM, ob) :: chJ), chD] = [ch', chD'] := fun J hJ => ⟨_, chD, by have := h0.mono hJ; rw [hb] at this; exact this, hD.mono hJ, rfl⟩
  have flat0 : ∀ (R : St), Drop ([vChunk bV bD bJ bM v.j.lay v.epoch v.slot false, [(bM, ob)], chJ, chD] ++ R) [vChunk bV bD bJ bM v.j.lay v.epoch v.slot false ++ ((bM, ob) :: chJ), chD] := fun R => ⟨R.flatten, by simp⟩
  refine CodeF.stepD ?_
  obtain ⟨n, hn⟩ : ∃ n, n = ls.length := ⟨_, rfl⟩
  rw [← hn] at hll ⊢
  refine CodeF.loopD [0, 1, 20, 21, 22] (fun vs J' S' => ∃ (i : Nat), i ≤ n ∧ HomeOk v.j.lay ((ls.map Img.pr).take i) ∧ I = J' ∧ vs = [.pointer (some ⟨bV, 0, none⟩), .slice aL n capL, .slice aL n capL, .int .i64 n, .int .i64 i] ∧ S' = [vChunk bV bD bJ bM v.j.lay v.epoch v.slot false, [(bM, ob)], chJ, chD])
    (fun vs _ _ => match vs with | [_, _, _, _, .int _ i] => ((n : Int) - i).toNat | _ => 0) ?_ ?_
  · exact ⟨_, Drop.refl _, 0, by omega, by intro g hg; simp at hg, rfl, rfl, rfl⟩
  rintro vs gE J' S' hJ' ⟨i, hi1, hho, rfl, rfl, rfl⟩
  refine CmpD.split (fun (c1 : (i : Int) < n) => ?_) (fun (c1 : ¬ (i : Int) < n) => ?_)
  · have hil : i < ls.length := by omega
    have htk : (ls.map Img.pr).take (i + 1) = (ls.map Img.pr).take i ++ [ls[i].pr] := by rw [List.take_add_one, List.getElem?_map, List.getElem?_eq_getElem hil]; rfl
    have hcell := imgCells_at hil
    have hpre : ∀ g ∈ (ls.map Img.pr).take (i + 1), g ∈ ls.map Img.pr := fun g hg => List.mem_of_mem_take hg
    rcases hi.1.mem with q0 | ⟨bL, oL, cL, TL, fL, rfl, hIL, hcL⟩
    · omega
    have hsrc : (cL.drop (oL + i * 2)).take 2 = [.int .i64 ls[i].blk, .slice ls[i].a ls[i].len ls[i].cap] := by
      rw [take_part hcL (by omega), hcell]
    refine Chk.mk (by omega) ?_
    refine LoadD.imm hIL [.int .i64 ls[i].blk, .slice ls[i].a ls[i].len ls[i].cap] hsrc rfl ?_
    conv => whnf
    intro b8
    refine StoreD.st 4 rfl rfl rfl ?_
    refine CodeF.sched [[], [0], [], [2], [2, 3], [2, 3, 4], [2, 3, 4, 5], [0, 1, 2, 3, 4, 5, 6], [0, 1, 2, 3, 4, 5, 6, 7], [0, 1, 2, 3, 4, 5, 6, 7, 8], [0, 1, 2, 3, 4, 5, 6, 7, 8, 9], [0, 1, 2, 3, 4, 5, 6, 7, 8], [0, 1, 2, 3, 4, 5, 6, 7, 8, 11], [0, 1, 2, 3, 4, 5, 6, 7, 8, 11, 12], [0, 1, 2, 3, 4, 5, 6, 7, 8, 11, 12, 13], [0, 1, 2, 3, 4, 5, 6, 7, 8, 11, 12, 13, 14], [0, 1, 2, 3, 4, 5, 6, 7, 8, 9, 10, 11, 12, 13, 14, 15], [0, 1, 2, 3, 4, 5, 6, 7, 8, 9, 10, 11, 12, 13, 14, 15, 16]] [0, 1, 2, 3, 4, 5, 6, 7, 8, 9, 10, 11, 12, 13, 14, 15, 16, 17] (by kernel_rfl) ?_
    repeat (first | refine LoadP.at 0 rfl _ rfl rfl ?_ | refine LoadP.at 4 rfl _ rfl rfl ?_)
    have bad : ¬ (v.j.lay.bi ≤ ls[i].blk ∧ ls[i].blk < v.j.lay.b) → ¬ HomeOk v.j.lay (ls.map Img.pr) := fun h hh => h (hh ls[i].pr (List.mem_map_of_mem (List.getElem_mem hil)))
    refine CmpD.split (fun (c2 : ls[i].blk < v.j.lay.bi) => ?_) (fun (c2 : ¬ ls[i].blk < v.j.lay.bi) => ?_)
    · skip
      rw [if_pos (by simpa using bad (fun h => by omega))]
      obtain ⟨ch', chD', k1, k2, k3⟩ := same I (Imm.le_refl _)
      exact Done.mk ⟨_, flat0 [_], rfl, ch', chD', k1, k2, k3⟩
    repeat (first | refine LoadP.at 0 rfl _ rfl rfl ?_ | refine LoadP.at 4 rfl _ rfl rfl ?_)
    refine CmpD.split (fun (c3 : v.j.lay.b ≤ ls[i].blk) => ?_) (fun (c3 : ¬ v.j.lay.b ≤ ls[i].blk) => ?_)
    · skip
      rw [if_pos (by simpa using bad (fun h => by omega))]
      obtain ⟨ch', chD', k1, k2, k3⟩ := same I (Imm.le_refl _)
      exact Done.mk ⟨_, flat0 [_], rfl, ch', chD', k1, k2, k3⟩
    refine ToD.to (((i + 1 : Nat)) : Int) (by rw [wrap_i64 (by omega) (by omega)]; omega) ?_
    refine ⟨_, Drop.pick [0, 1, 2, 3] _ rfl, ⟨i + 1, by omega, ?_, rfl, rfl, rfl⟩, ?_⟩
    · rw [htk]
      exact homeOk_snoc hho ⟨by show v.j.lay.bi ≤ ls[i].blk; omega, by show ls[i].blk < v.j.lay.b; omega⟩
    · show ((n : Int) - ((i + 1 : Nat) : Int)).toNat < ((n : Int) - (i : Int)).toNat; omega
  obtain rfl : i = n := by omega
  rw [List.take_of_length_le (by rw [List.length_map]; omega)] at hho
  rw [if_neg (by simpa using hho)]
  refine CodeF.stepD ?_
  refine CodeF.sched [[], [0], [0, 1], [0, 1, 2], [], [4], [4, 5], [4, 5, 6], [4, 5, 6, 7], [], [0, 1, 2, 3, 4, 5, 6, 7, 8, 9], [0, 1, 2, 3, 4, 5, 6, 7, 8, 9, 10], [0, 1, 2, 3, 4, 5, 6, 7, 8, 9, 10, 11], [0, 1, 2, 3, 4, 5, 6, 7, 8, 9, 10, 11, 12], [0, 1, 2, 3, 4, 5, 6, 7, 8, 9, 10, 11, 12], [0, 1, 2, 3, 4, 5, 6, 7, 8, 9, 10, 11, 12, 13], [0, 1, 2, 3, 4, 5, 6, 7, 8, 9, 10, 11, 12, 13, 14, 15]] [0, 1, 2, 3, 4, 5, 6, 7, 9, 8, 10, 11, 12, 13, 14, 15, 16] (by kernel_rfl) ?_
  repeat (first | refine LoadP.at 0 rfl _ rfl rfl ?_)
  refine Tri.frame1 2 rfl (jk_Next hj I) ?_
  rintro r _ A' hJ2 ⟨rfl, rfl, rfl⟩
  refine ⟨_, rfl, ?_⟩
  repeat (first | refine Chk.mk ⟨rfl, trivial⟩ ?_)
  rw [hn]
  refine Tri.free (put_of v.epoch v.j.next ⟨by rw [hep]; exact hw.epoch, by have := hw.next; unfold In64; omega⟩ aL capL ls I hi (by omega)) ?_
  rw [← hn]
  rintro r J2 _ hJ2 (⟨hno, rfl⟩ | ⟨hR, aO, capO, bs, rfl, _, _, _⟩)
  · rw [if_pos hno]
    skip
    refine CodeF.stepD ?_
    repeat (first | refine CmpD.no (by decide) ?_)
    obtain ⟨ch', chD', k1, k2, k3⟩ := same J2 hJ2
    exact Done.mk ⟨_, flat0 [], rfl, ch', chD', k1, k2, k3⟩
  rw [if_neg (by simpa using hR)]
  skip
  refine CodeF.stepD ?_
  repeat (first | refine CmpD.yes rfl ?_)
  refine Tri.nf (v_Fits bV bD bJ bM v J2 _ 0 false rfl (i : Int)) ?_
  rintro r _ _ hJ3 ⟨rfl, rfl, rfl⟩
  have hll2 : (ls.map Img.pr).length = i := by rw [List.length_map, hn]
  rw [hll2]
  have hR6 := hR.2.2.2.2
  rw [hll2] at hR6
  cases hfit : v.fits (i : Int)
  · rw [if_pos rfl]
    skip
    obtain ⟨ch', chD', k1, k2, k3⟩ := same J2 hJ2
    exact Done.mk ⟨_, flat0 [], rfl, ch', chD', k1, k2, k3⟩
  rw [if_neg (by simp)]
  skip
  have hbn : blocksN (i : Int) = (i : Int) + 1 := by unfold blocksN; rw [if_neg (by omega)]
  rw [hbn]
  obtain ⟨W, hW⟩ : ∃ W : VSt × DSt × Int × Int, W = (if v.j.s - v.j.u - v.j.h < (i : Int) + 1 then (if (v.ckpt d).2.2 ≠ 0 then ((v.ckpt d).1, (v.ckpt d).2.1, 0, (v.ckpt d).2.2) else (v.ckpt d).1.app (v.ckpt d).2.1 (ls.map Img.pr)) else v.app d (ls.map Img.pr)) := ⟨_, rfl⟩
  rw [← hW]
  refine CodeF.join [0, 1] (fun vs J3 S' => ∃ (v2 : VSt) (d2 : DSt) (bJ2 bM2 : Nat) (ob2 : Obj) (chJ2 : List Blk) (gs2 : List Img) (chD2 : List Blk), W = v2.app d2 (ls.map Img.pr) ∧ VAt J3 bD bJ2 bM2 v2 ob2 chJ2 gs2 ∧ Dk J3 bD d2 chD2 ∧ v2.j.Wf ∧ v2.j.groups.length ≤ 800000 ∧ d2.Few 800000 ∧ v2.broken = false ∧ J2.le J3 ∧
      vs = [.pointer (some ⟨bV, 0, none⟩), .slice aL i capL] ∧ S' = [vChunk bV bD bJ2 bM2 v2.j.lay v2.epoch v2.slot false, [(bM2, ob2)], chJ2, chD2]) ?_ ?_
  · refine CodeF.den ?_
    repeat (first | refine LoadD.own 0 rfl _ rfl rfl ?_)
    refine Tri.frame1 2 rfl (jk_Ring hj J2) ?_
    rintro r _ A' hJ4 ⟨rfl, rfl, rfl⟩
    refine ⟨_, rfl, ?_⟩
    refine Tri.free (ring_Free v.j.s v.j.t v.j.u v.j.h J2 (by unfold In64; omega) (by unfold In64; omega) (by unfold In64; omega) (by unfold In64; omega)) ?_
    rintro r _ _ hJ5 ⟨rfl, rfl⟩
    rw [if_pos hw.ring]
    refine Tri.free (record_Blocks (i : Int) J2 []) ?_
    rintro r _ _ hJ6 ⟨rfl, rfl, rfl⟩
    rw [hbn]
    refine CmpD.split (fun (c1 : v.j.s - v.j.u - v.j.h < (i : Int) + 1) => ?_) (fun (c1 : ¬ v.j.s - v.j.u - v.j.h < (i : Int) + 1) => ?_)
    · rw [if_pos c1] at hW
      have hcw := ckS_wf (d := d) hw
      have hcf := ckS_few (v := v) hf
      refine Tri.lay (S2 := [vChunk bV bD bJ bM v.j.lay v.epoch v.slot false ++ ((bM, ob) :: chJ), chD]) (by simp) ?_
      refine Tri.drop (vk_Checkpoint (v := v) (by have := h0.mono hJ2; rw [hb] at this; exact this) hw hsl hfr (hD.mono hJ2) (hf.mono (by omega))) ?_
      rintro r J3 S' hJ3 ⟨rfl, ch2, chD2, ⟨bJ2, bM2, ob2, chJ2, gs2, rfl, hj2, hM2, hg2, hp2⟩, hD2, rfl⟩
      have hbr : (v.ckpt d).2.2 = 0 → (v.ckpt d).1.broken = false := by
        unfold VSt.ckpt
        rw [if_neg (by rw [hb]; simp)]
        split
        · intro h; exact absurd h (by assumption)
        · intro _; exact hb
      have hcj : (v.ckpt d).1.j = (v.ckS d).2.1 ∧ (v.ckpt d).2.1 = (v.ckS d).2.2 := by
        unfold VSt.ckpt
        rw [if_neg (by rw [hb]; simp)]
        split <;> exact ⟨rfl, rfl⟩
      rw [← hcj.1] at hcw
      rw [← hcj.2] at hcf
      generalize v.ckpt d = ck at *
      obtain ⟨v3, d3, e3⟩ := ck
      dsimp only at *
      refine ⟨[vChunk bV bD bJ2 bM2 v3.j.lay v3.epoch v3.slot v3.broken, [(bM2, ob2)], chJ2, chD2], Drop.flat (by simp), ?_⟩
      by_cases he : e3 ≠ 0
      · rw [if_pos he] at hW
        refine CmpD.no he ?_
        skip
        rw [hW]
        exact Done.mk ⟨_, Drop.flat (vk_lay2 ..).symm, rfl, _, chD2, ⟨bJ2, bM2, ob2, chJ2, gs2, rfl, hj2, hM2, hg2, hp2⟩, hD2, rfl⟩
      · rw [if_neg he] at hW
        obtain rfl : e3 = 0 := by omega
        rw [hbr rfl]
        repeat (first | refine CmpD.yes rfl ?_)
        exact ⟨_, Drop.refl _, v3, d3, bJ2, bM2, ob2, chJ2, gs2, chD2, hW, ⟨hj2, hM2, hg2, hp2⟩, hD2, hcw.1, by omega, hcf.mono (by omega), hbr rfl, hJ3, rfl, rfl⟩
    · rw [if_neg c1] at hW
      exact ⟨_, Drop.refl _, v, d, bJ, bM, ob, chJ, gs, chD, hW, hA.mono hJ2, hD.mono hJ2, hw, hgr, hf.mono (by omega), hb, Imm.le_refl _, rfl, rfl⟩
  rintro vs gE3 J3 S3 hJ3 ⟨v2, d2, bJ2, bM2, ob2, chJ2, gs2, chD2, hW2, hA2, hD2, hw2, hgr2, hf2, hb2, hle3, rfl, rfl⟩
  refine CodeF.den ?_
  repeat (first | refine LoadD.own 0 rfl _ rfl rfl ?_)
  rw [hn]
  refine Tri.frame (jk_Append hA2.j hw2 hD2 (hf2.mono (by omega)) (by omega) aL capL ls (hi.mono (Imm.le_trans hJ2 hle3)) (by omega) false) [2, 3] rfl rfl ?_
  unfold VSt.app at hW2
  have hlay : (v2.j.appendB d2 (ls.map Img.pr) false).1.lay = v2.j.lay := append_lay _ _ _ _
  generalize v2.j.appendB d2 (ls.map Img.pr) false = ap at *
  obtain ⟨j4, d4, n4, e4⟩ := ap
  dsimp only at hW2 hlay ⊢
  rintro r J4 A' hJ4 ⟨rfl, chJ4, chD4, hj4, hD4, rfl⟩
  refine ⟨Nat.le_refl _, ?_⟩
  skip
  refine Tri.frame1 0 rfl (v_did bV bD bJ2 bM2 v2.j.lay v2.epoch v2.slot false J4 e4) ?_
  rintro r _ A' hJ5 ⟨rfl, rfl, rfl⟩
  refine ⟨_, rfl, ?_⟩
  have hA4 := hA2.mono hJ4
  by_cases he : e4 ≠ 0
  · rw [if_pos he] at hW2
    refine CmpD.no he ?_
    skip
    rw [hW2, decide_eq_true he]
    exact Done.mk ⟨[vChunk bV bD bJ2 bM2 v2.j.lay v2.epoch v2.slot true ++ ((bM2, ob2) :: chJ4), chD4], Drop.flat (by simp), rfl, _, chD4, ⟨bJ2, bM2, ob2, chJ4, gs2, by rw [hlay], hj4, hA4.m, hA4.ok, hA4.pr⟩, hD4, rfl⟩
  rw [if_neg he] at hW2
  obtain rfl : e4 = 0 := by omega
  rw [show (false || decide ((0 : Int) ≠ 0)) = false from rfl]
  repeat (first | refine CmpD.yes rfl ?_)
  rw [← hn]
  have hi4 := hi.mono (Imm.le_trans hJ2 (Imm.le_trans hle3 hJ4))
  have hlen4 : ∀ g ∈ ls, g.data.length = 4096 := fun g hg => (hR6.2.2.1 g.pr (List.mem_map_of_mem hg)).2.2
  refine CodeF.loopD [0, 12, 99, 100, 101] (fun vs J' S' => ∃ (k : Nat) (ob3 : Obj) (gs3 : List Img), k ≤ i ∧ MapR ob3 (gs3.map hdr) ∧ (∀ g ∈ gs3, ImgOk J' g) ∧ gs3.map Img.pr = ((ls.map Img.pr).take k).foldl pput v2.fresh ∧ J4.le J' ∧
      vs = [.pointer (some ⟨bV, 0, none⟩), .int .i64 n4, .slice aL i capL, .int .i64 i, .int .i64 k] ∧ S' = [vChunk bV bD bJ2 bM2 v2.j.lay v2.epoch v2.slot false, [(bM2, ob3)], chJ4, chD4])
    (fun vs _ _ => match vs with | [_, _, _, _, .int _ k] => ((i : Int) - k).toNat | _ => 0) ?_ ?_
  · exact ⟨_, Drop.refl _, 0, ob2, gs2, by omega, hA4.m, hA4.ok, hA4.pr, Imm.le_refl _, rfl, rfl⟩
  rintro vs gE4 J5 S5 hJ5 ⟨k, ob3, gs3, hk, hM3, hg3, hp3, hle5, rfl, rfl⟩
  refine CmpD.split (fun (c1 : (k : Int) < i) => ?_) (fun (c1 : ¬ (k : Int) < i) => ?_)
  · have hil : k < ls.length := by omega
    have htk : (ls.map Img.pr).take (k + 1) = (ls.map Img.pr).take k ++ [ls[k].pr] := by rw [List.take_add_one, List.getElem?_map, List.getElem?_eq_getElem hil]; rfl
    have hcell := imgCells_at hil
    have hgm := List.getElem_mem hil
    have hi5 := hi4.mono hle5
    rcases hi5.1.mem with q0 | ⟨bL, oL, cL, TL, fL, rfl, hIL, hcL⟩
    · omega
    have hsrc : (cL.drop (oL + k * 2)).take 2 = [.int .i64 ls[k].blk, .slice ls[k].a ls[k].len ls[k].cap] := by
      rw [take_part hcL (by omega), hcell]
    have hgk := hi5.2 _ hgm
    have hgd := hlen4 _ hgm
    generalize ls[k] = g at *
    have hgl : g.len = 4096 := by have := hgk.2.len; rw [bts_length] at this; omega
    refine Chk.mk (by omega) ?_
    refine LoadD.imm hIL [.int .i64 g.blk, .slice g.a g.len g.cap] hsrc rfl ?_
    conv => whnf
    intro b8
    refine StoreD.st 4 rfl rfl rfl ?_
    refine CodeF.sched [[], [0], [0, 1], [0, 1, 2], [], [4], [], [6], [6, 7], [0, 1, 2, 3, 4, 5, 6, 7, 8]] [0, 1, 2, 3, 4, 5, 6, 7, 8, 9] (by kernel_rfl) ?_
    repeat (first | refine LoadP.at 0 rfl _ rfl rfl ?_ | refine LoadP.at 4 rfl _ rfl rfl ?_)
    refine Tri.free (clone_fix J5 g.a g.len g.cap g.data hgk.2 (by omega)) ?_
    rintro r J6 _ hJ6 ⟨a', cap', rfl, hcl⟩
    repeat (first | refine Chk.mk ⟨rfl, rfl, trivial⟩ ?_)
    refine mapUpdateD tabOk rfl rfl rfl rfl rfl 1 rfl hM3 ?_
    intro ob4 hM4
    refine ToD.to (((k + 1 : Nat)) : Int) (by rw [wrap_i64 (by omega) (by omega)]; omega) ?_
    have hM5 : MapR ob4 ((iput gs3 ⟨g.blk, a', g.len, cap', g.data⟩).map hdr) := by rw [iput_hdr]; exact hM4
    refine ⟨_, Drop.pick [0, 1, 2, 3] _ rfl, ⟨k + 1, ob4, iput gs3 ⟨g.blk, a', g.len, cap', g.data⟩, by omega, hM5, ?_, ?_, Imm.le_trans hle5 hJ6, rfl, rfl⟩, ?_⟩
    · intro y hy
      rcases iput_mem hy with rfl | hy
      · exact ⟨hgk.1, hcl⟩
      · exact (hg3 y hy).mono hJ6
    · rw [iput_pr, hp3, htk, List.foldl_append]; rfl
    · show ((i : Int) - ((k + 1 : Nat) : Int)).toNat < ((i : Int) - (k : Int)).toNat; omega
  obtain rfl : k = i := by omega
  rw [List.take_of_length_le (by omega)] at hp3
  skip
  rw [hW2]
  exact Done.mk ⟨[vChunk bV bD bJ2 bM2 v2.j.lay v2.epoch v2.slot false ++ ((bM2, ob3) :: chJ4), chD4], Drop.flat (by simp), rfl, _, chD4, ⟨bJ2, bM2, ob3, chJ4, gs3, by rw [hlay, hb2], hj4, hM3, hg3, hp3⟩, hD4.mono hle5, rfl⟩
end Go.Proofs.YtegdcjnjnoeinaaGreat
namespace Go.Proofs.YtegdcjnjnoeinaaGreat
open Go.RowKit Go.Sl
set_option maxRecDepth 20000

theorem DSt.flush_calm {d : DSt} (h : d.Calm) : d.flush = ({ d with safe := d.now, writes := [] }, 0) := by
  unfold DSt.flush
  rw [DSt.stop_calm h]
  simp
/-- noughts over noughts -/
theorem blank_calm : ∀ (n k : Nat) (d : DSt), d.Calm → k + n ≤ d.now.length → (∀ i, k ≤ i → i < k + n → d.now[i]? = some noughts) → ∃ ws, blankP n k d = ({ d with writes := ws, count := d.count + n }, 0)
  | 0, k, d, _, _, _ => ⟨d.writes, by rw [blankP]; simp⟩
  | n + 1, k, d, hc, hl, hz => by
    have hw := DSt.write_calm hc (n := (k : Int)) (b := noughts) (by omega) noughts_length
    have hset : d.now.set k noughts = d.now := by
      apply List.ext_getElem?
      intro i
      by_cases hi : k = i
      · subst hi; rw [List.getElem?_set_self (by omega), hz k (by omega) (by omega)]
      · rw [List.getElem?_set_ne hi]
    have hput : d.put (k : Int) noughts = { d with writes := d.writes ++ [((k : Int), noughts)], count := d.count + 1 } := by
      show ({ d with now := d.now.set (k : Int).toNat noughts, writes := _, count := _ } : DSt) = _
      rw [Int.toNat_natCast, hset]
    obtain ⟨ws, ih⟩ := blank_calm n (k + 1) { d with writes := d.writes ++ [((k : Int), noughts)], count := d.count + 1 } hc (by show k + 1 + n ≤ d.now.length; omega) (fun i h1 h2 => hz i (by omega) (by omega))
    refine ⟨ws, ?_⟩
    rw [blankP, hw, if_neg (by simp)]
    show blankP n (k + 1) (d.put (k : Int) noughts) = _
    rw [hput, ih]
    show (({ d with writes := ws, count := d.count + 1 + n } : DSt), (0 : Int)) = _
    congr 2
    push_cast
    omega
/-- a disk of 64 blocks: two superblocks, and noughts -/
def zL (a b : Dat) : List Dat := a :: b :: List.replicate 62 noughts
def dz (a b : Dat) (c : Int) : DSt := ⟨zL a b, zL a b, [], c, false, ⟨false, 0⟩, ⟨false, 0⟩⟩
theorem zL_length (a b : Dat) : (zL a b).length = 64 := by simp [zL]
theorem dz_calm (a b : Dat) (c : Int) : (dz a b c).Calm := ⟨rfl, rfl, rfl⟩
theorem zL_get (a b : Dat) (i : Nat) (h : 2 ≤ i) (h2 : i < 64) : (zL a b)[i]? = some noughts := by
  obtain ⟨j, rfl⟩ : ∃ j, i = j + 2 := ⟨i - 2, by omega⟩
  show (List.replicate 62 noughts)[j]? = _
  rw [List.getElem?_replicate, if_pos (by omega)]
theorem dz_wf {a b : Dat} (ha : a.length = 4096) (hb : b.length = 4096) (c : Int) : (dz a b c).Wf := by
  have hm : ∀ x ∈ zL a b, x.length = 4096 := by
    intro x hx
    rcases List.mem_cons.1 hx with rfl | hx
    · exact ha
    rcases List.mem_cons.1 hx with rfl | hx
    · exact hb
    rw [(List.mem_replicate.1 hx).2]; exact noughts_length
  exact ⟨rfl, by show 1 ≤ (zL a b).length ∧ (zL a b).length ≤ 512; rw [zL_length]; omega, hm, hm, fun w hw => (List.not_mem_nil hw).elim, fun h => (Bool.false_ne_true h).elim, fun h => (Bool.false_ne_true h).elim⟩
theorem dz_few (a b : Dat) (c : Nat) : (dz a b c).Few c := ⟨Nat.zero_le _, by show (0 : Int) ≤ c; omega, by show (c : Int) ≤ c; omega⟩
theorem format_new : formatP (DSt.of (List.replicate 64 noughts)) = (dz (supL ⟨64, 1, 1, 0⟩) noughts 23, 0) := by
  have e0 : DSt.of (List.replicate 64 noughts) = dz noughts noughts 0 := rfl
  have hc := dz_calm noughts noughts 0
  have hl : (dz noughts noughts 0).now.length = 64 := zL_length _ _
  have hall : ∀ i, 1 ≤ i → i < 1 + 22 → (dz noughts noughts 0).now[i]? = some noughts := by
    intro i h1 h2
    by_cases h : i = 1
    · subst h; rfl
    · exact zL_get _ _ i (by omega) (by omega)
  rw [e0]
  generalize hd : dz noughts noughts 0 = d0 at *
  obtain ⟨ws, hb⟩ := blank_calm 22 1 d0 hc (by omega) hall
  unfold formatP
  rw [if_neg (by omega), hl, show (layOf ((64 : Nat) : Int)).d.toNat - 1 = 22 from by decide]
  unfold fmtS
  rw [hb]
  dsimp only
  have hc1 : ({ d0 with writes := ws, count := d0.count + (22 : Nat) } : DSt).Calm := hc
  rw [if_neg (by simp), DSt.flush_calm hc1]
  dsimp only
  rw [if_neg (by simp)]
  have hc2 : ({ d0 with safe := d0.now, writes := [], count := d0.count + (22 : Nat) } : DSt).Calm := hc
  rw [DSt.write_calm (d := { d0 with safe := d0.now, writes := [], count := d0.count + (22 : Nat) }) hc2 (n := 0) (b := supL ⟨(64 : Nat), 1, 1, 0⟩) (by show (0 : Int) ≤ 0 ∧ (0 : Int) < (d0.now.length : Nat); omega) (supL_length _)]
  dsimp only
  rw [if_neg (by simp), DSt.flush_calm (by exact hc)]
  subst hd
  rfl
theorem rb_dz (a b : Dat) (c : Int) (o : Nat) : rbP (dz a b c) 2 16 o = noughts := by
  unfold rbP
  show (zL a b).getD _ _ = _
  rw [List.getD_eq_getElem?_getD, zL_get a b _ (by omega) (by omega)]; rfl
theorem scan_dz (a b : Dat) (c : Int) (s : Sup) : scanL (dz a b c) s = [] := by
  rw [scanL64 (zL_length a b)]
  refine scan_stop ?_
  intro e q l h
  rw [grpP_none (by rw [rb_dz]; exact hd_noughts)] at h
  cases h
theorem do_empty {d : DSt} (hc : d.Calm) (_hw : d.writes = [] ∧ d.safe = d.now) {s : Sup} (hR : RightS s) (slot : Nat) (hs : slot ≤ 1) (hl : 2 ≤ d.now.length) : doP d [] s slot = ({ d with safe := d.now.set slot (supL s), now := d.now.set slot (supL s), writes := [], count := d.count + 1 }, 0) := by
  have hd : DoOk d [] := by intro g hg; simp at hg
  unfold doP
  rw [if_neg (by rintro (h | h | h | h); exact h hR; omega; omega; exact h hd)]
  rw [show wrImgs [] d = (d, 0) from rfl]
  dsimp only
  rw [if_neg (by simp), DSt.flush_calm hc]
  dsimp only
  rw [if_neg (by simp)]
  unfold lastWr
  have hc2 : ({ d with safe := d.now, writes := [] } : DSt).Calm := hc
  rw [DSt.write_calm hc2 (n := (slot : Int)) (b := supL s) (by show (0 : Int) ≤ slot ∧ (slot : Int) < d.now.length; omega) (supL_length _)]
  dsimp only
  rw [if_neg (by simp), DSt.flush_calm (by exact hc)]
  show (({ d with safe := d.now.set (slot : Int).toNat (supL s), now := d.now.set (slot : Int).toNat (supL s), writes := [], count := d.count + 1 } : DSt), (0 : Int)) = _
  rw [Int.toNat_natCast]
/-- mounting a disk whose ring is empty -/
theorem mount_dz {a b : Dat} {c : Int} {s : Sup} {slot : Nat} (hch : chooseP (getS a) (getS b) = (s, (slot : Int), true)) (hR : RightS s) (hb : s.blocks = 64) (ht : s.tail < 16) (he : s.epoch < 8388608) (hs : slot ≤ 1) :
    mountP (dz a b c) = (dz (if slot = 1 then supL ⟨64, s.epoch + 1, s.seq, s.tail⟩ else a) (if slot = 1 then b else supL ⟨64, s.epoch + 1, s.seq, s.tail⟩) (c + 1), 0, some ⟨openJ 64 (s.epoch + 1) s.seq s.tail, s.epoch + 1, slot, [], false⟩) := by
  obtain ⟨sb, se, sq, st⟩ := s
  obtain ⟨r1, r2, r3, r4, r5, r6, r7, r8⟩ := hR
  dsimp only at *
  subst hb
  have hl : (dz a b c).now.length = 64 := zL_length _ _
  have hf : foundP (dz a b c) = (⟨64, se, sq, st⟩, (slot : Int), 0) := by
    unfold foundP
    rw [if_neg (by show ¬ false = true; simp), hl]
    have e1 : (dz a b c).now.getD 0 [] = a := rfl
    have e2 : (dz a b c).now.getD 1 [] = b := rfl
    rw [e1, e2, hch]
    dsimp only
    rw [if_neg (by rintro (h | h | h | h); exact Bool.noConfusion h; exact h rfl; rw [show layL ((64 : Nat) : Int) = 16 from by decide] at h; omega; omega)]
  unfold mountP
  rw [if_neg (by omega), hf]
  dsimp only
  rw [if_neg (by simp), scan_dz]
  unfold mountL
  have h16 : (layL (((dz a b c).now.length : Nat) : Int)).toNat = 16 := by rw [hl]; decide
  rw [h16]
  have hpl : ((placeP 16 st.toNat [] : Nat) : Int) = st := by
    unfold placeP
    simp only [List.map_nil, List.sum_nil, Nat.add_zero]
    omega
  rw [if_neg (by rintro (h | h); exact h (by intro g hg; simp [allG] at hg); simp at h; omega)]
  rw [hpl]
  have hdo := do_empty (d := dz a b c) (dz_calm a b c) ⟨rfl, rfl⟩ (s := ⟨64, se + 1, sq + (([] : List G3).length : Nat), st⟩) ⟨by show (64 : Int) ≤ 64; decide, by show (64 : Int) ≤ 512; decide, by show 1 ≤ se + 1; omega, by show se + 1 ≤ 8388608; omega, by show 1 ≤ sq + ((0 : Nat) : Int); omega, by show sq + ((0 : Nat) : Int) ≤ 549755813888; omega, r7, r8⟩ (1 - slot) (by omega) (by omega)
  have hsl : ((1 - slot : Nat) : Int) = 1 - (slot : Int) := by omega
  rw [hsl] at hdo
  have hho : homeP (allG []) = [] := by
    have := homeP_len (allG [])
    simp [allG] at this
    exact this
  rw [hho, hdo]
  dsimp only
  rw [if_neg (by simp), hl]
  have hsq : sq + (([] : List G3).length : Int) = sq := by simp
  rw [hsq]
  rcases Nat.eq_or_lt_of_le hs with h | h
  · subst h
    simp only [if_true]
    rfl
  · obtain rfl : slot = 0 := by omega
    rw [if_neg (by decide), if_neg (by decide)]
    rfl
theorem crash_none (sec : Nat) : ∀ (ws : List (Int × Dat)) (i : Nat) (s : List Dat), crashK [] (-1) sec i ws s = s
  | [], _, _ => rfl
  | w :: ws, i, s => by
    rw [crashK, crash_none sec ws]
    unfold crash1
    rw [if_neg (by omega), if_neg (by simp)]
end Go.Proofs.YtegdcjnjnoeinaaGreat
namespace Go.Proofs.YtegdcjnjnoeinaaGreat
open Go.RowKit Go.Sl
set_option maxRecDepth 20000
theorem images11_of (aL : Option Addr) (capL : Nat) (z : List Int) (hz : z.length ≤ 40) (hz2 : ∀ x ∈ z, In64 x) (k : Int) (hk : In64 k) (I : Imm) (hL : Rds I aL z.length (ints z)) :
    Tri Tryz.prog 15 #[.slice aL z.length capL, .int .i64 k] I [] fun v J S' => ∃ a cap ch gs, v = .slice a z.length cap ∧ OwnC ch 2 a z.length cap (imgCells gs) ∧ gs.map Img.pr = imgsP z k 0 ∧ (∀ g ∈ gs, ImgOk J g ∧ g.len = 4096) ∧ S' = [ch] := by
  refine Tri.of (args := [.slice aL z.length capL, .int .i64 k]) tabOk Tryz.func15 rfl (by kernel_rfl) (by kernel_rfl) ?_
  refine CodeF.loopD [0, 1, 5, 6] (fun vs J S' => ∃ (i : Nat) (kk : Int) (a : Option Addr) (cap : Nat) (ch : List Blk) (gs : List Img), i ≤ z.length ∧ In64 kk ∧ OwnC ch 2 a i cap (imgCells gs) ∧ gs.length = i ∧ gs.map Img.pr ++ imgsP (z.drop i) kk i = imgsP z k 0 ∧ (∀ g ∈ gs, ImgOk J g ∧ g.len = 4096) ∧ I.le J ∧
      vs = [.slice aL z.length capL, .int .i64 kk, .slice a i cap, .int .i64 i] ∧ S' = [ch])
    (fun vs _ _ => match vs with | [_, _, _, .int _ i] => ((z.length : Int) - i).toNat | _ => 0) ?_ ?_
  · exact ⟨_, Drop.and (Drop.refl _), 0, k, none, 0, [], [], by omega, hk, OwnC.nil _ _, rfl, rfl, by simp, I.le_refl, rfl, rfl⟩
  rintro vs g J S' hJ ⟨i, kk, a, cap, ch, gs, hi, hkk, hown, hgs, hbl, hok, hle, rfl, rfl⟩
  refine CmpD.split (fun c1 => ?_) (fun c1 => ?_)
  · refine CmpD.yes (by omega) ?_
    have hil : i < z.length := by omega
    rcases hL.mem with q0 | ⟨bL, oL, cL, TL, fL, rfl, hIL, hcL⟩
    · omega
    refine CodeF.sched [[], [], [], [1, 2], [1, 2, 3], [], [5], [1, 2, 3, 4, 5, 6], [1, 2, 3, 4, 5, 6, 7], [0, 1, 2, 3, 4, 5, 6, 7, 8], [0, 1, 2, 3, 4, 5, 6, 7, 8, 9]] [0, 1, 2, 3, 4, 5, 6, 7, 8, 9, 10] (by kernel_rfl) ?_
    refine Chk.mk (by omega) ?_
    refine LoadP.imm [.int .i64 z[i]] ⟨cL, TL, fL, .imm (hle _ _ hIL), take_get hcL (ints_get (List.getElem?_eq_getElem hil)), rfl⟩ ?_
    refine Tri.free (made kk 4096 (by omega) J) ?_
    have hdr : z.drop i = z[i] :: z.drop (i + 1) := List.drop_eq_getElem_cons hil
    rw [hdr, imgsP] at hbl
    rintro v J1 _ hJ1 ⟨aD, rfl, hrD⟩
    conv => whnf
    intro bN
    refine appendD tabOk rfl rfl rfl rfl rfl rfl rfl 0 rfl hown (SrcOk.slice (n := 1) (news := imgCells [⟨z[i], aD, 4096, 4096, madeL kk 4096⟩]) tabOk rfl ((OwnC.whole (len := 1) (size := 2) rfl).slC 1 rfl) (by intro v hv; simp [imgCells] at hv; rcases hv with rfl | rfl <;> rfl)) rfl (by show (i + 1) * 32 ≤ _; omega) (by omega) ?_
    intro a2 cap2 ch2 hown2
    refine Chk.mk (by omega) ?_
    have hk2 := tdiv2_range hkk
    refine ToD.i64 (by omega) (by omega) ?_
    refine ToD.i64 (by omega) (by omega) ?_
    refine ToD.i64 (by omega) (by omega) ?_
    refine ⟨_, Drop.pick [0] _ rfl, ⟨i + 1, _, a2, cap2, ch2, gs ++ [⟨z[i], aD, 4096, 4096, madeL kk 4096⟩], by omega, ?_, by rw [imgCells_snoc]; exact hown2, ?_, ?_, ?_, Imm.le_trans hle hJ1, rfl, rfl⟩, ?_⟩
    · unfold In64; omega
    · simp [hgs]
    · rw [List.map_append, List.append_assoc]; exact hbl
    · intro g hg
      rcases List.mem_append.1 hg with hg | hg
      · exact ⟨(hok g hg).1.mono hJ1, (hok g hg).2⟩
      · simp only [List.mem_singleton] at hg
        subst hg
        exact ⟨⟨hz2 _ (List.getElem_mem hil), hrD⟩, rfl⟩
    · show ((z.length : Int) - ((i : Int) + 1)).toNat < ((z.length : Int) - (i : Int)).toNat
      omega
  · obtain rfl : i = z.length := by omega
    refine Done.mk ⟨a, cap, ch, gs, rfl, hown, by rw [← hbl, List.drop_length, imgsP, List.append_nil], hok, rfl⟩
theorem images11_fix (aL : Option Addr) (capL : Nat) (z : List Int) (hz : z.length ≤ 40) (hz2 : ∀ x ∈ z, In64 x) (k : Int) (hk : In64 k) (I : Imm) (hL : Rds I aL z.length (ints z)) :
    Tri Tryz.prog 15 #[.slice aL z.length capL, .int .i64 k] I [] fun v J _ => ∃ a cap gs, v = .slice a gs.length cap ∧ ImgsOk J a gs ∧ gs.map Img.pr = imgsP z k 0 := by
  refine Tri.fixed (images11_of aL capL z hz hz2 k hk I hL) ?_
  rintro v J S' hJ ⟨a, cap, ch, gs, rfl, hown, hgs, hok, rfl⟩
  have hl : gs.length = z.length := by have := congrArg List.length hgs; rw [List.length_map, imgsP_length] at this; exact this
  refine ⟨0, ch, rfl, fun J' hJ' hm => ⟨a, cap, gs, by rw [hl], ⟨?_, fun g hg => (hok g hg).1.mono hJ'⟩, hgs⟩⟩
  rw [hl]
  exact Rds.of_ownS hown hm
end Go.Proofs.YtegdcjnjnoeinaaGreat
namespace Go.Proofs.YtegdcjnjnoeinaaGreat
open Go.RowKit Go.Sl
set_option maxRecDepth 20000

def sE (ep : Int) : Sup := ⟨64, ep, 1, 0⟩
theorem sE_right {ep : Int} (h : 1 ≤ ep ∧ ep ≤ 8388608) : RightS (sE ep) := ⟨by show (64 : Int) ≤ 64; decide, by show (64 : Int) ≤ 512; decide, h.1, h.2, by show (1 : Int) ≤ 1; decide, by show (1 : Int) ≤ 549755813888; decide, by show (0 : Int) ≤ 0; decide, by show (0 : Int) ≤ 511; decide⟩
theorem getS_noughts : getS noughts = none := by
  cases h : getS noughts with
  | none => rfl
  | some s =>
    have h2 := (getS_some.1 h).2
    have h3 := congrArg (·.head?) h2
    simp [supL, sup44, sup40, magicL, noughts] at h3
def v0 : VSt := ⟨openJ 64 2 1 0, 2, 0, [], false⟩
def dV : DSt := dz (supL (sE 1)) (supL (sE 2)) 24
theorem mount_first : mountP (dz (supL (sE 1)) noughts 23) = (dV, 0, some v0) := by
  have h := mount_dz (a := supL (sE 1)) (b := noughts) (c := 23) (s := sE 1) (slot := 0) (by rw [get_supL (sE_right (by omega)), getS_noughts]; rfl) (sE_right (by omega)) rfl (by show (0 : Int) < 16; decide) (by show (1 : Int) < 8388608; decide) (by omega)
  rw [if_neg (by decide), if_neg (by decide)] at h
  exact h
theorem mount_again (c : Int) : mountP (dz (supL (sE 1)) (supL (sE 2)) c) = (dz (supL (sE 3)) (supL (sE 2)) (c + 1), 0, some ⟨openJ 64 3 1 0, 3, 1, [], false⟩) := by
  have h := mount_dz (a := supL (sE 1)) (b := supL (sE 2)) (c := c) (s := sE 2) (slot := 1) (by rw [get_supL (sE_right (by omega)), get_supL (sE_right (by omega))]; rfl) (sE_right (by omega)) rfl (by show (0 : Int) < 16; decide) (by show (2 : Int) < 8388608; decide) (by omega)
  rw [if_pos rfl, if_pos rfl] at h
  exact h
theorem v0_wf : v0.j.Wf := openJ_wf 64 (by omega) ⟨rfl, by omega, by omega, by omega, by omega, by omega, by rw [layL_64']; omega⟩
theorem law_fresh (I : Imm) : Tri Tryz.prog 14 #[] I [] fun r J S' => ∃ bD bV chD chV, r = .tuple #[.pointer (some ⟨bD, 0, none⟩), .pointer (some ⟨bV, 0, none⟩), .bool true] ∧ Dk J bD dV chD ∧ Vk J bV bD v0 chV ∧ S' = [chV, chD] := by
  refine Tri.drop ?_ (fun _ _ _ _ h => h)
  refine Tri.of (args := []) tabOk Tryz.func14 rfl (by kernel_rfl) (by kernel_rfl) ?_
  refine Tri.frameX (dk_New I 64 (by omega)) [] rfl rfl ?_
  rintro r J1 A' hJ1 ⟨bD, chD, rfl, hD, rfl⟩
  repeat (first | refine CmpD.yes rfl ?_)
  refine Tri.frame1 0 rfl (vk_Format hD ((DSt.of_few _).mono (by omega))) ?_
  rw [format_new]
  rintro r J2 A' hJ2 ⟨rfl, chD2, hD2, rfl⟩
  refine ⟨_, rfl, ?_⟩
  repeat (first | refine CmpD.yes rfl ?_)
  have hf : (dz (supL ⟨64, 1, 1, 0⟩) noughts 23).Few 700000 := (dz_few _ _ 23).mono (by omega)
  refine Tri.frameX (vk_Mount hD2 hf) [0] rfl rfl ?_
  rw [show mountP (dz (supL ⟨64, 1, 1, 0⟩) noughts 23) = (dV, 0, some v0) from mount_first]
  rintro r J3 A' hJ3 ⟨chD3, hD3, (⟨h, _⟩ | ⟨_, v, bV, chV, hv, rfl, hV, rfl⟩)⟩
  · exact absurd rfl h
  cases hv
  repeat (first | refine CmpD.yes rfl ?_)
  exact Done.mk ⟨_, Drop.pick [2, 1] _ rfl, bD, bV, chD3, chV, rfl, hD3, hV, rfl⟩
theorem law_has {bV bD : Nat} {v : VSt} {ch : List Blk} {I : Imm} (h : Vk I bV bD v ch) {d : DSt} {chD : List Blk} (hD : Dk I bD d chD) (hfew : ∀ g ∈ v.fresh, g.2.length ≤ 1000000) (n : Int) (aB : Option Addr) (lB capB : Nat) (b : Dat) (hB : Rds I aB lB (bts b)) :
    Tri Tryz.prog 21 #[.pointer (some ⟨bV, 0, none⟩), .int .i64 n, .slice aB lB capB] I [ch, chD] fun r J S' => r = .bool (decide ((v.read d n).2 = 0 ∧ (v.read d n).1 = b)) ∧ I = J ∧ S' = [ch, chD] := by
  refine Tri.drop ?_ (fun _ _ _ _ h => h)
  refine Tri.of (args := [.pointer (some ⟨bV, 0, none⟩), .int .i64 n, .slice aB lB capB]) tabOk Tryz.func21 rfl (by kernel_rfl) (by kernel_rfl) ?_
  refine Tri.nf (vk_Read h hD hfew n) ?_
  generalize v.read d n = rd
  obtain ⟨x, e⟩ := rd
  dsimp only
  rintro r _ A' hJ ⟨a, cap, chB, rfl, hO, rfl, rfl⟩
  skip
  refine CmpD.split (fun (c1 : e = 0) => ?_) (fun (c1 : ¬ e = 0) => ?_)
  · skip
    refine Tri.mono (same_bytes (hO.slC1 2 rfl) hB.slC) ?_
    rintro r _ _ hJ ⟨rfl, rfl, rfl⟩
    by_cases hx : x = b
    · rw [decide_eq_true hx, decide_eq_true ⟨c1, hx⟩]
      exact Done.mk ⟨_, Drop.pick [0, 1] _ rfl, rfl, rfl, rfl⟩
    · rw [decide_eq_false hx, decide_eq_false (fun h => hx h.2)]
      exact Done.mk ⟨_, Drop.pick [0, 1] _ rfl, rfl, rfl, rfl⟩
  · rw [decide_eq_false (fun h => c1 h.1)]
    skip
    exact Done.mk ⟨_, Drop.pick [0, 1] _ rfl, rfl, rfl, rfl⟩
theorem wrD_rest (f : Nat → Int) : ∀ (bs : List Dat) (i : Nat) (d : DSt), (wrD f bs i d).safe = d.safe ∧ (wrD f bs i d).count = d.count + bs.length
  | [], _, _ => by simp [wrD]
  | b :: bs, i, d => by
    obtain ⟨h1, h2⟩ := wrD_rest f bs (i + 1) (d.put (f i) b)
    rw [wrD, h1, h2]
    refine ⟨rfl, ?_⟩
    show d.count + 1 + (bs.length : Int) = d.count + ((bs.length + 1 : Nat) : Int)
    omega
theorem commit_first {d : DSt} (hc : d.Calm) (hlen : d.now.length = 64) {l : List PImg} (hR : RightP 2 1 l) (hho : HomeOk (layOf 64) l) (hl : l.length + 1 ≤ 16) :
    ∃ (j : JSt) (f : Nat → Int), v0.commit d l = (⟨j, 2, 0, l.foldl pput [], false⟩, wrD f (putP 2 1 l) 0 d, 1, 0) := by
  have h1 := hR.2.2.2.2.1
  have hs : v0.j.s = 16 := layL_64'
  obtain ⟨j', a, _⟩ := JSt.append_next (j := v0.j) (held := false) v0_wf (by show 0 ≤ _; omega) rfl (d := d) (l := l) hR (by rw [hs]; omega) hc (by rw [hs, hlen]; decide) (t := 0) (u := (l.length : Int) + 1) (h := 0) (at_ := 0) (by
    rw [hs]
    show putS 16 0 0 0 ((l.length : Int) + 1) (if false = true then (l.length : Int) + 1 else 0) = _
    unfold putS
    have hok : Ok 16 0 0 0 := by unfold Ok; omega
    rw [if_neg (by simp only [Bool.false_eq_true, if_false]; rintro (h | h | h | h | h); exact h hok; omega; omega; omega; omega), if_neg (by simp only [Bool.false_eq_true, if_false]; omega)]
    simp)
  have hbn : blocksN (l.length : Int) = (l.length : Int) + 1 := by unfold blocksN; rw [if_neg (by omega)]
  refine ⟨j', fun i => 2 + (0 + (i : Int)) % v0.j.s, ?_⟩
  unfold VSt.commit
  rw [if_neg (by show ¬ false = true; simp), if_neg (fun h => h hho), if_neg (fun h => h hR)]
  have hft : v0.fits (l.length : Int) = true := by
    unfold VSt.fits
    rw [hbn]
    exact decide_eq_true ⟨by omega, by show (l.length : Int) + 1 ≤ layL ((64 : Nat) : Int); rw [layL_64']; omega⟩
  rw [if_neg (by rw [hft]; simp), hbn, if_neg (by rw [hs]; show ¬ (16 : Int) - 0 - 0 < _; omega)]
  unfold VSt.app
  rw [a]
  dsimp only
  rw [if_neg (by simp)]
  rfl
set_option maxHeartbeats 4000000 in
theorem awake11 (I : Imm) (S : St) : Tri Tryz.prog 22 #[] I S fun v _ _ => v = .bool true := by
  refine Tri.free (Q := fun v _ _ => v = .bool true) ?_ (fun v J _ _ h => h)
  refine Tri.of (args := []) tabOk Tryz.func22 rfl (by kernel_rfl) (by kernel_rfl) ?_
  refine Tri.frameX (law_fresh I) [] rfl rfl ?_
  rintro r J1 A' hJ1 ⟨bD, bV, chD, chV, rfl, hD, hV, rfl⟩
  skip
  refine Tri.frame1 0 rfl (vk_Next hV) ?_
  rintro r _ A' hJ ⟨rfl, rfl, rfl⟩
  refine ⟨_, rfl, ?_⟩
  repeat (first | refine CmpD.yes rfl ?_)
  refine Tri.frame1 0 rfl (vk_Synced hV) ?_
  rintro r _ A' hJ ⟨rfl, rfl, rfl⟩
  refine ⟨_, rfl, ?_⟩
  repeat (first | refine CmpD.yes rfl ?_)
  conv => whnf
  intro bR
  refine Tri.fix 2 rfl fun I2 hI2 hRm => ?_
  have hz : Rds I2 (some ⟨bR, 0, none⟩) 2 (ints (rowL 2)) := ⟨rfl, .inr ⟨bR, 0, _, _, _, rfl, hRm _ (List.mem_singleton.2 rfl), rfl⟩⟩
  refine Tri.free (images11_fix (some ⟨bR, 0, none⟩) 2 (rowL 2) (by decide) (rowL_in 2 (by omega)) 5 (by unfold In64; omega) I2 hz) ?_
  rintro r J3 _ hJ3 ⟨aI, capI, gs, rfl, hI, hgs⟩
  have hgl : gs.length = 2 := by have := congrArg List.length hgs; rwa [List.length_map, imgsP_length, rowL_length] at this
  have hle3 := Imm.le_trans hI2 hJ3
  have hR := right_row (e := 2) (s := 1) (by omega) (by omega) 2 (by omega) 5
  have hho : HomeOk (layOf 64) (imgsP (rowL 2) 5 0) := by
    intro g hg
    have : g.1 ∈ rowL 2 := by rw [← imgsP_fst (rowL 2) 5 0]; exact List.mem_map_of_mem hg
    simp [rowL] at this
    obtain ⟨i, hi, hgi⟩ := this
    show (18 : Int) ≤ g.1 ∧ g.1 < 64
    omega
  obtain ⟨j1, f, hcm⟩ := commit_first (d := dV) (dz_calm _ _ _) (zL_length _ _) hR hho (by rw [imgsP_length, rowL_length]; decide)
  refine Tri.frame (vk_Commit (hV.mono hle3) v0_wf rfl (by show (0 : Int) ≤ 0 ∧ (0 : Int) ≤ 1; omega) (by show 0 ≤ 1000; omega) (by show 0 ≤ _; omega) (hD.mono hle3) ((dz_few _ _ 24).mono (by omega)) aI capI gs hI (by omega)) [0, 1] rfl rfl ?_
  rw [hgs, hcm]
  dsimp only
  rintro r J4 A' hJ4 ⟨rfl, chV4, chD4, hV4, hD4, rfl⟩
  refine ⟨Nat.le_refl _, ?_⟩
  repeat (first | refine CmpD.yes rfl ?_)
  refine Tri.free (made 5 4096 (by omega) J4) ?_
  rintro r J5 _ hJ5 ⟨aM, rfl, hM⟩
  skip
  have hrow : imgsP (rowL 2) 5 0 = [(30, madeL 5 4096), (31, madeL ((5 : Int).tdiv 2 + (0 : Nat)) 4096)] := rfl
  have hfr : (imgsP (rowL 2) 5 0).foldl pput [] = imgsP (rowL 2) 5 0 := by rw [hrow]; simp [pput]
  have hfew : ∀ g ∈ (imgsP (rowL 2) 5 0).foldl pput [], g.2.length ≤ 1000000 := by rw [hfr]; intro g hg; have := imgsP_snd _ _ _ g hg; omega
  refine Tri.frame (law_has (hV4.mono hJ5) (hD4.mono hJ5) hfew 30 aM 4096 4096 (madeL 5 4096) hM) [0, 1] rfl rfl ?_
  have hrd : VSt.read ⟨j1, 2, 0, (imgsP (rowL 2) 5 0).foldl pput [], false⟩ (wrD f (putP 2 1 (imgsP (rowL 2) 5 0)) 0 dV) 30 = (madeL 5 4096, 0) := by
    unfold VSt.read
    rw [if_neg (by simp), hfr, hrow]
    rfl
  rw [hrd, decide_eq_true ⟨rfl, rfl⟩]
  rintro r _ A' hJ6 ⟨rfl, rfl, rfl⟩
  refine ⟨Nat.le_refl _, ?_⟩
  skip
  obtain ⟨hsafe, hcount⟩ := wrD_rest f (putP 2 1 (imgsP (rowL 2) 5 0)) 0 dV
  have hfew4 : (wrD f (putP 2 1 (imgsP (rowL 2) 5 0)) 0 dV).Few 1000000 := (wrD_few f _ 0 dV 24 (dz_few _ _ 24)).mono (by rw [putP_length, imgsP_length, rowL_length]; omega)
  refine Tri.frame1 1 rfl (dk_Crash (hD4.mono hJ5) hfew4 none 0 0 [] ⟨rfl, .inl rfl⟩ (-1) 0 (by omega)) ?_
  have hcr : (wrD f (putP 2 1 (imgsP (rowL 2) 5 0)) 0 dV).crash [] (-1) 0 = dz (supL (sE 1)) (supL (sE 2)) 27 := by
    unfold DSt.crash
    rw [crash_none, hsafe, hcount, putP_length, imgsP_length, rowL_length]
    rfl
  rw [hcr]
  rintro r J7 A' hJ7 ⟨rfl, chD7, hD7, rfl⟩
  refine ⟨_, rfl, ?_⟩
  repeat (first | refine CmpD.yes rfl ?_)
  refine Tri.frameX (vk_Mount hD7 ((dz_few _ _ 27).mono (by omega))) [1] rfl rfl ?_
  rw [mount_again]
  rintro r J8 A' hJ8 ⟨chD8, hD8, (⟨h, _⟩ | ⟨_, v, bV8, chV8, hv, rfl, hV8, rfl⟩)⟩
  · exact absurd rfl h
  cases hv
  repeat (first | refine CmpD.yes rfl ?_)
  refine makeH tabOk rfl rfl rfl 4096 4096 rfl rfl (Nat.le_refl _) (by show 1 * 4096 ≤ _; decide) (by decide) (by show 4096 * 1 ≤ _; decide) rfl (by decide) ?_
  intro bN NB hNB
  skip
  refine Tri.fix 5 rfl fun I9 hI9 hNm => ?_
  have hN : Rds I9 (some ⟨bN, 0, none⟩) 4096 (bts noughts) := by
    rw [noughts_bts]
    exact Rds.of_own (cap := 4096) (by rw [hNB]; show OwnC [(bN, row (rows 4096 [Value.int .u8 0]) _)] 1 _ _ _ _; exact OwnC.whole (by rw [rows_length]; rfl)) hNm
  refine Tri.frame (law_has (hV8.mono hI9) (hD8.mono hI9) (by intro g hg; simp at hg) 30 (some ⟨bN, 0, none⟩) 4096 4096 noughts hN) [4, 3] rfl rfl ?_
  have hrd2 : VSt.read ⟨openJ 64 3 1 0, 3, 1, [], false⟩ (dz (supL (sE 3)) (supL (sE 2)) (27 + 1)) 30 = (noughts, 0) := by
    unfold VSt.read
    rw [if_neg (by simp)]
    show (dz (supL (sE 3)) (supL (sE 2)) (27 + 1)).read ((30 : Nat) : Int) = _
    rw [read_up (dz_wf (supL_length _) (supL_length _) _) rfl (by show 30 < (zL _ _).length; rw [zL_length]; omega)]
    show ((zL _ _).getD 30 [], (0 : Int)) = _
    rw [List.getD_eq_getElem?_getD, zL_get _ _ 30 (by omega) (by omega)]; rfl
  rw [hrd2, decide_eq_true ⟨rfl, rfl⟩]
  rintro r _ A' hJ10 ⟨rfl, rfl, rfl⟩
  refine ⟨Nat.le_refl _, ?_⟩
  skip
  refine Tri.frame1 4 rfl (vk_Next (hV8.mono hI9)) ?_
  rintro r _ A' hJ11 ⟨rfl, rfl, rfl⟩
  refine ⟨_, rfl, ?_⟩
  repeat (first | refine CmpD.yes rfl ?_)
  exact Done.mk rfl
end Go.Proofs.YtegdcjnjnoeinaaGreat

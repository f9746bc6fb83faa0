/- Texts of this claim laid together: JNum, JournalNumbers, ReplayNumbers, ReplayTells, Open. -/
import Derived.Test.YtbpdbgcndfcilaaBReplayTells5
import Derived.Test.YtbpdbgcndfcilaaBReplayTells2
import Derived.Test.YtbpdbgcndfcilaaRows
import Derived.Test.YtbpdbgcndfcilaaBReplayTells4
import Derived.Test.YtbpdbgcndfcilaaBReplayTells1
import Derived.Test.YtbpdbgcndfcilaaBReplayTells3
namespace Go.Proofs.Ytbpdbgcndfcilaa
open Go.RowKit Go.Sl
set_option maxRecDepth 20000

theorem JSt.Wf.turn {j : JSt} (hj : j.Wf) {r : R5} (hr : r.2.2.2.2 = 0 → Ok r.1 r.2.1 r.2.2.1 r.2.2.2.1) : (j.turn r).1.Wf := by
  obtain ⟨s, t, u, h, e⟩ := r
  unfold JSt.turn
  dsimp only at hr ⊢
  split
  · rename_i h0; exact ⟨hj.log, hr h0, hj.epoch, hj.next, hj.synced, hj.few, hj.groups⟩
  · exact hj
theorem blocksN_range (n : Int) : 0 ≤ blocksN n ∧ blocksN n ≤ 33 := by unfold blocksN; split <;> omega
theorem reserveS_ok {s t u h n : Int} (hr : Ok s t u h) (h0 : (reserveS s t u h n).2.2.2.2 = 0) : Ok (reserveS s t u h n).1 (reserveS s t u h n).2.1 (reserveS s t u h n).2.2.1 (reserveS s t u h n).2.2.2.1 := by
  unfold reserveS at *
  split at h0
  · simp at h0
  split at h0
  · simp at h0
  rename_i h1 h2
  rw [if_neg h1, if_neg h2]
  unfold Ok at *
  dsimp only
  omega
theorem releaseS_ok {s t u h n : Int} (hr : Ok s t u h) (h0 : (releaseS s t u h n).2.2.2.2 = 0) : Ok (releaseS s t u h n).1 (releaseS s t u h n).2.1 (releaseS s t u h n).2.2.1 (releaseS s t u h n).2.2.2.1 := by
  unfold releaseS at *
  split at h0
  · simp at h0
  rename_i h1
  rw [if_neg h1]
  unfold Ok at *
  dsimp only
  omega
theorem JSt.Wf.reserve {j : JSt} (hj : j.Wf) (n : Int) : (j.reserve n).1.Wf := by
  unfold JSt.reserve
  split; · exact hj
  split; · exact hj
  split; · exact hj
  exact hj.turn (reserveS_ok hj.ring)
theorem JSt.Wf.cancel {j : JSt} (hj : j.Wf) (n : Int) : (j.cancel n).1.Wf := by
  unfold JSt.cancel
  split; · exact hj
  split; · exact hj
  exact hj.turn (releaseS_ok hj.ring)
/-- a journal of the examples -/
structure JB (j : JSt) (t u h next synced : Int) (gs : List (Int × Int)) : Prop where
  s : j.s = 16
  t : j.t = t
  u : j.u = u
  h : j.h = h
  epoch : j.epoch = 1
  next : j.next = next
  synced : j.synced = synced
  groups : j.groups = gs
  broken : j.broken = false
  wf : j.Wf
theorem jb_open (tail : Int) (ht : 0 ≤ tail ∧ tail < 16) : JB (openJ 64 1 1 tail) tail 0 0 1 0 [] := ⟨layL_64', rfl, rfl, rfl, rfl, rfl, rfl, rfl, rfl, openJ_wf64 tail ht⟩
/-- a disk of the examples -/
structure DB (d : DSt) (k : Nat) : Prop where
  calm : d.Calm
  len : d.now.length = 64
  few : d.Few k
theorem db_new : DB (DSt.of (List.replicate 64 noughts)) 0 := ⟨fresh_calm _, List.length_replicate .., DSt.of_few _⟩
theorem jb_append {j : JSt} {t u h next synced : Int} {gs : List (Int × Int)} (hj : JB j t u h next synced gs) (h8 : gs.length ≤ 999999) {d : DSt} {k : Nat} (hd : DB d k) (n : Nat) (hn : 1 ≤ n ∧ n ≤ 15) (hx : next ≤ 549755813888) (m : Int) (held : Bool)
    {t' u' h' at_ : Int} (hp : putS 16 t u h (n + 1) (if held then n + 1 else 0) = ((16, t', u', h', 0), at_)) :
    ∃ j' d', j.appendB d (imgsP (rowL n) m 0) held = (j', d', next, 0) ∧ JB j' t' u' h' (next + 1) synced (gs ++ [(next, (n + 1 : Int))]) ∧ DB d' (k + (n + 1)) := by
  obtain ⟨e1, e2, e3, e4, e5, e6, e7, e8, e9, w⟩ := hj
  have hn1 := w.next
  have hl : ((imgsP (rowL n) m 0).length : Int) + 1 = n + 1 := by rw [imgsP_length, rowL_length]
  obtain ⟨j', a, f1, f2, f3, f4, f5, f6, f7, f8, f9, f10, w'⟩ := JSt.append_next w (d := d) (l := imgsP (rowL n) m 0) (held := held) (t := t') (u := u') (h := h') (at_ := at_) (by rw [e8]; exact h8) e9 (by rw [e5, e6]; exact right_row ⟨by decide, by decide⟩ ⟨by omega, hx⟩ n ⟨hn.1, by omega⟩ m) (by rw [hl, e1]; omega) hd.calm (by rw [hd.len, e1]; decide) (by rw [e1, e2, e3, e4, hl]; exact hp)
  refine ⟨j', _, by rw [a, e6], ⟨by rw [f2, e1], f3, f4, f5, by rw [f6, e5], by rw [f7, e6], by rw [f8, e7], by rw [f9, e8, e6, hl], f10, w'⟩, ⟨wrD_calm _ _ _ _ hd.calm, by rw [wrD_len, hd.len], ?_⟩⟩
  have := wrD_few (fun i => 2 + (at_ + i) % j.s) (putP j.epoch.toNat j.next.toNat (imgsP (rowL n) m 0)) 0 d k hd.few
  rw [putP_length, imgsP_length, rowL_length, e6] at this
  exact this
theorem jb_full {j : JSt} {t u h next synced : Int} {gs : List (Int × Int)} (hj : JB j t u h next synced gs) {d : DSt} (n : Nat) (hn : 1 ≤ n ∧ n ≤ 32) (hx : next ≤ 549755813888) (m : Int) (held : Bool) (hf : 16 ≤ n) : j.appendB d (imgsP (rowL n) m 0) held = (j, d, 0, 232) := by
  obtain ⟨e1, e2, e3, e4, e5, e6, e7, e8, e9, w⟩ := hj
  have hn1 := w.next
  unfold JSt.appendB JSt.append
  rw [if_neg (by rw [e9]; simp), if_neg (by rw [e5, e6]; exact not_not_intro (right_row ⟨by decide, by decide⟩ ⟨by omega, hx⟩ n hn m)), if_pos (by rw [e1, imgsP_length, rowL_length]; omega)]
theorem jb_short {j : JSt} {t u h next synced : Int} {gs : List (Int × Int)} (hj : JB j t u h next synced gs) {d : DSt} (n : Nat) (hn : 1 ≤ n ∧ n ≤ 15) (hx : next ≤ 549755813888) (m : Int) (held : Bool)
    {r : R5} {at_ e : Int} (hp : putS 16 t u h (n + 1) (if held then n + 1 else 0) = (r, at_)) (hr : r.2.2.2.2 = e) (he : e ≠ 0) : j.appendB d (imgsP (rowL n) m 0) held = (j, d, 0, e) := by
  obtain ⟨e1, e2, e3, e4, e5, e6, e7, e8, e9, w⟩ := hj
  have hn1 := w.next
  obtain ⟨r1, r2, r3, r4, r5⟩ := r
  dsimp only at hr
  subst hr
  unfold JSt.appendB JSt.append
  rw [if_neg (by rw [e9]; simp), if_neg (by rw [e5, e6]; exact not_not_intro (right_row ⟨by decide, by decide⟩ ⟨by omega, hx⟩ n ⟨hn.1, by omega⟩ m)), if_neg (by rw [e1, imgsP_length, rowL_length]; omega)]
  rw [e1, e2, e3, e4, imgsP_length, rowL_length, hp]
  dsimp only
  rw [if_pos he]
theorem jb_nil {j : JSt} {t u h next synced : Int} {gs : List (Int × Int)} (hj : JB j t u h next synced gs) {d : DSt} (held : Bool) : j.appendB d [] held = (j, d, 0, 80) := by
  unfold JSt.appendB JSt.append
  rw [if_neg (by rw [hj.broken]; simp), if_pos (by intro h; have := h.2.2.2.2.1; simp at this)]
theorem jb_flush {j : JSt} {t u h next synced : Int} {gs : List (Int × Int)} (hj : JB j t u h next synced gs) {d : DSt} {k : Nat} (hd : DB d k) : ∃ j' d', j.flush d = (j', d', 0) ∧ JB j' t u h next (next - 1) gs ∧ DB d' k := by
  obtain ⟨e1, e2, e3, e4, e5, e6, e7, e8, e9, w⟩ := hj
  obtain ⟨j', a, f1, f2, f3, f4, f5, f6, f7, f8, f9, f10, w'⟩ := JSt.flush_next w (d := d) e9 hd.calm
  exact ⟨j', _, a, ⟨by rw [f2, e1], by rw [f3, e2], by rw [f4, e3], by rw [f5, e4], by rw [f6, e5], by rw [f7, e6], by rw [f8, e6], by rw [f9, e8], f10, w'⟩, ⟨hd.calm, hd.len, ⟨Nat.zero_le _, hd.few.2⟩⟩⟩
theorem jb_release {j : JSt} {t u h next synced : Int} {gs : List (Int × Int)} (hj : JB j t u h next synced gs) (seq : Int) (hs : ¬ synced < seq) {gs' : List (Int × Int)} {t' u' h' e : Int} (hr : relAll seq gs 16 t u h = (gs', (16, t', u', h', e))) : ∃ j', j.release seq = (j', e) ∧ JB j' t' u' h' next synced gs' := by
  obtain ⟨e1, e2, e3, e4, e5, e6, e7, e8, e9, w⟩ := hj
  obtain ⟨j', a, f1, f2, f3, f4, f5, f6, f7, f8, f9, f10, w'⟩ := JSt.release_next w (seq := seq) (gs := gs') (s := 16) (t := t') (u := u') (h := h') (e := e) e9 (by rw [e7]; exact hs) (by rw [e1, e2, e3, e4, e8]; exact hr)
  exact ⟨j', a, ⟨f2, f3, f4, f5, by rw [f6, e5], by rw [f7, e6], by rw [f8, e7], f9, f10, w'⟩⟩
theorem jb_early {j : JSt} {t u h next synced : Int} {gs : List (Int × Int)} (hj : JB j t u h next synced gs) (seq : Int) (hs : synced < seq) : j.release seq = (j, 2) := by
  unfold JSt.release
  rw [if_neg (by rw [hj.broken]; simp), if_pos (by rw [hj.synced]; exact hs)]
theorem jb_reserve {j : JSt} {t u h next synced : Int} {gs : List (Int × Int)} (hj : JB j t u h next synced gs) (n : Int) (h0 : blocksN n ≠ 0) (h1 : ¬ 16 < blocksN n) {h' : Int} (hr : reserveS 16 t u h (blocksN n) = (16, t, u, h', 0)) : ∃ j', j.reserve n = (j', 0) ∧ JB j' t u h' next synced gs := by
  have hw := hj.wf.reserve n
  obtain ⟨e1, e2, e3, e4, e5, e6, e7, e8, e9, w⟩ := hj
  have e : j.reserve n = ({ j with s := 16, t := t, u := u, h := h' }, 0) := by
    unfold JSt.reserve
    rw [if_neg (by rw [e9]; simp), if_neg h0, if_neg (by rw [e1]; exact h1), e1, e2, e3, e4, hr]
    rfl
  rw [e] at hw
  exact ⟨_, e, ⟨rfl, rfl, rfl, rfl, e5, e6, e7, e8, e9, hw⟩⟩
theorem jb_noReserve {j : JSt} {t u h next synced : Int} {gs : List (Int × Int)} (hj : JB j t u h next synced gs) (n : Int) (e : Int) (h0 : (blocksN n = 0 ∧ e = 2) ∨ (blocksN n ≠ 0 ∧ 16 < blocksN n ∧ e = 232)) : j.reserve n = (j, e) := by
  unfold JSt.reserve
  rw [if_neg (by rw [hj.broken]; simp)]
  rcases h0 with ⟨h0, rfl⟩ | ⟨h0, h1, rfl⟩
  · rw [if_pos h0]
  · rw [if_neg h0, if_pos (by rw [hj.s]; exact h1)]
theorem jb_noCancel {j : JSt} {t u h next synced : Int} {gs : List (Int × Int)} (hj : JB j t u h next synced gs) (n : Int) (h0 : blocksN n = 0 ∨ (blocksN n ≠ 0 ∧ (releaseS 16 t u h (blocksN n)) = (0, 0, 0, 0, 2))) : j.cancel n = (j, 2) := by
  unfold JSt.cancel
  rw [if_neg (by rw [hj.broken]; simp)]
  rcases h0 with h0 | ⟨h0, h1⟩
  · rw [if_pos h0]
  · rw [if_neg h0, hj.s, hj.t, hj.u, hj.h, h1]; rfl
/-- all of them -/
structure Numbers where
  jA : JSt
  jB : JSt
  jF : JSt
  jR : JSt
  jH : JSt
  jC : JSt
  jX : JSt
  dA : DSt
  dB : DSt
  dF : DSt
  dC : DSt
  dX : DSt
  dY : DSt
theorem numbers_pure : ∃ x : Numbers, (openJ 64 1 1 14).appendB (DSt.of (List.replicate 64 noughts)) (imgsP (rowL 1) 1 0) false = (x.jA, x.dA, 1, 0) ∧ x.jA.appendB x.dA (imgsP (rowL 2) 2 0) false = (x.jB, x.dB, 2, 0) ∧
    x.jB.flush x.dB = (x.jF, x.dF, 0) ∧ x.jF.release 1 = (x.jR, 0) ∧ x.jR.release 3 = (x.jR, 2) ∧ x.jR.appendB x.dF (imgsP (rowL 16) 1 0) false = (x.jR, x.dF, 0, 232) ∧ x.jR.appendB x.dF (imgsP (rowL 13) 1 0) false = (x.jR, x.dF, 0, 5) ∧
    x.jR.reserve 12 = (x.jH, 0) ∧ x.jH.reserve 16 = (x.jH, 232) ∧ x.jH.reserve 0 = (x.jH, 2) ∧ x.jH.reserve 33 = (x.jH, 2) ∧ x.jH.cancel 0 = (x.jH, 2) ∧ x.jH.cancel 13 = (x.jH, 2) ∧ x.jH.appendB x.dF (imgsP (rowL 1) 1 0) false = (x.jH, x.dF, 0, 5) ∧ x.jH.appendB x.dF [] false = (x.jH, x.dF, 0, 80) ∧
    x.jH.appendB x.dF (imgsP (rowL 12) 1 0) true = (x.jC, x.dC, 3, 0) ∧ x.dC.armed 0 = (x.dX, 0) ∧ x.jC.flush x.dX = (x.jX, x.dY, 6) ∧ x.jX.reserve 0 = (x.jX, 4) ∧ x.jX.cancel 0 = (x.jX, 4) ∧ x.jX.release 99 = (x.jX, 4) ∧ x.jX.broken = true ∧
    JB (openJ 64 1 1 14) 14 0 0 1 0 [] ∧ JB x.jA 14 2 0 2 0 [(1, 2)] ∧ JB x.jB 14 5 0 3 0 [(1, 2), (2, 3)] ∧ JB x.jF 14 5 0 3 2 [(1, 2), (2, 3)] ∧ JB x.jR 0 3 0 3 2 [(2, 3)] ∧ JB x.jH 0 3 13 3 2 [(2, 3)] ∧ JB x.jC 0 16 0 4 2 [(2, 3), (3, 13)] ∧ x.jX.Wf ∧
    DB (DSt.of (List.replicate 64 noughts)) 0 ∧ DB x.dA 2 ∧ DB x.dB 5 ∧ DB x.dF 5 ∧ DB x.dC 18 := by
  have h0 := jb_open 14 (by omega)
  have d0 := db_new
  obtain ⟨jA, dA, a1, hA, dA'⟩ := jb_append h0 (by decide) d0 1 (by omega) (by decide) 1 false (t' := 14) (u' := 2) (h' := 0) (at_ := 14) (by decide)
  obtain ⟨jB, dB, a2, hB, dB'⟩ := jb_append hA (by decide) dA' 2 (by omega) (by decide) 2 false (t' := 14) (u' := 5) (h' := 0) (at_ := 0) (by decide)
  obtain ⟨jF, dF, a3, hF, dF'⟩ := jb_flush hB dB'
  obtain ⟨jR, a4, hR⟩ := jb_release hF 1 (by decide) (gs' := [(2, 3)]) (t' := 0) (u' := 3) (h' := 0) (e := 0) (by decide)
  obtain ⟨jH, a5, hH⟩ := jb_reserve hR 12 (by decide) (by decide) (h' := 13) (by decide)
  obtain ⟨jC, dC, a6, hC, dC'⟩ := jb_append hH (by decide) dF' 12 (by omega) (by decide) 1 true (t' := 0) (u' := 16) (h' := 0) (at_ := 3) (by decide)
  have hfl : ∃ jX dY, jC.flush ({ dC with arm := ⟨true, 0⟩ }) = (jX, dY, 6) ∧ jX.broken = true := by
    obtain ⟨safe, now, ws, c, dn, ⟨b1, b2⟩, ⟨f1, f2⟩⟩ := dC
    obtain ⟨⟨c1, c2, c3⟩, _, _⟩ := dC'
    simp only at c1 c2 c3
    subst c1 c2 c3
    unfold JSt.flush
    rw [if_neg (by rw [hC.broken]; simp)]
    exact ⟨_, _, rfl, rfl⟩
  obtain ⟨jX, dY, a7, hX⟩ := hfl
  have wX : jX.Wf := by have := hC.wf.flush { dC with arm := ⟨true, 0⟩ }; rwa [a7] at this
  refine ⟨⟨jA, jB, jF, jR, jH, jC, jX, dA, dB, dF, dC, { dC with arm := ⟨true, 0⟩ }, dY⟩, a1, a2, a3, a4, jb_early hR 3 (by decide), jb_full hR 16 (by omega) (by decide) 1 false (by omega), ?_, a5, jb_noReserve hH 16 232 (.inr (by decide)), jb_noReserve hH 0 2 (.inl (by decide)), jb_noReserve hH 33 2 (.inl (by decide)), jb_noCancel hH 0 (.inl (by decide)), jb_noCancel hH 13 (.inr (by decide)), ?_, jb_nil hH false, a6, rfl, a7, ?_, ?_, ?_, hX, h0, hA, hB, hF, hR, hH, hC, wX, d0, dA', dB', dF', dC'⟩
  · exact jb_short hR 13 (by omega) (by decide) 1 false (r := (0, 0, 0, 0, 5)) (at_ := 0) (by decide) rfl (by decide)
  · exact jb_short hH 1 (by omega) (by decide) 1 false (r := (0, 0, 0, 0, 5)) (at_ := 0) (by decide) rfl (by decide)
  · unfold JSt.reserve; rw [if_pos hX]
  · unfold JSt.cancel; rw [if_pos hX]
  · unfold JSt.release; rw [if_pos hX]
end Go.Proofs.Ytbpdbgcndfcilaa
namespace Go.Proofs.Ytbpdbgcndfcilaa
open Go.RowKit Go.Sl
set_option maxRecDepth 20000

theorem disk_none0 (I : Imm) (S : St) : Tri Try.prog 90 #[.pointer none] I S fun v J S' => v = .bool true ∧ I = J ∧ S' = S := by
  refine Tri.of (args := [.pointer none]) tabOk Try.func90 rfl (by kernel_rfl) (by kernel_rfl) ?_
  exact Done.mk ⟨rfl, rfl, rfl⟩
theorem disk_Size0 (I : Imm) (S : St) : Tri Try.prog 88 #[.pointer none] I S fun v J S' => v = .int .i64 0 ∧ I = J ∧ S' = S := by
  refine Tri.of (args := [.pointer none]) tabOk Try.func88 rfl (by kernel_rfl) (by kernel_rfl) ?_
  refine Tri.mono (disk_none0 I S) ?_
  rintro v J S' hJ ⟨rfl, rfl, rfl⟩
  exact Done.mk ⟨rfl, rfl, rfl⟩
theorem journal_Open0 (x : Lay) (epoch seq tail : Int) (I : Imm) : Tri Try.prog 30 #[.pointer none, x.v, .int .i64 epoch, .int .i64 seq, .int .i64 tail] I [] fun v J _ => v = .tuple #[.pointer none, .int .i64 1] ∧ I = J := by
  obtain ⟨x1, x2, x3, x4, x5, x6, x7⟩ := x
  refine Tri.of (args := [.pointer none, layV x1 x2 x3 x4 x5 x6 x7, .int .i64 epoch, .int .i64 seq, .int .i64 tail]) tabOk Try.func30 rfl (by kernel_rfl) (by kernel_rfl) ?_
  conv => whnf
  intro b6
  refine Tri.nf (disk_Size0 I _) ?_
  rintro v J S' hJ ⟨rfl, rfl, rfl⟩
  repeat (first
    | refine LoadD.own 0 rfl _ rfl rfl ?_
    | refine LoadP.at 0 rfl _ rfl rfl ?_
    | refine StoreD.st 0 rfl rfl rfl ?_
    | refine CmpD.yes rfl ?_
    | refine CmpD.yes (by decide) ?_
    | refine CmpD.no (by decide) ?_
    | refine Chk.mk ⟨rfl, trivial⟩ ?_
    | refine Chk.mk ⟨rfl, rfl, trivial⟩ ?_
    | refine Chk.mk ⟨rfl, rfl, rfl, trivial⟩ ?_
    | refine Chk.mk ⟨rfl, rfl, rfl, rfl, trivial⟩ ?_
    | refine Chk.mk ⟨rfl, rfl, rfl, rfl, rfl, trivial⟩ ?_
    | refine Chk.mk ⟨rfl, rfl, rfl, rfl, rfl, rfl, trivial⟩ ?_)
  exact Done.mk ⟨rfl, rfl⟩
theorem ring_cmp {o : Oper} {ρ : Env} {yt : TypeId} {x y : Operand} {K : Value → Prop} {op : BinOp} (p q : List Int) (ho : o.op = .binOp op 27 x y yt) (hop : op = .eql ∨ op = .neq)
    (hx : ρ.ev x = .agg (p.map (Value.int .i64)).toArray) (hy : ρ.ev y = .agg (q.map (Value.int .i64)).toArray) (hp : p.length = 4) (hq : q.length = 4) (h : CmpD (p = q) fun t => boolF (xor (op == .neq) t) fun t => K (.bool t)) : PureD Try.prog o ρ K :=
  eq_ints (k := .i64) tabOk p q ho hop rfl hx hy (by kernel_rfl) (by kernel_rfl) (by kernel_rfl) hp hq h
set_option maxHeartbeats 4000000 in
theorem journalNumbers_walk (I : Imm) : Tri Try.prog 4 #[] I [] fun v _ _ => v = .bool true := by
  obtain ⟨⟨jA, jB, jF, jR, jH, jC, jX, dA, dB, dF, dC, dX, dY⟩, a1, a2, a3, a4, a5, a6, a7, a8, a9, a10, a11, a12, a13, a14, a15, a16, a17, a18, a19, a20, a21, a22, h0, hA, hB, hF, hR, hH, hC, wX, d0, dA', dB', dF', dC'⟩ := numbers_pure
  dsimp only at a1 a2 a3 a4 a5 a6 a7 a8 a9 a10 a11 a12 a13 a14 a15 a16 a17 a18 a19 a20 a21 a22 hA hB hF hR hH hC wX dA' dB' dF' dC'
  refine Tri.of (args := []) tabOk Try.func4 rfl (by kernel_rfl) (by kernel_rfl) ?_
  refine Tri.frameX (law_open 14 (by omega) I) [] rfl rfl ?_
  rintro v J A' hJ ⟨bD, bJ, chD, chJ, rfl, hD, hj, rfl⟩
  repeat (first
    | refine LoadD.own 0 rfl _ rfl rfl ?_
    | refine LoadD.own 1 rfl _ rfl rfl ?_
    | refine LoadP.at 0 rfl _ rfl rfl ?_
    | refine LoadP.at 1 rfl _ rfl rfl ?_
    | refine StoreD.st 0 rfl rfl rfl ?_
    | refine StoreD.st 1 rfl rfl rfl ?_
    | refine CmpD.yes rfl ?_
    | refine CmpD.yes (by decide) ?_
    | refine CmpD.no (by decide) ?_
    | refine Chk.mk ⟨rfl, trivial⟩ ?_
    | refine Chk.mk ⟨rfl, rfl, trivial⟩ ?_
    | refine Chk.mk ⟨rfl, rfl, rfl, trivial⟩ ?_
    | refine Chk.mk ⟨rfl, rfl, rfl, rfl, trivial⟩ ?_
    | refine Chk.mk ⟨rfl, rfl, rfl, rfl, rfl, trivial⟩ ?_
    | refine Chk.mk ⟨rfl, rfl, rfl, rfl, rfl, rfl, trivial⟩ ?_)
  refine Tri.free (row_of 1 (by omega) _) ?_
  rintro v Jr1 _ hJr1 ⟨aR1, capR1, rfl, hR1⟩
  refine Tri.free (images_fix aR1 capR1 (rowL 1) (by rw [rowL_length]; omega) (rowL_in 1 (by omega)) 1 (by unfold In64; omega) Jr1 (by rw [rowL_length]; exact hR1)) ?_
  rintro v Ji1 _ hJi1 ⟨aI1, capI1, gs1, rfl, hI1, hgs1⟩
  have hgl1 : gs1.length = 1 := by have := congrArg List.length hgs1; rwa [List.length_map, imgsP_length, rowL_length] at this
  refine Tri.frame (jk_Append hj h0.wf (hD.mono (Imm.le_trans hJr1 hJi1)) (d0.few.mono (by omega)) (by rw [h0.groups]; decide) aI1 capI1 gs1 hI1 (by omega) false) [1, 0] rfl rfl ?_
  rw [hgs1, a1]
  rintro v J1 A' hJ1 ⟨rfl, chJ1, chD1, hj1, hD1, rfl⟩
  refine ⟨Nat.le_refl _, ?_⟩
  dsimp only at hj1 hD1
  refine Tri.free (row_of 2 (by omega) _) ?_
  rintro v Jr2 _ hJr2 ⟨aR2, capR2, rfl, hR2⟩
  refine Tri.free (images_fix aR2 capR2 (rowL 2) (by rw [rowL_length]; omega) (rowL_in 2 (by omega)) 2 (by unfold In64; omega) Jr2 (by rw [rowL_length]; exact hR2)) ?_
  rintro v Ji2 _ hJi2 ⟨aI2, capI2, gs2, rfl, hI2, hgs2⟩
  have hgl2 : gs2.length = 2 := by have := congrArg List.length hgs2; rwa [List.length_map, imgsP_length, rowL_length] at this
  refine Tri.frame (jk_Append hj1 hA.wf (hD1.mono (Imm.le_trans hJr2 hJi2)) (dA'.few.mono (by omega)) (by rw [hA.groups]; decide) aI2 capI2 gs2 hI2 (by omega) false) [1, 0] rfl rfl ?_
  rw [hgs2, a2]
  rintro v J2 A' hJ2 ⟨rfl, chJ2, chD2, hj2, hD2, rfl⟩
  refine ⟨Nat.le_refl _, ?_⟩
  dsimp only at hj2 hD2
  refine Tri.frame (jk_Flush hj2 hB.wf hD2) [1, 0] rfl rfl ?_
  rw [a3]
  rintro v Jf A' hJf ⟨rfl, chJf, chDf, hjf, hDf, rfl⟩
  refine ⟨Nat.le_refl _, ?_⟩
  dsimp only at hjf hDf
  refine Tri.frame1 1 rfl (jk_Release hjf hF.wf 1 _) ?_
  rw [a4]
  rintro v _ A' _ ⟨rfl, rfl, chR1, hR1, rfl⟩
  refine ⟨_, rfl, ?_⟩
  dsimp only at hR1
  repeat (first
    | refine LoadD.own 0 rfl _ rfl rfl ?_
    | refine LoadD.own 1 rfl _ rfl rfl ?_
    | refine LoadP.at 0 rfl _ rfl rfl ?_
    | refine LoadP.at 1 rfl _ rfl rfl ?_
    | refine StoreD.st 0 rfl rfl rfl ?_
    | refine StoreD.st 1 rfl rfl rfl ?_
    | refine CmpD.yes rfl ?_
    | refine CmpD.yes (by decide) ?_
    | refine CmpD.no (by decide) ?_
    | refine Chk.mk ⟨rfl, trivial⟩ ?_
    | refine Chk.mk ⟨rfl, rfl, trivial⟩ ?_
    | refine Chk.mk ⟨rfl, rfl, rfl, trivial⟩ ?_
    | refine Chk.mk ⟨rfl, rfl, rfl, rfl, trivial⟩ ?_
    | refine Chk.mk ⟨rfl, rfl, rfl, rfl, rfl, trivial⟩ ?_
    | refine Chk.mk ⟨rfl, rfl, rfl, rfl, rfl, rfl, trivial⟩ ?_)
  refine Tri.frame1 1 rfl (jk_Release hR1 hR.wf 3 _) ?_
  rw [a5]
  rintro v _ A' _ ⟨rfl, rfl, chR2, hR2, rfl⟩
  refine ⟨_, rfl, ?_⟩
  dsimp only at hR2
  repeat (first
    | refine LoadD.own 0 rfl _ rfl rfl ?_
    | refine LoadD.own 1 rfl _ rfl rfl ?_
    | refine LoadP.at 0 rfl _ rfl rfl ?_
    | refine LoadP.at 1 rfl _ rfl rfl ?_
    | refine StoreD.st 0 rfl rfl rfl ?_
    | refine StoreD.st 1 rfl rfl rfl ?_
    | refine CmpD.yes rfl ?_
    | refine CmpD.yes (by decide) ?_
    | refine CmpD.no (by decide) ?_
    | refine Chk.mk ⟨rfl, trivial⟩ ?_
    | refine Chk.mk ⟨rfl, rfl, trivial⟩ ?_
    | refine Chk.mk ⟨rfl, rfl, rfl, trivial⟩ ?_
    | refine Chk.mk ⟨rfl, rfl, rfl, rfl, trivial⟩ ?_
    | refine Chk.mk ⟨rfl, rfl, rfl, rfl, rfl, trivial⟩ ?_
    | refine Chk.mk ⟨rfl, rfl, rfl, rfl, rfl, rfl, trivial⟩ ?_)
  refine Tri.frame1 1 rfl (jk_Next hR2 _) ?_
  rintro v _ A' _ ⟨rfl, rfl, rfl⟩
  refine ⟨_, rfl, ?_⟩
  rw [hR.next]
  repeat (first
    | refine LoadD.own 0 rfl _ rfl rfl ?_
    | refine LoadD.own 1 rfl _ rfl rfl ?_
    | refine LoadP.at 0 rfl _ rfl rfl ?_
    | refine LoadP.at 1 rfl _ rfl rfl ?_
    | refine StoreD.st 0 rfl rfl rfl ?_
    | refine StoreD.st 1 rfl rfl rfl ?_
    | refine CmpD.yes rfl ?_
    | refine CmpD.yes (by decide) ?_
    | refine CmpD.no (by decide) ?_
    | refine Chk.mk ⟨rfl, trivial⟩ ?_
    | refine Chk.mk ⟨rfl, rfl, trivial⟩ ?_
    | refine Chk.mk ⟨rfl, rfl, rfl, trivial⟩ ?_
    | refine Chk.mk ⟨rfl, rfl, rfl, rfl, trivial⟩ ?_
    | refine Chk.mk ⟨rfl, rfl, rfl, rfl, rfl, trivial⟩ ?_
    | refine Chk.mk ⟨rfl, rfl, rfl, rfl, rfl, rfl, trivial⟩ ?_)
  refine Tri.frame1 1 rfl (jk_Synced hR2 _) ?_
  rintro v _ A' _ ⟨rfl, rfl, rfl⟩
  refine ⟨_, rfl, ?_⟩
  rw [hR.synced]
  repeat (first
    | refine LoadD.own 0 rfl _ rfl rfl ?_
    | refine LoadD.own 1 rfl _ rfl rfl ?_
    | refine LoadP.at 0 rfl _ rfl rfl ?_
    | refine LoadP.at 1 rfl _ rfl rfl ?_
    | refine StoreD.st 0 rfl rfl rfl ?_
    | refine StoreD.st 1 rfl rfl rfl ?_
    | refine CmpD.yes rfl ?_
    | refine CmpD.yes (by decide) ?_
    | refine CmpD.no (by decide) ?_
    | refine Chk.mk ⟨rfl, trivial⟩ ?_
    | refine Chk.mk ⟨rfl, rfl, trivial⟩ ?_
    | refine Chk.mk ⟨rfl, rfl, rfl, trivial⟩ ?_
    | refine Chk.mk ⟨rfl, rfl, rfl, rfl, trivial⟩ ?_
    | refine Chk.mk ⟨rfl, rfl, rfl, rfl, rfl, trivial⟩ ?_
    | refine Chk.mk ⟨rfl, rfl, rfl, rfl, rfl, rfl, trivial⟩ ?_)
  refine Tri.free (row_of 16 (by omega) _) ?_
  rintro v Jr3 _ hJr3 ⟨aR3, capR3, rfl, hR3⟩
  refine Tri.free (images_fix aR3 capR3 (rowL 16) (by rw [rowL_length]; omega) (rowL_in 16 (by omega)) 1 (by unfold In64; omega) Jr3 (by rw [rowL_length]; exact hR3)) ?_
  rintro v Ji3 _ hJi3 ⟨aI3, capI3, gs3, rfl, hI3, hgs3⟩
  have hgl3 : gs3.length = 16 := by have := congrArg List.length hgs3; rwa [List.length_map, imgsP_length, rowL_length] at this
  refine Tri.frame (jk_Append hR2 hR.wf (hDf.mono (Imm.le_trans hJr3 hJi3)) (dF'.few.mono (by omega)) (by rw [hR.groups]; decide) aI3 capI3 gs3 hI3 (by omega) false) [1, 0] rfl rfl ?_
  rw [hgs3, a6]
  rintro v J3 A' hJ3 ⟨rfl, chJ3, chD3, hj3, hD3, rfl⟩
  refine ⟨Nat.le_refl _, ?_⟩
  dsimp only at hj3 hD3
  refine Tri.free (row_of 13 (by omega) _) ?_
  rintro v Jr4 _ hJr4 ⟨aR4, capR4, rfl, hR4⟩
  refine Tri.free (images_fix aR4 capR4 (rowL 13) (by rw [rowL_length]; omega) (rowL_in 13 (by omega)) 1 (by unfold In64; omega) Jr4 (by rw [rowL_length]; exact hR4)) ?_
  rintro v Ji4 _ hJi4 ⟨aI4, capI4, gs4, rfl, hI4, hgs4⟩
  have hgl4 : gs4.length = 13 := by have := congrArg List.length hgs4; rwa [List.length_map, imgsP_length, rowL_length] at this
  refine Tri.frame (jk_Append hj3 hR.wf (hD3.mono (Imm.le_trans hJr4 hJi4)) (dF'.few.mono (by omega)) (by rw [hR.groups]; decide) aI4 capI4 gs4 hI4 (by omega) false) [1, 0] rfl rfl ?_
  rw [hgs4, a7]
  rintro v J4 A' hJ4 ⟨rfl, chJ4, chD4, hj4, hD4, rfl⟩
  refine ⟨Nat.le_refl _, ?_⟩
  dsimp only at hj4 hD4
  repeat (first
    | refine LoadD.own 0 rfl _ rfl rfl ?_
    | refine LoadD.own 1 rfl _ rfl rfl ?_
    | refine LoadP.at 0 rfl _ rfl rfl ?_
    | refine LoadP.at 1 rfl _ rfl rfl ?_
    | refine StoreD.st 0 rfl rfl rfl ?_
    | refine StoreD.st 1 rfl rfl rfl ?_
    | refine CmpD.yes rfl ?_
    | refine CmpD.yes (by decide) ?_
    | refine CmpD.no (by decide) ?_
    | refine Chk.mk ⟨rfl, trivial⟩ ?_
    | refine Chk.mk ⟨rfl, rfl, trivial⟩ ?_
    | refine Chk.mk ⟨rfl, rfl, rfl, trivial⟩ ?_
    | refine Chk.mk ⟨rfl, rfl, rfl, rfl, trivial⟩ ?_
    | refine Chk.mk ⟨rfl, rfl, rfl, rfl, rfl, trivial⟩ ?_
    | refine Chk.mk ⟨rfl, rfl, rfl, rfl, rfl, rfl, trivial⟩ ?_)
  refine Tri.frame1 1 rfl (jk_Reserve hj4 hR.wf 12 _) ?_
  rw [a8]
  rintro v _ A' _ ⟨rfl, rfl, chH1, hH1, rfl⟩
  refine ⟨_, rfl, ?_⟩
  dsimp only at hH1
  repeat (first
    | refine LoadD.own 0 rfl _ rfl rfl ?_
    | refine LoadD.own 1 rfl _ rfl rfl ?_
    | refine LoadP.at 0 rfl _ rfl rfl ?_
    | refine LoadP.at 1 rfl _ rfl rfl ?_
    | refine StoreD.st 0 rfl rfl rfl ?_
    | refine StoreD.st 1 rfl rfl rfl ?_
    | refine CmpD.yes rfl ?_
    | refine CmpD.yes (by decide) ?_
    | refine CmpD.no (by decide) ?_
    | refine Chk.mk ⟨rfl, trivial⟩ ?_
    | refine Chk.mk ⟨rfl, rfl, trivial⟩ ?_
    | refine Chk.mk ⟨rfl, rfl, rfl, trivial⟩ ?_
    | refine Chk.mk ⟨rfl, rfl, rfl, rfl, trivial⟩ ?_
    | refine Chk.mk ⟨rfl, rfl, rfl, rfl, rfl, trivial⟩ ?_
    | refine Chk.mk ⟨rfl, rfl, rfl, rfl, rfl, rfl, trivial⟩ ?_)
  refine Tri.frame1 1 rfl (jk_Reserve hH1 hH.wf 16 _) ?_
  rw [a9]
  rintro v _ A' _ ⟨rfl, rfl, chH2, hH2, rfl⟩
  refine ⟨_, rfl, ?_⟩
  dsimp only at hH2
  repeat (first
    | refine LoadD.own 0 rfl _ rfl rfl ?_
    | refine LoadD.own 1 rfl _ rfl rfl ?_
    | refine LoadP.at 0 rfl _ rfl rfl ?_
    | refine LoadP.at 1 rfl _ rfl rfl ?_
    | refine StoreD.st 0 rfl rfl rfl ?_
    | refine StoreD.st 1 rfl rfl rfl ?_
    | refine CmpD.yes rfl ?_
    | refine CmpD.yes (by decide) ?_
    | refine CmpD.no (by decide) ?_
    | refine Chk.mk ⟨rfl, trivial⟩ ?_
    | refine Chk.mk ⟨rfl, rfl, trivial⟩ ?_
    | refine Chk.mk ⟨rfl, rfl, rfl, trivial⟩ ?_
    | refine Chk.mk ⟨rfl, rfl, rfl, rfl, trivial⟩ ?_
    | refine Chk.mk ⟨rfl, rfl, rfl, rfl, rfl, trivial⟩ ?_
    | refine Chk.mk ⟨rfl, rfl, rfl, rfl, rfl, rfl, trivial⟩ ?_)
  refine Tri.frame1 1 rfl (jk_Reserve hH2 hH.wf 0 _) ?_
  rw [a10]
  rintro v _ A' _ ⟨rfl, rfl, chH3, hH3, rfl⟩
  refine ⟨_, rfl, ?_⟩
  dsimp only at hH3
  repeat (first
    | refine LoadD.own 0 rfl _ rfl rfl ?_
    | refine LoadD.own 1 rfl _ rfl rfl ?_
    | refine LoadP.at 0 rfl _ rfl rfl ?_
    | refine LoadP.at 1 rfl _ rfl rfl ?_
    | refine StoreD.st 0 rfl rfl rfl ?_
    | refine StoreD.st 1 rfl rfl rfl ?_
    | refine CmpD.yes rfl ?_
    | refine CmpD.yes (by decide) ?_
    | refine CmpD.no (by decide) ?_
    | refine Chk.mk ⟨rfl, trivial⟩ ?_
    | refine Chk.mk ⟨rfl, rfl, trivial⟩ ?_
    | refine Chk.mk ⟨rfl, rfl, rfl, trivial⟩ ?_
    | refine Chk.mk ⟨rfl, rfl, rfl, rfl, trivial⟩ ?_
    | refine Chk.mk ⟨rfl, rfl, rfl, rfl, rfl, trivial⟩ ?_
    | refine Chk.mk ⟨rfl, rfl, rfl, rfl, rfl, rfl, trivial⟩ ?_)
  refine Tri.frame1 1 rfl (jk_Reserve hH3 hH.wf 33 _) ?_
  rw [a11]
  rintro v _ A' _ ⟨rfl, rfl, chH4, hH4, rfl⟩
  refine ⟨_, rfl, ?_⟩
  dsimp only at hH4
  repeat (first
    | refine LoadD.own 0 rfl _ rfl rfl ?_
    | refine LoadD.own 1 rfl _ rfl rfl ?_
    | refine LoadP.at 0 rfl _ rfl rfl ?_
    | refine LoadP.at 1 rfl _ rfl rfl ?_
    | refine StoreD.st 0 rfl rfl rfl ?_
    | refine StoreD.st 1 rfl rfl rfl ?_
    | refine CmpD.yes rfl ?_
    | refine CmpD.yes (by decide) ?_
    | refine CmpD.no (by decide) ?_
    | refine Chk.mk ⟨rfl, trivial⟩ ?_
    | refine Chk.mk ⟨rfl, rfl, trivial⟩ ?_
    | refine Chk.mk ⟨rfl, rfl, rfl, trivial⟩ ?_
    | refine Chk.mk ⟨rfl, rfl, rfl, rfl, trivial⟩ ?_
    | refine Chk.mk ⟨rfl, rfl, rfl, rfl, rfl, trivial⟩ ?_
    | refine Chk.mk ⟨rfl, rfl, rfl, rfl, rfl, rfl, trivial⟩ ?_)
  refine Tri.frame1 1 rfl (jk_Cancel hH4 hH.wf 0 _) ?_
  rw [a12]
  rintro v _ A' _ ⟨rfl, rfl, chH5, hH5, rfl⟩
  refine ⟨_, rfl, ?_⟩
  dsimp only at hH5
  repeat (first
    | refine LoadD.own 0 rfl _ rfl rfl ?_
    | refine LoadD.own 1 rfl _ rfl rfl ?_
    | refine LoadP.at 0 rfl _ rfl rfl ?_
    | refine LoadP.at 1 rfl _ rfl rfl ?_
    | refine StoreD.st 0 rfl rfl rfl ?_
    | refine StoreD.st 1 rfl rfl rfl ?_
    | refine CmpD.yes rfl ?_
    | refine CmpD.yes (by decide) ?_
    | refine CmpD.no (by decide) ?_
    | refine Chk.mk ⟨rfl, trivial⟩ ?_
    | refine Chk.mk ⟨rfl, rfl, trivial⟩ ?_
    | refine Chk.mk ⟨rfl, rfl, rfl, trivial⟩ ?_
    | refine Chk.mk ⟨rfl, rfl, rfl, rfl, trivial⟩ ?_
    | refine Chk.mk ⟨rfl, rfl, rfl, rfl, rfl, trivial⟩ ?_
    | refine Chk.mk ⟨rfl, rfl, rfl, rfl, rfl, rfl, trivial⟩ ?_)
  refine Tri.frame1 1 rfl (jk_Cancel hH5 hH.wf 13 _) ?_
  rw [a13]
  rintro v _ A' _ ⟨rfl, rfl, chH6, hH6, rfl⟩
  refine ⟨_, rfl, ?_⟩
  dsimp only at hH6
  repeat (first
    | refine LoadD.own 0 rfl _ rfl rfl ?_
    | refine LoadD.own 1 rfl _ rfl rfl ?_
    | refine LoadP.at 0 rfl _ rfl rfl ?_
    | refine LoadP.at 1 rfl _ rfl rfl ?_
    | refine StoreD.st 0 rfl rfl rfl ?_
    | refine StoreD.st 1 rfl rfl rfl ?_
    | refine CmpD.yes rfl ?_
    | refine CmpD.yes (by decide) ?_
    | refine CmpD.no (by decide) ?_
    | refine Chk.mk ⟨rfl, trivial⟩ ?_
    | refine Chk.mk ⟨rfl, rfl, trivial⟩ ?_
    | refine Chk.mk ⟨rfl, rfl, rfl, trivial⟩ ?_
    | refine Chk.mk ⟨rfl, rfl, rfl, rfl, trivial⟩ ?_
    | refine Chk.mk ⟨rfl, rfl, rfl, rfl, rfl, trivial⟩ ?_
    | refine Chk.mk ⟨rfl, rfl, rfl, rfl, rfl, rfl, trivial⟩ ?_)
  refine Tri.free (row_of 1 (by omega) _) ?_
  rintro v Jr5 _ hJr5 ⟨aR5, capR5, rfl, hR5⟩
  refine Tri.free (images_fix aR5 capR5 (rowL 1) (by rw [rowL_length]; omega) (rowL_in 1 (by omega)) 1 (by unfold In64; omega) Jr5 (by rw [rowL_length]; exact hR5)) ?_
  rintro v Ji5 _ hJi5 ⟨aI5, capI5, gs5, rfl, hI5, hgs5⟩
  have hgl5 : gs5.length = 1 := by have := congrArg List.length hgs5; rwa [List.length_map, imgsP_length, rowL_length] at this
  refine Tri.frame (jk_Append hH6 hH.wf (hD4.mono (Imm.le_trans hJr5 hJi5)) (dF'.few.mono (by omega)) (by rw [hH.groups]; decide) aI5 capI5 gs5 hI5 (by omega) false) [1, 0] rfl rfl ?_
  rw [hgs5, a14]
  rintro v J5 A' hJ5 ⟨rfl, chJ5, chD5, hj5, hD5, rfl⟩
  refine ⟨Nat.le_refl _, ?_⟩
  dsimp only at hj5 hD5
  refine Tri.frame (jk_Append hj5 hH.wf hD5 (dF'.few.mono (by omega)) (by rw [hH.groups]; decide) none 0 [] ⟨⟨rfl, .inl rfl⟩, by simp⟩ (by decide) false) [1, 0] rfl rfl ?_
  rw [show List.map Img.pr [] = [] from rfl, a15]
  rintro v J6 A' hJ6 ⟨rfl, chJ6, chD6, hj6, hD6, rfl⟩
  refine ⟨Nat.le_refl _, ?_⟩
  dsimp only at hj6 hD6
  refine Tri.free (row_of 12 (by omega) _) ?_
  rintro v Jr7 _ hJr7 ⟨aR7, capR7, rfl, hR7⟩
  refine Tri.free (images_fix aR7 capR7 (rowL 12) (by rw [rowL_length]; omega) (rowL_in 12 (by omega)) 1 (by unfold In64; omega) Jr7 (by rw [rowL_length]; exact hR7)) ?_
  rintro v Ji7 _ hJi7 ⟨aI7, capI7, gs7, rfl, hI7, hgs7⟩
  have hgl7 : gs7.length = 12 := by have := congrArg List.length hgs7; rwa [List.length_map, imgsP_length, rowL_length] at this
  refine Tri.frame (jk_Append hj6 hH.wf (hD6.mono (Imm.le_trans hJr7 hJi7)) (dF'.few.mono (by omega)) (by rw [hH.groups]; decide) aI7 capI7 gs7 hI7 (by omega) true) [1, 0] rfl rfl ?_
  rw [hgs7, a16]
  rintro v J7 A' hJ7 ⟨rfl, chJ7, chD7, hj7, hD7, rfl⟩
  refine ⟨Nat.le_refl _, ?_⟩
  dsimp only at hj7 hD7
  repeat (first
    | refine LoadD.own 0 rfl _ rfl rfl ?_
    | refine LoadD.own 1 rfl _ rfl rfl ?_
    | refine LoadP.at 0 rfl _ rfl rfl ?_
    | refine LoadP.at 1 rfl _ rfl rfl ?_
    | refine StoreD.st 0 rfl rfl rfl ?_
    | refine StoreD.st 1 rfl rfl rfl ?_
    | refine CmpD.yes rfl ?_
    | refine CmpD.yes (by decide) ?_
    | refine CmpD.no (by decide) ?_
    | refine Chk.mk ⟨rfl, trivial⟩ ?_
    | refine Chk.mk ⟨rfl, rfl, trivial⟩ ?_
    | refine Chk.mk ⟨rfl, rfl, rfl, trivial⟩ ?_
    | refine Chk.mk ⟨rfl, rfl, rfl, rfl, trivial⟩ ?_
    | refine Chk.mk ⟨rfl, rfl, rfl, rfl, rfl, trivial⟩ ?_
    | refine Chk.mk ⟨rfl, rfl, rfl, rfl, rfl, rfl, trivial⟩ ?_)
  refine Tri.frame1 1 rfl (jk_Ring hj7 _) ?_
  rintro v _ A' _ ⟨rfl, rfl, rfl⟩
  refine ⟨_, rfl, ?_⟩
  rw [hC.s, hC.t, hC.u, hC.h]
  refine ring_cmp [16, 0, 16, 0] [16, 0, 16, 0] rfl (.inl rfl) rfl rfl rfl rfl ?_
  repeat (first
    | refine LoadD.own 0 rfl _ rfl rfl ?_
    | refine LoadD.own 1 rfl _ rfl rfl ?_
    | refine LoadP.at 0 rfl _ rfl rfl ?_
    | refine LoadP.at 1 rfl _ rfl rfl ?_
    | refine StoreD.st 0 rfl rfl rfl ?_
    | refine StoreD.st 1 rfl rfl rfl ?_
    | refine CmpD.yes rfl ?_
    | refine CmpD.yes (by decide) ?_
    | refine CmpD.no (by decide) ?_
    | refine Chk.mk ⟨rfl, trivial⟩ ?_
    | refine Chk.mk ⟨rfl, rfl, trivial⟩ ?_
    | refine Chk.mk ⟨rfl, rfl, rfl, trivial⟩ ?_
    | refine Chk.mk ⟨rfl, rfl, rfl, rfl, trivial⟩ ?_
    | refine Chk.mk ⟨rfl, rfl, rfl, rfl, rfl, trivial⟩ ?_
    | refine Chk.mk ⟨rfl, rfl, rfl, rfl, rfl, rfl, trivial⟩ ?_)
  refine Tri.free (ref_Of ((64 : Nat) : Int) _) ?_
  rintro v JL _ hJL ⟨rfl, rfl⟩
  rw [layA, if_neg (by omega)]
  conv => whnf
  intro bl
  repeat (first
    | refine LoadD.own 0 rfl _ rfl rfl ?_
    | refine LoadD.own 1 rfl _ rfl rfl ?_
    | refine LoadD.own 2 rfl _ rfl rfl ?_
    | refine LoadP.at 0 rfl _ rfl rfl ?_
    | refine LoadP.at 1 rfl _ rfl rfl ?_
    | refine LoadP.at 2 rfl _ rfl rfl ?_
    | refine StoreD.st 0 rfl rfl rfl ?_
    | refine StoreD.st 1 rfl rfl rfl ?_
    | refine StoreD.st 2 rfl rfl rfl ?_
    | refine CmpD.yes rfl ?_
    | refine CmpD.yes (by decide) ?_
    | refine CmpD.no (by decide) ?_
    | refine Chk.mk ⟨rfl, trivial⟩ ?_
    | refine Chk.mk ⟨rfl, rfl, trivial⟩ ?_
    | refine Chk.mk ⟨rfl, rfl, rfl, trivial⟩ ?_
    | refine Chk.mk ⟨rfl, rfl, rfl, rfl, trivial⟩ ?_
    | refine Chk.mk ⟨rfl, rfl, rfl, rfl, rfl, trivial⟩ ?_
    | refine Chk.mk ⟨rfl, rfl, rfl, rfl, rfl, rfl, trivial⟩ ?_)
  refine Tri.free (journal_Open0 (layOf 64) 1 1 0 _) ?_
  rintro v J' _ hJ' ⟨rfl, rfl⟩
  repeat (first
    | refine LoadD.own 0 rfl _ rfl rfl ?_
    | refine LoadD.own 1 rfl _ rfl rfl ?_
    | refine LoadD.own 2 rfl _ rfl rfl ?_
    | refine LoadP.at 0 rfl _ rfl rfl ?_
    | refine LoadP.at 1 rfl _ rfl rfl ?_
    | refine LoadP.at 2 rfl _ rfl rfl ?_
    | refine StoreD.st 0 rfl rfl rfl ?_
    | refine StoreD.st 1 rfl rfl rfl ?_
    | refine StoreD.st 2 rfl rfl rfl ?_
    | refine CmpD.yes rfl ?_
    | refine CmpD.yes (by decide) ?_
    | refine CmpD.no (by decide) ?_
    | refine Chk.mk ⟨rfl, trivial⟩ ?_
    | refine Chk.mk ⟨rfl, rfl, trivial⟩ ?_
    | refine Chk.mk ⟨rfl, rfl, rfl, trivial⟩ ?_
    | refine Chk.mk ⟨rfl, rfl, rfl, rfl, trivial⟩ ?_
    | refine Chk.mk ⟨rfl, rfl, rfl, rfl, rfl, trivial⟩ ?_
    | refine Chk.mk ⟨rfl, rfl, rfl, rfl, rfl, rfl, trivial⟩ ?_)
  refine Tri.frameX (jk_Open hD7 64 dC'.len (by omega) (layOf ((64 : Nat) : Int)) 0 1 0 (by unfold In64; omega)) [0] rfl rfl ?_
  rintro v J' A' hJ' (⟨_, rfl, rfl, rfl⟩ | ⟨h, _⟩)
  rotate_left
  · exact absurd h.2.1 (by omega)
  repeat (first
    | refine LoadD.own 0 rfl _ rfl rfl ?_
    | refine LoadD.own 1 rfl _ rfl rfl ?_
    | refine LoadD.own 2 rfl _ rfl rfl ?_
    | refine LoadD.own 3 rfl _ rfl rfl ?_
    | refine LoadP.at 0 rfl _ rfl rfl ?_
    | refine LoadP.at 1 rfl _ rfl rfl ?_
    | refine LoadP.at 2 rfl _ rfl rfl ?_
    | refine LoadP.at 3 rfl _ rfl rfl ?_
    | refine StoreD.st 0 rfl rfl rfl ?_
    | refine StoreD.st 1 rfl rfl rfl ?_
    | refine StoreD.st 2 rfl rfl rfl ?_
    | refine StoreD.st 3 rfl rfl rfl ?_
    | refine CmpD.yes rfl ?_
    | refine CmpD.yes (by decide) ?_
    | refine CmpD.no (by decide) ?_
    | refine Chk.mk ⟨rfl, trivial⟩ ?_
    | refine Chk.mk ⟨rfl, rfl, trivial⟩ ?_
    | refine Chk.mk ⟨rfl, rfl, rfl, trivial⟩ ?_
    | refine Chk.mk ⟨rfl, rfl, rfl, rfl, trivial⟩ ?_
    | refine Chk.mk ⟨rfl, rfl, rfl, rfl, rfl, trivial⟩ ?_
    | refine Chk.mk ⟨rfl, rfl, rfl, rfl, rfl, rfl, trivial⟩ ?_)
  refine Tri.frameX (jk_Open hD7 64 dC'.len (by omega) (layOf ((64 : Nat) : Int)) 1 1 16 (by unfold In64; omega)) [3] rfl rfl ?_
  rintro v J' A' hJ' (⟨_, rfl, rfl, rfl⟩ | ⟨h, _⟩)
  rotate_left
  · exact absurd h.2.2.2.2.2.2 (by rw [layL_64']; omega)
  repeat (first
    | refine LoadD.own 0 rfl _ rfl rfl ?_
    | refine LoadD.own 1 rfl _ rfl rfl ?_
    | refine LoadD.own 2 rfl _ rfl rfl ?_
    | refine LoadD.own 3 rfl _ rfl rfl ?_
    | refine LoadD.own 4 rfl _ rfl rfl ?_
    | refine LoadP.at 0 rfl _ rfl rfl ?_
    | refine LoadP.at 1 rfl _ rfl rfl ?_
    | refine LoadP.at 2 rfl _ rfl rfl ?_
    | refine LoadP.at 3 rfl _ rfl rfl ?_
    | refine LoadP.at 4 rfl _ rfl rfl ?_
    | refine StoreD.st 0 rfl rfl rfl ?_
    | refine StoreD.st 1 rfl rfl rfl ?_
    | refine StoreD.st 2 rfl rfl rfl ?_
    | refine StoreD.st 3 rfl rfl rfl ?_
    | refine StoreD.st 4 rfl rfl rfl ?_
    | refine CmpD.yes rfl ?_
    | refine CmpD.yes (by decide) ?_
    | refine CmpD.no (by decide) ?_
    | refine Chk.mk ⟨rfl, trivial⟩ ?_
    | refine Chk.mk ⟨rfl, rfl, trivial⟩ ?_
    | refine Chk.mk ⟨rfl, rfl, rfl, trivial⟩ ?_
    | refine Chk.mk ⟨rfl, rfl, rfl, rfl, trivial⟩ ?_
    | refine Chk.mk ⟨rfl, rfl, rfl, rfl, rfl, trivial⟩ ?_
    | refine Chk.mk ⟨rfl, rfl, rfl, rfl, rfl, rfl, trivial⟩ ?_)
  refine ToD.to ((layOf ((64 : Nat) : Int)).d + 1) rfl ?_
  repeat (first
    | refine LoadD.own 0 rfl _ rfl rfl ?_
    | refine LoadD.own 1 rfl _ rfl rfl ?_
    | refine LoadD.own 2 rfl _ rfl rfl ?_
    | refine LoadD.own 3 rfl _ rfl rfl ?_
    | refine LoadD.own 4 rfl _ rfl rfl ?_
    | refine LoadP.at 0 rfl _ rfl rfl ?_
    | refine LoadP.at 1 rfl _ rfl rfl ?_
    | refine LoadP.at 2 rfl _ rfl rfl ?_
    | refine LoadP.at 3 rfl _ rfl rfl ?_
    | refine LoadP.at 4 rfl _ rfl rfl ?_
    | refine StoreD.st 0 rfl rfl rfl ?_
    | refine StoreD.st 1 rfl rfl rfl ?_
    | refine StoreD.st 2 rfl rfl rfl ?_
    | refine StoreD.st 3 rfl rfl rfl ?_
    | refine StoreD.st 4 rfl rfl rfl ?_
    | refine CmpD.yes rfl ?_
    | refine CmpD.yes (by decide) ?_
    | refine CmpD.no (by decide) ?_
    | refine Chk.mk ⟨rfl, trivial⟩ ?_
    | refine Chk.mk ⟨rfl, rfl, trivial⟩ ?_
    | refine Chk.mk ⟨rfl, rfl, rfl, trivial⟩ ?_
    | refine Chk.mk ⟨rfl, rfl, rfl, rfl, trivial⟩ ?_
    | refine Chk.mk ⟨rfl, rfl, rfl, rfl, rfl, trivial⟩ ?_
    | refine Chk.mk ⟨rfl, rfl, rfl, rfl, rfl, rfl, trivial⟩ ?_)
  refine Tri.frameX (jk_Open hD7 64 dC'.len (by omega) { layOf ((64 : Nat) : Int) with d := (layOf ((64 : Nat) : Int)).d + 1 } 1 1 0 (by unfold In64; omega)) [4] rfl rfl ?_
  rintro v J' A' hJ' (⟨_, rfl, rfl, rfl⟩ | ⟨h, _⟩)
  rotate_left
  · have := congrArg Lay.d h.1
    dsimp only at this
    omega
  repeat (first
    | refine LoadD.own 0 rfl _ rfl rfl ?_
    | refine LoadD.own 1 rfl _ rfl rfl ?_
    | refine LoadD.own 2 rfl _ rfl rfl ?_
    | refine LoadD.own 3 rfl _ rfl rfl ?_
    | refine LoadD.own 4 rfl _ rfl rfl ?_
    | refine LoadD.own 5 rfl _ rfl rfl ?_
    | refine LoadP.at 0 rfl _ rfl rfl ?_
    | refine LoadP.at 1 rfl _ rfl rfl ?_
    | refine LoadP.at 2 rfl _ rfl rfl ?_
    | refine LoadP.at 3 rfl _ rfl rfl ?_
    | refine LoadP.at 4 rfl _ rfl rfl ?_
    | refine LoadP.at 5 rfl _ rfl rfl ?_
    | refine StoreD.st 0 rfl rfl rfl ?_
    | refine StoreD.st 1 rfl rfl rfl ?_
    | refine StoreD.st 2 rfl rfl rfl ?_
    | refine StoreD.st 3 rfl rfl rfl ?_
    | refine StoreD.st 4 rfl rfl rfl ?_
    | refine StoreD.st 5 rfl rfl rfl ?_
    | refine CmpD.yes rfl ?_
    | refine CmpD.yes (by decide) ?_
    | refine CmpD.no (by decide) ?_
    | refine Chk.mk ⟨rfl, trivial⟩ ?_
    | refine Chk.mk ⟨rfl, rfl, trivial⟩ ?_
    | refine Chk.mk ⟨rfl, rfl, rfl, trivial⟩ ?_
    | refine Chk.mk ⟨rfl, rfl, rfl, rfl, trivial⟩ ?_
    | refine Chk.mk ⟨rfl, rfl, rfl, rfl, rfl, trivial⟩ ?_
    | refine Chk.mk ⟨rfl, rfl, rfl, rfl, rfl, rfl, trivial⟩ ?_)
  refine Tri.frame1 5 rfl (dk_Arm hD7 0 (by unfold In64; omega)) ?_
  rw [a17]
  rintro v J' A' hJ' ⟨rfl, chDa, hDa, rfl⟩
  refine ⟨_, rfl, ?_⟩
  dsimp only at hDa
  repeat (first
    | refine LoadD.own 0 rfl _ rfl rfl ?_
    | refine LoadD.own 1 rfl _ rfl rfl ?_
    | refine LoadD.own 2 rfl _ rfl rfl ?_
    | refine LoadD.own 3 rfl _ rfl rfl ?_
    | refine LoadD.own 4 rfl _ rfl rfl ?_
    | refine LoadD.own 5 rfl _ rfl rfl ?_
    | refine LoadP.at 0 rfl _ rfl rfl ?_
    | refine LoadP.at 1 rfl _ rfl rfl ?_
    | refine LoadP.at 2 rfl _ rfl rfl ?_
    | refine LoadP.at 3 rfl _ rfl rfl ?_
    | refine LoadP.at 4 rfl _ rfl rfl ?_
    | refine LoadP.at 5 rfl _ rfl rfl ?_
    | refine StoreD.st 0 rfl rfl rfl ?_
    | refine StoreD.st 1 rfl rfl rfl ?_
    | refine StoreD.st 2 rfl rfl rfl ?_
    | refine StoreD.st 3 rfl rfl rfl ?_
    | refine StoreD.st 4 rfl rfl rfl ?_
    | refine StoreD.st 5 rfl rfl rfl ?_
    | refine CmpD.yes rfl ?_
    | refine CmpD.yes (by decide) ?_
    | refine CmpD.no (by decide) ?_
    | refine Chk.mk ⟨rfl, trivial⟩ ?_
    | refine Chk.mk ⟨rfl, rfl, trivial⟩ ?_
    | refine Chk.mk ⟨rfl, rfl, rfl, trivial⟩ ?_
    | refine Chk.mk ⟨rfl, rfl, rfl, rfl, trivial⟩ ?_
    | refine Chk.mk ⟨rfl, rfl, rfl, rfl, rfl, trivial⟩ ?_
    | refine Chk.mk ⟨rfl, rfl, rfl, rfl, rfl, rfl, trivial⟩ ?_)
  refine Tri.frame (jk_Flush hj7 hC.wf hDa) [1, 5] rfl rfl ?_
  rw [a18]
  rintro v JZ A' hJZ ⟨rfl, chJz, chDz, hjz, hDz, rfl⟩
  refine ⟨Nat.le_refl _, ?_⟩
  dsimp only at hjz hDz
  repeat (first
    | refine LoadD.own 0 rfl _ rfl rfl ?_
    | refine LoadD.own 1 rfl _ rfl rfl ?_
    | refine LoadD.own 2 rfl _ rfl rfl ?_
    | refine LoadD.own 3 rfl _ rfl rfl ?_
    | refine LoadD.own 4 rfl _ rfl rfl ?_
    | refine LoadD.own 5 rfl _ rfl rfl ?_
    | refine LoadP.at 0 rfl _ rfl rfl ?_
    | refine LoadP.at 1 rfl _ rfl rfl ?_
    | refine LoadP.at 2 rfl _ rfl rfl ?_
    | refine LoadP.at 3 rfl _ rfl rfl ?_
    | refine LoadP.at 4 rfl _ rfl rfl ?_
    | refine LoadP.at 5 rfl _ rfl rfl ?_
    | refine StoreD.st 0 rfl rfl rfl ?_
    | refine StoreD.st 1 rfl rfl rfl ?_
    | refine StoreD.st 2 rfl rfl rfl ?_
    | refine StoreD.st 3 rfl rfl rfl ?_
    | refine StoreD.st 4 rfl rfl rfl ?_
    | refine StoreD.st 5 rfl rfl rfl ?_
    | refine CmpD.yes rfl ?_
    | refine CmpD.yes (by decide) ?_
    | refine CmpD.no (by decide) ?_
    | refine Chk.mk ⟨rfl, trivial⟩ ?_
    | refine Chk.mk ⟨rfl, rfl, trivial⟩ ?_
    | refine Chk.mk ⟨rfl, rfl, rfl, trivial⟩ ?_
    | refine Chk.mk ⟨rfl, rfl, rfl, rfl, trivial⟩ ?_
    | refine Chk.mk ⟨rfl, rfl, rfl, rfl, rfl, trivial⟩ ?_
    | refine Chk.mk ⟨rfl, rfl, rfl, rfl, rfl, rfl, trivial⟩ ?_)
  refine Tri.frame1 1 rfl (jk_Broken hjz _) ?_
  rw [a22]
  rintro v _ A' _ ⟨rfl, rfl, rfl⟩
  refine ⟨_, rfl, ?_⟩
  repeat (first
    | refine LoadD.own 0 rfl _ rfl rfl ?_
    | refine LoadD.own 1 rfl _ rfl rfl ?_
    | refine LoadD.own 2 rfl _ rfl rfl ?_
    | refine LoadD.own 3 rfl _ rfl rfl ?_
    | refine LoadD.own 4 rfl _ rfl rfl ?_
    | refine LoadD.own 5 rfl _ rfl rfl ?_
    | refine LoadP.at 0 rfl _ rfl rfl ?_
    | refine LoadP.at 1 rfl _ rfl rfl ?_
    | refine LoadP.at 2 rfl _ rfl rfl ?_
    | refine LoadP.at 3 rfl _ rfl rfl ?_
    | refine LoadP.at 4 rfl _ rfl rfl ?_
    | refine LoadP.at 5 rfl _ rfl rfl ?_
    | refine StoreD.st 0 rfl rfl rfl ?_
    | refine StoreD.st 1 rfl rfl rfl ?_
    | refine StoreD.st 2 rfl rfl rfl ?_
    | refine StoreD.st 3 rfl rfl rfl ?_
    | refine StoreD.st 4 rfl rfl rfl ?_
    | refine StoreD.st 5 rfl rfl rfl ?_
    | refine CmpD.yes rfl ?_
    | refine CmpD.yes (by decide) ?_
    | refine CmpD.no (by decide) ?_
    | refine Chk.mk ⟨rfl, trivial⟩ ?_
    | refine Chk.mk ⟨rfl, rfl, trivial⟩ ?_
    | refine Chk.mk ⟨rfl, rfl, rfl, trivial⟩ ?_
    | refine Chk.mk ⟨rfl, rfl, rfl, rfl, trivial⟩ ?_
    | refine Chk.mk ⟨rfl, rfl, rfl, rfl, rfl, trivial⟩ ?_
    | refine Chk.mk ⟨rfl, rfl, rfl, rfl, rfl, rfl, trivial⟩ ?_)
  refine Tri.frame1 1 rfl (jk_Reserve hjz wX 0 _) ?_
  rw [a19]
  rintro v _ A' _ ⟨rfl, rfl, chZ1, hz1, rfl⟩
  refine ⟨_, rfl, ?_⟩
  dsimp only at hz1
  repeat (first
    | refine LoadD.own 0 rfl _ rfl rfl ?_
    | refine LoadD.own 1 rfl _ rfl rfl ?_
    | refine LoadD.own 2 rfl _ rfl rfl ?_
    | refine LoadD.own 3 rfl _ rfl rfl ?_
    | refine LoadD.own 4 rfl _ rfl rfl ?_
    | refine LoadD.own 5 rfl _ rfl rfl ?_
    | refine LoadP.at 0 rfl _ rfl rfl ?_
    | refine LoadP.at 1 rfl _ rfl rfl ?_
    | refine LoadP.at 2 rfl _ rfl rfl ?_
    | refine LoadP.at 3 rfl _ rfl rfl ?_
    | refine LoadP.at 4 rfl _ rfl rfl ?_
    | refine LoadP.at 5 rfl _ rfl rfl ?_
    | refine StoreD.st 0 rfl rfl rfl ?_
    | refine StoreD.st 1 rfl rfl rfl ?_
    | refine StoreD.st 2 rfl rfl rfl ?_
    | refine StoreD.st 3 rfl rfl rfl ?_
    | refine StoreD.st 4 rfl rfl rfl ?_
    | refine StoreD.st 5 rfl rfl rfl ?_
    | refine CmpD.yes rfl ?_
    | refine CmpD.yes (by decide) ?_
    | refine CmpD.no (by decide) ?_
    | refine Chk.mk ⟨rfl, trivial⟩ ?_
    | refine Chk.mk ⟨rfl, rfl, trivial⟩ ?_
    | refine Chk.mk ⟨rfl, rfl, rfl, trivial⟩ ?_
    | refine Chk.mk ⟨rfl, rfl, rfl, rfl, trivial⟩ ?_
    | refine Chk.mk ⟨rfl, rfl, rfl, rfl, rfl, trivial⟩ ?_
    | refine Chk.mk ⟨rfl, rfl, rfl, rfl, rfl, rfl, trivial⟩ ?_)
  refine Tri.frame1 1 rfl (jk_Cancel hz1 wX 0 _) ?_
  rw [a20]
  rintro v _ A' _ ⟨rfl, rfl, chZ2, hz2, rfl⟩
  refine ⟨_, rfl, ?_⟩
  dsimp only at hz2
  repeat (first
    | refine LoadD.own 0 rfl _ rfl rfl ?_
    | refine LoadD.own 1 rfl _ rfl rfl ?_
    | refine LoadD.own 2 rfl _ rfl rfl ?_
    | refine LoadD.own 3 rfl _ rfl rfl ?_
    | refine LoadD.own 4 rfl _ rfl rfl ?_
    | refine LoadD.own 5 rfl _ rfl rfl ?_
    | refine LoadP.at 0 rfl _ rfl rfl ?_
    | refine LoadP.at 1 rfl _ rfl rfl ?_
    | refine LoadP.at 2 rfl _ rfl rfl ?_
    | refine LoadP.at 3 rfl _ rfl rfl ?_
    | refine LoadP.at 4 rfl _ rfl rfl ?_
    | refine LoadP.at 5 rfl _ rfl rfl ?_
    | refine StoreD.st 0 rfl rfl rfl ?_
    | refine StoreD.st 1 rfl rfl rfl ?_
    | refine StoreD.st 2 rfl rfl rfl ?_
    | refine StoreD.st 3 rfl rfl rfl ?_
    | refine StoreD.st 4 rfl rfl rfl ?_
    | refine StoreD.st 5 rfl rfl rfl ?_
    | refine CmpD.yes rfl ?_
    | refine CmpD.yes (by decide) ?_
    | refine CmpD.no (by decide) ?_
    | refine Chk.mk ⟨rfl, trivial⟩ ?_
    | refine Chk.mk ⟨rfl, rfl, trivial⟩ ?_
    | refine Chk.mk ⟨rfl, rfl, rfl, trivial⟩ ?_
    | refine Chk.mk ⟨rfl, rfl, rfl, rfl, trivial⟩ ?_
    | refine Chk.mk ⟨rfl, rfl, rfl, rfl, rfl, trivial⟩ ?_
    | refine Chk.mk ⟨rfl, rfl, rfl, rfl, rfl, rfl, trivial⟩ ?_)
  refine Tri.frame1 1 rfl (jk_Release hz2 wX 99 _) ?_
  rw [a21]
  rintro v _ A' _ ⟨rfl, rfl, chZ3, hz3, rfl⟩
  refine ⟨_, rfl, ?_⟩
  repeat (first
    | refine LoadD.own 0 rfl _ rfl rfl ?_
    | refine LoadD.own 1 rfl _ rfl rfl ?_
    | refine LoadD.own 2 rfl _ rfl rfl ?_
    | refine LoadD.own 3 rfl _ rfl rfl ?_
    | refine LoadD.own 4 rfl _ rfl rfl ?_
    | refine LoadD.own 5 rfl _ rfl rfl ?_
    | refine LoadP.at 0 rfl _ rfl rfl ?_
    | refine LoadP.at 1 rfl _ rfl rfl ?_
    | refine LoadP.at 2 rfl _ rfl rfl ?_
    | refine LoadP.at 3 rfl _ rfl rfl ?_
    | refine LoadP.at 4 rfl _ rfl rfl ?_
    | refine LoadP.at 5 rfl _ rfl rfl ?_
    | refine StoreD.st 0 rfl rfl rfl ?_
    | refine StoreD.st 1 rfl rfl rfl ?_
    | refine StoreD.st 2 rfl rfl rfl ?_
    | refine StoreD.st 3 rfl rfl rfl ?_
    | refine StoreD.st 4 rfl rfl rfl ?_
    | refine StoreD.st 5 rfl rfl rfl ?_
    | refine CmpD.yes rfl ?_
    | refine CmpD.yes (by decide) ?_
    | refine CmpD.no (by decide) ?_
    | refine Chk.mk ⟨rfl, trivial⟩ ?_
    | refine Chk.mk ⟨rfl, rfl, trivial⟩ ?_
    | refine Chk.mk ⟨rfl, rfl, rfl, trivial⟩ ?_
    | refine Chk.mk ⟨rfl, rfl, rfl, rfl, trivial⟩ ?_
    | refine Chk.mk ⟨rfl, rfl, rfl, rfl, rfl, trivial⟩ ?_
    | refine Chk.mk ⟨rfl, rfl, rfl, rfl, rfl, rfl, trivial⟩ ?_)
  refine Tri.mono (awake08 _ _) ?_
  rintro v J' S' hJ' rfl
  exact Done.mk rfl
end Go.Proofs.Ytbpdbgcndfcilaa
namespace Go.Proofs.Ytbpdbgcndfcilaa
open Go.RowKit Go.Sl
set_option maxRecDepth 20000

theorem get_none {b : Dat} (h : ∀ s, supL s ≠ b) : getS b = none := by
  unfold getS; rw [if_neg (fun h' => h _ h'.2)]
theorem get_zeros : getS (List.replicate 4096 0) = none := get_none fun s h => by
  have e := congrArg (·[0]?) h
  have e1 : (supL s)[0]? = some 76 := rfl
  have e2 : (List.replicate 4096 (0 : UInt8))[0]? = some 0 := by rw [List.getElem?_replicate, if_pos (by omega)]
  simp only [e1, e2] at e
  exact absurd e (by decide)
theorem get_nil : getS [] = none := get_none fun s h => by
  have e := congrArg List.length h
  rw [supL_length] at e; cases e
theorem replay_Do0 (s : Sup) (slot : Int) (I : Imm) (S : St) : Tri Try.prog 60 #[.pointer none, .slice none 0 0, s.v, .int .i64 slot] I S fun v J S' => v = .int .i64 1 ∧ I = J ∧ S' = S := by
  refine Tri.free (Q := fun v J _ => v = .int .i64 1 ∧ I = J) ?_ (fun v J _ _ h => ⟨h.1, h.2, rfl⟩)
  refine Tri.of (args := [.pointer none, .slice none 0 0, s.v, .int .i64 slot]) tabOk Try.func60 rfl (by kernel_rfl) (by kernel_rfl) ?_
  conv => whnf
  intro b
  refine Tri.nf (disk_Size0 I _) ?_
  rintro v J S' hJ ⟨rfl, rfl, rfl⟩
  repeat (first
    | refine LoadD.own 0 rfl _ rfl rfl ?_
    | refine LoadP.at 0 rfl _ rfl rfl ?_
    | refine StoreD.st 0 rfl rfl rfl ?_
    | refine CmpD.yes rfl ?_
    | refine CmpD.yes (by decide) ?_
    | refine CmpD.no (by decide) ?_
    | refine Chk.mk ⟨rfl, trivial⟩ ?_
    | refine Chk.mk ⟨rfl, rfl, trivial⟩ ?_
    | refine Chk.mk ⟨rfl, rfl, rfl, trivial⟩ ?_
    | refine Chk.mk ⟨rfl, rfl, rfl, rfl, trivial⟩ ?_
    | refine Chk.mk ⟨rfl, rfl, rfl, rfl, rfl, trivial⟩ ?_
    | refine Chk.mk ⟨rfl, rfl, rfl, rfl, rfl, rfl, trivial⟩ ?_)
  exact Done.mk ⟨rfl, rfl⟩
theorem flush_calm {d : DSt} (h : d.Calm) : d.flush = ({ d with safe := d.now, writes := [] }, 0) := by
  unfold DSt.flush; rw [DSt.stop_calm h]; simp
theorem num_do (s : Sup) (hs : RightS s) (m : Dat) (hm : m.length = 4096) : ∃ d1, doP (DSt.of (List.replicate 64 noughts)) [(30, m)] s 1 = (d1, 0) ∧ d1.Calm ∧ d1.now.length = 64 ∧ d1.writes = [] ∧ d1.count = 2 ∧ d1.read 1 = (supL s, 0) ∧ d1.read 30 = (m, 0) := by
  have c0 : (DSt.of (List.replicate 64 noughts)).Calm := fresh_calm _
  have n0 : (DSt.of (List.replicate 64 noughts)).now.length = 64 := List.length_replicate ..
  have k0 : (DSt.of (List.replicate 64 noughts)).count = 0 := rfl
  generalize DSt.of (List.replicate 64 noughts) = d at *
  have hok : DoOk d [(30, m)] := by
    intro g hg
    simp only [List.mem_singleton] at hg
    subst hg
    exact ⟨by show (2:Int) ≤ 30; decide, by rw [n0]; show (30:Int) < 64; decide, hm⟩
  have w1 : d.write 30 m = (d.put 30 m, 0) := DSt.write_calm c0 (by rw [n0]; decide) hm
  have c1 : (d.put 30 m).Calm := c0
  have f1 : (d.put 30 m).flush = ({ d.put 30 m with safe := (d.put 30 m).now, writes := [] }, 0) := flush_calm c1
  have n1 : (d.put 30 m).now.length = 64 := by rw [DSt.put_len, n0]
  obtain ⟨e, he⟩ : ∃ e, e = ({ d.put 30 m with safe := (d.put 30 m).now, writes := [] } : DSt) := ⟨_, rfl⟩
  rw [← he] at f1
  have ce : e.Calm := by rw [he]; exact c1
  have ne : e.now = (d.put 30 m).now := by rw [he]
  have ke : e.count = 1 := by rw [he]; show d.count + 1 = 1; rw [k0]; rfl
  have w2 : e.write 1 (supL s) = (e.put 1 (supL s), 0) := DSt.write_calm ce (by rw [ne, n1]; decide) (supL_length s)
  have f2 : (e.put 1 (supL s)).flush = ({ e.put 1 (supL s) with safe := (e.put 1 (supL s)).now, writes := [] }, 0) := flush_calm ce
  have nf : (e.put 1 (supL s)).now.length = 64 := by rw [DSt.put_len, ne, n1]
  have hne : e.now.length = 64 := by rw [ne, n1]
  have hnw : (e.put 1 (supL s)).now = ((d.now.set 30 m).set 1 (supL s)) := by show e.now.set _ _ = _; rw [ne]; rfl
  refine ⟨{ e.put 1 (supL s) with safe := (e.put 1 (supL s)).now, writes := [] }, ?_, ce, nf, rfl, ?_, ?_, ?_⟩
  · unfold doP lastWr
    rw [if_neg (by rintro (h | h | h | h); exact h hs; exact absurd h (by decide); exact absurd h (by decide); exact h hok)]
    simp only [wrImgs, w1]
    simp [f1, w2, f2]
  · show e.count + 1 = 2; rw [ke]; rfl
  · unfold DSt.read
    rw [if_neg (by rw [show ({ e.put 1 (supL s) with safe := (e.put 1 (supL s)).now, writes := [] } : DSt).now.length = 64 from nf]; decide), if_neg (by rw [show ({ e.put 1 (supL s) with safe := (e.put 1 (supL s)).now, writes := [] } : DSt).down = e.down from rfl, ce.1]; simp)]
    show ((e.put 1 (supL s)).now.getD 1 [], (0 : Int)) = _
    rw [hnw, List.getD_eq_getElem?_getD, List.getElem?_set_self (by rw [List.length_set, n0]; decide)]; rfl
  · unfold DSt.read
    rw [if_neg (by rw [show ({ e.put 1 (supL s) with safe := (e.put 1 (supL s)).now, writes := [] } : DSt).now.length = 64 from nf]; decide), if_neg (by rw [show ({ e.put 1 (supL s) with safe := (e.put 1 (supL s)).now, writes := [] } : DSt).down = e.down from rfl, ce.1]; simp)]
    show ((e.put 1 (supL s)).now.getD 30 [], (0 : Int)) = _
    rw [hnw, List.getD_eq_getElem?_getD, List.getElem?_set_ne (by decide), List.getElem?_set_self (by rw [n0]; decide)]; rfl
theorem do_wrong {d : DSt} {l : List PImg} {s : Sup} {slot : Int} (h : ¬ RightS s ∨ slot < 0 ∨ 1 < slot ∨ ¬ DoOk d l) : doP d l s slot = (d, 2) := by unfold doP; rw [if_pos h]
theorem lay64 : (layOf 64).bi = 18 ∧ (layOf 64).b = 64 := ⟨by show 2 + layL ((64 : Nat) : Int) = 18; rw [layL_64']; rfl, rfl⟩
theorem home_bad {x : Int} {m : Dat} (h : x < 18 ∨ 64 ≤ x) : ¬ HomeOk (layOf 64) [(x, m)] := by
  intro h'
  have := h' (x, m) (by simp)
  rw [lay64.1, lay64.2] at this
  dsimp only at this
  omega
theorem one_grp {I : Imm} {S : St} {b1 b2 : Nat} {k1 k2 : Nat} {x : Int} {aM : Option Addr} {m : Dat} {T1 T2 : TypeId} (h1 : S[k1]? = some [(b1, row [.int .i64 x, .slice aM 4096 4096] T1)]) (h2 : S[k2]? = some [(b2, row [.int .i64 0, .int .i64 0, .slice (some ⟨b1, 0, none⟩) 1 1] T2)]) (hm : Rds I aM 4096 (bts m)) :
    GrpsR I S (some ⟨b2, 0, none⟩) [⟨0, 0, some ⟨b1, 0, none⟩, 1, [⟨x, aM, 4096, 4096, m⟩]⟩] := by
  refine ⟨⟨rfl, .inr ⟨b2, 0, rfl, _, _, _, .own k2 (mem_getD h2 (List.mem_singleton.2 rfl)), rfl, rfl⟩⟩, ?_⟩
  intro g hg
  simp only [List.mem_singleton] at hg
  subst hg
  refine ⟨⟨⟨rfl, .inr ⟨b1, 0, rfl, _, _, _, .own k1 (mem_getD h1 (List.mem_singleton.2 rfl)), rfl, rfl⟩⟩, ?_⟩, by simp⟩
  intro g hg
  simp only [List.mem_singleton] at hg
  subst hg
  exact ⟨hm.slC⟩
theorem two_grp {I : Imm} {S : St} {b1 b2 : Nat} {k1 k2 : Nat} {x y : Int} {aM aN : Option Addr} {m n : Dat} {T1 T2 : TypeId} (h1 : S[k1]? = some [(b1, row [.int .i64 x, .slice aM 4096 4096, .int .i64 y, .slice aN 4096 4096] T1)]) (h2 : S[k2]? = some [(b2, row [.int .i64 0, .int .i64 0, .slice (some ⟨b1, 0, none⟩) 2 2] T2)]) (hm : Rds I aM 4096 (bts m)) (hn : Rds I aN 4096 (bts n)) :
    GrpsR I S (some ⟨b2, 0, none⟩) [⟨0, 0, some ⟨b1, 0, none⟩, 2, [⟨x, aM, 4096, 4096, m⟩, ⟨y, aN, 4096, 4096, n⟩]⟩] := by
  refine ⟨⟨rfl, .inr ⟨b2, 0, rfl, _, _, _, .own k2 (mem_getD h2 (List.mem_singleton.2 rfl)), rfl, rfl⟩⟩, ?_⟩
  intro g hg
  simp only [List.mem_singleton] at hg
  subst hg
  refine ⟨⟨⟨rfl, .inr ⟨b1, 0, rfl, _, _, _, .own k1 (mem_getD h1 (List.mem_singleton.2 rfl)), rfl, rfl⟩⟩, ?_⟩, by simp⟩
  intro g hg
  simp only [List.mem_cons, List.not_mem_nil, or_false] at hg
  rcases hg with rfl | rfl
  · exact ⟨hm.slC⟩
  · exact ⟨hn.slC⟩
theorem home_two (x y : Dat) : homeP [(18, x), (63, y)] = [(18, x), (63, y)] := by
  have h : lastP [(18, x), (63, y)] = [(18, x), (63, y)] := by simp [lastP, pput]
  unfold homeP
  rw [h, show List.map Prod.fst [((18 : Int), x), (63, y)] = [18, 63] from rfl, sortI_of (m := [18, 63]) (List.Perm.refl _) (by decide)]
  rfl
theorem home_few {I : Imm} {S : St} {aG : Option Addr} {capG : Nat} {l : List Grp} (hG : GrpsR I S aG l) (hl : l.length ≤ 1000000) (hall : (allI l).length ≤ 1000000) (hfew : ∀ g ∈ allI l, g.len ≤ 100000000) (x : Lay) (hx : 64 ≤ x.b ∧ x.b ≤ 512 ∧ x = layOf x.b.toNat) (hok : HomeOk x (allP l)) :
    Tri Try.prog 50 #[x.v, .slice aG l.length capG] I S fun v _ S' => ∃ aO capO, v = .tuple #[.slice aO (homeP (allP l)).length capO, .int .i64 0] ∧ S' = [] := by
  refine Tri.drop (home_any hG hl hall hfew x) ?_
  rintro v J S' hJ (⟨h, _⟩ | ⟨_, h, _⟩ | ⟨_, _, aO, capO, chO, chs, outs, rfl, hO, hcs, hpr, rfl⟩)
  · exact absurd hx h
  · exact absurd hok h
  · exact ⟨[], Drop.pick [] _ rfl, aO, capO, by rw [← hpr, List.length_map], rfl⟩
theorem imgs_fixed {J : Imm} {b : Nat} {x : Int} {aM : Option Addr} {len cap : Nat} {m : Dat} {T : TypeId} (hx : In64 x) (hm : ∀ y ∈ [(b, row [.int .i64 x, .slice aM len cap] T)], J y.1 = some y.2) (h : Rds J aM len (bts m)) : ImgsOk J (some ⟨b, 0, none⟩) [⟨x, aM, len, cap, m⟩] :=
  ⟨⟨rfl, .inr ⟨b, 0, _, _, _, rfl, hm _ (List.mem_singleton.2 rfl), rfl⟩⟩, by intro g hg; simp only [List.mem_singleton] at hg; subst hg; exact ⟨hx, h⟩⟩
theorem do_bad {d : DSt} {x : Int} {m : Dat} (h : ¬ (2 ≤ x ∧ x < d.now.length ∧ m.length = 4096)) : ¬ DoOk d [(x, m)] := fun h' => h (h' (x, m) (by simp))
set_option maxHeartbeats 8000000 in
theorem replayNumbers_walk (I : Imm) : Tri Try.prog 11 #[] I [] fun v _ _ => v = .bool true := by
  refine Tri.of (args := []) tabOk Try.func11 rfl (by kernel_rfl) (by kernel_rfl) ?_
  refine Tri.free (law_bytes 1 5 (right_of _ _ (by decide) (by decide)) _) ?_
  rintro v Ja1 _ hJa1 ⟨aa1, ca1, rfl, ha1⟩
  refine Tri.free (law_bytes 1 6 (right_of _ _ (by decide) (by decide)) _) ?_
  rintro v Jb1 _ hJb1 ⟨ab1, cb1, rfl, hb1⟩
  refine Tri.free (replay_Choose (ha1.mono hJb1) hb1 (by decide) (by decide)) ?_
  rintro v Jc1 _ hJc1 ⟨rfl, rfl⟩
  rw [get_supL (right_of _ _ (by decide) (by decide)), get_supL (right_of _ _ (by decide) (by decide))]
  rw [show chooseP (some (superOf 1 5)) (some (superOf 1 6)) = (superOf 1 6, 1, true) from by rw [chooseP, if_neg (by decide)]]
  conv => whnf
  intro b1
  repeat (first
    | refine LoadD.own 0 rfl _ rfl rfl ?_
    | refine LoadD.own 1 rfl _ rfl rfl ?_
    | refine LoadD.own 2 rfl _ rfl rfl ?_
    | refine LoadD.own 3 rfl _ rfl rfl ?_
    | refine LoadP.at 0 rfl _ rfl rfl ?_
    | refine LoadP.at 1 rfl _ rfl rfl ?_
    | refine LoadP.at 2 rfl _ rfl rfl ?_
    | refine LoadP.at 3 rfl _ rfl rfl ?_
    | refine StoreD.st 0 rfl rfl rfl ?_
    | refine StoreD.st 1 rfl rfl rfl ?_
    | refine StoreD.st 2 rfl rfl rfl ?_
    | refine StoreD.st 3 rfl rfl rfl ?_
    | refine CmpD.yes rfl ?_
    | refine CmpD.yes (by decide) ?_
    | refine CmpD.no (by decide) ?_
    | refine Chk.mk ⟨rfl, trivial⟩ ?_
    | refine Chk.mk ⟨rfl, rfl, trivial⟩ ?_
    | refine Chk.mk ⟨rfl, rfl, rfl, trivial⟩ ?_
    | refine Chk.mk ⟨rfl, rfl, rfl, rfl, trivial⟩ ?_
    | refine Chk.mk ⟨rfl, rfl, rfl, rfl, rfl, trivial⟩ ?_
    | refine Chk.mk ⟨rfl, rfl, rfl, rfl, rfl, rfl, trivial⟩ ?_)
  refine Tri.free (law_bytes 1 5 (right_of _ _ (by decide) (by decide)) _) ?_
  rintro v Ja2 _ hJa2 ⟨aa2, ca2, rfl, ha2⟩
  refine Tri.free (law_bytes 1 5 (right_of _ _ (by decide) (by decide)) _) ?_
  rintro v Jb2 _ hJb2 ⟨ab2, cb2, rfl, hb2⟩
  refine Tri.free (replay_Choose (ha2.mono hJb2) hb2 (by decide) (by decide)) ?_
  rintro v Jc2 _ hJc2 ⟨rfl, rfl⟩
  rw [get_supL (right_of _ _ (by decide) (by decide))]
  rw [show chooseP (some (superOf 1 5)) (some (superOf 1 5)) = (superOf 1 5, 0, true) from by rw [chooseP, if_pos (by decide)]]
  conv => whnf
  intro b4
  repeat (first
    | refine LoadD.own 0 rfl _ rfl rfl ?_
    | refine LoadD.own 1 rfl _ rfl rfl ?_
    | refine LoadD.own 2 rfl _ rfl rfl ?_
    | refine LoadD.own 3 rfl _ rfl rfl ?_
    | refine LoadP.at 0 rfl _ rfl rfl ?_
    | refine LoadP.at 1 rfl _ rfl rfl ?_
    | refine LoadP.at 2 rfl _ rfl rfl ?_
    | refine LoadP.at 3 rfl _ rfl rfl ?_
    | refine StoreD.st 0 rfl rfl rfl ?_
    | refine StoreD.st 1 rfl rfl rfl ?_
    | refine StoreD.st 2 rfl rfl rfl ?_
    | refine StoreD.st 3 rfl rfl rfl ?_
    | refine CmpD.yes rfl ?_
    | refine CmpD.yes (by decide) ?_
    | refine CmpD.no (by decide) ?_
    | refine Chk.mk ⟨rfl, trivial⟩ ?_
    | refine Chk.mk ⟨rfl, rfl, trivial⟩ ?_
    | refine Chk.mk ⟨rfl, rfl, rfl, trivial⟩ ?_
    | refine Chk.mk ⟨rfl, rfl, rfl, rfl, trivial⟩ ?_
    | refine Chk.mk ⟨rfl, rfl, rfl, rfl, rfl, trivial⟩ ?_
    | refine Chk.mk ⟨rfl, rfl, rfl, rfl, rfl, rfl, trivial⟩ ?_)
  refine CodeF.cutD [2, 3, 5, 6, 8, 9] (fun vs _ S' => vs = [.int .i64 1, .bool true, .int .i64 0, .bool true, .int .i64 1, .bool true] ∧ S' = []) ?_ ?_
  · refine CodeF.schedT [[], [], [0, 1], [0, 1, 2], [0, 1, 2, 3], [0, 1, 2, 3], [0, 1, 2, 3], [], [0, 1, 2, 3, 4, 7], [0, 1, 2, 3, 4, 5, 7, 8], [0, 1, 2, 3, 4, 5, 6, 7, 8, 9]] (.alt (.ef 0 (.alt (.ef 1 (.alt (.ef 2 (.rd 3 (.rd 4 (.rd 5 (.rd 6 (.ef 7 (.ef 8 (.rd 9 (.rd 10 .nil))))))))) (.ef 7 (.ef 2 (.rd 3 (.rd 4 (.rd 5 (.rd 6 (.ef 8 (.rd 9 (.rd 10 .nil))))))))))) (.ef 7 (.ef 1 (.ef 2 (.rd 3 (.rd 4 (.rd 5 (.rd 6 (.ef 8 (.rd 9 (.rd 10 .nil)))))))))))) (.alt (.ef 1 (.alt (.ef 0 (.alt (.ef 2 (.rd 3 (.rd 4 (.rd 5 (.rd 6 (.ef 7 (.ef 8 (.rd 9 (.rd 10 .nil))))))))) (.ef 7 (.ef 2 (.rd 3 (.rd 4 (.rd 5 (.rd 6 (.ef 8 (.rd 9 (.rd 10 .nil))))))))))) (.ef 7 (.ef 0 (.ef 2 (.rd 3 (.rd 4 (.rd 5 (.rd 6 (.ef 8 (.rd 9 (.rd 10 .nil)))))))))))) (.ef 7 (.alt (.ef 0 (.ef 1 (.ef 2 (.rd 3 (.rd 4 (.rd 5 (.rd 6 (.ef 8 (.rd 9 (.rd 10 .nil)))))))))) (.ef 1 (.ef 0 (.ef 2 (.rd 3 (.rd 4 (.rd 5 (.rd 6 (.ef 8 (.rd 9 (.rd 10 .nil)))))))))))))) (by kernel_rfl) ?_
    refine And.intro ?_ ?_
    · skip
      refine makeD tabOk rfl rfl rfl 4096 4096 rfl rfl (Nat.le_refl _) (by show 1 * 4096 ≤ _; decide) (by decide) (by show 4096 * 1 ≤ _; decide) rfl (by decide) ?_
      intro bM
      refine And.intro ?_ ?_
      · skip
        refine Tri.free (law_bytes 1 1 (right_of _ _ (by decide) (by decide)) _) ?_
        rintro v JB _ hJB ⟨aB, cB, rfl, hB⟩
        refine And.intro ?_ ?_
        · skip
          refine Tri.fix 2 rfl fun I' hI' hm => ?_
          refine Tri.free (replay_Choose (l1 := List.replicate 4096 0) (Rds.of_own (cap := 4096) (by show OwnC _ 1 _ _ _ _; rw [show bts (List.replicate 4096 0) = rows 4096 [Value.int .u8 0] from (zeros_bts 4096).symm]; exact OwnC.whole (by rw [rows_length]; rfl)) hm) (hB.mono hI') (by decide) (by decide)) ?_
          rintro v JC _ hJC ⟨rfl, rfl⟩
          rw [get_zeros, get_supL (right_of _ _ (by decide) (by decide))]
          rw [show chooseP none (some (superOf 1 1)) = (superOf 1 1, 1, true) from rfl]
          conv => whnf
          intro b7
          refine StoreD.st 3 rfl rfl rfl ?_
          exact ⟨[], ⟨_, List.Perm.refl _⟩, rfl, rfl⟩
        · skip
          conv => whnf
          intro b7
          refine Tri.fix 2 rfl fun I' hI' hm => ?_
          refine Tri.free (replay_Choose (l1 := List.replicate 4096 0) (Rds.of_own (cap := 4096) (by show OwnC _ 1 _ _ _ _; rw [show bts (List.replicate 4096 0) = rows 4096 [Value.int .u8 0] from (zeros_bts 4096).symm]; exact OwnC.whole (by rw [rows_length]; rfl)) hm) (hB.mono hI') (by decide) (by decide)) ?_
          rintro v JC _ hJC ⟨rfl, rfl⟩
          rw [get_zeros, get_supL (right_of _ _ (by decide) (by decide))]
          rw [show chooseP none (some (superOf 1 1)) = (superOf 1 1, 1, true) from rfl]
          refine StoreD.st 3 rfl rfl rfl ?_
          exact ⟨[], ⟨_, List.Perm.refl _⟩, rfl, rfl⟩
      · skip
        conv => whnf
        intro b7
        refine Tri.free (law_bytes 1 1 (right_of _ _ (by decide) (by decide)) _) ?_
        rintro v JB _ hJB ⟨aB, cB, rfl, hB⟩
        refine Tri.fix 2 rfl fun I' hI' hm => ?_
        refine Tri.free (replay_Choose (l1 := List.replicate 4096 0) (Rds.of_own (cap := 4096) (by show OwnC _ 1 _ _ _ _; rw [show bts (List.replicate 4096 0) = rows 4096 [Value.int .u8 0] from (zeros_bts 4096).symm]; exact OwnC.whole (by rw [rows_length]; rfl)) hm) (hB.mono hI') (by decide) (by decide)) ?_
        rintro v JC _ hJC ⟨rfl, rfl⟩
        rw [get_zeros, get_supL (right_of _ _ (by decide) (by decide))]
        rw [show chooseP none (some (superOf 1 1)) = (superOf 1 1, 1, true) from rfl]
        refine StoreD.st 3 rfl rfl rfl ?_
        exact ⟨[], ⟨_, List.Perm.refl _⟩, rfl, rfl⟩
    · skip
      refine And.intro ?_ ?_
      · skip
        refine Tri.free (law_bytes 1 1 (right_of _ _ (by decide) (by decide)) _) ?_
        rintro v JB _ hJB ⟨aB, cB, rfl, hB⟩
        refine And.intro ?_ ?_
        · skip
          refine makeD tabOk rfl rfl rfl 4096 4096 rfl rfl (Nat.le_refl _) (by show 1 * 4096 ≤ _; decide) (by decide) (by show 4096 * 1 ≤ _; decide) rfl (by decide) ?_
          intro bM
          refine And.intro ?_ ?_
          · skip
            refine Tri.fix 2 rfl fun I' hI' hm => ?_
            refine Tri.free (replay_Choose (l1 := List.replicate 4096 0) (Rds.of_own (cap := 4096) (by show OwnC _ 1 _ _ _ _; rw [show bts (List.replicate 4096 0) = rows 4096 [Value.int .u8 0] from (zeros_bts 4096).symm]; exact OwnC.whole (by rw [rows_length]; rfl)) hm) (hB.mono hI') (by decide) (by decide)) ?_
            rintro v JC _ hJC ⟨rfl, rfl⟩
            rw [get_zeros, get_supL (right_of _ _ (by decide) (by decide))]
            rw [show chooseP none (some (superOf 1 1)) = (superOf 1 1, 1, true) from rfl]
            conv => whnf
            intro b7
            refine StoreD.st 3 rfl rfl rfl ?_
            exact ⟨[], ⟨_, List.Perm.refl _⟩, rfl, rfl⟩
          · skip
            conv => whnf
            intro b7
            refine Tri.fix 2 rfl fun I' hI' hm => ?_
            refine Tri.free (replay_Choose (l1 := List.replicate 4096 0) (Rds.of_own (cap := 4096) (by show OwnC _ 1 _ _ _ _; rw [show bts (List.replicate 4096 0) = rows 4096 [Value.int .u8 0] from (zeros_bts 4096).symm]; exact OwnC.whole (by rw [rows_length]; rfl)) hm) (hB.mono hI') (by decide) (by decide)) ?_
            rintro v JC _ hJC ⟨rfl, rfl⟩
            rw [get_zeros, get_supL (right_of _ _ (by decide) (by decide))]
            rw [show chooseP none (some (superOf 1 1)) = (superOf 1 1, 1, true) from rfl]
            refine StoreD.st 3 rfl rfl rfl ?_
            exact ⟨[], ⟨_, List.Perm.refl _⟩, rfl, rfl⟩
        · skip
          conv => whnf
          intro b7
          refine makeD tabOk rfl rfl rfl 4096 4096 rfl rfl (Nat.le_refl _) (by show 1 * 4096 ≤ _; decide) (by decide) (by show 4096 * 1 ≤ _; decide) rfl (by decide) ?_
          intro bM
          refine Tri.fix 3 rfl fun I' hI' hm => ?_
          refine Tri.free (replay_Choose (l1 := List.replicate 4096 0) (Rds.of_own (cap := 4096) (by show OwnC _ 1 _ _ _ _; rw [show bts (List.replicate 4096 0) = rows 4096 [Value.int .u8 0] from (zeros_bts 4096).symm]; exact OwnC.whole (by rw [rows_length]; rfl)) hm) (hB.mono hI') (by decide) (by decide)) ?_
          rintro v JC _ hJC ⟨rfl, rfl⟩
          rw [get_zeros, get_supL (right_of _ _ (by decide) (by decide))]
          rw [show chooseP none (some (superOf 1 1)) = (superOf 1 1, 1, true) from rfl]
          refine StoreD.st 2 rfl rfl rfl ?_
          exact ⟨[], ⟨_, List.Perm.refl _⟩, rfl, rfl⟩
      · skip
        conv => whnf
        intro b7
        refine And.intro ?_ ?_
        · skip
          refine makeD tabOk rfl rfl rfl 4096 4096 rfl rfl (Nat.le_refl _) (by show 1 * 4096 ≤ _; decide) (by decide) (by show 4096 * 1 ≤ _; decide) rfl (by decide) ?_
          intro bM
          refine Tri.free (law_bytes 1 1 (right_of _ _ (by decide) (by decide)) _) ?_
          rintro v JB _ hJB ⟨aB, cB, rfl, hB⟩
          refine Tri.fix 3 rfl fun I' hI' hm => ?_
          refine Tri.free (replay_Choose (l1 := List.replicate 4096 0) (Rds.of_own (cap := 4096) (by show OwnC _ 1 _ _ _ _; rw [show bts (List.replicate 4096 0) = rows 4096 [Value.int .u8 0] from (zeros_bts 4096).symm]; exact OwnC.whole (by rw [rows_length]; rfl)) hm) (hB.mono hI') (by decide) (by decide)) ?_
          rintro v JC _ hJC ⟨rfl, rfl⟩
          rw [get_zeros, get_supL (right_of _ _ (by decide) (by decide))]
          rw [show chooseP none (some (superOf 1 1)) = (superOf 1 1, 1, true) from rfl]
          refine StoreD.st 2 rfl rfl rfl ?_
          exact ⟨[], ⟨_, List.Perm.refl _⟩, rfl, rfl⟩
        · skip
          refine Tri.free (law_bytes 1 1 (right_of _ _ (by decide) (by decide)) _) ?_
          rintro v JB _ hJB ⟨aB, cB, rfl, hB⟩
          refine makeD tabOk rfl rfl rfl 4096 4096 rfl rfl (Nat.le_refl _) (by show 1 * 4096 ≤ _; decide) (by decide) (by show 4096 * 1 ≤ _; decide) rfl (by decide) ?_
          intro bM
          refine Tri.fix 3 rfl fun I' hI' hm => ?_
          refine Tri.free (replay_Choose (l1 := List.replicate 4096 0) (Rds.of_own (cap := 4096) (by show OwnC _ 1 _ _ _ _; rw [show bts (List.replicate 4096 0) = rows 4096 [Value.int .u8 0] from (zeros_bts 4096).symm]; exact OwnC.whole (by rw [rows_length]; rfl)) hm) (hB.mono hI') (by decide) (by decide)) ?_
          rintro v JC _ hJC ⟨rfl, rfl⟩
          rw [get_zeros, get_supL (right_of _ _ (by decide) (by decide))]
          rw [show chooseP none (some (superOf 1 1)) = (superOf 1 1, 1, true) from rfl]
          refine StoreD.st 2 rfl rfl rfl ?_
          exact ⟨[], ⟨_, List.Perm.refl _⟩, rfl, rfl⟩
  rintro vs g J3 S3 hJ3 ⟨rfl, rfl⟩
  refine Tri.free (law_bytes 1 1 (right_of _ _ (by decide) (by decide)) _) ?_
  rintro v Jd _ hJd ⟨ad, cd, rfl, hd⟩
  refine Tri.free (replay_Choose (l2 := []) hd ⟨rfl, .inl rfl⟩ (by decide) (by decide)) ?_
  rintro v Je _ hJe ⟨rfl, rfl⟩
  rw [get_supL (right_of _ _ (by decide) (by decide)), get_nil]
  rw [show chooseP (some (superOf 1 1)) none = (superOf 1 1, 0, true) from rfl]
  conv => whnf
  intro b10
  repeat (first
    | refine LoadD.own 0 rfl _ rfl rfl ?_
    | refine LoadD.own 1 rfl _ rfl rfl ?_
    | refine LoadD.own 2 rfl _ rfl rfl ?_
    | refine LoadD.own 3 rfl _ rfl rfl ?_
    | refine LoadP.at 0 rfl _ rfl rfl ?_
    | refine LoadP.at 1 rfl _ rfl rfl ?_
    | refine LoadP.at 2 rfl _ rfl rfl ?_
    | refine LoadP.at 3 rfl _ rfl rfl ?_
    | refine StoreD.st 0 rfl rfl rfl ?_
    | refine StoreD.st 1 rfl rfl rfl ?_
    | refine StoreD.st 2 rfl rfl rfl ?_
    | refine StoreD.st 3 rfl rfl rfl ?_
    | refine CmpD.yes rfl ?_
    | refine CmpD.yes (by decide) ?_
    | refine CmpD.no (by decide) ?_
    | refine Chk.mk ⟨rfl, trivial⟩ ?_
    | refine Chk.mk ⟨rfl, rfl, trivial⟩ ?_
    | refine Chk.mk ⟨rfl, rfl, rfl, trivial⟩ ?_
    | refine Chk.mk ⟨rfl, rfl, rfl, rfl, trivial⟩ ?_
    | refine Chk.mk ⟨rfl, rfl, rfl, rfl, rfl, trivial⟩ ?_
    | refine Chk.mk ⟨rfl, rfl, rfl, rfl, rfl, rfl, trivial⟩ ?_)
  refine Tri.free (replay_Choose (l1 := []) (l2 := []) ⟨rfl, .inl rfl⟩ ⟨rfl, .inl rfl⟩ (by decide) (by decide)) ?_
  rintro v Jf _ hJf ⟨rfl, rfl⟩
  rw [get_nil]
  rw [show chooseP none none = (Sup.zero, 0, false) from rfl]
  conv => whnf
  intro b13
  repeat (first
    | refine LoadD.own 0 rfl _ rfl rfl ?_
    | refine LoadD.own 1 rfl _ rfl rfl ?_
    | refine LoadD.own 2 rfl _ rfl rfl ?_
    | refine LoadD.own 3 rfl _ rfl rfl ?_
    | refine LoadP.at 0 rfl _ rfl rfl ?_
    | refine LoadP.at 1 rfl _ rfl rfl ?_
    | refine LoadP.at 2 rfl _ rfl rfl ?_
    | refine LoadP.at 3 rfl _ rfl rfl ?_
    | refine StoreD.st 0 rfl rfl rfl ?_
    | refine StoreD.st 1 rfl rfl rfl ?_
    | refine StoreD.st 2 rfl rfl rfl ?_
    | refine StoreD.st 3 rfl rfl rfl ?_
    | refine CmpD.yes rfl ?_
    | refine CmpD.yes (by decide) ?_
    | refine CmpD.no (by decide) ?_
    | refine Chk.mk ⟨rfl, trivial⟩ ?_
    | refine Chk.mk ⟨rfl, rfl, trivial⟩ ?_
    | refine Chk.mk ⟨rfl, rfl, rfl, trivial⟩ ?_
    | refine Chk.mk ⟨rfl, rfl, rfl, rfl, trivial⟩ ?_
    | refine Chk.mk ⟨rfl, rfl, rfl, rfl, rfl, trivial⟩ ?_
    | refine Chk.mk ⟨rfl, rfl, rfl, rfl, rfl, rfl, trivial⟩ ?_)
  refine Tri.free (law_bytes 2 1 (right_of _ _ (by decide) (by decide)) _) ?_
  rintro v Ja3 _ hJa3 ⟨aa3, ca3, rfl, ha3⟩
  refine Tri.free (law_bytes 1 9 (right_of _ _ (by decide) (by decide)) _) ?_
  rintro v Jb3 _ hJb3 ⟨ab3, cb3, rfl, hb3⟩
  refine Tri.free (replay_Choose (ha3.mono hJb3) hb3 (by decide) (by decide)) ?_
  rintro v Jc3 _ hJc3 ⟨rfl, rfl⟩
  rw [get_supL (right_of _ _ (by decide) (by decide)), get_supL (right_of _ _ (by decide) (by decide))]
  rw [show chooseP (some (superOf 2 1)) (some (superOf 1 9)) = (superOf 2 1, 0, true) from by rw [chooseP, if_pos (by decide)]]
  conv => whnf
  intro b16
  repeat (first
    | refine LoadD.own 0 rfl _ rfl rfl ?_
    | refine LoadD.own 1 rfl _ rfl rfl ?_
    | refine LoadD.own 2 rfl _ rfl rfl ?_
    | refine LoadD.own 3 rfl _ rfl rfl ?_
    | refine LoadP.at 0 rfl _ rfl rfl ?_
    | refine LoadP.at 1 rfl _ rfl rfl ?_
    | refine LoadP.at 2 rfl _ rfl rfl ?_
    | refine LoadP.at 3 rfl _ rfl rfl ?_
    | refine StoreD.st 0 rfl rfl rfl ?_
    | refine StoreD.st 1 rfl rfl rfl ?_
    | refine StoreD.st 2 rfl rfl rfl ?_
    | refine StoreD.st 3 rfl rfl rfl ?_
    | refine CmpD.yes rfl ?_
    | refine CmpD.yes (by decide) ?_
    | refine CmpD.no (by decide) ?_
    | refine Chk.mk ⟨rfl, trivial⟩ ?_
    | refine Chk.mk ⟨rfl, rfl, trivial⟩ ?_
    | refine Chk.mk ⟨rfl, rfl, rfl, trivial⟩ ?_
    | refine Chk.mk ⟨rfl, rfl, rfl, rfl, trivial⟩ ?_
    | refine Chk.mk ⟨rfl, rfl, rfl, rfl, rfl, trivial⟩ ?_
    | refine Chk.mk ⟨rfl, rfl, rfl, rfl, rfl, rfl, trivial⟩ ?_)
  refine sup_cmp Sup.zero Sup.zero rfl (.inl rfl) rfl rfl ?_
  repeat (first
    | refine LoadD.own 0 rfl _ rfl rfl ?_
    | refine LoadD.own 1 rfl _ rfl rfl ?_
    | refine LoadD.own 2 rfl _ rfl rfl ?_
    | refine LoadD.own 3 rfl _ rfl rfl ?_
    | refine LoadP.at 0 rfl _ rfl rfl ?_
    | refine LoadP.at 1 rfl _ rfl rfl ?_
    | refine LoadP.at 2 rfl _ rfl rfl ?_
    | refine LoadP.at 3 rfl _ rfl rfl ?_
    | refine StoreD.st 0 rfl rfl rfl ?_
    | refine StoreD.st 1 rfl rfl rfl ?_
    | refine StoreD.st 2 rfl rfl rfl ?_
    | refine StoreD.st 3 rfl rfl rfl ?_
    | refine CmpD.yes rfl ?_
    | refine CmpD.yes (by decide) ?_
    | refine CmpD.no (by decide) ?_
    | refine Chk.mk ⟨rfl, trivial⟩ ?_
    | refine Chk.mk ⟨rfl, rfl, trivial⟩ ?_
    | refine Chk.mk ⟨rfl, rfl, rfl, trivial⟩ ?_
    | refine Chk.mk ⟨rfl, rfl, rfl, rfl, trivial⟩ ?_
    | refine Chk.mk ⟨rfl, rfl, rfl, rfl, rfl, trivial⟩ ?_
    | refine Chk.mk ⟨rfl, rfl, rfl, rfl, rfl, rfl, trivial⟩ ?_)
  conv => whnf
  intro b122
  have hX : 64 ≤ (layOf 64).b ∧ (layOf 64).b ≤ 512 ∧ layOf 64 = layOf (layOf 64).b.toNat := ⟨by decide, by decide, rfl⟩
  refine CodeF.loopD [19, 122, 123, 124] (fun vs J' S' => ∃ (i : Nat), i ≤ 4 ∧ vs = [.bool true, .slice (some ⟨b122, 0, none⟩) 4 4, .int .i64 4, .int .i64 i] ∧ S' = [[(b122, row [.int .i64 17, .int .i64 64, .int .i64 0, .int .i64 (-1)] 3)]])
    (fun vs _ _ => match vs with | [_, _, _, .int _ i] => ((4 : Int) - i).toNat | _ => 0) ?_ ?_
  · exact ⟨_, Drop.pick [3] _ rfl, 0, by omega, rfl, rfl⟩
  rintro vs g2 J4 S4 hJ4 ⟨i, hi, rfl, rfl⟩
  refine CmpD.split (fun c1 => ?_) (fun c1 => ?_)
  · have h4 : i = 0 ∨ i = 1 ∨ i = 2 ∨ i = 3 := by omega
    rcases h4 with rfl | rfl | rfl | rfl
    all_goals
      refine Chk.mk (by decide) ?_
      refine LoadD.own 0 rfl _ rfl rfl ?_
      refine Tri.free (law_layout64 _) ?_
      rintro v J5 _ hJ5 ⟨rfl, rfl⟩
      refine Tri.free (law_made _ 1 _) ?_
      rintro v J6 _ hJ6 ⟨aM, rfl, hM⟩
      conv => whnf
      intro b132
      repeat (first
        | refine LoadD.own 0 rfl _ rfl rfl ?_
        | refine LoadD.own 1 rfl _ rfl rfl ?_
        | refine LoadD.own 2 rfl _ rfl rfl ?_
        | refine LoadP.at 0 rfl _ rfl rfl ?_
        | refine LoadP.at 1 rfl _ rfl rfl ?_
        | refine LoadP.at 2 rfl _ rfl rfl ?_
        | refine StoreD.st 0 rfl rfl rfl ?_
        | refine StoreD.st 1 rfl rfl rfl ?_
        | refine StoreD.st 2 rfl rfl rfl ?_
        | refine CmpD.yes rfl ?_
        | refine CmpD.yes (by decide) ?_
        | refine CmpD.no (by decide) ?_
        | refine Chk.mk ⟨rfl, trivial⟩ ?_
        | refine Chk.mk ⟨rfl, rfl, trivial⟩ ?_
        | refine Chk.mk ⟨rfl, rfl, rfl, trivial⟩ ?_
        | refine Chk.mk ⟨rfl, rfl, rfl, rfl, trivial⟩ ?_
        | refine Chk.mk ⟨rfl, rfl, rfl, rfl, rfl, trivial⟩ ?_
        | refine Chk.mk ⟨rfl, rfl, rfl, rfl, rfl, rfl, trivial⟩ ?_)
      conv => whnf
      intro b134
      refine Tri.mono (home_any (one_grp (k1 := 1) (k2 := 2) rfl rfl hM) (by simp) (by simp [allI]) (by intro g hg; simp [allI] at hg; subst hg; simp) (layOf 64)) ?_
      rintro v J7 S7 hJ7 (⟨h, _⟩ | ⟨_, _, rfl, rfl⟩ | ⟨_, h, _⟩)
      · exact absurd hX h
      · repeat (first
          | refine LoadD.own 0 rfl _ rfl rfl ?_
          | refine LoadD.own 1 rfl _ rfl rfl ?_
          | refine LoadD.own 2 rfl _ rfl rfl ?_
          | refine LoadP.at 0 rfl _ rfl rfl ?_
          | refine LoadP.at 1 rfl _ rfl rfl ?_
          | refine LoadP.at 2 rfl _ rfl rfl ?_
          | refine StoreD.st 0 rfl rfl rfl ?_
          | refine StoreD.st 1 rfl rfl rfl ?_
          | refine StoreD.st 2 rfl rfl rfl ?_
          | refine CmpD.yes rfl ?_
          | refine CmpD.yes (by decide) ?_
          | refine CmpD.no (by decide) ?_
          | refine Chk.mk ⟨rfl, trivial⟩ ?_
          | refine Chk.mk ⟨rfl, rfl, trivial⟩ ?_
          | refine Chk.mk ⟨rfl, rfl, rfl, trivial⟩ ?_
          | refine Chk.mk ⟨rfl, rfl, rfl, rfl, trivial⟩ ?_
          | refine Chk.mk ⟨rfl, rfl, rfl, rfl, rfl, trivial⟩ ?_
          | refine Chk.mk ⟨rfl, rfl, rfl, rfl, rfl, rfl, trivial⟩ ?_)
        refine ToD.i64 (by decide) (by decide) ?_
        first
          | exact ⟨_, Drop.pick [0] _ rfl, ⟨1, by omega, rfl, rfl⟩, by show (4 - (((0 : Nat) : Int) + 1)).toNat < (4 - ((0 : Nat) : Int)).toNat; decide⟩
          | exact ⟨_, Drop.pick [0] _ rfl, ⟨2, by omega, rfl, rfl⟩, by show (4 - (((1 : Nat) : Int) + 1)).toNat < (4 - ((1 : Nat) : Int)).toNat; decide⟩
          | exact ⟨_, Drop.pick [0] _ rfl, ⟨3, by omega, rfl, rfl⟩, by show (4 - (((2 : Nat) : Int) + 1)).toNat < (4 - ((2 : Nat) : Int)).toNat; decide⟩
          | exact ⟨_, Drop.pick [0] _ rfl, ⟨4, by omega, rfl, rfl⟩, by show (4 - (((3 : Nat) : Int) + 1)).toNat < (4 - ((3 : Nat) : Int)).toNat; decide⟩
      · exact absurd h (home_bad (by dsimp only; decide))
  obtain rfl : i = 4 := by omega
  refine Tri.mono (home_any (aG := none) (capG := 0) (l := []) ⟨⟨rfl, .inl rfl⟩, by simp⟩ (by simp) (by simp [allI]) (by simp [allI]) ⟨0, 0, 0, 0, 0, 0, 0⟩) ?_
  rintro v J15 S15 hJ15 (⟨_, rfl, rfl⟩ | ⟨⟨h, _⟩, _⟩ | ⟨⟨h, _⟩, _⟩)
  rotate_left
  · exact absurd h (by decide)
  · exact absurd h (by decide)
  repeat (first
    | refine LoadD.own 0 rfl _ rfl rfl ?_
    | refine LoadD.own 1 rfl _ rfl rfl ?_
    | refine LoadP.at 0 rfl _ rfl rfl ?_
    | refine LoadP.at 1 rfl _ rfl rfl ?_
    | refine StoreD.st 0 rfl rfl rfl ?_
    | refine StoreD.st 1 rfl rfl rfl ?_
    | refine CmpD.yes rfl ?_
    | refine CmpD.yes (by decide) ?_
    | refine CmpD.no (by decide) ?_
    | refine Chk.mk ⟨rfl, trivial⟩ ?_
    | refine Chk.mk ⟨rfl, rfl, trivial⟩ ?_
    | refine Chk.mk ⟨rfl, rfl, rfl, trivial⟩ ?_
    | refine Chk.mk ⟨rfl, rfl, rfl, rfl, trivial⟩ ?_
    | refine Chk.mk ⟨rfl, rfl, rfl, rfl, rfl, trivial⟩ ?_
    | refine Chk.mk ⟨rfl, rfl, rfl, rfl, rfl, rfl, trivial⟩ ?_)
  refine Tri.free (law_layout64 _) ?_
  rintro v J16 _ hJ16 ⟨rfl, rfl⟩
  refine Tri.free (law_made 18 1 _) ?_
  rintro v J17 _ hJ17 ⟨aM, rfl, hM⟩
  refine Tri.free (law_made 63 1 _) ?_
  rintro v J18 _ hJ18 ⟨aN, rfl, hN⟩
  conv => whnf
  intro b150
  repeat (first
    | refine LoadD.own 0 rfl _ rfl rfl ?_
    | refine LoadD.own 1 rfl _ rfl rfl ?_
    | refine LoadD.own 2 rfl _ rfl rfl ?_
    | refine LoadP.at 0 rfl _ rfl rfl ?_
    | refine LoadP.at 1 rfl _ rfl rfl ?_
    | refine LoadP.at 2 rfl _ rfl rfl ?_
    | refine StoreD.st 0 rfl rfl rfl ?_
    | refine StoreD.st 1 rfl rfl rfl ?_
    | refine StoreD.st 2 rfl rfl rfl ?_
    | refine CmpD.yes rfl ?_
    | refine CmpD.yes (by decide) ?_
    | refine CmpD.no (by decide) ?_
    | refine Chk.mk ⟨rfl, trivial⟩ ?_
    | refine Chk.mk ⟨rfl, rfl, trivial⟩ ?_
    | refine Chk.mk ⟨rfl, rfl, rfl, trivial⟩ ?_
    | refine Chk.mk ⟨rfl, rfl, rfl, rfl, trivial⟩ ?_
    | refine Chk.mk ⟨rfl, rfl, rfl, rfl, rfl, trivial⟩ ?_
    | refine Chk.mk ⟨rfl, rfl, rfl, rfl, rfl, rfl, trivial⟩ ?_)
  conv => whnf
  intro b152
  refine Tri.mono (home_few (two_grp (k1 := 1) (k2 := 2) rfl rfl (hM.mono hJ18) hN) (by simp) (by simp [allI]) (by intro g hg; simp [allI] at hg; rcases hg with rfl | rfl <;> simp) (layOf 64) hX ?_) ?_
  · intro g hg
    rw [lay64.1, lay64.2]
    have hg' : g = (18, madeL 1 4096) ∨ g = (63, madeL 1 4096) := by simpa [allP, Img.pr] using hg
    rcases hg' with rfl | rfl <;> exact ⟨by dsimp only; decide, by dsimp only; decide⟩
  rintro v J19 S19 hJ19 ⟨aO, capO, rfl, rfl⟩
  rw [show homeP (allP [⟨0, 0, some ⟨b150, 0, none⟩, 2, [⟨18, aM, 4096, 4096, madeL 1 4096⟩, ⟨63, aN, 4096, 4096, madeL 1 4096⟩]⟩]) = [(18, madeL 1 4096), (63, madeL 1 4096)] from home_two _ _, show [((18 : Int), madeL 1 4096), (63, madeL 1 4096)].length = 2 from rfl]
  repeat (first
    | refine LoadD.own 0 rfl _ rfl rfl ?_
    | refine LoadD.own 1 rfl _ rfl rfl ?_
    | refine LoadD.own 2 rfl _ rfl rfl ?_
    | refine LoadP.at 0 rfl _ rfl rfl ?_
    | refine LoadP.at 1 rfl _ rfl rfl ?_
    | refine LoadP.at 2 rfl _ rfl rfl ?_
    | refine StoreD.st 0 rfl rfl rfl ?_
    | refine StoreD.st 1 rfl rfl rfl ?_
    | refine StoreD.st 2 rfl rfl rfl ?_
    | refine CmpD.yes rfl ?_
    | refine CmpD.yes (by decide) ?_
    | refine CmpD.no (by decide) ?_
    | refine Chk.mk ⟨rfl, trivial⟩ ?_
    | refine Chk.mk ⟨rfl, rfl, trivial⟩ ?_
    | refine Chk.mk ⟨rfl, rfl, rfl, trivial⟩ ?_
    | refine Chk.mk ⟨rfl, rfl, rfl, rfl, trivial⟩ ?_
    | refine Chk.mk ⟨rfl, rfl, rfl, rfl, rfl, trivial⟩ ?_
    | refine Chk.mk ⟨rfl, rfl, rfl, rfl, rfl, rfl, trivial⟩ ?_)
  refine Tri.mono (dk_New _ 64 (by omega)) ?_
  rintro v J20 S20 hJ20 ⟨bD, ch0, rfl, hD0, rfl⟩
  repeat (first
    | refine LoadD.own 0 rfl _ rfl rfl ?_
    | refine LoadD.own 1 rfl _ rfl rfl ?_
    | refine LoadD.own 2 rfl _ rfl rfl ?_
    | refine LoadP.at 0 rfl _ rfl rfl ?_
    | refine LoadP.at 1 rfl _ rfl rfl ?_
    | refine LoadP.at 2 rfl _ rfl rfl ?_
    | refine StoreD.st 0 rfl rfl rfl ?_
    | refine StoreD.st 1 rfl rfl rfl ?_
    | refine StoreD.st 2 rfl rfl rfl ?_
    | refine CmpD.yes rfl ?_
    | refine CmpD.yes (by decide) ?_
    | refine CmpD.no (by decide) ?_
    | refine Chk.mk ⟨rfl, trivial⟩ ?_
    | refine Chk.mk ⟨rfl, rfl, trivial⟩ ?_
    | refine Chk.mk ⟨rfl, rfl, rfl, trivial⟩ ?_
    | refine Chk.mk ⟨rfl, rfl, rfl, rfl, trivial⟩ ?_
    | refine Chk.mk ⟨rfl, rfl, rfl, rfl, rfl, trivial⟩ ?_
    | refine Chk.mk ⟨rfl, rfl, rfl, rfl, rfl, rfl, trivial⟩ ?_)
  refine Tri.free (law_made 30 2 _) ?_
  rintro v J21 _ hJ21 ⟨aP, rfl, hP⟩
  conv => whnf
  intro b162
  repeat (first
    | refine LoadD.own 0 rfl _ rfl rfl ?_
    | refine LoadD.own 1 rfl _ rfl rfl ?_
    | refine LoadD.own 2 rfl _ rfl rfl ?_
    | refine LoadP.at 0 rfl _ rfl rfl ?_
    | refine LoadP.at 1 rfl _ rfl rfl ?_
    | refine LoadP.at 2 rfl _ rfl rfl ?_
    | refine StoreD.st 0 rfl rfl rfl ?_
    | refine StoreD.st 1 rfl rfl rfl ?_
    | refine StoreD.st 2 rfl rfl rfl ?_
    | refine CmpD.yes rfl ?_
    | refine CmpD.yes (by decide) ?_
    | refine CmpD.no (by decide) ?_
    | refine Chk.mk ⟨rfl, trivial⟩ ?_
    | refine Chk.mk ⟨rfl, rfl, trivial⟩ ?_
    | refine Chk.mk ⟨rfl, rfl, rfl, trivial⟩ ?_
    | refine Chk.mk ⟨rfl, rfl, rfl, rfl, trivial⟩ ?_
    | refine Chk.mk ⟨rfl, rfl, rfl, rfl, rfl, trivial⟩ ?_
    | refine Chk.mk ⟨rfl, rfl, rfl, rfl, rfl, rfl, trivial⟩ ?_)
  refine Tri.free (law_of 1 2 _) ?_
  rintro v J22 _ hJ22 ⟨rfl, rfl⟩
  repeat (first
    | refine LoadD.own 0 rfl _ rfl rfl ?_
    | refine LoadD.own 1 rfl _ rfl rfl ?_
    | refine LoadD.own 2 rfl _ rfl rfl ?_
    | refine LoadP.at 0 rfl _ rfl rfl ?_
    | refine LoadP.at 1 rfl _ rfl rfl ?_
    | refine LoadP.at 2 rfl _ rfl rfl ?_
    | refine StoreD.st 0 rfl rfl rfl ?_
    | refine StoreD.st 1 rfl rfl rfl ?_
    | refine StoreD.st 2 rfl rfl rfl ?_
    | refine CmpD.yes rfl ?_
    | refine CmpD.yes (by decide) ?_
    | refine CmpD.no (by decide) ?_
    | refine Chk.mk ⟨rfl, trivial⟩ ?_
    | refine Chk.mk ⟨rfl, rfl, trivial⟩ ?_
    | refine Chk.mk ⟨rfl, rfl, rfl, trivial⟩ ?_
    | refine Chk.mk ⟨rfl, rfl, rfl, rfl, trivial⟩ ?_
    | refine Chk.mk ⟨rfl, rfl, rfl, rfl, rfl, trivial⟩ ?_
    | refine Chk.mk ⟨rfl, rfl, rfl, rfl, rfl, rfl, trivial⟩ ?_)
  obtain ⟨d1, hdo, c1, n1, w1, k1, r1, r30⟩ := num_do (superOf 1 2) (right_of _ _ (by decide) (by decide)) (madeL 2 4096) (madeL_length _ _)
  refine Tri.fix 1 rfl fun J23 hJ23 hm => ?_
  refine Tri.frame1 0 rfl (dk_Do (hD0.mono (Imm.le_trans hJ21 hJ23)) 0 (DSt.of_few _) (some ⟨b162, 0, none⟩) 1 [⟨30, aP, 4096, 4096, madeL 2 4096⟩] (imgs_fixed (by unfold In64; omega) hm (hP.mono hJ23)) (by simp) (superOf 1 2) 1) ?_
  rw [show List.map Img.pr [⟨30, aP, 4096, 4096, madeL 2 4096⟩] = [(30, madeL 2 4096)] from rfl, hdo]
  rintro v J24 A' hJ24 ⟨rfl, ch1, hD1, rfl⟩
  refine ⟨_, rfl, ?_⟩
  dsimp only at hD1
  have few : d1.Few 2 := ⟨by rw [w1]; simp, by rw [k1]; decide, by rw [k1]; decide⟩
  repeat (first
    | refine LoadD.own 0 rfl _ rfl rfl ?_
    | refine LoadD.own 1 rfl _ rfl rfl ?_
    | refine LoadD.own 2 rfl _ rfl rfl ?_
    | refine LoadP.at 0 rfl _ rfl rfl ?_
    | refine LoadP.at 1 rfl _ rfl rfl ?_
    | refine LoadP.at 2 rfl _ rfl rfl ?_
    | refine StoreD.st 0 rfl rfl rfl ?_
    | refine StoreD.st 1 rfl rfl rfl ?_
    | refine StoreD.st 2 rfl rfl rfl ?_
    | refine CmpD.yes rfl ?_
    | refine CmpD.yes (by decide) ?_
    | refine CmpD.no (by decide) ?_
    | refine Chk.mk ⟨rfl, trivial⟩ ?_
    | refine Chk.mk ⟨rfl, rfl, trivial⟩ ?_
    | refine Chk.mk ⟨rfl, rfl, rfl, trivial⟩ ?_
    | refine Chk.mk ⟨rfl, rfl, rfl, rfl, trivial⟩ ?_
    | refine Chk.mk ⟨rfl, rfl, rfl, rfl, rfl, trivial⟩ ?_
    | refine Chk.mk ⟨rfl, rfl, rfl, rfl, rfl, rfl, trivial⟩ ?_)
  refine Tri.frame (dk_Read hD1 1) [0] rfl rfl ?_
  rw [r1]
  rintro v J25 A' hJ25 ⟨aB, capB, chB, rfl, hB, rfl, rfl⟩
  refine ⟨by simp, ?_⟩
  repeat (first
    | refine LoadD.own 0 rfl _ rfl rfl ?_
    | refine LoadD.own 1 rfl _ rfl rfl ?_
    | refine LoadD.own 2 rfl _ rfl rfl ?_
    | refine LoadP.at 0 rfl _ rfl rfl ?_
    | refine LoadP.at 1 rfl _ rfl rfl ?_
    | refine LoadP.at 2 rfl _ rfl rfl ?_
    | refine StoreD.st 0 rfl rfl rfl ?_
    | refine StoreD.st 1 rfl rfl rfl ?_
    | refine StoreD.st 2 rfl rfl rfl ?_
    | refine CmpD.yes rfl ?_
    | refine CmpD.yes (by decide) ?_
    | refine CmpD.no (by decide) ?_
    | refine Chk.mk ⟨rfl, trivial⟩ ?_
    | refine Chk.mk ⟨rfl, rfl, trivial⟩ ?_
    | refine Chk.mk ⟨rfl, rfl, rfl, trivial⟩ ?_
    | refine Chk.mk ⟨rfl, rfl, rfl, rfl, trivial⟩ ?_
    | refine Chk.mk ⟨rfl, rfl, rfl, rfl, rfl, trivial⟩ ?_
    | refine Chk.mk ⟨rfl, rfl, rfl, rfl, rfl, rfl, trivial⟩ ?_)
  refine Tri.frame (dk_Read hD1 30) [0] rfl rfl ?_
  rw [r30]
  rintro v J26 A' hJ26 ⟨aC, capC, chC, rfl, hC, rfl, rfl⟩
  refine ⟨by simp, ?_⟩
  repeat (first
    | refine LoadD.own 0 rfl _ rfl rfl ?_
    | refine LoadD.own 1 rfl _ rfl rfl ?_
    | refine LoadD.own 2 rfl _ rfl rfl ?_
    | refine LoadD.own 3 rfl _ rfl rfl ?_
    | refine LoadP.at 0 rfl _ rfl rfl ?_
    | refine LoadP.at 1 rfl _ rfl rfl ?_
    | refine LoadP.at 2 rfl _ rfl rfl ?_
    | refine LoadP.at 3 rfl _ rfl rfl ?_
    | refine StoreD.st 0 rfl rfl rfl ?_
    | refine StoreD.st 1 rfl rfl rfl ?_
    | refine StoreD.st 2 rfl rfl rfl ?_
    | refine StoreD.st 3 rfl rfl rfl ?_
    | refine CmpD.yes rfl ?_
    | refine CmpD.yes (by decide) ?_
    | refine CmpD.no (by decide) ?_
    | refine Chk.mk ⟨rfl, trivial⟩ ?_
    | refine Chk.mk ⟨rfl, rfl, trivial⟩ ?_
    | refine Chk.mk ⟨rfl, rfl, rfl, trivial⟩ ?_
    | refine Chk.mk ⟨rfl, rfl, rfl, rfl, trivial⟩ ?_
    | refine Chk.mk ⟨rfl, rfl, rfl, rfl, rfl, trivial⟩ ?_
    | refine Chk.mk ⟨rfl, rfl, rfl, rfl, rfl, rfl, trivial⟩ ?_)
  refine ToD.to 0 rfl ?_
  refine ToD.to 0 rfl ?_
  refine ToD.to 0 rfl ?_
  repeat (first
    | refine LoadD.own 0 rfl _ rfl rfl ?_
    | refine LoadD.own 1 rfl _ rfl rfl ?_
    | refine LoadD.own 2 rfl _ rfl rfl ?_
    | refine LoadD.own 3 rfl _ rfl rfl ?_
    | refine LoadP.at 0 rfl _ rfl rfl ?_
    | refine LoadP.at 1 rfl _ rfl rfl ?_
    | refine LoadP.at 2 rfl _ rfl rfl ?_
    | refine LoadP.at 3 rfl _ rfl rfl ?_
    | refine StoreD.st 0 rfl rfl rfl ?_
    | refine StoreD.st 1 rfl rfl rfl ?_
    | refine StoreD.st 2 rfl rfl rfl ?_
    | refine StoreD.st 3 rfl rfl rfl ?_
    | refine CmpD.yes rfl ?_
    | refine CmpD.yes (by decide) ?_
    | refine CmpD.no (by decide) ?_
    | refine Chk.mk ⟨rfl, trivial⟩ ?_
    | refine Chk.mk ⟨rfl, rfl, trivial⟩ ?_
    | refine Chk.mk ⟨rfl, rfl, rfl, trivial⟩ ?_
    | refine Chk.mk ⟨rfl, rfl, rfl, rfl, trivial⟩ ?_
    | refine Chk.mk ⟨rfl, rfl, rfl, rfl, rfl, trivial⟩ ?_
    | refine Chk.mk ⟨rfl, rfl, rfl, rfl, rfl, rfl, trivial⟩ ?_)
  refine Tri.free (law_bytes 1 2 (right_of _ _ (by decide) (by decide)) _) ?_
  rintro v J27 _ hJ27 ⟨aE, cE, rfl, hE⟩
  repeat (first
    | refine LoadD.own 0 rfl _ rfl rfl ?_
    | refine LoadD.own 1 rfl _ rfl rfl ?_
    | refine LoadD.own 2 rfl _ rfl rfl ?_
    | refine LoadD.own 3 rfl _ rfl rfl ?_
    | refine LoadP.at 0 rfl _ rfl rfl ?_
    | refine LoadP.at 1 rfl _ rfl rfl ?_
    | refine LoadP.at 2 rfl _ rfl rfl ?_
    | refine LoadP.at 3 rfl _ rfl rfl ?_
    | refine StoreD.st 0 rfl rfl rfl ?_
    | refine StoreD.st 1 rfl rfl rfl ?_
    | refine StoreD.st 2 rfl rfl rfl ?_
    | refine StoreD.st 3 rfl rfl rfl ?_
    | refine CmpD.yes rfl ?_
    | refine CmpD.yes (by decide) ?_
    | refine CmpD.no (by decide) ?_
    | refine Chk.mk ⟨rfl, trivial⟩ ?_
    | refine Chk.mk ⟨rfl, rfl, trivial⟩ ?_
    | refine Chk.mk ⟨rfl, rfl, rfl, trivial⟩ ?_
    | refine Chk.mk ⟨rfl, rfl, rfl, rfl, trivial⟩ ?_
    | refine Chk.mk ⟨rfl, rfl, rfl, rfl, rfl, trivial⟩ ?_
    | refine Chk.mk ⟨rfl, rfl, rfl, rfl, rfl, rfl, trivial⟩ ?_)
  refine Tri.mono (same_bytes (hB.slC1 2 rfl) hE.slC) ?_
  rintro v J28 S28 hJ28 ⟨rfl, rfl, rfl⟩
  rw [decide_eq_true rfl]
  repeat (first
    | refine LoadD.own 0 rfl _ rfl rfl ?_
    | refine LoadD.own 1 rfl _ rfl rfl ?_
    | refine LoadD.own 2 rfl _ rfl rfl ?_
    | refine LoadD.own 3 rfl _ rfl rfl ?_
    | refine LoadP.at 0 rfl _ rfl rfl ?_
    | refine LoadP.at 1 rfl _ rfl rfl ?_
    | refine LoadP.at 2 rfl _ rfl rfl ?_
    | refine LoadP.at 3 rfl _ rfl rfl ?_
    | refine StoreD.st 0 rfl rfl rfl ?_
    | refine StoreD.st 1 rfl rfl rfl ?_
    | refine StoreD.st 2 rfl rfl rfl ?_
    | refine StoreD.st 3 rfl rfl rfl ?_
    | refine CmpD.yes rfl ?_
    | refine CmpD.yes (by decide) ?_
    | refine CmpD.no (by decide) ?_
    | refine Chk.mk ⟨rfl, trivial⟩ ?_
    | refine Chk.mk ⟨rfl, rfl, trivial⟩ ?_
    | refine Chk.mk ⟨rfl, rfl, rfl, trivial⟩ ?_
    | refine Chk.mk ⟨rfl, rfl, rfl, rfl, trivial⟩ ?_
    | refine Chk.mk ⟨rfl, rfl, rfl, rfl, rfl, trivial⟩ ?_
    | refine Chk.mk ⟨rfl, rfl, rfl, rfl, rfl, rfl, trivial⟩ ?_)
  refine Tri.free (made 2 4096 (by omega) _) ?_
  rintro v J29 _ hJ29 ⟨aF, rfl, hF⟩
  repeat (first
    | refine LoadD.own 0 rfl _ rfl rfl ?_
    | refine LoadD.own 1 rfl _ rfl rfl ?_
    | refine LoadD.own 2 rfl _ rfl rfl ?_
    | refine LoadD.own 3 rfl _ rfl rfl ?_
    | refine LoadP.at 0 rfl _ rfl rfl ?_
    | refine LoadP.at 1 rfl _ rfl rfl ?_
    | refine LoadP.at 2 rfl _ rfl rfl ?_
    | refine LoadP.at 3 rfl _ rfl rfl ?_
    | refine StoreD.st 0 rfl rfl rfl ?_
    | refine StoreD.st 1 rfl rfl rfl ?_
    | refine StoreD.st 2 rfl rfl rfl ?_
    | refine StoreD.st 3 rfl rfl rfl ?_
    | refine CmpD.yes rfl ?_
    | refine CmpD.yes (by decide) ?_
    | refine CmpD.no (by decide) ?_
    | refine Chk.mk ⟨rfl, trivial⟩ ?_
    | refine Chk.mk ⟨rfl, rfl, trivial⟩ ?_
    | refine Chk.mk ⟨rfl, rfl, rfl, trivial⟩ ?_
    | refine Chk.mk ⟨rfl, rfl, rfl, rfl, trivial⟩ ?_
    | refine Chk.mk ⟨rfl, rfl, rfl, rfl, rfl, trivial⟩ ?_
    | refine Chk.mk ⟨rfl, rfl, rfl, rfl, rfl, rfl, trivial⟩ ?_)
  refine Tri.mono (same_bytes (hC.slC1 3 rfl) hF.slC) ?_
  rintro v J30 S30 hJ30 ⟨rfl, rfl, rfl⟩
  rw [decide_eq_true rfl]
  repeat (first
    | refine LoadD.own 0 rfl _ rfl rfl ?_
    | refine LoadD.own 1 rfl _ rfl rfl ?_
    | refine LoadD.own 2 rfl _ rfl rfl ?_
    | refine LoadD.own 3 rfl _ rfl rfl ?_
    | refine LoadP.at 0 rfl _ rfl rfl ?_
    | refine LoadP.at 1 rfl _ rfl rfl ?_
    | refine LoadP.at 2 rfl _ rfl rfl ?_
    | refine LoadP.at 3 rfl _ rfl rfl ?_
    | refine StoreD.st 0 rfl rfl rfl ?_
    | refine StoreD.st 1 rfl rfl rfl ?_
    | refine StoreD.st 2 rfl rfl rfl ?_
    | refine StoreD.st 3 rfl rfl rfl ?_
    | refine CmpD.yes rfl ?_
    | refine CmpD.yes (by decide) ?_
    | refine CmpD.no (by decide) ?_
    | refine Chk.mk ⟨rfl, trivial⟩ ?_
    | refine Chk.mk ⟨rfl, rfl, trivial⟩ ?_
    | refine Chk.mk ⟨rfl, rfl, rfl, trivial⟩ ?_
    | refine Chk.mk ⟨rfl, rfl, rfl, rfl, trivial⟩ ?_
    | refine Chk.mk ⟨rfl, rfl, rfl, rfl, rfl, trivial⟩ ?_
    | refine Chk.mk ⟨rfl, rfl, rfl, rfl, rfl, rfl, trivial⟩ ?_)
  have hD2 := hD1.mono (Imm.le_trans hJ27 hJ29)
  refine Tri.frame1 0 rfl (dk_Writes hD2) ?_
  rw [k1]
  rintro v J31 A' hJ31 ⟨rfl, rfl, rfl⟩
  refine ⟨_, rfl, ?_⟩
  repeat (first
    | refine LoadD.own 0 rfl _ rfl rfl ?_
    | refine LoadD.own 1 rfl _ rfl rfl ?_
    | refine LoadD.own 2 rfl _ rfl rfl ?_
    | refine LoadD.own 3 rfl _ rfl rfl ?_
    | refine LoadP.at 0 rfl _ rfl rfl ?_
    | refine LoadP.at 1 rfl _ rfl rfl ?_
    | refine LoadP.at 2 rfl _ rfl rfl ?_
    | refine LoadP.at 3 rfl _ rfl rfl ?_
    | refine StoreD.st 0 rfl rfl rfl ?_
    | refine StoreD.st 1 rfl rfl rfl ?_
    | refine StoreD.st 2 rfl rfl rfl ?_
    | refine StoreD.st 3 rfl rfl rfl ?_
    | refine CmpD.yes rfl ?_
    | refine CmpD.yes (by decide) ?_
    | refine CmpD.no (by decide) ?_
    | refine Chk.mk ⟨rfl, trivial⟩ ?_
    | refine Chk.mk ⟨rfl, rfl, trivial⟩ ?_
    | refine Chk.mk ⟨rfl, rfl, rfl, trivial⟩ ?_
    | refine Chk.mk ⟨rfl, rfl, rfl, rfl, trivial⟩ ?_
    | refine Chk.mk ⟨rfl, rfl, rfl, rfl, rfl, trivial⟩ ?_
    | refine Chk.mk ⟨rfl, rfl, rfl, rfl, rfl, rfl, trivial⟩ ?_)
  refine Tri.frame (dk_Pending hD2 (few.mono (by omega))) [0] rfl rfl ?_
  rw [w1]
  rintro v J32 A' hJ32 ⟨aQ, capQ, chQ, rfl, hQ, rfl, rfl⟩
  refine ⟨by simp, ?_⟩
  repeat (first
    | refine LoadD.own 0 rfl _ rfl rfl ?_
    | refine LoadD.own 1 rfl _ rfl rfl ?_
    | refine LoadD.own 2 rfl _ rfl rfl ?_
    | refine LoadD.own 3 rfl _ rfl rfl ?_
    | refine LoadP.at 0 rfl _ rfl rfl ?_
    | refine LoadP.at 1 rfl _ rfl rfl ?_
    | refine LoadP.at 2 rfl _ rfl rfl ?_
    | refine LoadP.at 3 rfl _ rfl rfl ?_
    | refine StoreD.st 0 rfl rfl rfl ?_
    | refine StoreD.st 1 rfl rfl rfl ?_
    | refine StoreD.st 2 rfl rfl rfl ?_
    | refine StoreD.st 3 rfl rfl rfl ?_
    | refine CmpD.yes rfl ?_
    | refine CmpD.yes (by decide) ?_
    | refine CmpD.no (by decide) ?_
    | refine Chk.mk ⟨rfl, trivial⟩ ?_
    | refine Chk.mk ⟨rfl, rfl, trivial⟩ ?_
    | refine Chk.mk ⟨rfl, rfl, rfl, trivial⟩ ?_
    | refine Chk.mk ⟨rfl, rfl, rfl, rfl, trivial⟩ ?_
    | refine Chk.mk ⟨rfl, rfl, rfl, rfl, rfl, trivial⟩ ?_
    | refine Chk.mk ⟨rfl, rfl, rfl, rfl, rfl, rfl, trivial⟩ ?_)
  refine Tri.free (law_of 1 1 _) ?_
  rintro v Jl1 _ hJl1 ⟨rfl, rfl⟩
  repeat (first
    | refine LoadD.own 0 rfl _ rfl rfl ?_
    | refine LoadD.own 1 rfl _ rfl rfl ?_
    | refine LoadD.own 2 rfl _ rfl rfl ?_
    | refine LoadD.own 3 rfl _ rfl rfl ?_
    | refine LoadD.own 4 rfl _ rfl rfl ?_
    | refine LoadP.at 0 rfl _ rfl rfl ?_
    | refine LoadP.at 1 rfl _ rfl rfl ?_
    | refine LoadP.at 2 rfl _ rfl rfl ?_
    | refine LoadP.at 3 rfl _ rfl rfl ?_
    | refine LoadP.at 4 rfl _ rfl rfl ?_
    | refine StoreD.st 0 rfl rfl rfl ?_
    | refine StoreD.st 1 rfl rfl rfl ?_
    | refine StoreD.st 2 rfl rfl rfl ?_
    | refine StoreD.st 3 rfl rfl rfl ?_
    | refine StoreD.st 4 rfl rfl rfl ?_
    | refine CmpD.yes rfl ?_
    | refine CmpD.yes (by decide) ?_
    | refine CmpD.no (by decide) ?_
    | refine Chk.mk ⟨rfl, trivial⟩ ?_
    | refine Chk.mk ⟨rfl, rfl, trivial⟩ ?_
    | refine Chk.mk ⟨rfl, rfl, rfl, trivial⟩ ?_
    | refine Chk.mk ⟨rfl, rfl, rfl, rfl, trivial⟩ ?_
    | refine Chk.mk ⟨rfl, rfl, rfl, rfl, rfl, trivial⟩ ?_
    | refine Chk.mk ⟨rfl, rfl, rfl, rfl, rfl, rfl, trivial⟩ ?_)
  refine Tri.mono (replay_Do0 (superOf 1 1) 0 _ _) ?_
  rintro v J33 S33 hJ33 ⟨rfl, rfl, rfl⟩
  repeat (first
    | refine LoadD.own 0 rfl _ rfl rfl ?_
    | refine LoadD.own 1 rfl _ rfl rfl ?_
    | refine LoadD.own 2 rfl _ rfl rfl ?_
    | refine LoadD.own 3 rfl _ rfl rfl ?_
    | refine LoadD.own 4 rfl _ rfl rfl ?_
    | refine LoadP.at 0 rfl _ rfl rfl ?_
    | refine LoadP.at 1 rfl _ rfl rfl ?_
    | refine LoadP.at 2 rfl _ rfl rfl ?_
    | refine LoadP.at 3 rfl _ rfl rfl ?_
    | refine LoadP.at 4 rfl _ rfl rfl ?_
    | refine StoreD.st 0 rfl rfl rfl ?_
    | refine StoreD.st 1 rfl rfl rfl ?_
    | refine StoreD.st 2 rfl rfl rfl ?_
    | refine StoreD.st 3 rfl rfl rfl ?_
    | refine StoreD.st 4 rfl rfl rfl ?_
    | refine CmpD.yes rfl ?_
    | refine CmpD.yes (by decide) ?_
    | refine CmpD.no (by decide) ?_
    | refine Chk.mk ⟨rfl, trivial⟩ ?_
    | refine Chk.mk ⟨rfl, rfl, trivial⟩ ?_
    | refine Chk.mk ⟨rfl, rfl, rfl, trivial⟩ ?_
    | refine Chk.mk ⟨rfl, rfl, rfl, rfl, trivial⟩ ?_
    | refine Chk.mk ⟨rfl, rfl, rfl, rfl, rfl, trivial⟩ ?_
    | refine Chk.mk ⟨rfl, rfl, rfl, rfl, rfl, rfl, trivial⟩ ?_)
  refine Tri.free (law_of 0 1 _) ?_
  rintro v Jl2 _ hJl2 ⟨rfl, rfl⟩
  repeat (first
    | refine LoadD.own 0 rfl _ rfl rfl ?_
    | refine LoadD.own 1 rfl _ rfl rfl ?_
    | refine LoadD.own 2 rfl _ rfl rfl ?_
    | refine LoadD.own 3 rfl _ rfl rfl ?_
    | refine LoadD.own 4 rfl _ rfl rfl ?_
    | refine LoadP.at 0 rfl _ rfl rfl ?_
    | refine LoadP.at 1 rfl _ rfl rfl ?_
    | refine LoadP.at 2 rfl _ rfl rfl ?_
    | refine LoadP.at 3 rfl _ rfl rfl ?_
    | refine LoadP.at 4 rfl _ rfl rfl ?_
    | refine StoreD.st 0 rfl rfl rfl ?_
    | refine StoreD.st 1 rfl rfl rfl ?_
    | refine StoreD.st 2 rfl rfl rfl ?_
    | refine StoreD.st 3 rfl rfl rfl ?_
    | refine StoreD.st 4 rfl rfl rfl ?_
    | refine CmpD.yes rfl ?_
    | refine CmpD.yes (by decide) ?_
    | refine CmpD.no (by decide) ?_
    | refine Chk.mk ⟨rfl, trivial⟩ ?_
    | refine Chk.mk ⟨rfl, rfl, trivial⟩ ?_
    | refine Chk.mk ⟨rfl, rfl, rfl, trivial⟩ ?_
    | refine Chk.mk ⟨rfl, rfl, rfl, rfl, trivial⟩ ?_
    | refine Chk.mk ⟨rfl, rfl, rfl, rfl, rfl, trivial⟩ ?_
    | refine Chk.mk ⟨rfl, rfl, rfl, rfl, rfl, rfl, trivial⟩ ?_)
  refine Tri.frame1 0 rfl (dk_Do hD2 2 few none 0 [] ⟨⟨rfl, .inl rfl⟩, by simp⟩ (by decide) (superOf 0 1) 0) ?_
  rw [do_wrong (.inl (fun h => absurd h.2.2.1 (by show ¬ (1 : Int) ≤ 0; decide)))]
  rintro v J34 A' hJ34 ⟨rfl, ch3, hD3, rfl⟩
  refine ⟨_, rfl, ?_⟩
  dsimp only at hD3
  repeat (first
    | refine LoadD.own 0 rfl _ rfl rfl ?_
    | refine LoadD.own 1 rfl _ rfl rfl ?_
    | refine LoadD.own 2 rfl _ rfl rfl ?_
    | refine LoadD.own 3 rfl _ rfl rfl ?_
    | refine LoadD.own 4 rfl _ rfl rfl ?_
    | refine LoadP.at 0 rfl _ rfl rfl ?_
    | refine LoadP.at 1 rfl _ rfl rfl ?_
    | refine LoadP.at 2 rfl _ rfl rfl ?_
    | refine LoadP.at 3 rfl _ rfl rfl ?_
    | refine LoadP.at 4 rfl _ rfl rfl ?_
    | refine StoreD.st 0 rfl rfl rfl ?_
    | refine StoreD.st 1 rfl rfl rfl ?_
    | refine StoreD.st 2 rfl rfl rfl ?_
    | refine StoreD.st 3 rfl rfl rfl ?_
    | refine StoreD.st 4 rfl rfl rfl ?_
    | refine CmpD.yes rfl ?_
    | refine CmpD.yes (by decide) ?_
    | refine CmpD.no (by decide) ?_
    | refine Chk.mk ⟨rfl, trivial⟩ ?_
    | refine Chk.mk ⟨rfl, rfl, trivial⟩ ?_
    | refine Chk.mk ⟨rfl, rfl, rfl, trivial⟩ ?_
    | refine Chk.mk ⟨rfl, rfl, rfl, rfl, trivial⟩ ?_
    | refine Chk.mk ⟨rfl, rfl, rfl, rfl, rfl, trivial⟩ ?_
    | refine Chk.mk ⟨rfl, rfl, rfl, rfl, rfl, rfl, trivial⟩ ?_)
  refine Tri.free (law_of 1 1 _) ?_
  rintro v Jl3 _ hJl3 ⟨rfl, rfl⟩
  repeat (first
    | refine LoadD.own 0 rfl _ rfl rfl ?_
    | refine LoadD.own 1 rfl _ rfl rfl ?_
    | refine LoadD.own 2 rfl _ rfl rfl ?_
    | refine LoadD.own 3 rfl _ rfl rfl ?_
    | refine LoadD.own 4 rfl _ rfl rfl ?_
    | refine LoadP.at 0 rfl _ rfl rfl ?_
    | refine LoadP.at 1 rfl _ rfl rfl ?_
    | refine LoadP.at 2 rfl _ rfl rfl ?_
    | refine LoadP.at 3 rfl _ rfl rfl ?_
    | refine LoadP.at 4 rfl _ rfl rfl ?_
    | refine StoreD.st 0 rfl rfl rfl ?_
    | refine StoreD.st 1 rfl rfl rfl ?_
    | refine StoreD.st 2 rfl rfl rfl ?_
    | refine StoreD.st 3 rfl rfl rfl ?_
    | refine StoreD.st 4 rfl rfl rfl ?_
    | refine CmpD.yes rfl ?_
    | refine CmpD.yes (by decide) ?_
    | refine CmpD.no (by decide) ?_
    | refine Chk.mk ⟨rfl, trivial⟩ ?_
    | refine Chk.mk ⟨rfl, rfl, trivial⟩ ?_
    | refine Chk.mk ⟨rfl, rfl, rfl, trivial⟩ ?_
    | refine Chk.mk ⟨rfl, rfl, rfl, rfl, trivial⟩ ?_
    | refine Chk.mk ⟨rfl, rfl, rfl, rfl, rfl, trivial⟩ ?_
    | refine Chk.mk ⟨rfl, rfl, rfl, rfl, rfl, rfl, trivial⟩ ?_)
  refine Tri.frame1 0 rfl (dk_Do hD3 2 few none 0 [] ⟨⟨rfl, .inl rfl⟩, by simp⟩ (by decide) (superOf 1 1) 2) ?_
  rw [do_wrong (.inr (.inr (.inl (by decide))))]
  rintro v J35 A' hJ35 ⟨rfl, ch4, hD4, rfl⟩
  refine ⟨_, rfl, ?_⟩
  dsimp only at hD4
  repeat (first
    | refine LoadD.own 0 rfl _ rfl rfl ?_
    | refine LoadD.own 1 rfl _ rfl rfl ?_
    | refine LoadD.own 2 rfl _ rfl rfl ?_
    | refine LoadD.own 3 rfl _ rfl rfl ?_
    | refine LoadD.own 4 rfl _ rfl rfl ?_
    | refine LoadP.at 0 rfl _ rfl rfl ?_
    | refine LoadP.at 1 rfl _ rfl rfl ?_
    | refine LoadP.at 2 rfl _ rfl rfl ?_
    | refine LoadP.at 3 rfl _ rfl rfl ?_
    | refine LoadP.at 4 rfl _ rfl rfl ?_
    | refine StoreD.st 0 rfl rfl rfl ?_
    | refine StoreD.st 1 rfl rfl rfl ?_
    | refine StoreD.st 2 rfl rfl rfl ?_
    | refine StoreD.st 3 rfl rfl rfl ?_
    | refine StoreD.st 4 rfl rfl rfl ?_
    | refine CmpD.yes rfl ?_
    | refine CmpD.yes (by decide) ?_
    | refine CmpD.no (by decide) ?_
    | refine Chk.mk ⟨rfl, trivial⟩ ?_
    | refine Chk.mk ⟨rfl, rfl, trivial⟩ ?_
    | refine Chk.mk ⟨rfl, rfl, rfl, trivial⟩ ?_
    | refine Chk.mk ⟨rfl, rfl, rfl, rfl, trivial⟩ ?_
    | refine Chk.mk ⟨rfl, rfl, rfl, rfl, rfl, trivial⟩ ?_
    | refine Chk.mk ⟨rfl, rfl, rfl, rfl, rfl, rfl, trivial⟩ ?_)
  refine Tri.free (law_made 64 1 _) ?_
  rintro v Jm5 _ hJm5 ⟨aX5, rfl, hX5⟩
  repeat (first
    | refine LoadD.own 0 rfl _ rfl rfl ?_
    | refine LoadD.own 1 rfl _ rfl rfl ?_
    | refine LoadD.own 2 rfl _ rfl rfl ?_
    | refine LoadD.own 3 rfl _ rfl rfl ?_
    | refine LoadD.own 4 rfl _ rfl rfl ?_
    | refine LoadP.at 0 rfl _ rfl rfl ?_
    | refine LoadP.at 1 rfl _ rfl rfl ?_
    | refine LoadP.at 2 rfl _ rfl rfl ?_
    | refine LoadP.at 3 rfl _ rfl rfl ?_
    | refine LoadP.at 4 rfl _ rfl rfl ?_
    | refine StoreD.st 0 rfl rfl rfl ?_
    | refine StoreD.st 1 rfl rfl rfl ?_
    | refine StoreD.st 2 rfl rfl rfl ?_
    | refine StoreD.st 3 rfl rfl rfl ?_
    | refine StoreD.st 4 rfl rfl rfl ?_
    | refine CmpD.yes rfl ?_
    | refine CmpD.yes (by decide) ?_
    | refine CmpD.no (by decide) ?_
    | refine Chk.mk ⟨rfl, trivial⟩ ?_
    | refine Chk.mk ⟨rfl, rfl, trivial⟩ ?_
    | refine Chk.mk ⟨rfl, rfl, rfl, trivial⟩ ?_
    | refine Chk.mk ⟨rfl, rfl, rfl, rfl, trivial⟩ ?_
    | refine Chk.mk ⟨rfl, rfl, rfl, rfl, rfl, trivial⟩ ?_
    | refine Chk.mk ⟨rfl, rfl, rfl, rfl, rfl, rfl, trivial⟩ ?_)
  conv => whnf
  intro bX5
  repeat (first
    | refine LoadD.own 0 rfl _ rfl rfl ?_
    | refine LoadD.own 1 rfl _ rfl rfl ?_
    | refine LoadD.own 2 rfl _ rfl rfl ?_
    | refine LoadD.own 3 rfl _ rfl rfl ?_
    | refine LoadD.own 4 rfl _ rfl rfl ?_
    | refine LoadP.at 0 rfl _ rfl rfl ?_
    | refine LoadP.at 1 rfl _ rfl rfl ?_
    | refine LoadP.at 2 rfl _ rfl rfl ?_
    | refine LoadP.at 3 rfl _ rfl rfl ?_
    | refine LoadP.at 4 rfl _ rfl rfl ?_
    | refine StoreD.st 0 rfl rfl rfl ?_
    | refine StoreD.st 1 rfl rfl rfl ?_
    | refine StoreD.st 2 rfl rfl rfl ?_
    | refine StoreD.st 3 rfl rfl rfl ?_
    | refine StoreD.st 4 rfl rfl rfl ?_
    | refine CmpD.yes rfl ?_
    | refine CmpD.yes (by decide) ?_
    | refine CmpD.no (by decide) ?_
    | refine Chk.mk ⟨rfl, trivial⟩ ?_
    | refine Chk.mk ⟨rfl, rfl, trivial⟩ ?_
    | refine Chk.mk ⟨rfl, rfl, rfl, trivial⟩ ?_
    | refine Chk.mk ⟨rfl, rfl, rfl, rfl, trivial⟩ ?_
    | refine Chk.mk ⟨rfl, rfl, rfl, rfl, rfl, trivial⟩ ?_
    | refine Chk.mk ⟨rfl, rfl, rfl, rfl, rfl, rfl, trivial⟩ ?_)
  refine Tri.free (law_of 1 1 _) ?_
  rintro v Jl5 _ hJl5 ⟨rfl, rfl⟩
  repeat (first
    | refine LoadD.own 0 rfl _ rfl rfl ?_
    | refine LoadD.own 1 rfl _ rfl rfl ?_
    | refine LoadD.own 2 rfl _ rfl rfl ?_
    | refine LoadD.own 3 rfl _ rfl rfl ?_
    | refine LoadD.own 4 rfl _ rfl rfl ?_
    | refine LoadP.at 0 rfl _ rfl rfl ?_
    | refine LoadP.at 1 rfl _ rfl rfl ?_
    | refine LoadP.at 2 rfl _ rfl rfl ?_
    | refine LoadP.at 3 rfl _ rfl rfl ?_
    | refine LoadP.at 4 rfl _ rfl rfl ?_
    | refine StoreD.st 0 rfl rfl rfl ?_
    | refine StoreD.st 1 rfl rfl rfl ?_
    | refine StoreD.st 2 rfl rfl rfl ?_
    | refine StoreD.st 3 rfl rfl rfl ?_
    | refine StoreD.st 4 rfl rfl rfl ?_
    | refine CmpD.yes rfl ?_
    | refine CmpD.yes (by decide) ?_
    | refine CmpD.no (by decide) ?_
    | refine Chk.mk ⟨rfl, trivial⟩ ?_
    | refine Chk.mk ⟨rfl, rfl, trivial⟩ ?_
    | refine Chk.mk ⟨rfl, rfl, rfl, trivial⟩ ?_
    | refine Chk.mk ⟨rfl, rfl, rfl, rfl, trivial⟩ ?_
    | refine Chk.mk ⟨rfl, rfl, rfl, rfl, rfl, trivial⟩ ?_
    | refine Chk.mk ⟨rfl, rfl, rfl, rfl, rfl, rfl, trivial⟩ ?_)
  refine Tri.fix 5 rfl fun Jf5 hJf5 hm5 => ?_
  refine Tri.frame1 0 rfl (dk_Do (hD4.mono (Imm.le_trans hJm5 hJf5)) 2 few (some ⟨bX5, 0, none⟩) 1 [⟨64, aX5, 4096, 4096, madeL 1 4096⟩] (imgs_fixed (by unfold In64; omega) hm5 (hX5.mono hJf5)) (by simp) (superOf 1 1) 0) ?_
  rw [show List.map Img.pr [⟨64, aX5, 4096, 4096, madeL 1 4096⟩] = [(64, madeL 1 4096)] from rfl, do_wrong (.inr (.inr (.inr (do_bad (by rw [n1]; rintro ⟨h1, h2, h3⟩; omega)))))]
  rintro v Jg5 A' hJg5 ⟨rfl, ch5, hD5, rfl⟩
  refine ⟨_, rfl, ?_⟩
  dsimp only at hD5
  repeat (first
    | refine LoadD.own 0 rfl _ rfl rfl ?_
    | refine LoadD.own 1 rfl _ rfl rfl ?_
    | refine LoadD.own 2 rfl _ rfl rfl ?_
    | refine LoadD.own 3 rfl _ rfl rfl ?_
    | refine LoadD.own 4 rfl _ rfl rfl ?_
    | refine LoadP.at 0 rfl _ rfl rfl ?_
    | refine LoadP.at 1 rfl _ rfl rfl ?_
    | refine LoadP.at 2 rfl _ rfl rfl ?_
    | refine LoadP.at 3 rfl _ rfl rfl ?_
    | refine LoadP.at 4 rfl _ rfl rfl ?_
    | refine StoreD.st 0 rfl rfl rfl ?_
    | refine StoreD.st 1 rfl rfl rfl ?_
    | refine StoreD.st 2 rfl rfl rfl ?_
    | refine StoreD.st 3 rfl rfl rfl ?_
    | refine StoreD.st 4 rfl rfl rfl ?_
    | refine CmpD.yes rfl ?_
    | refine CmpD.yes (by decide) ?_
    | refine CmpD.no (by decide) ?_
    | refine Chk.mk ⟨rfl, trivial⟩ ?_
    | refine Chk.mk ⟨rfl, rfl, trivial⟩ ?_
    | refine Chk.mk ⟨rfl, rfl, rfl, trivial⟩ ?_
    | refine Chk.mk ⟨rfl, rfl, rfl, rfl, trivial⟩ ?_
    | refine Chk.mk ⟨rfl, rfl, rfl, rfl, rfl, trivial⟩ ?_
    | refine Chk.mk ⟨rfl, rfl, rfl, rfl, rfl, rfl, trivial⟩ ?_)
  refine Tri.free (law_made 1 1 _) ?_
  rintro v Jm6 _ hJm6 ⟨aX6, rfl, hX6⟩
  repeat (first
    | refine LoadD.own 0 rfl _ rfl rfl ?_
    | refine LoadD.own 1 rfl _ rfl rfl ?_
    | refine LoadD.own 2 rfl _ rfl rfl ?_
    | refine LoadD.own 3 rfl _ rfl rfl ?_
    | refine LoadD.own 4 rfl _ rfl rfl ?_
    | refine LoadP.at 0 rfl _ rfl rfl ?_
    | refine LoadP.at 1 rfl _ rfl rfl ?_
    | refine LoadP.at 2 rfl _ rfl rfl ?_
    | refine LoadP.at 3 rfl _ rfl rfl ?_
    | refine LoadP.at 4 rfl _ rfl rfl ?_
    | refine StoreD.st 0 rfl rfl rfl ?_
    | refine StoreD.st 1 rfl rfl rfl ?_
    | refine StoreD.st 2 rfl rfl rfl ?_
    | refine StoreD.st 3 rfl rfl rfl ?_
    | refine StoreD.st 4 rfl rfl rfl ?_
    | refine CmpD.yes rfl ?_
    | refine CmpD.yes (by decide) ?_
    | refine CmpD.no (by decide) ?_
    | refine Chk.mk ⟨rfl, trivial⟩ ?_
    | refine Chk.mk ⟨rfl, rfl, trivial⟩ ?_
    | refine Chk.mk ⟨rfl, rfl, rfl, trivial⟩ ?_
    | refine Chk.mk ⟨rfl, rfl, rfl, rfl, trivial⟩ ?_
    | refine Chk.mk ⟨rfl, rfl, rfl, rfl, rfl, trivial⟩ ?_
    | refine Chk.mk ⟨rfl, rfl, rfl, rfl, rfl, rfl, trivial⟩ ?_)
  conv => whnf
  intro bX6
  repeat (first
    | refine LoadD.own 0 rfl _ rfl rfl ?_
    | refine LoadD.own 1 rfl _ rfl rfl ?_
    | refine LoadD.own 2 rfl _ rfl rfl ?_
    | refine LoadD.own 3 rfl _ rfl rfl ?_
    | refine LoadD.own 4 rfl _ rfl rfl ?_
    | refine LoadP.at 0 rfl _ rfl rfl ?_
    | refine LoadP.at 1 rfl _ rfl rfl ?_
    | refine LoadP.at 2 rfl _ rfl rfl ?_
    | refine LoadP.at 3 rfl _ rfl rfl ?_
    | refine LoadP.at 4 rfl _ rfl rfl ?_
    | refine StoreD.st 0 rfl rfl rfl ?_
    | refine StoreD.st 1 rfl rfl rfl ?_
    | refine StoreD.st 2 rfl rfl rfl ?_
    | refine StoreD.st 3 rfl rfl rfl ?_
    | refine StoreD.st 4 rfl rfl rfl ?_
    | refine CmpD.yes rfl ?_
    | refine CmpD.yes (by decide) ?_
    | refine CmpD.no (by decide) ?_
    | refine Chk.mk ⟨rfl, trivial⟩ ?_
    | refine Chk.mk ⟨rfl, rfl, trivial⟩ ?_
    | refine Chk.mk ⟨rfl, rfl, rfl, trivial⟩ ?_
    | refine Chk.mk ⟨rfl, rfl, rfl, rfl, trivial⟩ ?_
    | refine Chk.mk ⟨rfl, rfl, rfl, rfl, rfl, trivial⟩ ?_
    | refine Chk.mk ⟨rfl, rfl, rfl, rfl, rfl, rfl, trivial⟩ ?_)
  refine Tri.free (law_of 1 1 _) ?_
  rintro v Jl6 _ hJl6 ⟨rfl, rfl⟩
  repeat (first
    | refine LoadD.own 0 rfl _ rfl rfl ?_
    | refine LoadD.own 1 rfl _ rfl rfl ?_
    | refine LoadD.own 2 rfl _ rfl rfl ?_
    | refine LoadD.own 3 rfl _ rfl rfl ?_
    | refine LoadD.own 4 rfl _ rfl rfl ?_
    | refine LoadP.at 0 rfl _ rfl rfl ?_
    | refine LoadP.at 1 rfl _ rfl rfl ?_
    | refine LoadP.at 2 rfl _ rfl rfl ?_
    | refine LoadP.at 3 rfl _ rfl rfl ?_
    | refine LoadP.at 4 rfl _ rfl rfl ?_
    | refine StoreD.st 0 rfl rfl rfl ?_
    | refine StoreD.st 1 rfl rfl rfl ?_
    | refine StoreD.st 2 rfl rfl rfl ?_
    | refine StoreD.st 3 rfl rfl rfl ?_
    | refine StoreD.st 4 rfl rfl rfl ?_
    | refine CmpD.yes rfl ?_
    | refine CmpD.yes (by decide) ?_
    | refine CmpD.no (by decide) ?_
    | refine Chk.mk ⟨rfl, trivial⟩ ?_
    | refine Chk.mk ⟨rfl, rfl, trivial⟩ ?_
    | refine Chk.mk ⟨rfl, rfl, rfl, trivial⟩ ?_
    | refine Chk.mk ⟨rfl, rfl, rfl, rfl, trivial⟩ ?_
    | refine Chk.mk ⟨rfl, rfl, rfl, rfl, rfl, trivial⟩ ?_
    | refine Chk.mk ⟨rfl, rfl, rfl, rfl, rfl, rfl, trivial⟩ ?_)
  refine Tri.fix 6 rfl fun Jf6 hJf6 hm6 => ?_
  refine Tri.frame1 0 rfl (dk_Do (hD5.mono (Imm.le_trans hJm6 hJf6)) 2 few (some ⟨bX6, 0, none⟩) 1 [⟨1, aX6, 4096, 4096, madeL 1 4096⟩] (imgs_fixed (by unfold In64; omega) hm6 (hX6.mono hJf6)) (by simp) (superOf 1 1) 0) ?_
  rw [show List.map Img.pr [⟨1, aX6, 4096, 4096, madeL 1 4096⟩] = [(1, madeL 1 4096)] from rfl, do_wrong (.inr (.inr (.inr (do_bad (by rw [n1]; rintro ⟨h1, h2, h3⟩; omega)))))]
  rintro v Jg6 A' hJg6 ⟨rfl, ch6, hD6, rfl⟩
  refine ⟨_, rfl, ?_⟩
  dsimp only at hD6
  repeat (first
    | refine LoadD.own 0 rfl _ rfl rfl ?_
    | refine LoadD.own 1 rfl _ rfl rfl ?_
    | refine LoadD.own 2 rfl _ rfl rfl ?_
    | refine LoadD.own 3 rfl _ rfl rfl ?_
    | refine LoadD.own 4 rfl _ rfl rfl ?_
    | refine LoadP.at 0 rfl _ rfl rfl ?_
    | refine LoadP.at 1 rfl _ rfl rfl ?_
    | refine LoadP.at 2 rfl _ rfl rfl ?_
    | refine LoadP.at 3 rfl _ rfl rfl ?_
    | refine LoadP.at 4 rfl _ rfl rfl ?_
    | refine StoreD.st 0 rfl rfl rfl ?_
    | refine StoreD.st 1 rfl rfl rfl ?_
    | refine StoreD.st 2 rfl rfl rfl ?_
    | refine StoreD.st 3 rfl rfl rfl ?_
    | refine StoreD.st 4 rfl rfl rfl ?_
    | refine CmpD.yes rfl ?_
    | refine CmpD.yes (by decide) ?_
    | refine CmpD.no (by decide) ?_
    | refine Chk.mk ⟨rfl, trivial⟩ ?_
    | refine Chk.mk ⟨rfl, rfl, trivial⟩ ?_
    | refine Chk.mk ⟨rfl, rfl, rfl, trivial⟩ ?_
    | refine Chk.mk ⟨rfl, rfl, rfl, rfl, trivial⟩ ?_
    | refine Chk.mk ⟨rfl, rfl, rfl, rfl, rfl, trivial⟩ ?_
    | refine Chk.mk ⟨rfl, rfl, rfl, rfl, rfl, rfl, trivial⟩ ?_)
  conv => whnf
  intro bX7
  repeat (first
    | refine LoadD.own 0 rfl _ rfl rfl ?_
    | refine LoadD.own 1 rfl _ rfl rfl ?_
    | refine LoadD.own 2 rfl _ rfl rfl ?_
    | refine LoadD.own 3 rfl _ rfl rfl ?_
    | refine LoadD.own 4 rfl _ rfl rfl ?_
    | refine LoadP.at 0 rfl _ rfl rfl ?_
    | refine LoadP.at 1 rfl _ rfl rfl ?_
    | refine LoadP.at 2 rfl _ rfl rfl ?_
    | refine LoadP.at 3 rfl _ rfl rfl ?_
    | refine LoadP.at 4 rfl _ rfl rfl ?_
    | refine StoreD.st 0 rfl rfl rfl ?_
    | refine StoreD.st 1 rfl rfl rfl ?_
    | refine StoreD.st 2 rfl rfl rfl ?_
    | refine StoreD.st 3 rfl rfl rfl ?_
    | refine StoreD.st 4 rfl rfl rfl ?_
    | refine CmpD.yes rfl ?_
    | refine CmpD.yes (by decide) ?_
    | refine CmpD.no (by decide) ?_
    | refine Chk.mk ⟨rfl, trivial⟩ ?_
    | refine Chk.mk ⟨rfl, rfl, trivial⟩ ?_
    | refine Chk.mk ⟨rfl, rfl, rfl, trivial⟩ ?_
    | refine Chk.mk ⟨rfl, rfl, rfl, rfl, trivial⟩ ?_
    | refine Chk.mk ⟨rfl, rfl, rfl, rfl, rfl, trivial⟩ ?_
    | refine Chk.mk ⟨rfl, rfl, rfl, rfl, rfl, rfl, trivial⟩ ?_)
  refine Tri.free (law_of 1 1 _) ?_
  rintro v Jl7 _ hJl7 ⟨rfl, rfl⟩
  repeat (first
    | refine LoadD.own 0 rfl _ rfl rfl ?_
    | refine LoadD.own 1 rfl _ rfl rfl ?_
    | refine LoadD.own 2 rfl _ rfl rfl ?_
    | refine LoadD.own 3 rfl _ rfl rfl ?_
    | refine LoadD.own 4 rfl _ rfl rfl ?_
    | refine LoadP.at 0 rfl _ rfl rfl ?_
    | refine LoadP.at 1 rfl _ rfl rfl ?_
    | refine LoadP.at 2 rfl _ rfl rfl ?_
    | refine LoadP.at 3 rfl _ rfl rfl ?_
    | refine LoadP.at 4 rfl _ rfl rfl ?_
    | refine StoreD.st 0 rfl rfl rfl ?_
    | refine StoreD.st 1 rfl rfl rfl ?_
    | refine StoreD.st 2 rfl rfl rfl ?_
    | refine StoreD.st 3 rfl rfl rfl ?_
    | refine StoreD.st 4 rfl rfl rfl ?_
    | refine CmpD.yes rfl ?_
    | refine CmpD.yes (by decide) ?_
    | refine CmpD.no (by decide) ?_
    | refine Chk.mk ⟨rfl, trivial⟩ ?_
    | refine Chk.mk ⟨rfl, rfl, trivial⟩ ?_
    | refine Chk.mk ⟨rfl, rfl, rfl, trivial⟩ ?_
    | refine Chk.mk ⟨rfl, rfl, rfl, rfl, trivial⟩ ?_
    | refine Chk.mk ⟨rfl, rfl, rfl, rfl, rfl, trivial⟩ ?_
    | refine Chk.mk ⟨rfl, rfl, rfl, rfl, rfl, rfl, trivial⟩ ?_)
  refine Tri.fix 7 rfl fun Jf7 hJf7 hm7 => ?_
  refine Tri.frame1 0 rfl (dk_Do (hD6.mono hJf7) 2 few (some ⟨bX7, 0, none⟩) 1 [⟨30, none, 0, 0, []⟩] (imgs_fixed (by unfold In64; omega) hm7 ⟨rfl, .inl rfl⟩) (by simp) (superOf 1 1) 0) ?_
  rw [show List.map Img.pr [⟨30, none, 0, 0, []⟩] = [(30, [])] from rfl, do_wrong (.inr (.inr (.inr (do_bad (by rw [n1]; rintro ⟨h1, h2, h3⟩; cases h3)))))]
  rintro v Jg7 A' hJg7 ⟨rfl, ch7, hD7, rfl⟩
  refine ⟨_, rfl, ?_⟩
  dsimp only at hD7
  repeat (first
    | refine LoadD.own 0 rfl _ rfl rfl ?_
    | refine LoadD.own 1 rfl _ rfl rfl ?_
    | refine LoadD.own 2 rfl _ rfl rfl ?_
    | refine LoadD.own 3 rfl _ rfl rfl ?_
    | refine LoadD.own 4 rfl _ rfl rfl ?_
    | refine LoadP.at 0 rfl _ rfl rfl ?_
    | refine LoadP.at 1 rfl _ rfl rfl ?_
    | refine LoadP.at 2 rfl _ rfl rfl ?_
    | refine LoadP.at 3 rfl _ rfl rfl ?_
    | refine LoadP.at 4 rfl _ rfl rfl ?_
    | refine StoreD.st 0 rfl rfl rfl ?_
    | refine StoreD.st 1 rfl rfl rfl ?_
    | refine StoreD.st 2 rfl rfl rfl ?_
    | refine StoreD.st 3 rfl rfl rfl ?_
    | refine StoreD.st 4 rfl rfl rfl ?_
    | refine CmpD.yes rfl ?_
    | refine CmpD.yes (by decide) ?_
    | refine CmpD.no (by decide) ?_
    | refine Chk.mk ⟨rfl, trivial⟩ ?_
    | refine Chk.mk ⟨rfl, rfl, trivial⟩ ?_
    | refine Chk.mk ⟨rfl, rfl, rfl, trivial⟩ ?_
    | refine Chk.mk ⟨rfl, rfl, rfl, rfl, trivial⟩ ?_
    | refine Chk.mk ⟨rfl, rfl, rfl, rfl, rfl, trivial⟩ ?_
    | refine Chk.mk ⟨rfl, rfl, rfl, rfl, rfl, rfl, trivial⟩ ?_)
  refine Tri.frame1 0 rfl (dk_Writes hD7) ?_
  rw [k1]
  rintro v J40 A' hJ40 ⟨rfl, rfl, rfl⟩
  refine ⟨_, rfl, ?_⟩
  repeat (first
    | refine LoadD.own 0 rfl _ rfl rfl ?_
    | refine LoadD.own 1 rfl _ rfl rfl ?_
    | refine LoadD.own 2 rfl _ rfl rfl ?_
    | refine LoadD.own 3 rfl _ rfl rfl ?_
    | refine LoadD.own 4 rfl _ rfl rfl ?_
    | refine LoadP.at 0 rfl _ rfl rfl ?_
    | refine LoadP.at 1 rfl _ rfl rfl ?_
    | refine LoadP.at 2 rfl _ rfl rfl ?_
    | refine LoadP.at 3 rfl _ rfl rfl ?_
    | refine LoadP.at 4 rfl _ rfl rfl ?_
    | refine StoreD.st 0 rfl rfl rfl ?_
    | refine StoreD.st 1 rfl rfl rfl ?_
    | refine StoreD.st 2 rfl rfl rfl ?_
    | refine StoreD.st 3 rfl rfl rfl ?_
    | refine StoreD.st 4 rfl rfl rfl ?_
    | refine CmpD.yes rfl ?_
    | refine CmpD.yes (by decide) ?_
    | refine CmpD.no (by decide) ?_
    | refine Chk.mk ⟨rfl, trivial⟩ ?_
    | refine Chk.mk ⟨rfl, rfl, trivial⟩ ?_
    | refine Chk.mk ⟨rfl, rfl, rfl, trivial⟩ ?_
    | refine Chk.mk ⟨rfl, rfl, rfl, rfl, trivial⟩ ?_
    | refine Chk.mk ⟨rfl, rfl, rfl, rfl, rfl, trivial⟩ ?_
    | refine Chk.mk ⟨rfl, rfl, rfl, rfl, rfl, rfl, trivial⟩ ?_)
  refine Tri.mono (awake10 _ _) ?_
  rintro v J41 S41 hJ41 rfl
  exact Done.mk rfl
end Go.Proofs.Ytbpdbgcndfcilaa
namespace Go.Proofs.Ytbpdbgcndfcilaa
open Go.RowKit Go.Sl
set_option maxRecDepth 20000

theorem own_mem : ∀ {cs : List (List Blk)} {gs : List Img} {J : Imm}, OwnImgs cs gs → (∀ x ∈ cs.flatten, J x.1 = some x.2) → ∀ g ∈ gs, Rds J g.a g.len (bts g.data)
  | [], [], _, _, _, g, hg => by simp at hg
  | c :: cs, x :: gs, J, h, hm, g, hg => by
    rcases List.mem_cons.1 hg with rfl | hg
    · exact Rds.of_own h.1 fun y hy => hm y (by simp [hy])
    · exact own_mem h.2 (fun y hy => hm y (by rw [List.flatten_cons]; exact List.mem_append_right _ hy)) g hg
  | [], _ :: _, _, h, _, _, _ => h.elim
  | _ :: _, [], _, h, _, _, _ => h.elim
/-- Home's answer, fixed -/
theorem home_fix {I : Imm} {aG : Option Addr} {capG : Nat} {l : List Grp} (hG : GrpsR I [] aG l) (hl : l.length ≤ 1000000) (hall : (allI l).length ≤ 1000000) (hfew : ∀ g ∈ allI l, g.len ≤ 100000000) (x : Lay) :
    Tri Try.prog 50 #[x.v, .slice aG l.length capG] I [] fun v J _ =>
      ((¬ LayOk x ∧ v = .tuple #[.slice none 0 0, .int .i64 2]) ∨
       (LayOk x ∧ ¬ HomeOk x (allP l) ∧ v = .tuple #[.slice none 0 0, .int .i64 90]) ∨
       (LayOk x ∧ HomeOk x (allP l) ∧ ∃ (aO : Option Addr) (capO : Nat) (outs : List Img), v = .tuple #[.slice aO outs.length capO, .int .i64 0] ∧ ImgsR J [] aO outs ∧ outs.map Img.pr = homeP (allP l))) := by
  refine Tri.fixed (Q := fun v _ S' => ∃ ch, S' = [ch] ∧
      ((¬ LayOk x ∧ v = .tuple #[.slice none 0 0, .int .i64 2]) ∨
       (LayOk x ∧ ¬ HomeOk x (allP l) ∧ v = .tuple #[.slice none 0 0, .int .i64 90]) ∨
       (LayOk x ∧ HomeOk x (allP l) ∧ ∃ (aO : Option Addr) (capO : Nat) (chO : List Blk) (chs : List (List Blk)) (outs : List Img), v = .tuple #[.slice aO outs.length capO, .int .i64 0] ∧ OwnC chO 2 aO outs.length capO (imgCells outs) ∧ OwnImgs chs outs ∧ outs.map Img.pr = homeP (allP l) ∧ ch = chO ++ chs.flatten))) ?_ ?_
  · refine Tri.drop (home_any hG hl hall hfew x) ?_
    rintro v J S' hJ (⟨h, rfl, rfl⟩ | ⟨h1, h2, rfl, rfl⟩ | ⟨h1, h2, aO, capO, chO, chs, outs, rfl, hO, hcs, hpr, rfl⟩)
    · exact ⟨[[]], Drop.flat rfl, [], rfl, .inl ⟨h, rfl⟩⟩
    · exact ⟨[[]], Drop.flat rfl, [], rfl, .inr (.inl ⟨h1, h2, rfl⟩)⟩
    · exact ⟨[chO ++ chs.flatten], Drop.flat (by simp), _, rfl, .inr (.inr ⟨h1, h2, aO, capO, chO, chs, outs, rfl, hO, hcs, hpr, rfl⟩)⟩
  · rintro v J S' hJ ⟨ch, rfl, h⟩
    refine ⟨0, ch, rfl, fun J' hJ' hm => ?_⟩
    rcases h with ⟨h, rfl⟩ | ⟨h1, h2, rfl⟩ | ⟨h1, h2, aO, capO, chO, chs, outs, rfl, hO, hcs, hpr, rfl⟩
    · exact .inl ⟨h, rfl⟩
    · exact .inr (.inl ⟨h1, h2, rfl⟩)
    · refine .inr (.inr ⟨h1, h2, aO, capO, outs, rfl, ⟨(Rds.of_ownS hO fun y hy => hm y (List.mem_append_left _ hy)).slC, fun g hg => ⟨(own_mem hcs (fun y hy => hm y (List.mem_append_right _ hy)) g hg).slC⟩⟩, hpr⟩)
open Classical in
/-- what Home answers -/
noncomputable def homeA (x : Lay) (l : List PImg) : List PImg × Int := if ¬ LayOk x then ([], 2) else if ¬ HomeOk x l then ([], 90) else (homeP l, 0)
theorem homeA_1 {x : Lay} {l : List PImg} (h : ¬ LayOk x) : homeA x l = ([], 2) := by unfold homeA; rw [if_pos h]
theorem homeA_2 {x : Lay} {l : List PImg} (h : LayOk x) (h2 : ¬ HomeOk x l) : homeA x l = ([], 90) := by unfold homeA; rw [if_neg (by simpa using h), if_pos h2]
theorem homeA_3 {x : Lay} {l : List PImg} (h : LayOk x) (h2 : HomeOk x l) : homeA x l = (homeP l, 0) := by unfold homeA; rw [if_neg (by simpa using h), if_neg (by simpa using h2)]
theorem imgsR_nil {I : Imm} {S : St} : ImgsR I S none [] := ⟨⟨rfl, .inl rfl⟩, by simp⟩
theorem home_ans {I : Imm} {aG : Option Addr} {capG : Nat} {l : List Grp} (hG : GrpsR I [] aG l) (hl : l.length ≤ 1000000) (hall : (allI l).length ≤ 1000000) (hfew : ∀ g ∈ allI l, g.len ≤ 100000000) (x : Lay) :
    Tri Try.prog 50 #[x.v, .slice aG l.length capG] I [] fun v J _ => ∃ (aO : Option Addr) (capO : Nat) (outs : List Img), v = .tuple #[.slice aO outs.length capO, .int .i64 (homeA x (allP l)).2] ∧ ImgsR J [] aO outs ∧ outs.map Img.pr = (homeA x (allP l)).1 := by
  refine (home_fix hG hl hall hfew x).mono ?_
  rintro v J S' hJ (⟨h, rfl⟩ | ⟨h1, h2, rfl⟩ | ⟨h1, h2, aO, capO, outs, rfl, hR, hpr⟩)
  · rw [homeA_1 h]; exact ⟨none, 0, [], rfl, imgsR_nil, rfl⟩
  · rw [homeA_2 h1 h2]; exact ⟨none, 0, [], rfl, imgsR_nil, rfl⟩
  · rw [homeA_3 h1 h2]; exact ⟨aO, capO, outs, rfl, hR, hpr⟩
theorem home_ref {I : Imm} {aG : Option Addr} {capG : Nat} {l : List Grp} (hG : GrpsR I [] aG l) (hl : l.length ≤ 1000000) (hall : (allI l).length ≤ 1000000) (hfew : ∀ g ∈ allI l, g.len ≤ 100000000) (x : Lay) :
    Tri Try.prog 66 #[x.v, .slice aG l.length capG] I [] fun v J _ => ∃ (aO : Option Addr) (capO : Nat) (outs : List Img), v = .tuple #[.slice aO outs.length capO, .int .i64 (homeA x (allP l)).2] ∧ ImgsR J [] aO outs ∧ outs.map Img.pr = (homeA x (allP l)).1 := by
  refine (r10_Home hG hl hall hfew x).mono ?_
  rintro v J S' hJ (⟨h, rfl⟩ | ⟨h1, h2, rfl⟩ | ⟨h1, h2, aO, capO, outs, rfl, hR, hpr⟩)
  · rw [homeA_1 h]; exact ⟨none, 0, [], rfl, imgsR_nil, rfl⟩
  · rw [homeA_2 h1 h2]; exact ⟨none, 0, [], rfl, imgsR_nil, rfl⟩
  · rw [homeA_3 h1 h2]; exact ⟨aO, capO, outs, rfl, ⟨hR.1.slC, fun g hg => ⟨(hR.2 g hg).2.slC⟩⟩, hpr⟩
theorem homeA_len {x : Lay} {l : List Grp} {outs : List Img} (h : outs.map Img.pr = (homeA x (allP l)).1) (hall : (allI l).length ≤ 1000000) : outs.length ≤ 1000000 := by
  have e : outs.length = (homeA x (allP l)).1.length := by rw [← h, List.length_map]
  by_cases h1 : LayOk x
  · by_cases h2 : HomeOk x (allP l)
    · rw [homeA_3 h1 h2] at e
      have e2 : (homeP (allP l)).length = (lastP (allP l)).length := by unfold homeP; rw [List.length_map, (sortI_perm _).length_eq, List.length_map]
      have e3 : (lastP (allP l)).length ≤ (allP l).length := by
        have := fold_len (allI l) []
        have e4 : lastP (allP l) = ((allI l).foldl iput []).map Img.pr := by rw [foldl_pr, allP_eq]; rfl
        rw [e4, allP_eq, List.length_map, List.length_map]; simpa using this
      have e5 : (allP l).length = (allI l).length := by rw [allP_eq, List.length_map]
      dsimp only at e
      omega
    · rw [homeA_2 h1 h2] at e; simp at e; simp [e]
  · rw [homeA_1 h1] at e; simp at e; simp [e]
theorem imgsR_of {I : Imm} {S : St} {a : Option Addr} {gs : List Img} (h : ImgsOk I a gs) : ImgsR I S a gs := ⟨h.1.slC, fun g hg => ⟨(h.2 g hg).2.slC⟩⟩
theorem imgsR_to {I J : Imm} {S : St} {a : Option Addr} {gs : List Img} (h : ImgsR I [] a gs) (hJ : I.le J) : ImgsR J S a gs := ⟨(SlC.rds h.sl).mono hJ |>.slC, fun g hg => ⟨(SlC.rds (h.each g hg).rd).mono hJ |>.slC⟩⟩
theorem grps_to {I J : Imm} {a : Option Addr} {l : List Grp} (h : GrpsR I [] a l) (hJ : I.le J) : GrpsR J [] a l := ⟨(SlC.rds h.sl).mono hJ |>.slC, fun g hg => ⟨imgsR_to (h.each g hg).1 hJ, (h.each g hg).2⟩⟩
theorem doP_few {d : DSt} {k : Nat} (h : d.Few k) (l : List PImg) (s : Sup) (slot : Int) : (doP d l s slot).1.Few (k + l.length + 1) := by
  have h1 := wrImgs_few l d k h
  unfold doP
  split
  · exact h.mono (by omega)
  split
  · exact h1.mono (by omega)
  split
  · exact h1.flush.mono (by omega)
  unfold lastWr
  split
  · exact h1.flush.write _ _
  · exact (h1.flush.write _ _).flush
set_option maxHeartbeats 4000000 in
theorem replayTells_walk {I : Imm} (aA : Option Addr) (lenA capA : Nat) (lA : Dat) (hA : Rds I aA lenA (bts lA)) (aB : Option Addr) (lenB capB : Nat) (lB : Dat) (hB : Rds I aB lenB (bts lB)) (x : Lay)
    (aG : Option Addr) (capG : Nat) (l : List Grp) (hG : GrpsR I [] aG l) (hl : l.length ≤ 1000000) (hall : (allI l).length ≤ 1000000) (hfew : ∀ g ∈ allI l, g.len ≤ 100000000)
    (aL : Option Addr) (capL : Nat) (gs : List Img) (hi : ImgsOk I aL gs) (his : ∀ g ∈ gs, g.len ≤ 100000000) (s : Sup) (slot : Int) (hslot : In64 slot) (arm : Int) (harm : In64 arm) :
    Tri Try.prog 13 #[.slice aA lenA capA, .slice aB lenB capB, x.v, .slice aG l.length capG, .slice aL gs.length capL, s.v, .int .i64 slot, .int .i64 arm] I [] fun v _ _ => v = .bool true := by
  have wake : ∀ (J : Imm) (S : St), Tri Try.prog 54 #[] J S fun v _ _ => v = .bool true := awake10
  refine Tri.of (args := [.slice aA lenA capA, .slice aB lenB capB, x.v, .slice aG l.length capG, .slice aL gs.length capL, s.v, .int .i64 slot, .int .i64 arm]) tabOk Try.func13 rfl (by kernel_rfl) (by kernel_rfl) ?_
  conv => whnf
  intro b10
  conv => whnf
  intro b13
  refine CmpD.split (fun c1 => ?_) (fun c1 => ?_)
  · repeat (first
      | refine LoadD.own 0 rfl _ rfl rfl ?_
      | refine LoadP.at 0 rfl _ rfl rfl ?_
      | refine StoreD.st 0 rfl rfl rfl ?_
      | refine CmpD.yes rfl ?_
      | refine CmpD.yes (by decide) ?_
      | refine CmpD.no (by decide) ?_
      | refine Chk.mk ⟨rfl, trivial⟩ ?_
      | refine Chk.mk ⟨rfl, rfl, trivial⟩ ?_
      | refine Chk.mk ⟨rfl, rfl, rfl, trivial⟩ ?_
      | refine Chk.mk ⟨rfl, rfl, rfl, rfl, trivial⟩ ?_
      | refine Chk.mk ⟨rfl, rfl, rfl, rfl, rfl, trivial⟩ ?_
      | refine Chk.mk ⟨rfl, rfl, rfl, rfl, rfl, rfl, trivial⟩ ?_)
    refine Tri.mono (wake _ _) ?_
    rintro v J S' hJ rfl
    exact Done.mk rfl
  repeat (first
    | refine LoadD.own 0 rfl _ rfl rfl ?_
    | refine LoadP.at 0 rfl _ rfl rfl ?_
    | refine StoreD.st 0 rfl rfl rfl ?_
    | refine CmpD.yes rfl ?_
    | refine CmpD.yes (by decide) ?_
    | refine CmpD.no (by decide) ?_
    | refine Chk.mk ⟨rfl, trivial⟩ ?_
    | refine Chk.mk ⟨rfl, rfl, trivial⟩ ?_
    | refine Chk.mk ⟨rfl, rfl, rfl, trivial⟩ ?_
    | refine Chk.mk ⟨rfl, rfl, rfl, rfl, trivial⟩ ?_
    | refine Chk.mk ⟨rfl, rfl, rfl, rfl, rfl, trivial⟩ ?_
    | refine Chk.mk ⟨rfl, rfl, rfl, rfl, rfl, rfl, trivial⟩ ?_)
  refine CmpD.split (fun c2 => ?_) (fun c2 => ?_)
  · repeat (first
      | refine LoadD.own 0 rfl _ rfl rfl ?_
      | refine LoadP.at 0 rfl _ rfl rfl ?_
      | refine StoreD.st 0 rfl rfl rfl ?_
      | refine CmpD.yes rfl ?_
      | refine CmpD.yes (by decide) ?_
      | refine CmpD.no (by decide) ?_
      | refine Chk.mk ⟨rfl, trivial⟩ ?_
      | refine Chk.mk ⟨rfl, rfl, trivial⟩ ?_
      | refine Chk.mk ⟨rfl, rfl, rfl, trivial⟩ ?_
      | refine Chk.mk ⟨rfl, rfl, rfl, rfl, trivial⟩ ?_
      | refine Chk.mk ⟨rfl, rfl, rfl, rfl, rfl, trivial⟩ ?_
      | refine Chk.mk ⟨rfl, rfl, rfl, rfl, rfl, rfl, trivial⟩ ?_)
    refine Tri.mono (wake _ _) ?_
    rintro v J S' hJ rfl
    exact Done.mk rfl
  repeat (first
    | refine LoadD.own 0 rfl _ rfl rfl ?_
    | refine LoadP.at 0 rfl _ rfl rfl ?_
    | refine StoreD.st 0 rfl rfl rfl ?_
    | refine CmpD.yes rfl ?_
    | refine CmpD.yes (by decide) ?_
    | refine CmpD.no (by decide) ?_
    | refine Chk.mk ⟨rfl, trivial⟩ ?_
    | refine Chk.mk ⟨rfl, rfl, trivial⟩ ?_
    | refine Chk.mk ⟨rfl, rfl, rfl, trivial⟩ ?_
    | refine Chk.mk ⟨rfl, rfl, rfl, rfl, trivial⟩ ?_
    | refine Chk.mk ⟨rfl, rfl, rfl, rfl, rfl, trivial⟩ ?_
    | refine Chk.mk ⟨rfl, rfl, rfl, rfl, rfl, rfl, trivial⟩ ?_)
  refine CmpD.split (fun c3 => ?_) (fun c3 => ?_)
  · repeat (first
      | refine LoadD.own 0 rfl _ rfl rfl ?_
      | refine LoadP.at 0 rfl _ rfl rfl ?_
      | refine StoreD.st 0 rfl rfl rfl ?_
      | refine CmpD.yes rfl ?_
      | refine CmpD.yes (by decide) ?_
      | refine CmpD.no (by decide) ?_
      | refine Chk.mk ⟨rfl, trivial⟩ ?_
      | refine Chk.mk ⟨rfl, rfl, trivial⟩ ?_
      | refine Chk.mk ⟨rfl, rfl, rfl, trivial⟩ ?_
      | refine Chk.mk ⟨rfl, rfl, rfl, rfl, trivial⟩ ?_
      | refine Chk.mk ⟨rfl, rfl, rfl, rfl, rfl, trivial⟩ ?_
      | refine Chk.mk ⟨rfl, rfl, rfl, rfl, rfl, rfl, trivial⟩ ?_)
    refine Tri.mono (wake _ _) ?_
    rintro v J S' hJ rfl
    exact Done.mk rfl
  repeat (first
    | refine LoadD.own 0 rfl _ rfl rfl ?_
    | refine LoadP.at 0 rfl _ rfl rfl ?_
    | refine StoreD.st 0 rfl rfl rfl ?_
    | refine CmpD.yes rfl ?_
    | refine CmpD.yes (by decide) ?_
    | refine CmpD.no (by decide) ?_
    | refine Chk.mk ⟨rfl, trivial⟩ ?_
    | refine Chk.mk ⟨rfl, rfl, trivial⟩ ?_
    | refine Chk.mk ⟨rfl, rfl, rfl, trivial⟩ ?_
    | refine Chk.mk ⟨rfl, rfl, rfl, rfl, trivial⟩ ?_
    | refine Chk.mk ⟨rfl, rfl, rfl, rfl, rfl, trivial⟩ ?_
    | refine Chk.mk ⟨rfl, rfl, rfl, rfl, rfl, rfl, trivial⟩ ?_)
  refine CmpD.split (fun c4 => ?_) (fun c4 => ?_)
  · repeat (first
      | refine LoadD.own 0 rfl _ rfl rfl ?_
      | refine LoadP.at 0 rfl _ rfl rfl ?_
      | refine StoreD.st 0 rfl rfl rfl ?_
      | refine CmpD.yes rfl ?_
      | refine CmpD.yes (by decide) ?_
      | refine CmpD.no (by decide) ?_
      | refine Chk.mk ⟨rfl, trivial⟩ ?_
      | refine Chk.mk ⟨rfl, rfl, trivial⟩ ?_
      | refine Chk.mk ⟨rfl, rfl, rfl, trivial⟩ ?_
      | refine Chk.mk ⟨rfl, rfl, rfl, rfl, trivial⟩ ?_
      | refine Chk.mk ⟨rfl, rfl, rfl, rfl, rfl, trivial⟩ ?_
      | refine Chk.mk ⟨rfl, rfl, rfl, rfl, rfl, rfl, trivial⟩ ?_)
    refine Tri.mono (wake _ _) ?_
    rintro v J S' hJ rfl
    exact Done.mk rfl
  repeat (first
    | refine LoadD.own 0 rfl _ rfl rfl ?_
    | refine LoadP.at 0 rfl _ rfl rfl ?_
    | refine StoreD.st 0 rfl rfl rfl ?_
    | refine CmpD.yes rfl ?_
    | refine CmpD.yes (by decide) ?_
    | refine CmpD.no (by decide) ?_
    | refine Chk.mk ⟨rfl, trivial⟩ ?_
    | refine Chk.mk ⟨rfl, rfl, trivial⟩ ?_
    | refine Chk.mk ⟨rfl, rfl, rfl, trivial⟩ ?_
    | refine Chk.mk ⟨rfl, rfl, rfl, rfl, trivial⟩ ?_
    | refine Chk.mk ⟨rfl, rfl, rfl, rfl, rfl, trivial⟩ ?_
    | refine Chk.mk ⟨rfl, rfl, rfl, rfl, rfl, rfl, trivial⟩ ?_)
  refine Tri.free (replay_Choose hA hB (by omega) (by omega)) ?_
  rintro v J1 _ hJ1 ⟨rfl, rfl⟩
  have hch := r10_Choose (c1 := capA) (c2 := capB) hA hB (by omega) (by omega)
  generalize chooseP (getS lA) (getS lB) = ch at hch ⊢
  obtain ⟨⟨sp1, sp2, sp3, sp4⟩, ci, cb⟩ := ch
  conv => whnf
  intro b17
  repeat (first
    | refine LoadD.own 0 rfl _ rfl rfl ?_
    | refine LoadD.own 1 rfl _ rfl rfl ?_
    | refine LoadD.own 2 rfl _ rfl rfl ?_
    | refine LoadP.at 0 rfl _ rfl rfl ?_
    | refine LoadP.at 1 rfl _ rfl rfl ?_
    | refine LoadP.at 2 rfl _ rfl rfl ?_
    | refine StoreD.st 0 rfl rfl rfl ?_
    | refine StoreD.st 1 rfl rfl rfl ?_
    | refine StoreD.st 2 rfl rfl rfl ?_
    | refine CmpD.yes rfl ?_
    | refine CmpD.yes (by decide) ?_
    | refine CmpD.no (by decide) ?_
    | refine Chk.mk ⟨rfl, trivial⟩ ?_
    | refine Chk.mk ⟨rfl, rfl, trivial⟩ ?_
    | refine Chk.mk ⟨rfl, rfl, rfl, trivial⟩ ?_
    | refine Chk.mk ⟨rfl, rfl, rfl, rfl, trivial⟩ ?_
    | refine Chk.mk ⟨rfl, rfl, rfl, rfl, rfl, trivial⟩ ?_
    | refine Chk.mk ⟨rfl, rfl, rfl, rfl, rfl, rfl, trivial⟩ ?_)
  refine Tri.free hch ?_
  rintro v J2 _ hJ2 ⟨rfl, rfl⟩
  conv => whnf
  intro b20
  repeat (first
    | refine LoadD.own 0 rfl _ rfl rfl ?_
    | refine LoadD.own 1 rfl _ rfl rfl ?_
    | refine LoadD.own 2 rfl _ rfl rfl ?_
    | refine LoadD.own 3 rfl _ rfl rfl ?_
    | refine LoadP.at 0 rfl _ rfl rfl ?_
    | refine LoadP.at 1 rfl _ rfl rfl ?_
    | refine LoadP.at 2 rfl _ rfl rfl ?_
    | refine LoadP.at 3 rfl _ rfl rfl ?_
    | refine StoreD.st 0 rfl rfl rfl ?_
    | refine StoreD.st 1 rfl rfl rfl ?_
    | refine StoreD.st 2 rfl rfl rfl ?_
    | refine StoreD.st 3 rfl rfl rfl ?_
    | refine CmpD.yes rfl ?_
    | refine CmpD.yes (by decide) ?_
    | refine CmpD.no (by decide) ?_
    | refine Chk.mk ⟨rfl, trivial⟩ ?_
    | refine Chk.mk ⟨rfl, rfl, trivial⟩ ?_
    | refine Chk.mk ⟨rfl, rfl, rfl, trivial⟩ ?_
    | refine Chk.mk ⟨rfl, rfl, rfl, rfl, trivial⟩ ?_
    | refine Chk.mk ⟨rfl, rfl, rfl, rfl, rfl, trivial⟩ ?_
    | refine Chk.mk ⟨rfl, rfl, rfl, rfl, rfl, rfl, trivial⟩ ?_)
  refine sup_cmp ⟨sp1, sp2, sp3, sp4⟩ ⟨sp1, sp2, sp3, sp4⟩ rfl (.inr rfl) rfl rfl (CmpD.yes rfl ?_)
  repeat (first
    | refine LoadD.own 0 rfl _ rfl rfl ?_
    | refine LoadD.own 1 rfl _ rfl rfl ?_
    | refine LoadD.own 2 rfl _ rfl rfl ?_
    | refine LoadD.own 3 rfl _ rfl rfl ?_
    | refine LoadP.at 0 rfl _ rfl rfl ?_
    | refine LoadP.at 1 rfl _ rfl rfl ?_
    | refine LoadP.at 2 rfl _ rfl rfl ?_
    | refine LoadP.at 3 rfl _ rfl rfl ?_
    | refine StoreD.st 0 rfl rfl rfl ?_
    | refine StoreD.st 1 rfl rfl rfl ?_
    | refine StoreD.st 2 rfl rfl rfl ?_
    | refine StoreD.st 3 rfl rfl rfl ?_
    | refine CmpD.yes rfl ?_
    | refine CmpD.yes (by decide) ?_
    | refine CmpD.no (by decide) ?_
    | refine Chk.mk ⟨rfl, trivial⟩ ?_
    | refine Chk.mk ⟨rfl, rfl, trivial⟩ ?_
    | refine Chk.mk ⟨rfl, rfl, rfl, trivial⟩ ?_
    | refine Chk.mk ⟨rfl, rfl, rfl, rfl, trivial⟩ ?_
    | refine Chk.mk ⟨rfl, rfl, rfl, rfl, rfl, trivial⟩ ?_
    | refine Chk.mk ⟨rfl, rfl, rfl, rfl, rfl, rfl, trivial⟩ ?_)
  cases cb
  all_goals
    repeat (first
      | refine LoadD.own 0 rfl _ rfl rfl ?_
      | refine LoadD.own 1 rfl _ rfl rfl ?_
      | refine LoadD.own 2 rfl _ rfl rfl ?_
      | refine LoadD.own 3 rfl _ rfl rfl ?_
      | refine LoadP.at 0 rfl _ rfl rfl ?_
      | refine LoadP.at 1 rfl _ rfl rfl ?_
      | refine LoadP.at 2 rfl _ rfl rfl ?_
      | refine LoadP.at 3 rfl _ rfl rfl ?_
      | refine StoreD.st 0 rfl rfl rfl ?_
      | refine StoreD.st 1 rfl rfl rfl ?_
      | refine StoreD.st 2 rfl rfl rfl ?_
      | refine StoreD.st 3 rfl rfl rfl ?_
      | refine CmpD.yes rfl ?_
      | refine CmpD.yes (by decide) ?_
      | refine CmpD.no (by decide) ?_
      | refine Chk.mk ⟨rfl, trivial⟩ ?_
      | refine Chk.mk ⟨rfl, rfl, trivial⟩ ?_
      | refine Chk.mk ⟨rfl, rfl, rfl, trivial⟩ ?_
      | refine Chk.mk ⟨rfl, rfl, rfl, rfl, trivial⟩ ?_
      | refine Chk.mk ⟨rfl, rfl, rfl, rfl, rfl, trivial⟩ ?_
      | refine Chk.mk ⟨rfl, rfl, rfl, rfl, rfl, rfl, trivial⟩ ?_)
    refine Tri.free (home_ans hG hl hall hfew x) ?_
    rintro v J3 _ hJ3 ⟨aP, capP, outP, rfl, hP, hPp⟩
    repeat (first
      | refine LoadD.own 0 rfl _ rfl rfl ?_
      | refine LoadD.own 1 rfl _ rfl rfl ?_
      | refine LoadD.own 2 rfl _ rfl rfl ?_
      | refine LoadD.own 3 rfl _ rfl rfl ?_
      | refine LoadP.at 0 rfl _ rfl rfl ?_
      | refine LoadP.at 1 rfl _ rfl rfl ?_
      | refine LoadP.at 2 rfl _ rfl rfl ?_
      | refine LoadP.at 3 rfl _ rfl rfl ?_
      | refine StoreD.st 0 rfl rfl rfl ?_
      | refine StoreD.st 1 rfl rfl rfl ?_
      | refine StoreD.st 2 rfl rfl rfl ?_
      | refine StoreD.st 3 rfl rfl rfl ?_
      | refine CmpD.yes rfl ?_
      | refine CmpD.yes (by decide) ?_
      | refine CmpD.no (by decide) ?_
      | refine Chk.mk ⟨rfl, trivial⟩ ?_
      | refine Chk.mk ⟨rfl, rfl, trivial⟩ ?_
      | refine Chk.mk ⟨rfl, rfl, rfl, trivial⟩ ?_
      | refine Chk.mk ⟨rfl, rfl, rfl, rfl, trivial⟩ ?_
      | refine Chk.mk ⟨rfl, rfl, rfl, rfl, rfl, trivial⟩ ?_
      | refine Chk.mk ⟨rfl, rfl, rfl, rfl, rfl, rfl, trivial⟩ ?_)
    refine Tri.free (home_ref (grps_to hG hJ3) hl hall hfew x) ?_
    rintro v J4 _ hJ4 ⟨aQ, capQ, outQ, rfl, hQ, hQp⟩
    have hPl := homeA_len hPp hall
    generalize homeA x (allP l) = hA2 at hPp hQp ⊢
    obtain ⟨hm, he⟩ := hA2
    dsimp only at hPp hQp ⊢
    repeat (first
      | refine LoadD.own 0 rfl _ rfl rfl ?_
      | refine LoadD.own 1 rfl _ rfl rfl ?_
      | refine LoadD.own 2 rfl _ rfl rfl ?_
      | refine LoadD.own 3 rfl _ rfl rfl ?_
      | refine LoadP.at 0 rfl _ rfl rfl ?_
      | refine LoadP.at 1 rfl _ rfl rfl ?_
      | refine LoadP.at 2 rfl _ rfl rfl ?_
      | refine LoadP.at 3 rfl _ rfl rfl ?_
      | refine StoreD.st 0 rfl rfl rfl ?_
      | refine StoreD.st 1 rfl rfl rfl ?_
      | refine StoreD.st 2 rfl rfl rfl ?_
      | refine StoreD.st 3 rfl rfl rfl ?_
      | refine CmpD.yes rfl ?_
      | refine CmpD.yes (by decide) ?_
      | refine CmpD.no (by decide) ?_
      | refine Chk.mk ⟨rfl, trivial⟩ ?_
      | refine Chk.mk ⟨rfl, rfl, trivial⟩ ?_
      | refine Chk.mk ⟨rfl, rfl, rfl, trivial⟩ ?_
      | refine Chk.mk ⟨rfl, rfl, rfl, rfl, trivial⟩ ?_
      | refine Chk.mk ⟨rfl, rfl, rfl, rfl, rfl, trivial⟩ ?_
      | refine Chk.mk ⟨rfl, rfl, rfl, rfl, rfl, rfl, trivial⟩ ?_)
    refine Tri.free (same_imgs (S := []) (imgsR_to hP hJ4) hQ (by omega)) ?_
    rintro v _ _ _ ⟨rfl, rfl, rfl⟩
    rw [decide_eq_true (hPp.trans hQp.symm)]
    repeat (first
      | refine LoadD.own 0 rfl _ rfl rfl ?_
      | refine LoadD.own 1 rfl _ rfl rfl ?_
      | refine LoadD.own 2 rfl _ rfl rfl ?_
      | refine LoadD.own 3 rfl _ rfl rfl ?_
      | refine LoadP.at 0 rfl _ rfl rfl ?_
      | refine LoadP.at 1 rfl _ rfl rfl ?_
      | refine LoadP.at 2 rfl _ rfl rfl ?_
      | refine LoadP.at 3 rfl _ rfl rfl ?_
      | refine StoreD.st 0 rfl rfl rfl ?_
      | refine StoreD.st 1 rfl rfl rfl ?_
      | refine StoreD.st 2 rfl rfl rfl ?_
      | refine StoreD.st 3 rfl rfl rfl ?_
      | refine CmpD.yes rfl ?_
      | refine CmpD.yes (by decide) ?_
      | refine CmpD.no (by decide) ?_
      | refine Chk.mk ⟨rfl, trivial⟩ ?_
      | refine Chk.mk ⟨rfl, rfl, trivial⟩ ?_
      | refine Chk.mk ⟨rfl, rfl, rfl, trivial⟩ ?_
      | refine Chk.mk ⟨rfl, rfl, rfl, rfl, trivial⟩ ?_
      | refine Chk.mk ⟨rfl, rfl, rfl, rfl, rfl, trivial⟩ ?_
      | refine Chk.mk ⟨rfl, rfl, rfl, rfl, rfl, rfl, trivial⟩ ?_)
    refine Tri.frameX (dk_New J4 64 (by omega)) [] rfl rfl ?_
    rintro v J5 _ hJ5 ⟨bD, chD, rfl, hD, rfl⟩
    repeat (first
      | refine LoadD.own 0 rfl _ rfl rfl ?_
      | refine LoadD.own 1 rfl _ rfl rfl ?_
      | refine LoadD.own 2 rfl _ rfl rfl ?_
      | refine LoadD.own 3 rfl _ rfl rfl ?_
      | refine LoadP.at 0 rfl _ rfl rfl ?_
      | refine LoadP.at 1 rfl _ rfl rfl ?_
      | refine LoadP.at 2 rfl _ rfl rfl ?_
      | refine LoadP.at 3 rfl _ rfl rfl ?_
      | refine StoreD.st 0 rfl rfl rfl ?_
      | refine StoreD.st 1 rfl rfl rfl ?_
      | refine StoreD.st 2 rfl rfl rfl ?_
      | refine StoreD.st 3 rfl rfl rfl ?_
      | refine CmpD.yes rfl ?_
      | refine CmpD.yes (by decide) ?_
      | refine CmpD.no (by decide) ?_
      | refine Chk.mk ⟨rfl, trivial⟩ ?_
      | refine Chk.mk ⟨rfl, rfl, trivial⟩ ?_
      | refine Chk.mk ⟨rfl, rfl, rfl, trivial⟩ ?_
      | refine Chk.mk ⟨rfl, rfl, rfl, rfl, trivial⟩ ?_
      | refine Chk.mk ⟨rfl, rfl, rfl, rfl, rfl, trivial⟩ ?_
      | refine Chk.mk ⟨rfl, rfl, rfl, rfl, rfl, rfl, trivial⟩ ?_)
    refine Tri.free (r4_New J5 64 (by omega)) ?_
    rintro v J6 _ hJ6 ⟨w0, rfl, hR0⟩
    obtain ⟨⟨sa, sl, sc⟩, ⟨wa, wl, wc⟩, _, _, rfl, _⟩ := id hR0.ex
    have few0 := DSt.of_few (List.replicate 64 noughts)
    have hI6 : I.le J6 := Imm.le_trans hJ3 (Imm.le_trans hJ4 (Imm.le_trans hJ5 hJ6))
    have hi6 := hi.mono hI6
    generalize DSt.of (List.replicate 64 noughts) = d0 at *
    conv => whnf
    intro b29
    repeat (first
      | refine LoadD.own 0 rfl _ rfl rfl ?_
      | refine LoadD.own 1 rfl _ rfl rfl ?_
      | refine LoadD.own 2 rfl _ rfl rfl ?_
      | refine LoadD.own 3 rfl _ rfl rfl ?_
      | refine LoadD.own 4 rfl _ rfl rfl ?_
      | refine LoadD.own 5 rfl _ rfl rfl ?_
      | refine LoadP.at 0 rfl _ rfl rfl ?_
      | refine LoadP.at 1 rfl _ rfl rfl ?_
      | refine LoadP.at 2 rfl _ rfl rfl ?_
      | refine LoadP.at 3 rfl _ rfl rfl ?_
      | refine LoadP.at 4 rfl _ rfl rfl ?_
      | refine LoadP.at 5 rfl _ rfl rfl ?_
      | refine StoreD.st 0 rfl rfl rfl ?_
      | refine StoreD.st 1 rfl rfl rfl ?_
      | refine StoreD.st 2 rfl rfl rfl ?_
      | refine StoreD.st 3 rfl rfl rfl ?_
      | refine StoreD.st 4 rfl rfl rfl ?_
      | refine StoreD.st 5 rfl rfl rfl ?_
      | refine CmpD.yes rfl ?_
      | refine CmpD.yes (by decide) ?_
      | refine CmpD.no (by decide) ?_
      | refine Chk.mk ⟨rfl, trivial⟩ ?_
      | refine Chk.mk ⟨rfl, rfl, trivial⟩ ?_
      | refine Chk.mk ⟨rfl, rfl, rfl, trivial⟩ ?_
      | refine Chk.mk ⟨rfl, rfl, rfl, rfl, trivial⟩ ?_
      | refine Chk.mk ⟨rfl, rfl, rfl, rfl, rfl, trivial⟩ ?_
      | refine Chk.mk ⟨rfl, rfl, rfl, rfl, rfl, rfl, trivial⟩ ?_)
    refine CmpD.split (fun c5 => ?_) (fun c5 => ?_)
    focus
      repeat (first
        | refine LoadD.own 0 rfl _ rfl rfl ?_
        | refine LoadD.own 1 rfl _ rfl rfl ?_
        | refine LoadD.own 2 rfl _ rfl rfl ?_
        | refine LoadD.own 3 rfl _ rfl rfl ?_
        | refine LoadD.own 4 rfl _ rfl rfl ?_
        | refine LoadD.own 5 rfl _ rfl rfl ?_
        | refine LoadP.at 0 rfl _ rfl rfl ?_
        | refine LoadP.at 1 rfl _ rfl rfl ?_
        | refine LoadP.at 2 rfl _ rfl rfl ?_
        | refine LoadP.at 3 rfl _ rfl rfl ?_
        | refine LoadP.at 4 rfl _ rfl rfl ?_
        | refine LoadP.at 5 rfl _ rfl rfl ?_
        | refine StoreD.st 0 rfl rfl rfl ?_
        | refine StoreD.st 1 rfl rfl rfl ?_
        | refine StoreD.st 2 rfl rfl rfl ?_
        | refine StoreD.st 3 rfl rfl rfl ?_
        | refine StoreD.st 4 rfl rfl rfl ?_
        | refine StoreD.st 5 rfl rfl rfl ?_
        | refine CmpD.yes rfl ?_
        | refine CmpD.yes (by decide) ?_
        | refine CmpD.no (by decide) ?_
        | refine Chk.mk ⟨rfl, trivial⟩ ?_
        | refine Chk.mk ⟨rfl, rfl, trivial⟩ ?_
        | refine Chk.mk ⟨rfl, rfl, rfl, trivial⟩ ?_
        | refine Chk.mk ⟨rfl, rfl, rfl, rfl, trivial⟩ ?_
        | refine Chk.mk ⟨rfl, rfl, rfl, rfl, rfl, trivial⟩ ?_
        | refine Chk.mk ⟨rfl, rfl, rfl, rfl, rfl, rfl, trivial⟩ ?_)
      refine Tri.frame1 4 rfl (dk_Arm (hD.mono hJ6) arm harm) ?_
      rintro v J7 _ hJ7 ⟨rfl, chD1, hD7, rfl⟩
      refine ⟨_, rfl, ?_⟩
      have har := r4_Armed (hR0.mono hJ7) arm harm
      rw [show d0.armed arm = ((d0.armed arm).1, 0) from by unfold DSt.armed; rw [if_neg (by omega)]]
      have few1 : (d0.armed arm).1.Few 0 := by unfold DSt.armed; rw [if_neg (by omega)]; exact few0
      rw [show (d0.armed arm).2 = 0 from by unfold DSt.armed; rw [if_neg (by omega)]] at har
      generalize (d0.armed arm).1 = d1 at *
      repeat (first
        | refine LoadD.own 0 rfl _ rfl rfl ?_
        | refine LoadD.own 1 rfl _ rfl rfl ?_
        | refine LoadD.own 2 rfl _ rfl rfl ?_
        | refine LoadD.own 3 rfl _ rfl rfl ?_
        | refine LoadD.own 4 rfl _ rfl rfl ?_
        | refine LoadD.own 5 rfl _ rfl rfl ?_
        | refine LoadP.at 0 rfl _ rfl rfl ?_
        | refine LoadP.at 1 rfl _ rfl rfl ?_
        | refine LoadP.at 2 rfl _ rfl rfl ?_
        | refine LoadP.at 3 rfl _ rfl rfl ?_
        | refine LoadP.at 4 rfl _ rfl rfl ?_
        | refine LoadP.at 5 rfl _ rfl rfl ?_
        | refine StoreD.st 0 rfl rfl rfl ?_
        | refine StoreD.st 1 rfl rfl rfl ?_
        | refine StoreD.st 2 rfl rfl rfl ?_
        | refine StoreD.st 3 rfl rfl rfl ?_
        | refine StoreD.st 4 rfl rfl rfl ?_
        | refine StoreD.st 5 rfl rfl rfl ?_
        | refine CmpD.yes rfl ?_
        | refine CmpD.yes (by decide) ?_
        | refine CmpD.no (by decide) ?_
        | refine Chk.mk ⟨rfl, trivial⟩ ?_
        | refine Chk.mk ⟨rfl, rfl, trivial⟩ ?_
        | refine Chk.mk ⟨rfl, rfl, rfl, trivial⟩ ?_
        | refine Chk.mk ⟨rfl, rfl, rfl, rfl, trivial⟩ ?_
        | refine Chk.mk ⟨rfl, rfl, rfl, rfl, rfl, trivial⟩ ?_
        | refine Chk.mk ⟨rfl, rfl, rfl, rfl, rfl, rfl, trivial⟩ ?_
        | refine ToD.i64 (by omega) (by omega) ?_
        | refine Chk.mk (by omega) ?_
        | refine CmpD.yes (by omega) ?_
        | refine CmpD.no (by omega) ?_)
      refine Tri.free har ?_
      rintro v J8 _ hJ8 ⟨w1, rfl, hR1⟩
      have hD1 := hD7.mono hJ8
      have hi8 := hi6.mono (Imm.le_trans hJ7 hJ8)
      clear har hD7
      obtain ⟨⟨sa1, sl1, sc1⟩, ⟨wa1, wl1, wc1⟩, _, _, rfl, _⟩ := id hR1.ex
      repeat (first
        | refine LoadD.own 0 rfl _ rfl rfl ?_
        | refine LoadD.own 1 rfl _ rfl rfl ?_
        | refine LoadD.own 2 rfl _ rfl rfl ?_
        | refine LoadD.own 3 rfl _ rfl rfl ?_
        | refine LoadD.own 4 rfl _ rfl rfl ?_
        | refine LoadD.own 5 rfl _ rfl rfl ?_
        | refine LoadP.at 0 rfl _ rfl rfl ?_
        | refine LoadP.at 1 rfl _ rfl rfl ?_
        | refine LoadP.at 2 rfl _ rfl rfl ?_
        | refine LoadP.at 3 rfl _ rfl rfl ?_
        | refine LoadP.at 4 rfl _ rfl rfl ?_
        | refine LoadP.at 5 rfl _ rfl rfl ?_
        | refine StoreD.st 0 rfl rfl rfl ?_
        | refine StoreD.st 1 rfl rfl rfl ?_
        | refine StoreD.st 2 rfl rfl rfl ?_
        | refine StoreD.st 3 rfl rfl rfl ?_
        | refine StoreD.st 4 rfl rfl rfl ?_
        | refine StoreD.st 5 rfl rfl rfl ?_
        | refine CmpD.yes rfl ?_
        | refine CmpD.yes (by decide) ?_
        | refine CmpD.no (by decide) ?_
        | refine Chk.mk ⟨rfl, trivial⟩ ?_
        | refine Chk.mk ⟨rfl, rfl, trivial⟩ ?_
        | refine Chk.mk ⟨rfl, rfl, rfl, trivial⟩ ?_
        | refine Chk.mk ⟨rfl, rfl, rfl, rfl, trivial⟩ ?_
        | refine Chk.mk ⟨rfl, rfl, rfl, rfl, rfl, trivial⟩ ?_
        | refine Chk.mk ⟨rfl, rfl, rfl, rfl, rfl, rfl, trivial⟩ ?_)
    rotate_left
    focus
      obtain ⟨J8, rfl⟩ : ∃ J8, J8 = J6 := ⟨_, rfl⟩
      obtain ⟨d1, rfl⟩ : ∃ d1, d1 = d0 := ⟨_, rfl⟩
      obtain ⟨chD1, rfl⟩ : ∃ c, c = chD := ⟨_, rfl⟩
      have few1 := few0
      have hD1 := hD.mono hJ6
      have hR1 := hR0
      have hi8 := hi6
      obtain ⟨sa1, rfl⟩ : ∃ c, c = sa := ⟨_, rfl⟩
      obtain ⟨sl1, rfl⟩ : ∃ c, c = sl := ⟨_, rfl⟩
      obtain ⟨sc1, rfl⟩ : ∃ c, c = sc := ⟨_, rfl⟩
      obtain ⟨wa1, rfl⟩ : ∃ c, c = wa := ⟨_, rfl⟩
      obtain ⟨wl1, rfl⟩ : ∃ c, c = wl := ⟨_, rfl⟩
      obtain ⟨wc1, rfl⟩ : ∃ c, c = wc := ⟨_, rfl⟩
      repeat (first
        | refine LoadD.own 0 rfl _ rfl rfl ?_
        | refine LoadD.own 1 rfl _ rfl rfl ?_
        | refine LoadD.own 2 rfl _ rfl rfl ?_
        | refine LoadD.own 3 rfl _ rfl rfl ?_
        | refine LoadD.own 4 rfl _ rfl rfl ?_
        | refine LoadD.own 5 rfl _ rfl rfl ?_
        | refine LoadP.at 0 rfl _ rfl rfl ?_
        | refine LoadP.at 1 rfl _ rfl rfl ?_
        | refine LoadP.at 2 rfl _ rfl rfl ?_
        | refine LoadP.at 3 rfl _ rfl rfl ?_
        | refine LoadP.at 4 rfl _ rfl rfl ?_
        | refine LoadP.at 5 rfl _ rfl rfl ?_
        | refine StoreD.st 0 rfl rfl rfl ?_
        | refine StoreD.st 1 rfl rfl rfl ?_
        | refine StoreD.st 2 rfl rfl rfl ?_
        | refine StoreD.st 3 rfl rfl rfl ?_
        | refine StoreD.st 4 rfl rfl rfl ?_
        | refine StoreD.st 5 rfl rfl rfl ?_
        | refine CmpD.yes rfl ?_
        | refine CmpD.yes (by decide) ?_
        | refine CmpD.no (by decide) ?_
        | refine Chk.mk ⟨rfl, trivial⟩ ?_
        | refine Chk.mk ⟨rfl, rfl, trivial⟩ ?_
        | refine Chk.mk ⟨rfl, rfl, rfl, trivial⟩ ?_
        | refine Chk.mk ⟨rfl, rfl, rfl, rfl, trivial⟩ ?_
        | refine Chk.mk ⟨rfl, rfl, rfl, rfl, rfl, trivial⟩ ?_
        | refine Chk.mk ⟨rfl, rfl, rfl, rfl, rfl, rfl, trivial⟩ ?_
        | refine ToD.i64 (by omega) (by omega) ?_
        | refine Chk.mk (by omega) ?_
        | refine CmpD.yes (by omega) ?_
        | refine CmpD.no (by omega) ?_)
    all_goals
      refine Tri.free (copy_imgs aL capL gs hi8 (by omega) (fun g hg => by have := his g hg; omega)) ?_
      rintro v J9 _ hJ9 ⟨aI, capI, gI, rfl, hI9, hIp⟩
      have hIl : gI.length = gs.length := by have := congrArg List.length hIp; simpa using this
      have hi9 := hi8.mono hJ9
      repeat (first
        | refine LoadD.own 0 rfl _ rfl rfl ?_
        | refine LoadD.own 1 rfl _ rfl rfl ?_
        | refine LoadD.own 2 rfl _ rfl rfl ?_
        | refine LoadD.own 3 rfl _ rfl rfl ?_
        | refine LoadD.own 4 rfl _ rfl rfl ?_
        | refine LoadD.own 5 rfl _ rfl rfl ?_
        | refine LoadP.at 0 rfl _ rfl rfl ?_
        | refine LoadP.at 1 rfl _ rfl rfl ?_
        | refine LoadP.at 2 rfl _ rfl rfl ?_
        | refine LoadP.at 3 rfl _ rfl rfl ?_
        | refine LoadP.at 4 rfl _ rfl rfl ?_
        | refine LoadP.at 5 rfl _ rfl rfl ?_
        | refine StoreD.st 0 rfl rfl rfl ?_
        | refine StoreD.st 1 rfl rfl rfl ?_
        | refine StoreD.st 2 rfl rfl rfl ?_
        | refine StoreD.st 3 rfl rfl rfl ?_
        | refine StoreD.st 4 rfl rfl rfl ?_
        | refine StoreD.st 5 rfl rfl rfl ?_
        | refine CmpD.yes rfl ?_
        | refine CmpD.yes (by decide) ?_
        | refine CmpD.no (by decide) ?_
        | refine Chk.mk ⟨rfl, trivial⟩ ?_
        | refine Chk.mk ⟨rfl, rfl, trivial⟩ ?_
        | refine Chk.mk ⟨rfl, rfl, rfl, trivial⟩ ?_
        | refine Chk.mk ⟨rfl, rfl, rfl, rfl, trivial⟩ ?_
        | refine Chk.mk ⟨rfl, rfl, rfl, rfl, rfl, trivial⟩ ?_
        | refine Chk.mk ⟨rfl, rfl, rfl, rfl, rfl, rfl, trivial⟩ ?_)
      refine Tri.frame1 4 rfl (dk_Do (hD1.mono hJ9) 0 few1 aI capI gI hI9 (by omega) s slot) ?_
      rintro v J10 _ hJ10 ⟨rfl, chD2, hD2, rfl⟩
      refine ⟨_, rfl, ?_⟩
      rw [hIp] at hD2 ⊢
      repeat (first
        | refine LoadD.own 0 rfl _ rfl rfl ?_
        | refine LoadD.own 1 rfl _ rfl rfl ?_
        | refine LoadD.own 2 rfl _ rfl rfl ?_
        | refine LoadD.own 3 rfl _ rfl rfl ?_
        | refine LoadD.own 4 rfl _ rfl rfl ?_
        | refine LoadD.own 5 rfl _ rfl rfl ?_
        | refine LoadP.at 0 rfl _ rfl rfl ?_
        | refine LoadP.at 1 rfl _ rfl rfl ?_
        | refine LoadP.at 2 rfl _ rfl rfl ?_
        | refine LoadP.at 3 rfl _ rfl rfl ?_
        | refine LoadP.at 4 rfl _ rfl rfl ?_
        | refine LoadP.at 5 rfl _ rfl rfl ?_
        | refine StoreD.st 0 rfl rfl rfl ?_
        | refine StoreD.st 1 rfl rfl rfl ?_
        | refine StoreD.st 2 rfl rfl rfl ?_
        | refine StoreD.st 3 rfl rfl rfl ?_
        | refine StoreD.st 4 rfl rfl rfl ?_
        | refine StoreD.st 5 rfl rfl rfl ?_
        | refine CmpD.yes rfl ?_
        | refine CmpD.yes (by decide) ?_
        | refine CmpD.no (by decide) ?_
        | refine Chk.mk ⟨rfl, trivial⟩ ?_
        | refine Chk.mk ⟨rfl, rfl, trivial⟩ ?_
        | refine Chk.mk ⟨rfl, rfl, rfl, trivial⟩ ?_
        | refine Chk.mk ⟨rfl, rfl, rfl, rfl, trivial⟩ ?_
        | refine Chk.mk ⟨rfl, rfl, rfl, rfl, rfl, trivial⟩ ?_
        | refine Chk.mk ⟨rfl, rfl, rfl, rfl, rfl, rfl, trivial⟩ ?_)
      refine Tri.free (r10_Do (hR1.mono (Imm.le_trans hJ9 hJ10)) 0 few1 aL capL gs (hi9.mono hJ10) (by omega) s slot hslot) ?_
      rintro v J11 _ hJ11 ⟨w2, rfl, hR2⟩
      have few2 : (doP d1 (gs.map Img.pr) s slot).1.Few 1000 := (doP_few few1 _ _ _).mono (by rw [List.length_map]; omega)
      obtain ⟨⟨sa2, sl2, sc2⟩, ⟨wa2, wl2, wc2⟩, _, gW, rfl, _, _, _, _, hwl, hwp⟩ := id hR2.ex
      generalize doP d1 (gs.map Img.pr) s slot = dE at *
      obtain ⟨d2, e2⟩ := dE
      dsimp only at hD2 hR2 few2 hwl hwp ⊢
      have hwW : wl2 = d2.writes.length := by rw [← hwp, List.length_map]; exact hwl
      repeat (first
        | refine LoadD.own 0 rfl _ rfl rfl ?_
        | refine LoadD.own 1 rfl _ rfl rfl ?_
        | refine LoadD.own 2 rfl _ rfl rfl ?_
        | refine LoadD.own 3 rfl _ rfl rfl ?_
        | refine LoadD.own 4 rfl _ rfl rfl ?_
        | refine LoadD.own 5 rfl _ rfl rfl ?_
        | refine LoadP.at 0 rfl _ rfl rfl ?_
        | refine LoadP.at 1 rfl _ rfl rfl ?_
        | refine LoadP.at 2 rfl _ rfl rfl ?_
        | refine LoadP.at 3 rfl _ rfl rfl ?_
        | refine LoadP.at 4 rfl _ rfl rfl ?_
        | refine LoadP.at 5 rfl _ rfl rfl ?_
        | refine StoreD.st 0 rfl rfl rfl ?_
        | refine StoreD.st 1 rfl rfl rfl ?_
        | refine StoreD.st 2 rfl rfl rfl ?_
        | refine StoreD.st 3 rfl rfl rfl ?_
        | refine StoreD.st 4 rfl rfl rfl ?_
        | refine StoreD.st 5 rfl rfl rfl ?_
        | refine CmpD.yes rfl ?_
        | refine CmpD.yes (by decide) ?_
        | refine CmpD.no (by decide) ?_
        | refine Chk.mk ⟨rfl, trivial⟩ ?_
        | refine Chk.mk ⟨rfl, rfl, trivial⟩ ?_
        | refine Chk.mk ⟨rfl, rfl, rfl, trivial⟩ ?_
        | refine Chk.mk ⟨rfl, rfl, rfl, rfl, trivial⟩ ?_
        | refine Chk.mk ⟨rfl, rfl, rfl, rfl, rfl, trivial⟩ ?_
        | refine Chk.mk ⟨rfl, rfl, rfl, rfl, rfl, rfl, trivial⟩ ?_)
      refine CodeF.sched [[], [], [0, 1], [0, 1, 2], [0, 1, 2, 3], [0, 1, 2, 3], [0, 1, 2, 3, 4, 5], [0, 1, 2, 3, 4, 5, 6], [0, 1, 2, 3, 4, 5, 6, 7], [0, 1, 2, 3, 4, 5, 6, 7, 8], [0, 1, 2, 3, 4, 5, 6, 7, 8, 9], [0, 1, 2, 3, 4, 5, 6, 7, 8, 9, 10], [0, 1, 2, 3, 4, 5, 6, 7, 8, 9], [0, 1, 2, 3, 4, 5, 6, 7, 8, 9, 12], [0, 1, 2, 3, 4, 5, 6, 7, 8, 9, 10, 11, 12, 13], [0, 1, 2, 3, 4, 5, 6, 7, 8, 9, 10, 11, 12, 13, 14], [0, 1, 2, 3, 4, 5, 6, 7, 8, 9, 10, 11, 12, 13, 14, 15], [0, 1, 2, 3, 4, 5, 6, 7, 8, 9, 10, 11, 12, 13, 14, 15, 16], [0, 1, 2, 3, 4, 5, 6, 7, 8, 9, 10, 11, 12, 13, 14, 15, 16, 17], [0, 1, 2, 3, 4, 5, 6, 7, 8, 9, 10, 11, 12, 13, 14, 15, 16, 17, 18], [0, 1, 2, 3, 4, 5, 6, 7, 8, 9, 10, 11, 12, 13, 14, 15, 16], [0, 1, 2, 3, 4, 5, 6, 7, 8, 9, 10, 11, 12, 13, 14, 15, 16, 20], [0, 1, 2, 3, 4, 5, 6, 7, 8, 9, 10, 11, 12, 13, 14, 15, 16, 20, 21], [0, 1, 2, 3, 4, 5, 6, 7, 8, 9, 10, 11, 12, 13, 14, 15, 16, 17, 18, 19, 20, 21, 22], [0, 1, 2, 3, 4, 5, 6, 7, 8, 9, 10, 11, 12, 13, 14, 15, 16, 17, 18, 19, 20, 21, 22, 23]] [0, 1, 2, 3, 4, 5, 6, 7, 8, 9, 10, 12, 13, 11, 14, 15, 16, 17, 20, 21, 22, 18, 19, 23, 24] (by kernel_rfl) ?_
      repeat (first
        | refine LoadD.own 0 rfl _ rfl rfl ?_
        | refine LoadD.own 1 rfl _ rfl rfl ?_
        | refine LoadD.own 2 rfl _ rfl rfl ?_
        | refine LoadD.own 3 rfl _ rfl rfl ?_
        | refine LoadD.own 4 rfl _ rfl rfl ?_
        | refine LoadD.own 5 rfl _ rfl rfl ?_
        | refine LoadP.at 0 rfl _ rfl rfl ?_
        | refine LoadP.at 1 rfl _ rfl rfl ?_
        | refine LoadP.at 2 rfl _ rfl rfl ?_
        | refine LoadP.at 3 rfl _ rfl rfl ?_
        | refine LoadP.at 4 rfl _ rfl rfl ?_
        | refine LoadP.at 5 rfl _ rfl rfl ?_
        | refine StoreD.st 0 rfl rfl rfl ?_
        | refine StoreD.st 1 rfl rfl rfl ?_
        | refine StoreD.st 2 rfl rfl rfl ?_
        | refine StoreD.st 3 rfl rfl rfl ?_
        | refine StoreD.st 4 rfl rfl rfl ?_
        | refine StoreD.st 5 rfl rfl rfl ?_
        | refine CmpD.yes rfl ?_
        | refine CmpD.yes (by decide) ?_
        | refine CmpD.no (by decide) ?_
        | refine Chk.mk ⟨rfl, trivial⟩ ?_
        | refine Chk.mk ⟨rfl, rfl, trivial⟩ ?_
        | refine Chk.mk ⟨rfl, rfl, rfl, trivial⟩ ?_
        | refine Chk.mk ⟨rfl, rfl, rfl, rfl, trivial⟩ ?_
        | refine Chk.mk ⟨rfl, rfl, rfl, rfl, rfl, trivial⟩ ?_
        | refine Chk.mk ⟨rfl, rfl, rfl, rfl, rfl, rfl, trivial⟩ ?_)
      have hiz := hi9.mono (Imm.le_trans hJ10 hJ11)
      have hIz := hI9.mono (Imm.le_trans hJ10 hJ11)
      refine Tri.free (same_imgs (S := []) (imgsR_of hIz) (imgsR_of hiz) (by omega)) ?_
      rintro v _ _ _ ⟨rfl, rfl, rfl⟩
      rw [decide_eq_true hIp]
      repeat (first
        | refine LoadD.own 0 rfl _ rfl rfl ?_
        | refine LoadD.own 1 rfl _ rfl rfl ?_
        | refine LoadD.own 2 rfl _ rfl rfl ?_
        | refine LoadD.own 3 rfl _ rfl rfl ?_
        | refine LoadD.own 4 rfl _ rfl rfl ?_
        | refine LoadD.own 5 rfl _ rfl rfl ?_
        | refine LoadP.at 0 rfl _ rfl rfl ?_
        | refine LoadP.at 1 rfl _ rfl rfl ?_
        | refine LoadP.at 2 rfl _ rfl rfl ?_
        | refine LoadP.at 3 rfl _ rfl rfl ?_
        | refine LoadP.at 4 rfl _ rfl rfl ?_
        | refine LoadP.at 5 rfl _ rfl rfl ?_
        | refine StoreD.st 0 rfl rfl rfl ?_
        | refine StoreD.st 1 rfl rfl rfl ?_
        | refine StoreD.st 2 rfl rfl rfl ?_
        | refine StoreD.st 3 rfl rfl rfl ?_
        | refine StoreD.st 4 rfl rfl rfl ?_
        | refine StoreD.st 5 rfl rfl rfl ?_
        | refine CmpD.yes rfl ?_
        | refine CmpD.yes (by decide) ?_
        | refine CmpD.no (by decide) ?_
        | refine Chk.mk ⟨rfl, trivial⟩ ?_
        | refine Chk.mk ⟨rfl, rfl, trivial⟩ ?_
        | refine Chk.mk ⟨rfl, rfl, rfl, trivial⟩ ?_
        | refine Chk.mk ⟨rfl, rfl, rfl, rfl, trivial⟩ ?_
        | refine Chk.mk ⟨rfl, rfl, rfl, rfl, rfl, trivial⟩ ?_
        | refine Chk.mk ⟨rfl, rfl, rfl, rfl, rfl, rfl, trivial⟩ ?_)
      refine Tri.frame1 4 rfl (dk_Writes (hD2.mono hJ11)) ?_
      rintro v J12 _ hJ12 ⟨rfl, rfl, rfl⟩
      refine ⟨_, rfl, ?_⟩
      repeat (first
        | refine LoadD.own 0 rfl _ rfl rfl ?_
        | refine LoadD.own 1 rfl _ rfl rfl ?_
        | refine LoadD.own 2 rfl _ rfl rfl ?_
        | refine LoadD.own 3 rfl _ rfl rfl ?_
        | refine LoadD.own 4 rfl _ rfl rfl ?_
        | refine LoadD.own 5 rfl _ rfl rfl ?_
        | refine LoadP.at 0 rfl _ rfl rfl ?_
        | refine LoadP.at 1 rfl _ rfl rfl ?_
        | refine LoadP.at 2 rfl _ rfl rfl ?_
        | refine LoadP.at 3 rfl _ rfl rfl ?_
        | refine LoadP.at 4 rfl _ rfl rfl ?_
        | refine LoadP.at 5 rfl _ rfl rfl ?_
        | refine StoreD.st 0 rfl rfl rfl ?_
        | refine StoreD.st 1 rfl rfl rfl ?_
        | refine StoreD.st 2 rfl rfl rfl ?_
        | refine StoreD.st 3 rfl rfl rfl ?_
        | refine StoreD.st 4 rfl rfl rfl ?_
        | refine StoreD.st 5 rfl rfl rfl ?_
        | refine CmpD.yes rfl ?_
        | refine CmpD.yes (by decide) ?_
        | refine CmpD.no (by decide) ?_
        | refine Chk.mk ⟨rfl, trivial⟩ ?_
        | refine Chk.mk ⟨rfl, rfl, trivial⟩ ?_
        | refine Chk.mk ⟨rfl, rfl, rfl, trivial⟩ ?_
        | refine Chk.mk ⟨rfl, rfl, rfl, rfl, trivial⟩ ?_
        | refine Chk.mk ⟨rfl, rfl, rfl, rfl, rfl, trivial⟩ ?_
        | refine Chk.mk ⟨rfl, rfl, rfl, rfl, rfl, rfl, trivial⟩ ?_)
      refine Tri.frame (dk_Pending (hD2.mono hJ11) (few2.mono (by omega))) [4] rfl rfl ?_
      rintro v J13 A' hJ13 ⟨aW, capW, chW, rfl, hW, rfl, rfl⟩
      refine ⟨by simp, ?_⟩
      repeat (first
        | refine LoadD.own 0 rfl _ rfl rfl ?_
        | refine LoadD.own 1 rfl _ rfl rfl ?_
        | refine LoadD.own 2 rfl _ rfl rfl ?_
        | refine LoadD.own 3 rfl _ rfl rfl ?_
        | refine LoadD.own 4 rfl _ rfl rfl ?_
        | refine LoadD.own 5 rfl _ rfl rfl ?_
        | refine LoadP.at 0 rfl _ rfl rfl ?_
        | refine LoadP.at 1 rfl _ rfl rfl ?_
        | refine LoadP.at 2 rfl _ rfl rfl ?_
        | refine LoadP.at 3 rfl _ rfl rfl ?_
        | refine LoadP.at 4 rfl _ rfl rfl ?_
        | refine LoadP.at 5 rfl _ rfl rfl ?_
        | refine StoreD.st 0 rfl rfl rfl ?_
        | refine StoreD.st 1 rfl rfl rfl ?_
        | refine StoreD.st 2 rfl rfl rfl ?_
        | refine StoreD.st 3 rfl rfl rfl ?_
        | refine StoreD.st 4 rfl rfl rfl ?_
        | refine StoreD.st 5 rfl rfl rfl ?_
        | refine CmpD.yes rfl ?_
        | refine CmpD.yes (by decide) ?_
        | refine CmpD.no (by decide) ?_
        | refine Chk.mk ⟨rfl, trivial⟩ ?_
        | refine Chk.mk ⟨rfl, rfl, trivial⟩ ?_
        | refine Chk.mk ⟨rfl, rfl, rfl, trivial⟩ ?_
        | refine Chk.mk ⟨rfl, rfl, rfl, rfl, trivial⟩ ?_
        | refine Chk.mk ⟨rfl, rfl, rfl, rfl, rfl, trivial⟩ ?_
        | refine Chk.mk ⟨rfl, rfl, rfl, rfl, rfl, rfl, trivial⟩ ?_)
      refine CmpD.yes (by show ((d2.writes.length : Nat) : Int) = (wl2 : Int); omega) ?_
      repeat (first
        | refine LoadD.own 0 rfl _ rfl rfl ?_
        | refine LoadD.own 1 rfl _ rfl rfl ?_
        | refine LoadD.own 2 rfl _ rfl rfl ?_
        | refine LoadD.own 3 rfl _ rfl rfl ?_
        | refine LoadD.own 4 rfl _ rfl rfl ?_
        | refine LoadD.own 5 rfl _ rfl rfl ?_
        | refine LoadP.at 0 rfl _ rfl rfl ?_
        | refine LoadP.at 1 rfl _ rfl rfl ?_
        | refine LoadP.at 2 rfl _ rfl rfl ?_
        | refine LoadP.at 3 rfl _ rfl rfl ?_
        | refine LoadP.at 4 rfl _ rfl rfl ?_
        | refine LoadP.at 5 rfl _ rfl rfl ?_
        | refine StoreD.st 0 rfl rfl rfl ?_
        | refine StoreD.st 1 rfl rfl rfl ?_
        | refine StoreD.st 2 rfl rfl rfl ?_
        | refine StoreD.st 3 rfl rfl rfl ?_
        | refine StoreD.st 4 rfl rfl rfl ?_
        | refine StoreD.st 5 rfl rfl rfl ?_
        | refine CmpD.yes rfl ?_
        | refine CmpD.yes (by decide) ?_
        | refine CmpD.no (by decide) ?_
        | refine Chk.mk ⟨rfl, trivial⟩ ?_
        | refine Chk.mk ⟨rfl, rfl, trivial⟩ ?_
        | refine Chk.mk ⟨rfl, rfl, rfl, trivial⟩ ?_
        | refine Chk.mk ⟨rfl, rfl, rfl, rfl, trivial⟩ ?_
        | refine Chk.mk ⟨rfl, rfl, rfl, rfl, rfl, trivial⟩ ?_
        | refine Chk.mk ⟨rfl, rfl, rfl, rfl, rfl, rfl, trivial⟩ ?_)
      refine CodeF.sched [[], [0], [], [0, 1, 2], [0, 1, 2, 3], [0, 1, 2, 3, 4], [0, 1, 2, 3, 4, 5], [0, 1, 2, 3, 4, 5, 6], [0, 1, 2, 3, 4, 5, 6, 7]] [0, 2, 1, 3, 4, 5, 6, 7, 8] (by kernel_rfl) ?_
      repeat (first
        | refine LoadD.own 0 rfl _ rfl rfl ?_
        | refine LoadD.own 1 rfl _ rfl rfl ?_
        | refine LoadD.own 2 rfl _ rfl rfl ?_
        | refine LoadD.own 3 rfl _ rfl rfl ?_
        | refine LoadD.own 4 rfl _ rfl rfl ?_
        | refine LoadD.own 5 rfl _ rfl rfl ?_
        | refine LoadP.at 0 rfl _ rfl rfl ?_
        | refine LoadP.at 1 rfl _ rfl rfl ?_
        | refine LoadP.at 2 rfl _ rfl rfl ?_
        | refine LoadP.at 3 rfl _ rfl rfl ?_
        | refine LoadP.at 4 rfl _ rfl rfl ?_
        | refine LoadP.at 5 rfl _ rfl rfl ?_
        | refine StoreD.st 0 rfl rfl rfl ?_
        | refine StoreD.st 1 rfl rfl rfl ?_
        | refine StoreD.st 2 rfl rfl rfl ?_
        | refine StoreD.st 3 rfl rfl rfl ?_
        | refine StoreD.st 4 rfl rfl rfl ?_
        | refine StoreD.st 5 rfl rfl rfl ?_
        | refine CmpD.yes rfl ?_
        | refine CmpD.yes (by decide) ?_
        | refine CmpD.no (by decide) ?_
        | refine Chk.mk ⟨rfl, trivial⟩ ?_
        | refine Chk.mk ⟨rfl, rfl, trivial⟩ ?_
        | refine Chk.mk ⟨rfl, rfl, rfl, trivial⟩ ?_
        | refine Chk.mk ⟨rfl, rfl, rfl, rfl, trivial⟩ ?_
        | refine Chk.mk ⟨rfl, rfl, rfl, rfl, rfl, trivial⟩ ?_
        | refine Chk.mk ⟨rfl, rfl, rfl, rfl, rfl, rfl, trivial⟩ ?_)
      have hDz := hD2.mono (Imm.le_trans hJ11 (Imm.le_trans hJ12 hJ13))
      have hRz := hR2.mono (Imm.le_trans hJ12 hJ13)
      refine Tri.frame (dk_Image hDz) [4] rfl rfl ?_
      rintro v J14 A' hJ14 ⟨aX, capX, chX, rfl, hX, rfl, rfl⟩
      refine ⟨by simp, ?_⟩
      repeat (first
        | refine LoadD.own 0 rfl _ rfl rfl ?_
        | refine LoadD.own 1 rfl _ rfl rfl ?_
        | refine LoadD.own 2 rfl _ rfl rfl ?_
        | refine LoadD.own 3 rfl _ rfl rfl ?_
        | refine LoadD.own 4 rfl _ rfl rfl ?_
        | refine LoadD.own 5 rfl _ rfl rfl ?_
        | refine LoadP.at 0 rfl _ rfl rfl ?_
        | refine LoadP.at 1 rfl _ rfl rfl ?_
        | refine LoadP.at 2 rfl _ rfl rfl ?_
        | refine LoadP.at 3 rfl _ rfl rfl ?_
        | refine LoadP.at 4 rfl _ rfl rfl ?_
        | refine LoadP.at 5 rfl _ rfl rfl ?_
        | refine StoreD.st 0 rfl rfl rfl ?_
        | refine StoreD.st 1 rfl rfl rfl ?_
        | refine StoreD.st 2 rfl rfl rfl ?_
        | refine StoreD.st 3 rfl rfl rfl ?_
        | refine StoreD.st 4 rfl rfl rfl ?_
        | refine StoreD.st 5 rfl rfl rfl ?_
        | refine CmpD.yes rfl ?_
        | refine CmpD.yes (by decide) ?_
        | refine CmpD.no (by decide) ?_
        | refine Chk.mk ⟨rfl, trivial⟩ ?_
        | refine Chk.mk ⟨rfl, rfl, trivial⟩ ?_
        | refine Chk.mk ⟨rfl, rfl, rfl, trivial⟩ ?_
        | refine Chk.mk ⟨rfl, rfl, rfl, rfl, trivial⟩ ?_
        | refine Chk.mk ⟨rfl, rfl, rfl, rfl, rfl, trivial⟩ ?_
        | refine Chk.mk ⟨rfl, rfl, rfl, rfl, rfl, rfl, trivial⟩ ?_)
      refine Tri.frame (r4_Image hRz (few2.mono (by omega))) [] rfl rfl ?_
      rintro v J15 A' hJ15 ⟨aY, capY, chY, rfl, hY, rfl, rfl⟩
      refine ⟨by simp, ?_⟩
      repeat (first
        | refine LoadD.own 0 rfl _ rfl rfl ?_
        | refine LoadD.own 1 rfl _ rfl rfl ?_
        | refine LoadD.own 2 rfl _ rfl rfl ?_
        | refine LoadD.own 3 rfl _ rfl rfl ?_
        | refine LoadD.own 4 rfl _ rfl rfl ?_
        | refine LoadD.own 5 rfl _ rfl rfl ?_
        | refine LoadP.at 0 rfl _ rfl rfl ?_
        | refine LoadP.at 1 rfl _ rfl rfl ?_
        | refine LoadP.at 2 rfl _ rfl rfl ?_
        | refine LoadP.at 3 rfl _ rfl rfl ?_
        | refine LoadP.at 4 rfl _ rfl rfl ?_
        | refine LoadP.at 5 rfl _ rfl rfl ?_
        | refine StoreD.st 0 rfl rfl rfl ?_
        | refine StoreD.st 1 rfl rfl rfl ?_
        | refine StoreD.st 2 rfl rfl rfl ?_
        | refine StoreD.st 3 rfl rfl rfl ?_
        | refine StoreD.st 4 rfl rfl rfl ?_
        | refine StoreD.st 5 rfl rfl rfl ?_
        | refine CmpD.yes rfl ?_
        | refine CmpD.yes (by decide) ?_
        | refine CmpD.no (by decide) ?_
        | refine Chk.mk ⟨rfl, trivial⟩ ?_
        | refine Chk.mk ⟨rfl, rfl, trivial⟩ ?_
        | refine Chk.mk ⟨rfl, rfl, rfl, trivial⟩ ?_
        | refine Chk.mk ⟨rfl, rfl, rfl, rfl, trivial⟩ ?_
        | refine Chk.mk ⟨rfl, rfl, rfl, rfl, rfl, trivial⟩ ?_
        | refine Chk.mk ⟨rfl, rfl, rfl, rfl, rfl, rfl, trivial⟩ ?_)
      refine Tri.nf (same_bytes (hX.slC1 7 rfl) (hY.slC1 8 rfl)) ?_
      rintro v _ _ _ ⟨rfl, rfl, rfl⟩
      rw [decide_eq_true rfl]
      repeat (first
        | refine LoadD.own 0 rfl _ rfl rfl ?_
        | refine LoadD.own 1 rfl _ rfl rfl ?_
        | refine LoadD.own 2 rfl _ rfl rfl ?_
        | refine LoadD.own 3 rfl _ rfl rfl ?_
        | refine LoadD.own 4 rfl _ rfl rfl ?_
        | refine LoadD.own 5 rfl _ rfl rfl ?_
        | refine LoadP.at 0 rfl _ rfl rfl ?_
        | refine LoadP.at 1 rfl _ rfl rfl ?_
        | refine LoadP.at 2 rfl _ rfl rfl ?_
        | refine LoadP.at 3 rfl _ rfl rfl ?_
        | refine LoadP.at 4 rfl _ rfl rfl ?_
        | refine LoadP.at 5 rfl _ rfl rfl ?_
        | refine StoreD.st 0 rfl rfl rfl ?_
        | refine StoreD.st 1 rfl rfl rfl ?_
        | refine StoreD.st 2 rfl rfl rfl ?_
        | refine StoreD.st 3 rfl rfl rfl ?_
        | refine StoreD.st 4 rfl rfl rfl ?_
        | refine StoreD.st 5 rfl rfl rfl ?_
        | refine CmpD.yes rfl ?_
        | refine CmpD.yes (by decide) ?_
        | refine CmpD.no (by decide) ?_
        | refine Chk.mk ⟨rfl, trivial⟩ ?_
        | refine Chk.mk ⟨rfl, rfl, trivial⟩ ?_
        | refine Chk.mk ⟨rfl, rfl, rfl, trivial⟩ ?_
        | refine Chk.mk ⟨rfl, rfl, rfl, rfl, trivial⟩ ?_
        | refine Chk.mk ⟨rfl, rfl, rfl, rfl, rfl, trivial⟩ ?_
        | refine Chk.mk ⟨rfl, rfl, rfl, rfl, rfl, rfl, trivial⟩ ?_)
      refine Tri.mono (wake _ _) ?_
      rintro v J S' hJ rfl
      repeat (first
        | refine LoadD.own 0 rfl _ rfl rfl ?_
        | refine LoadD.own 1 rfl _ rfl rfl ?_
        | refine LoadD.own 2 rfl _ rfl rfl ?_
        | refine LoadD.own 3 rfl _ rfl rfl ?_
        | refine LoadD.own 4 rfl _ rfl rfl ?_
        | refine LoadD.own 5 rfl _ rfl rfl ?_
        | refine LoadP.at 0 rfl _ rfl rfl ?_
        | refine LoadP.at 1 rfl _ rfl rfl ?_
        | refine LoadP.at 2 rfl _ rfl rfl ?_
        | refine LoadP.at 3 rfl _ rfl rfl ?_
        | refine LoadP.at 4 rfl _ rfl rfl ?_
        | refine LoadP.at 5 rfl _ rfl rfl ?_
        | refine StoreD.st 0 rfl rfl rfl ?_
        | refine StoreD.st 1 rfl rfl rfl ?_
        | refine StoreD.st 2 rfl rfl rfl ?_
        | refine StoreD.st 3 rfl rfl rfl ?_
        | refine StoreD.st 4 rfl rfl rfl ?_
        | refine StoreD.st 5 rfl rfl rfl ?_
        | refine CmpD.yes rfl ?_
        | refine CmpD.yes (by decide) ?_
        | refine CmpD.no (by decide) ?_
        | refine Chk.mk ⟨rfl, trivial⟩ ?_
        | refine Chk.mk ⟨rfl, rfl, trivial⟩ ?_
        | refine Chk.mk ⟨rfl, rfl, rfl, trivial⟩ ?_
        | refine Chk.mk ⟨rfl, rfl, rfl, rfl, trivial⟩ ?_
        | refine Chk.mk ⟨rfl, rfl, rfl, rfl, rfl, trivial⟩ ?_
        | refine Chk.mk ⟨rfl, rfl, rfl, rfl, rfl, rfl, trivial⟩ ?_)
      exact Done.mk rfl
end Go.Proofs.Ytbpdbgcndfcilaa
namespace Go.Proofs.Ytbpdbgcndfcilaa
open Go.RowKit Go.Sl
set_option maxRecDepth 20000

theorem bulk_one {H : Type} (d : DataW H) : 1 ≤ Rows.uptoBulk d := by
  cases d with
  | lit l => cases l <;> simp [Rows.uptoBulk]
  | nil => simp [Rows.uptoBulk]
  | ptr d => simp [Rows.uptoBulk]
  | slice elems spare => simp [Rows.uptoBulk]
  | agg parts => simp [Rows.uptoBulk]
  | iface t d => simp [Rows.uptoBulk]
  | map entries => simp [Rows.uptoBulk]
  | held h => simp [Rows.uptoBulk]
theorem bulk_append {H : Type} (l r : List (DataW H)) : Rows.uptoBulkAll (l ++ r) = Rows.uptoBulkAll l + Rows.uptoBulkAll r := by
  induction l with
  | nil => simp [Rows.uptoBulkAll]
  | cons x l ih => simp only [List.cons_append, Rows.uptoBulkAll, ih]; omega
theorem bulk_sum {H : Type} (D : Nat → DataW H) (F : Nat → Nat) : ∀ n, (∀ i, i < n → F i ≤ Rows.uptoBulk (D i)) → ((List.range n).map F).sum ≤ Rows.uptoBulkAll ((List.range n).map D)
  | 0, _ => by simp
  | n + 1, h => by
    have := bulk_sum D F n (fun i hi => h i (by omega))
    have := h n (by omega)
    rw [List.range_succ, List.map_append, List.map_append, List.sum_append, bulk_append]
    simp [Rows.uptoBulkAll]
    omega
theorem bulk_slice {H : Type} {d : DataW H} {len : Nat} {D : Nat → DataW H} (h : (d = .nil ∧ len = 0) ∨ ∃ R, d = .slice ((List.range len).map D) R) (F : Nat → Nat) (hF : ∀ i, i < len → F i ≤ Rows.uptoBulk (D i)) : ((List.range len).map F).sum + 1 ≤ Rows.uptoBulk d := by
  rcases h with ⟨rfl, rfl⟩ | ⟨R, rfl⟩
  · simp [Rows.uptoBulk]
  · have := bulk_sum D F len hF
    simp only [Rows.uptoBulk]
    omega
theorem map_by {α β : Type} [Inhabited α] (l : List α) (n : Nat) (h : l.length = n) (f : α → β) : l.map f = (List.range n).map fun i => f (l.getD i default) := by
  subst h; exact Go.Deep.map_by_index l default f
section
variable {H : Type} {enc : TypeId × Value → H} {W : World} {held : Bool} {fuel : Nat}
theorem open_bytes {c0 : Value} {x : DataW H × List MemPlace} (h : DataW.trod enc Try.prog W 0 (fun _ => true) held fuel 60 [c0] = some x) :
    ∃ (a : Option Addr) (len cap : Nat) (l : Dat), c0 = .slice a len cap ∧ len ≤ cap ∧ cap ≤ maxLen ∧ l.length = len ∧ Rds (base W) a len (bts l) ∧ len + 1 ≤ Rows.uptoBulk x.1 := by
  obtain ⟨a, len, cap, vs, D, rfl, hlc, hcm, hel, hR, hD⟩ := open_elems Try.underlying60 (k := 1) (by kernel_rfl) (by omega) h
  obtain ⟨z, hz⟩ := Go.Deep.choose_lt (α := UInt8) (n := len) (p := fun i z => vs i = [byte z]) (fun i hi => by
    obtain ⟨hl, n, Pl, ht⟩ := hel i hi
    obtain ⟨m, h1, _, hw⟩ := DataW.trod_int Try.underlying5 ht
    have : 0 ≤ m ∧ m < 256 := by simp [Lit.wf, IntKind.min, IntKind.max, IntKind.signed, IntKind.bits] at hw; omega
    refine ⟨UInt8.ofNat m.toNat, ?_⟩
    rw [h1]
    simp only [byte, UInt8.toNat_ofNat']
    congr 2
    omega)
  refine ⟨a, len, cap, (List.range len).map z, rfl, hlc, hcm, by simp, ?_, ?_⟩
  · rw [Nat.mul_one] at hR
    have e : (List.range len).flatMap vs = bts ((List.range len).map z) := by
      rw [Go.Deep.flatMap_congr_range (fun i hi => hz i hi)]
      unfold bts
      rw [List.map_map]
      induction List.range len with
      | nil => rfl
      | cons y l ih => simp [ih]
    rw [← e]; exact hR
  · have h1 := bulk_slice hD (fun _ => 1) (fun i _ => bulk_one _)
    have h2 : ((List.range len).map fun _ => 1).sum = len := by
      have : ∀ n : Nat, ((List.range n).map fun _ => 1).sum = n := by
        intro n
        induction n with
        | zero => rfl
        | succ n ih => rw [List.range_succ, List.map_append, List.sum_append, ih]; rfl
      exact this len
    omega
def imgBulk (gs : List Img) : Nat := (gs.map fun g => g.len + 3).sum
instance : Inhabited Img := ⟨⟨0, none, 0, 0, []⟩⟩
theorem open_images {c0 : Value} {x : DataW H × List MemPlace} (h : DataW.trod enc Try.prog W 0 (fun _ => true) held fuel 47 [c0] = some x) :
    ∃ (a : Option Addr) (len cap : Nat) (gs : List Img), c0 = .slice a len cap ∧ len ≤ cap ∧ cap ≤ maxLen ∧ gs.length = len ∧ ImgsOk (base W) a gs ∧ imgBulk gs + 1 ≤ Rows.uptoBulk x.1 := by
  obtain ⟨a, len, cap, vs, D, rfl, hlc, hcm, hel, hR, hD⟩ := open_elems Try.underlying47 (k := 2) (by kernel_rfl) (by omega) h
  obtain ⟨z, hz⟩ := Go.Deep.choose_lt (α := Img) (n := len) (p := fun i g => vs i = [.int .i64 g.blk, .slice g.a g.len g.cap] ∧ ImgOk (base W) g ∧ g.len + 3 ≤ Rows.uptoBulk (D i)) (fun i hi => by
    obtain ⟨hl, n, Pl, ht⟩ := hel i hi
    match hv : vs i, hl with
    | [v0, v1], _ =>
    rw [hv] at ht
    obtain ⟨y0, y1, n2, hx2, _, t0, t1⟩ := Go.ChangeShapes.trod_struct2 Try.underlying87 ht
    have t0 : DataW.trod enc Try.prog W 0 (fun _ => true) held n2 3 (([v0, v1].drop 0).take (Try.prog.cellsOf 3)) = some y0 := t0
    have t1 : DataW.trod enc Try.prog W 0 (fun _ => true) held n2 60 (([v0, v1].drop 1).take (Try.prog.cellsOf 60)) = some y1 := t1
    rw [show Try.prog.cellsOf 3 = 1 from by kernel_rfl] at t0
    rw [show Try.prog.cellsOf 60 = 1 from by kernel_rfl] at t1
    obtain ⟨m, h1, _, hw⟩ := DataW.trod_int Try.underlying3 t0
    obtain ⟨a1, len1, cap1, l1, rfl, _, _, hl1, hR1, hb1⟩ := open_bytes t1
    simp only [List.drop_zero, List.take_succ_cons, List.take_zero, List.cons.injEq, and_true] at h1
    subst h1
    refine ⟨⟨m, a1, len1, cap1, l1⟩, rfl, ⟨int_of_wf hw, hR1⟩, ?_⟩
    have hDi : D i = .agg [y0.1, y1.1] := congrArg Prod.fst hx2
    have o0 := bulk_one y0.1
    rw [hDi]
    simp only [Rows.uptoBulk, Rows.uptoBulkAll]
    omega)
  refine ⟨a, len, cap, (List.range len).map z, rfl, hlc, hcm, by simp, ⟨?_, ?_⟩, ?_⟩
  · have e : (List.range len).flatMap vs = imgCells ((List.range len).map z) := by
      rw [Go.Deep.flatMap_congr_range (fun i hi => (hz i hi).1)]
      unfold imgCells
      rw [List.flatMap_map]
    rw [← e, List.length_map, List.length_range]; exact hR
  · intro g hg
    obtain ⟨i, hi, rfl⟩ := List.mem_map.1 hg
    exact (hz i (List.mem_range.1 hi)).2.1
  · have := bulk_slice hD (fun i => (z i).len + 3) (fun i hi => (hz i hi).2.2)
    unfold imgBulk
    rw [List.map_map]
    exact this
def grpBulk (l : List Grp) : Nat := (l.map fun g => imgBulk g.gs + 4).sum
theorem open_groups {c0 : Value} {x : DataW H × List MemPlace} (h : DataW.trod enc Try.prog W 0 (fun _ => true) held fuel 64 [c0] = some x) :
    ∃ (a : Option Addr) (len cap : Nat) (l : List Grp), c0 = .slice a len cap ∧ len ≤ cap ∧ cap ≤ maxLen ∧ l.length = len ∧ Rds (base W) a (len * 3) (grpCells l) ∧ (∀ g ∈ l, In64 g.e ∧ In64 g.s ∧ ImgsOk (base W) g.a g.gs) ∧ grpBulk l + 1 ≤ Rows.uptoBulk x.1 := by
  obtain ⟨a, len, cap, vs, D, rfl, hlc, hcm, hel, hR, hD⟩ := open_elems Try.underlying64 (k := 3) (by kernel_rfl) (by omega) h
  have : Inhabited Grp := ⟨⟨0, 0, none, 0, []⟩⟩
  obtain ⟨z, hz⟩ := Go.Deep.choose_lt (α := Grp) (n := len) (p := fun i g => vs i = [.int .i64 g.e, .int .i64 g.s, .slice g.a g.gs.length g.cap] ∧ (In64 g.e ∧ In64 g.s ∧ ImgsOk (base W) g.a g.gs) ∧ imgBulk g.gs + 4 ≤ Rows.uptoBulk (D i)) (fun i hi => by
    obtain ⟨hl, n, Pl, ht⟩ := hel i hi
    match hv : vs i, hl with
    | [v0, v1, v2], _ =>
    rw [hv] at ht
    obtain ⟨y0, y1, y2, n2, hx2, _, t0, t1, t2⟩ := Go.Deep.trod_struct3 Try.underlying69 ht
    have t0 : DataW.trod enc Try.prog W 0 (fun _ => true) held n2 3 (([v0, v1, v2].drop 0).take (Try.prog.cellsOf 3)) = some y0 := t0
    have t1 : DataW.trod enc Try.prog W 0 (fun _ => true) held n2 3 (([v0, v1, v2].drop 1).take (Try.prog.cellsOf 3)) = some y1 := t1
    have t2 : DataW.trod enc Try.prog W 0 (fun _ => true) held n2 47 (([v0, v1, v2].drop 2).take (Try.prog.cellsOf 47)) = some y2 := t2
    rw [show Try.prog.cellsOf 3 = 1 from by kernel_rfl] at t0 t1
    rw [show Try.prog.cellsOf 47 = 1 from by kernel_rfl] at t2
    obtain ⟨m0, h0, _, hw0⟩ := DataW.trod_int Try.underlying3 t0
    obtain ⟨m1, h1, _, hw1⟩ := DataW.trod_int Try.underlying3 t1
    obtain ⟨a1, len1, cap1, gs1, rfl, _, _, rfl, hI1, hb1⟩ := open_images t2
    simp only [List.drop_zero, List.drop_succ_cons, List.take_succ_cons, List.take_zero, List.cons.injEq, and_true] at h0 h1
    subst h0 h1
    refine ⟨⟨m0, m1, a1, cap1, gs1⟩, rfl, ⟨int_of_wf hw0, int_of_wf hw1, hI1⟩, ?_⟩
    have hDi : D i = .agg [y0.1, y1.1, y2.1] := congrArg Prod.fst hx2
    have o0 := bulk_one y0.1
    have o1 := bulk_one y1.1
    rw [hDi]
    simp only [Rows.uptoBulk, Rows.uptoBulkAll]
    omega)
  refine ⟨a, len, cap, (List.range len).map z, rfl, hlc, hcm, by simp, ?_, ?_, ?_⟩
  · have e : (List.range len).flatMap vs = grpCells ((List.range len).map z) := by
      rw [Go.Deep.flatMap_congr_range (fun i hi => (hz i hi).1)]
      unfold grpCells
      rw [List.flatMap_map]
    rw [← e]; exact hR
  · intro g hg
    obtain ⟨i, hi, rfl⟩ := List.mem_map.1 hg
    exact (hz i (List.mem_range.1 hi)).2.1
  · have := bulk_slice hD (fun i => imgBulk (z i).gs + 4) (fun i hi => (hz i hi).2.2)
    unfold grpBulk
    rw [List.map_map]
    exact this
end
theorem imgBulk_len (gs : List Img) : 3 * gs.length ≤ imgBulk gs := by
  unfold imgBulk
  induction gs with
  | nil => simp
  | cons g gs ih => simp; omega
theorem imgBulk_mem {gs : List Img} {g : Img} (h : g ∈ gs) : g.len ≤ imgBulk gs := by
  unfold imgBulk
  induction gs with
  | nil => cases h
  | cons x gs ih =>
    simp only [List.map_cons, List.sum_cons]
    rcases List.mem_cons.1 h with rfl | h
    · omega
    · have := ih h; omega
theorem grpBulk_all (l : List Grp) : imgBulk (allI l) + 4 * l.length ≤ grpBulk l := by
  unfold grpBulk allI
  induction l with
  | nil => simp [imgBulk]
  | cons g l ih =>
    have e : imgBulk (g.gs ++ List.flatMap Grp.gs l) = imgBulk g.gs + imgBulk (List.flatMap Grp.gs l) := by unfold imgBulk; rw [List.map_append, List.sum_append]
    simp only [List.flatMap_cons, List.map_cons, List.sum_cons, List.length_cons, e]
    omega
theorem imgBulk_grp {l : List Grp} {g : Grp} (h : g ∈ l) : imgBulk g.gs ≤ grpBulk l := by
  unfold grpBulk
  induction l with
  | nil => cases h
  | cons x l ih =>
    simp only [List.map_cons, List.sum_cons]
    rcases List.mem_cons.1 h with rfl | h
    · omega
    · have := ih h; omega
end Go.Proofs.Ytbpdbgcndfcilaa

/- Texts of this claim laid together: R9a, Written, Same9, ScanAny, SameG, Num9, Torn, Crash, KeptP, AgainP, AgainL, Mount2. -/
import Derived.Test.YtegdcjnjnoeinaaGreatBVolumeMounts8
import Derived.Test.YtegdcjnjnoeinaaGreatBVolumeMounts6
import Derived.Test.YtegdcjnjnoeinaaGreatBVolumeMounts7
import Derived.Test.YtegdcjnjnoeinaaGreatBVolumeMounts3
import Derived.Test.YtegdcjnjnoeinaaGreatBVolumeMounts2
import Derived.Test.YtegdcjnjnoeinaaGreatBVolumeMounts1
import Derived.Test.YtegdcjnjnoeinaaGreatBVolumeMounts4
import Derived.Test.YtegdcjnjnoeinaaGreatBVolumeMounts5
namespace Go.Proofs.YtegdcjnjnoeinaaGreat
open Go.RowKit Go.Sl
set_option maxRecDepth 20000

theorem grpP_hd {rb : Nat → Dat} {at_ room e s : Nat} {l : List PImg} (h : grpP rb at_ room = some (e, s, l)) : ∃ l', hdP (rb at_) = some (e, s, l') ∧ l'.length = l.length ∧ l.length + 1 ≤ room := by
  have hr := (grpP_room h).1
  unfold grpP at h
  cases hd : hdP (rb at_) with
  | none => rw [hd] at h; cases h
  | some p =>
    obtain ⟨e', s', l'⟩ := p
    rw [hd] at h
    dsimp only at h
    split at h
    · rename_i hc
      obtain ⟨hR, hp⟩ := getP_some h
      have hlen := congrArg List.length hp
      rw [putP_length, List.length_map, List.length_range] at hlen
      rw [List.range_succ_eq_map, List.map_cons, Nat.add_zero] at h
      unfold getP at h
      dsimp only at h
      rw [hd] at h
      dsimp only at h
      split at h
      · cases h
        exact ⟨l', rfl, by omega, hr⟩
      · cases h
    · cases h
theorem grpP_get {rb : Nat → Dat} {at_ room e s : Nat} {l : List PImg} (h : hdP (rb at_) = some (e, s, l)) (hr : l.length + 1 ≤ room) : grpP rb at_ room = getP ((List.range (l.length + 1)).map fun i => rb (at_ + i)) := by
  unfold grpP
  rw [h]
  dsimp only
  rw [if_pos hr]
theorem scanK_stop {rb : Nat → Dat} {ep : Int} {f at_ : Nat} {seq : Int} {room : Nat} (h : ∀ e s l, grpP rb at_ room = some (e, s, l) → ¬ ((e : Int) = ep ∧ (s : Int) = seq)) : scanK rb ep f at_ seq room = [] := by
  cases f with
  | zero => rfl
  | succ f =>
    rw [scanK]
    cases hg : grpP rb at_ room with
    | none => rfl
    | some p =>
      obtain ⟨e, s, l⟩ := p
      dsimp only
      rw [if_neg (h e s l hg)]
set_option maxHeartbeats 8000000 in
theorem r9_Groups {I : Imm} {vD : Value} {d : DSt} (hD : RDk I vD d) (hF : d.writes.length ≤ 1000000) (x : Lay) (s : Sup) :
    Tri Tryz.prog 117 #[vD, x.v, s.v] I [] fun v J _ =>
      (¬ ScanOk d.now.length x s ∧ v = .tuple #[.slice none 0 0, .int .i64 0, .int .i64 2]) ∨
      (ScanOk d.now.length x s ∧ d.down = true ∧ v = .tuple #[.slice none 0 0, .int .i64 0, .int .i64 6]) ∨
      (ScanOk d.now.length x s ∧ d.down = false ∧ ∃ aO capO gl, v = .tuple #[.slice aO gl.length capO, .int .i64 (placeP (layL d.now.length).toNat s.tail.toNat (scanL d s) : Nat), .int .i64 0] ∧ Rds J aO (gl.length * 3) (grpCells gl) ∧ GrpsOk J gl (scanL d s)) := by
  have hr := hD.wf.range
  refine Tri.fixed (Q := fun v J S' => ∃ chO, S' = [chO] ∧
      ((¬ ScanOk d.now.length x s ∧ v = .tuple #[.slice none 0 0, .int .i64 0, .int .i64 2]) ∨
       (ScanOk d.now.length x s ∧ d.down = true ∧ v = .tuple #[.slice none 0 0, .int .i64 0, .int .i64 6]) ∨
       (ScanOk d.now.length x s ∧ d.down = false ∧ ∃ aO capO gl, v = .tuple #[.slice aO gl.length capO, .int .i64 (placeP (layL d.now.length).toNat s.tail.toNat (scanL d s) : Nat), .int .i64 0] ∧ OwnC chO 3 aO gl.length capO (grpCells gl) ∧ GrpsOk J gl (scanL d s)))) ?_ ?_
  rotate_left
  · rintro v J S' hJ ⟨chO, rfl, h⟩
    refine ⟨0, chO, rfl, fun J' hJ' hm => ?_⟩
    rcases h with h | h | ⟨h1, h2, aO, capO, gl, rfl, hO, hg⟩
    · exact .inl h
    · exact .inr (.inl h)
    · exact .inr (.inr ⟨h1, h2, aO, capO, gl, rfl, Rds.of_ownS hO hm, hg.mono hJ'⟩)
  refine Tri.drop ?_ (fun _ _ _ _ h => h)
  obtain ⟨hS, w, bS, gs, rfl, hSr, hbS, hbd, hW, hwl, hgw⟩ := hD.ex
  obtain ⟨sa, sl, sc⟩ := hS
  obtain ⟨wa, wl, wc⟩ := w
  obtain ⟨s1, s2, s3, s4⟩ := s
  dsimp only at hSr hwl hW
  obtain ⟨n, hn⟩ : ∃ n, n = d.now.length := ⟨_, rfl⟩
  have hbSl : bS.length = sl := by have := hSr.len; rwa [List.length_map] at this
  have hsn : sl = n := by
    have := congrArg List.length hbd
    rw [List.length_map, hD.wf.len, ← hn] at this
    omega
  subst hsn
  subst hwl
  have hgl0 : gs.length = d.writes.length := by rw [← hgw, List.length_map]
  have hat := fun (J : Imm) (hJ : I.le J) (i : Nat) (bk : Bk) (hi : bS[i]? = some bk) (hok : BkOk J bk) => r4_At ⟨sa, sl, sc⟩ ⟨wa, gs.length, wc⟩ d.count d.down (gv d.arm) (gv d.fault) bS gs J (hSr.mono hJ) (by show sl ≤ _; omega) (hW.mono hJ) rfl (by omega) i hi hok
  refine Tri.of (args := [rV ⟨sa, sl, sc⟩ ⟨wa, gs.length, wc⟩ d.count d.down (gv d.arm) (gv d.fault), x.v, (⟨s1, s2, s3, s4⟩ : Sup).v]) tabOk Tryz.func117 rfl (by kernel_rfl) (by kernel_rfl) ?_
  conv => whnf
  intro b3
  conv => whnf
  intro b4
  conv => whnf
  intro b5
  repeat (first | refine LoadD.own 0 rfl _ rfl rfl ?_)
  rw [← hn] at hr ⊢
  refine Tri.free (ref_Of sl I) ?_
  rintro v J _ hJ ⟨rfl, rfl⟩
  have badS : ∀ (J : Imm) (S : St), ¬ ScanOk sl x ⟨s1, s2, s3, s4⟩ → ∃ S'', Drop S S'' ∧ ∃ chO, S'' = [chO] ∧
      ((¬ ScanOk sl x ⟨s1, s2, s3, s4⟩ ∧ Value.tuple #[.slice none 0 0, .int .i64 0, .int .i64 2] = .tuple #[.slice none 0 0, .int .i64 0, .int .i64 2]) ∨
       (ScanOk sl x ⟨s1, s2, s3, s4⟩ ∧ d.down = true ∧ Value.tuple #[.slice none 0 0, .int .i64 0, .int .i64 2] = .tuple #[.slice none 0 0, .int .i64 0, .int .i64 6]) ∨
       (ScanOk sl x ⟨s1, s2, s3, s4⟩ ∧ d.down = false ∧ ∃ aO capO gl, Value.tuple #[.slice none 0 0, .int .i64 0, .int .i64 2] = .tuple #[.slice aO gl.length capO, .int .i64 (placeP (layL sl).toNat s4.toNat (scanL d ⟨s1, s2, s3, s4⟩) : Nat), .int .i64 0] ∧ OwnC chO 3 aO gl.length capO (grpCells gl) ∧ GrpsOk J gl (scanL d ⟨s1, s2, s3, s4⟩))) :=
    fun J S hno => ⟨[[]], (Drop.pick [] _ rfl).trans (Drop.flat rfl), [], rfl, .inl ⟨hno, rfl⟩⟩
  by_cases hb : (sl : Int) < 64 ∨ 512 < (sl : Int)
  · rw [layA, if_pos hb]
    conv => whnf
    intro b9
    repeat (first | refine StoreD.st 3 rfl rfl rfl ?_ | refine CmpD.no (by decide) ?_)
    exact Done.mk (badS _ _ (fun h => by have := h.1; omega))
  rw [layA, if_neg hb]
  have hL := layL_range (n := (sl : Int)) (by omega)
  conv => whnf
  intro b9
  repeat (first | refine LoadD.own 1 rfl _ rfl rfl ?_ | refine LoadD.own 3 rfl _ rfl rfl ?_ | refine StoreD.st 3 rfl rfl rfl ?_ | refine CmpD.yes rfl ?_)
  refine lay_cmp (layOf sl) x rfl (.inr rfl) rfl rfl ?_
  refine CmpD.split (fun c1 => ?_) (fun c1 => ?_)
  rotate_left
  · skip
    refine Done.mk (badS _ _ (fun h => c1 ?_))
    rw [← h.2.1]
  have hx : x = layOf sl := by
    simp only [List.cons.injEq, and_true] at c1
    obtain ⟨q1, q2, q3, q4, q5, q6, q7⟩ := c1
    obtain ⟨x1, x2, x3, x4, x5, x6, x7⟩ := x
    dsimp only at q1 q2 q3 q4 q5 q6 q7 ⊢
    rw [Lay.mk.injEq]
    exact ⟨q1.symm, q2.symm, q3.symm, q4.symm, q5.symm, q6.symm, q7.symm⟩
  have hxl : x.lb = layL sl := by rw [hx]; rfl
  repeat (first | refine LoadD.own 0 rfl _ rfl rfl ?_ | refine LoadD.own 2 rfl _ rfl rfl ?_)
  refine CmpD.split (fun (c2 : s1 = (sl : Int)) => ?_) (fun (c2 : ¬ (s1 = (sl : Int))) => ?_)
  rotate_left
  · skip
    exact Done.mk (badS _ _ (fun h => c2 h.2.2.1))
  repeat (first | refine LoadD.own 2 rfl _ rfl rfl ?_)
  refine CmpD.split (fun (c3 : s4 < 0) => ?_) (fun (c3 : ¬ (s4 < 0)) => ?_)
  · skip
    exact Done.mk (badS _ _ (fun h => by have : 0 ≤ s4 := h.2.2.2.1; omega))
  repeat (first | refine LoadD.own 1 rfl _ rfl rfl ?_ | refine LoadD.own 2 rfl _ rfl rfl ?_)
  refine CmpD.split (fun (c4 : x.lb ≤ s4) => ?_) (fun (c4 : ¬ (x.lb ≤ s4)) => ?_)
  · skip
    exact Done.mk (badS _ _ (fun h => by have : s4 < layL sl := h.2.2.2.2.1; omega))
  repeat (first | refine LoadD.own 2 rfl _ rfl rfl ?_)
  refine CmpD.split (fun (c5 : s2 < 1) => ?_) (fun (c5 : ¬ (s2 < 1)) => ?_)
  · skip
    exact Done.mk (badS _ _ (fun h => by have : 1 ≤ s2 := h.2.2.2.2.2.1; omega))
  repeat (first | refine LoadD.own 2 rfl _ rfl rfl ?_)
  refine CmpD.split (fun (c6 : (8388608 : Int) < s2) => ?_) (fun (c6 : ¬ ((8388608 : Int) < s2)) => ?_)
  · skip
    exact Done.mk (badS _ _ (fun h => by have : s2 ≤ 8388608 := h.2.2.2.2.2.2.1; omega))
  repeat (first | refine LoadD.own 2 rfl _ rfl rfl ?_)
  refine CmpD.split (fun (c7 : s3 < 1) => ?_) (fun (c7 : ¬ (s3 < 1)) => ?_)
  · skip
    exact Done.mk (badS _ _ (fun h => by have : 1 ≤ s3 := h.2.2.2.2.2.2.2.1; omega))
  repeat (first | refine LoadD.own 2 rfl _ rfl rfl ?_)
  refine CmpD.split (fun (c8 : (549755813888 : Int) < s3) => ?_) (fun (c8 : ¬ ((549755813888 : Int) < s3)) => ?_)
  · skip
    exact Done.mk (badS _ _ (fun h => by have : s3 ≤ 549755813888 := h.2.2.2.2.2.2.2.2; omega))
  have hok : ScanOk sl x ⟨s1, s2, s3, s4⟩ := ⟨by omega, hx, c2, by show 0 ≤ s4; omega, by show s4 < _; omega, by show 1 ≤ s2; omega, by show s2 ≤ _; omega, by show 1 ≤ s3; omega, by show s3 ≤ _; omega⟩
  clear badS
  obtain ⟨tail, rfl⟩ : ∃ t : Nat, s4 = t := ⟨s4.toNat, by omega⟩
  obtain ⟨lb, hlb⟩ : ∃ lb : Nat, layL sl = lb := ⟨(layL sl).toNat, by omega⟩
  have hxlb : x.lb = lb := by rw [hxl, hlb]
  have hxl2 : x.l = (2 : Nat) := by rw [hx]; rfl
  have hfit : 2 + lb ≤ sl := by unfold layL at hlb; split at hlb <;> omega
  cases hdn : d.down with
  | true =>
    repeat (first | refine LoadD.own 0 rfl _ rfl rfl ?_)
    exact Done.mk ⟨[[]], (Drop.pick [] _ rfl).trans (Drop.flat rfl), [], rfl, .inr (.inl ⟨hok, rfl, rfl⟩)⟩
  | false =>
  rw [hdn] at hat
  repeat (first | refine LoadD.own 0 rfl _ rfl rfl ?_)
  obtain ⟨x1, x2, x3, x4, x5, x6, x7⟩ := x
  dsimp only at hxlb hxl2
  subst hxlb hxl2
  have hsc : scanL d ⟨s1, s2, s3, tail⟩ = scanK (rbP d 2 lb) s2 (lb + 1) tail s3 lb := by
    unfold scanL
    rw [← hn, hlb]; rfl
  have hlbn : (layL sl).toNat = lb := by rw [hlb]; rfl
  obtain ⟨LL, hLe⟩ : ∃ L, L = scanL d ⟨s1, s2, s3, tail⟩ := ⟨_, rfl⟩
  have hbd2 := scan_bound (rb := rbP d 2 lb) (ep := s2) (lb + 1) tail s3 lb
  rw [← hsc, ← hLe] at hbd2
  refine CodeF.loopD [3, 4, 5, 11, 12] (fun vs J' S' => ∃ (i : Nat) (aB : Option Addr) (capB : Nat) (chB : List Blk) (bks : List Bk), i ≤ lb ∧ OwnC chB 1 aB i capB (bks.map Bk.cell) ∧ bks.map Bk.data = (List.range i).map (fun k => rbP d 2 lb (tail + k)) ∧ (∀ y ∈ bks, BkOk I y) ∧ I = J' ∧
      vs = [.pointer (some ⟨b3, 0, none⟩), .pointer (some ⟨b4, 0, none⟩), .pointer (some ⟨b5, 0, none⟩), .slice aB i capB, .int .i64 i] ∧
      S' = [[(b3, row [.slice sa sl sc, .slice wa gs.length wc, .int .i64 d.count, .bool false, .int .i64 (gv d.arm), .int .i64 (gv d.fault)] 76)], [(b4, row [.int .i64 x1, .int .i64 (2 : Nat), .int .i64 lb, .int .i64 x4, .int .i64 x5, .int .i64 x6, .int .i64 x7] 45)], sBoxS b5 ⟨s1, s2, s3, tail⟩, chB])
    (fun vs _ _ => match vs with | [_, _, _, _, .int _ i] => ((lb : Int) - i).toNat | _ => 0) ?_ ?_
  · exact ⟨_, Drop.and (Drop.pick [0, 1, 2] _ rfl), 0, none, 0, [], [], by omega, OwnC.nil _ _, rfl, by simp, rfl, rfl, rfl⟩
  rintro vs gE J' S' hJ' ⟨i, aB, capB, chB, bks, hi, hB, hdat, hbok, rfl, rfl, rfl⟩
  refine LoadD.own 1 rfl _ rfl rfl ?_
  refine CmpD.split (fun (c9 : (i : Int) < lb) => ?_) (fun (c9 : ¬ (i : Int) < lb) => ?_)
  · have hm := Nat.mod_lt (tail + i) (show 0 < lb by omega)
    have hil : 2 + (tail + i) % lb < bS.length := by omega
    have hsd := hD.snd (2 + (tail + i) % lb) (by rw [← hbd, List.length_map]; exact hil)
    have hsg : d.safe.getD (2 + (tail + i) % lb) [] = (bS[2 + (tail + i) % lb]).data := by
      rw [← hbd, List.getD_eq_getElem?_getD, List.getElem?_map, List.getElem?_eq_getElem hil]; rfl
    rw [hsg] at hsd
    have hnw : rbP d 2 lb (tail + i) = atP (bS[2 + (tail + i) % lb]).data d.writes (2 + (tail + i) % lb : Nat) := by
      unfold rbP
      rw [List.getD_eq_getElem?_getD, hsd]; rfl
    have h4 : (rbP d 2 lb (tail + i)).length = 4096 := by
      unfold rbP
      rw [List.getD_eq_getElem?_getD, List.getElem?_eq_getElem (by omega : 2 + (tail + i) % lb < d.now.length)]
      exact hD.wf.now _ (List.getElem_mem _)
    have hA := hat I (Imm.le_refl _) (2 + (tail + i) % lb) _ (List.getElem?_eq_getElem hil) (hbS _ (List.getElem_mem hil))
    rw [hgw, ← hnw] at hA
    refine CodeF.sched [[], [], [], [2], [], [4], [], [4, 5, 6], [], [8], [4, 5, 6, 7, 8, 9], [2, 3, 4, 5, 6, 7, 8, 9, 10], [1, 2, 3, 4, 5, 6, 7, 8, 9, 10, 11], [1, 2, 3, 4, 5, 6, 7, 8, 9, 10, 11, 12], [0, 1, 2, 3, 4, 5, 6, 7, 8, 9, 10, 11, 12, 13], [0, 1, 2, 3, 4, 5, 6, 7, 8, 9, 10, 11, 12, 13, 14]] [0, 1, 2, 3, 4, 5, 6, 7, 8, 9, 10, 11, 12, 13, 14, 15] (by kernel_rfl) ?_
    repeat (first | refine LoadP.at 0 rfl _ rfl rfl ?_ | refine LoadP.at 1 rfl _ rfl rfl ?_ | refine LoadP.at 2 rfl _ rfl rfl ?_)
    refine ToD.to ((tail + i : Nat) : Int) (by show IntKind.i64.wrap ((tail : Int) + (i : Int)) = _; rw [wrap_i64 (by omega) (by omega)]; omega) ?_
    repeat (first | refine LoadP.at 1 rfl _ rfl rfl ?_)
    refine Chk.mk (by show (lb : Int) ≠ 0; omega) ?_
    refine ToD.to _ (tmod_nat _ _) ?_
    refine ToD.to ((2 + (tail + i) % lb : Nat) : Int) (by show IntKind.i64.wrap (((2 : Nat) : Int) + (((tail + i) % lb : Nat) : Int)) = _; rw [wrap_i64 (by omega) (by omega)]; omega) ?_
    skip
    refine Tri.free hA ?_
    rintro v _ _ hJ ⟨rfl, aN, lenN, capN, rfl, hN⟩
    have hlN : lenN = 4096 := by have := hN.len; rw [bts_length] at this; omega
    subst hlN
    conv => whnf
    intro bN
    refine appendD tabOk rfl rfl rfl rfl rfl rfl rfl 3 rfl hB (SrcOk.slice (n := 1) (news := [Bk.cell ⟨aN, capN, rbP d 2 lb (tail + i)⟩]) tabOk rfl ((OwnC.whole (len := 1) (size := 1) rfl).slC 4 rfl) (by intro v hv; simp only [List.mem_singleton] at hv; subst hv; rfl)) rfl (by show (i + 1) * 24 ≤ _; omega) (by omega) ?_
    intro a2 cap2 ch2 hO2
    skip
    refine ToD.i64 (by omega) (by omega) ?_
    refine ⟨_, Drop.pick [0, 1, 2, 3] _ rfl, ⟨i + 1, a2, cap2, ch2, bks ++ [⟨aN, capN, rbP d 2 lb (tail + i)⟩], by omega, by rw [List.map_append]; exact hO2, ?_, ?_, rfl, rfl, rfl⟩, ?_⟩
    · rw [List.map_append, hdat, List.range_succ, List.map_append]; rfl
    · intro y hy
      rcases List.mem_append.1 hy with hy | hy
      · exact hbok y hy
      · simp only [List.mem_singleton] at hy
        subst hy
        exact hN
    · show ((lb : Int) - ((i : Int) + 1)).toNat < ((lb : Int) - i).toNat; omega
  obtain rfl : i = lb := by omega
  have hbl : bks.length = i := by have := congrArg List.length hdat; rwa [List.length_map, List.length_map, List.length_range] at this
  have hBle := hB.le
  refine CodeF.fixD 3 (ch := chB) rfl fun I1 hI1 hBm => ?_
  have hBR : Rds I1 aB i (bks.map Bk.cell) := Rds.of_own hB hBm
  have hbok1 : ∀ y ∈ bks, BkOk I1 y := fun y hy => Rds.mono (hbok y hy) hI1
  rcases hBR.mem with q0 | ⟨bB, oB, cB, TB, fB, rfl, hIB, hcB⟩
  · omega
  have fin : ∀ (J : Imm) (chO : List Blk) (aO : Option Addr) (capO : Nat) (gl : List Grp) {k : Nat} {acc : List G3}, OwnC chO 3 aO gl.length capO (grpCells gl) → GrpsOk J gl acc → acc ++ scanK (rbP d 2 i) s2 (i + 1 - acc.length) (tail + k) (s3 + acc.length) (i - k) = LL ∧ k = (acc.map fun g => g.2.2.length + 1).sum → scanK (rbP d 2 i) s2 (i + 1 - acc.length) (tail + k) (s3 + acc.length) (i - k) = [] →
      ∃ chO', [chO] = [chO'] ∧ ((¬ ScanOk sl ⟨x1, (2 : Nat), i, x4, x5, x6, x7⟩ ⟨s1, s2, s3, tail⟩ ∧ Value.tuple #[.slice aO gl.length capO, .int .i64 ((tail + k) % i : Nat), .int .i64 0] = .tuple #[.slice none 0 0, .int .i64 0, .int .i64 2]) ∨
       (ScanOk sl ⟨x1, (2 : Nat), i, x4, x5, x6, x7⟩ ⟨s1, s2, s3, tail⟩ ∧ false = true ∧ Value.tuple #[.slice aO gl.length capO, .int .i64 ((tail + k) % i : Nat), .int .i64 0] = .tuple #[.slice none 0 0, .int .i64 0, .int .i64 6]) ∨
       (ScanOk sl ⟨x1, (2 : Nat), i, x4, x5, x6, x7⟩ ⟨s1, s2, s3, tail⟩ ∧ false = false ∧ ∃ aO' capO' gl', Value.tuple #[.slice aO gl.length capO, .int .i64 ((tail + k) % i : Nat), .int .i64 0] = .tuple #[.slice aO' gl'.length capO', .int .i64 (placeP (layL sl).toNat (tail : Int).toNat (scanL d ⟨s1, s2, s3, tail⟩) : Nat), .int .i64 0] ∧ OwnC chO' 3 aO' gl'.length capO' (grpCells gl') ∧ GrpsOk J gl' (scanL d ⟨s1, s2, s3, tail⟩))) := by
    intro J chO aO capO gl k acc h1 h2 h3 h4
    obtain ⟨h3, h5⟩ := h3
    rw [h4, List.append_nil] at h3
    subst h3
    refine ⟨chO, rfl, .inr (.inr ⟨hok, rfl, aO, capO, gl, ?_, h1, by rw [← hLe]; exact h2⟩)⟩
    rw [hlbn, ← hLe, placeP, ← h5]; rfl
  refine CodeF.loopD [3, 4, 5, 11, 13, 14] (fun vs J' S' => ∃ (k : Nat) (aO : Option Addr) (capO : Nat) (chO : List Blk) (gl : List Grp) (acc : List G3), k ≤ i ∧ acc.length ≤ k ∧ OwnC chO 3 aO gl.length capO (grpCells gl) ∧ GrpsOk J' gl acc ∧ (acc ++ scanK (rbP d 2 i) s2 (i + 1 - acc.length) (tail + k) (s3 + acc.length) (i - k) = LL ∧ k = (acc.map fun g => g.2.2.length + 1).sum) ∧ I1.le J' ∧
      vs = [.pointer (some ⟨b3, 0, none⟩), .pointer (some ⟨b4, 0, none⟩), .pointer (some ⟨b5, 0, none⟩), .slice (some ⟨bB, oB, none⟩) i capB, .slice aO gl.length capO, .int .i64 k] ∧
      S' = [[(b3, row [.slice sa sl sc, .slice wa gs.length wc, .int .i64 d.count, .bool false, .int .i64 (gv d.arm), .int .i64 (gv d.fault)] 76)], [(b4, row [.int .i64 x1, .int .i64 (2 : Nat), .int .i64 i, .int .i64 x4, .int .i64 x5, .int .i64 x6, .int .i64 x7] 45)], sBoxS b5 ⟨s1, s2, s3, tail⟩, [], chO])
    (fun vs _ _ => match vs with | [_, _, _, _, _, .int _ k] => ((i : Int) - k).toNat | _ => 0) ?_ ?_
  · exact ⟨_, Drop.and (Drop.refl _), 0, none, 0, [], [], [], by omega, Nat.le_refl _, OwnC.nil _ _, ⟨by simp, rfl⟩, ⟨by rw [hLe, hsc]; simp, rfl⟩, Imm.le_refl _, rfl, rfl⟩
  rintro vs gE2 J' S' hJ' ⟨k, aO, capO, chO, gl, acc, hk, hak, hO, hgl, hacc, hle, rfl, rfl⟩
  have hgla := hgl.len
  refine CmpD.split (fun (d1 : (k : Int) < i) => ?_) (fun (d1 : ¬ (k : Int) < i) => ?_)
  rotate_left
  · obtain rfl : k = i := by omega
    skip
    refine CodeF.sched [[], [], [1], [], [1, 2, 3], [], [5], [1, 2, 3, 4, 5, 6], [0], [0, 1, 2, 3, 4, 5, 6, 7, 8], [0, 1, 2, 3, 4, 5, 6, 7, 8, 9]] [0, 1, 2, 3, 4, 5, 6, 7, 8, 9, 10] (by kernel_rfl) ?_
    repeat (first | refine LoadP.at 2 rfl _ rfl rfl ?_)
    refine ToD.to ((tail + k : Nat) : Int) (by show IntKind.i64.wrap ((tail : Int) + (k : Int)) = _; rw [wrap_i64 (by omega) (by omega)]; omega) ?_
    repeat (first | refine LoadP.at 1 rfl _ rfl rfl ?_)
    refine Chk.mk (by first | (show (i : Int) ≠ 0; omega) | (show (k : Int) ≠ 0; omega)) ?_
    refine ToD.to _ (tmod_nat _ _) ?_
    skip
    exact Done.mk ⟨[chO], Drop.pick [4] _ rfl, fin _ _ _ _ _ hO hgl hacc (scanK_stop fun e s l hg => by have := (grpP_room hg).1; omega)⟩
  have hki : k < bks.length := by omega
  have hbkd : (bks[k]).data = rbP d 2 i (tail + k) := by
    have := congrArg (·[k]?) hdat
    simp only [List.getElem?_map, List.getElem?_range (show k < i by omega), Option.map_some, List.getElem?_eq_getElem hki, Option.some.injEq] at this
    exact this
  have hbkc : (bks.map Bk.cell)[k]? = some (bks[k]).cell := by rw [List.getElem?_map, List.getElem?_eq_getElem hki]; rfl
  have hbko := Rds.mono (hbok1 _ (List.getElem_mem hki)) hle
  obtain ⟨bk, hbk⟩ : ∃ bk, bk = bks[k] := ⟨_, rfl⟩
  rw [← hbk] at hbkd hbkc hbko
  refine Chk.mk (by omega) ?_
  refine LoadD.imm (hle _ _ hIB) [bk.cell] (take_get hcB hbkc) rfl ?_
  refine Tri.free (r6_Head hbko (by omega)) ?_
  rintro v _ _ hJ ⟨rfl, rfl⟩
  rw [headV, hbkd]
  have hstop : ∀ p, hdP (rbP d 2 i (tail + k)) = some p → ¬ ((p.1 : Int) = s2 ∧ (p.2.1 : Int) = s3 + acc.length ∧ p.2.2.length + 1 ≤ i - k) → scanK (rbP d 2 i) s2 (i + 1 - acc.length) (tail + k) (s3 + acc.length) (i - k) = [] := by
    intro p hp hno
    refine scanK_stop fun e s l hg h' => hno ?_
    obtain ⟨l', q1, q2, q3⟩ := grpP_hd hg
    rw [hp, Option.some.injEq] at q1
    subst q1
    exact ⟨h'.1, h'.2, by dsimp only; omega⟩
  cases hd : hdP (rbP d 2 i (tail + k)) with
  | none =>
    dsimp only
    skip
    refine CodeF.sched [[], [], [1], [], [1, 2, 3], [], [5], [1, 2, 3, 4, 5, 6], [0], [0, 1, 2, 3, 4, 5, 6, 7, 8], [0, 1, 2, 3, 4, 5, 6, 7, 8, 9]] [0, 1, 2, 3, 4, 5, 6, 7, 8, 9, 10] (by kernel_rfl) ?_
    repeat (first | refine LoadP.at 2 rfl _ rfl rfl ?_)
    refine ToD.to ((tail + k : Nat) : Int) (by show IntKind.i64.wrap ((tail : Int) + (k : Int)) = _; rw [wrap_i64 (by omega) (by omega)]; omega) ?_
    repeat (first | refine LoadP.at 1 rfl _ rfl rfl ?_)
    refine Chk.mk (by first | (show (i : Int) ≠ 0; omega) | (show (k : Int) ≠ 0; omega)) ?_
    refine ToD.to _ (tmod_nat _ _) ?_
    skip
    exact Done.mk ⟨[chO], Drop.pick [4] _ rfl, fin _ _ _ _ _ hO hgl hacc (scanK_stop fun e s l hg => by obtain ⟨l', q1, _⟩ := grpP_hd hg; rw [hd] at q1; cases q1)⟩
  | some p =>
  obtain ⟨e, sq, l⟩ := p
  have hstop := hstop _ hd
  have hpr := (hdP_some hd).2.2.2.1
  have hl32 := hpr.2.2.2.2.2.1
  have hl1 := hpr.2.2.2.2.1
  have hsq := hpr.2.2.2.1
  have hgk : gl.length ≤ i := by omega
  dsimp only at hstop ⊢
  repeat (first | refine LoadD.own 2 rfl _ rfl rfl ?_)
  refine CmpD.split (fun (d2 : (e : Int) = s2) => ?_) (fun (d2 : ¬ (e : Int) = s2) => ?_)
  rotate_left
  · skip
    refine CodeF.sched [[], [], [1], [], [1, 2, 3], [], [5], [1, 2, 3, 4, 5, 6], [0], [0, 1, 2, 3, 4, 5, 6, 7, 8], [0, 1, 2, 3, 4, 5, 6, 7, 8, 9]] [0, 1, 2, 3, 4, 5, 6, 7, 8, 9, 10] (by kernel_rfl) ?_
    repeat (first | refine LoadP.at 2 rfl _ rfl rfl ?_)
    refine ToD.to ((tail + k : Nat) : Int) (by show IntKind.i64.wrap ((tail : Int) + (k : Int)) = _; rw [wrap_i64 (by omega) (by omega)]; omega) ?_
    repeat (first | refine LoadP.at 1 rfl _ rfl rfl ?_)
    refine Chk.mk (by first | (show (i : Int) ≠ 0; omega) | (show (k : Int) ≠ 0; omega)) ?_
    refine ToD.to _ (tmod_nat _ _) ?_
    skip
    exact Done.mk ⟨[chO], Drop.pick [4] _ rfl, fin _ _ _ _ _ hO hgl hacc (hstop fun h' => d2 h'.1)⟩
  repeat (first | refine LoadD.own 2 rfl _ rfl rfl ?_)
  refine ToD.to (s3 + gl.length) (by show IntKind.i64.wrap (s3 + (gl.length : Int)) = _; rw [wrap_i64 (by omega) (by omega)]) ?_
  refine CmpD.split (fun (d3 : (sq : Int) = s3 + gl.length) => ?_) (fun (d3 : ¬ (sq : Int) = s3 + gl.length) => ?_)
  rotate_left
  · skip
    refine CodeF.sched [[], [], [1], [], [1, 2, 3], [], [5], [1, 2, 3, 4, 5, 6], [0], [0, 1, 2, 3, 4, 5, 6, 7, 8], [0, 1, 2, 3, 4, 5, 6, 7, 8, 9]] [0, 1, 2, 3, 4, 5, 6, 7, 8, 9, 10] (by kernel_rfl) ?_
    repeat (first | refine LoadP.at 2 rfl _ rfl rfl ?_)
    refine ToD.to ((tail + k : Nat) : Int) (by show IntKind.i64.wrap ((tail : Int) + (k : Int)) = _; rw [wrap_i64 (by omega) (by omega)]; omega) ?_
    repeat (first | refine LoadP.at 1 rfl _ rfl rfl ?_)
    refine Chk.mk (by first | (show (i : Int) ≠ 0; omega) | (show (k : Int) ≠ 0; omega)) ?_
    refine ToD.to _ (tmod_nat _ _) ?_
    skip
    exact Done.mk ⟨[chO], Drop.pick [4] _ rfl, fin _ _ _ _ _ hO hgl hacc (hstop fun h' => d3 (by omega))⟩
  refine ToD.to ((k + l.length : Nat) : Int) (by rw [wrap_i64 (by omega) (by omega)]; omega) ?_
  refine ToD.to ((k + l.length + 1 : Nat) : Int) (by rw [wrap_i64 (by omega) (by omega)]; omega) ?_
  refine CmpD.split (fun (d4 : (i : Int) < (k + l.length + 1 : Nat)) => ?_) (fun (d4 : ¬ (i : Int) < (k + l.length + 1 : Nat)) => ?_)
  · skip
    refine CodeF.sched [[], [], [1], [], [1, 2, 3], [], [5], [1, 2, 3, 4, 5, 6], [0], [0, 1, 2, 3, 4, 5, 6, 7, 8], [0, 1, 2, 3, 4, 5, 6, 7, 8, 9]] [0, 1, 2, 3, 4, 5, 6, 7, 8, 9, 10] (by kernel_rfl) ?_
    repeat (first | refine LoadP.at 2 rfl _ rfl rfl ?_)
    refine ToD.to ((tail + k : Nat) : Int) (by show IntKind.i64.wrap ((tail : Int) + (k : Int)) = _; rw [wrap_i64 (by omega) (by omega)]; omega) ?_
    repeat (first | refine LoadP.at 1 rfl _ rfl rfl ?_)
    refine Chk.mk (by first | (show (i : Int) ≠ 0; omega) | (show (k : Int) ≠ 0; omega)) ?_
    refine ToD.to _ (tmod_nat _ _) ?_
    skip
    exact Done.mk ⟨[chO], Drop.pick [4] _ rfl, fin _ _ _ _ _ hO hgl hacc (hstop fun h' => by omega)⟩
  refine ToD.to ((k + l.length : Nat) : Int) (by rw [wrap_i64 (by omega) (by omega)]; omega) ?_
  refine ToD.to ((k + l.length + 1 : Nat) : Int) (by rw [wrap_i64 (by omega) (by omega)]; omega) ?_
  refine sliceD tabOk rfl rfl rfl rfl k (k + l.length + 1) capB ⟨_, rfl⟩ ⟨_, rfl⟩ rfl (.inl rfl) (by omega) ?_
  have hpart := (slC_part ((hBR.mono hle).slC (S := [])) (cap := capB) k (l.length + 1) (by omega) (by omega) hBle).rds
  rw [← List.map_drop, ← List.map_take] at hpart
  have hget := r6_Get J' _ (l.length + 1) (capB - k) ((bks.drop k).take (l.length + 1)) (by omega) hpart (fun y hy => Rds.mono (hbok1 y (List.mem_of_mem_drop (List.mem_of_mem_take hy))) hle)
  have hdd : ((bks.drop k).take (l.length + 1)).map Bk.data = (List.range (l.length + 1)).map fun j => rbP d 2 i (tail + k + j) := by
    rw [List.map_take, List.map_drop, hdat]
    refine getElem_eq_of (by simp; omega) fun j j1 j2 => ?_
    simp [Nat.add_assoc]
  rw [hdd, ← grpP_get (room := i - k) hd (by omega)] at hget
  rw [show k + l.length + 1 - k = l.length + 1 by omega]
  refine Tri.free hget ?_
  rintro v J2 _ hJ2 (⟨hno, rfl⟩ | ⟨e2, s2', l2, hso, aI, capI, gsI, rfl, hgs, hgp⟩)
  · have hgl := hgl.mono hJ2
    conv => whnf
    intro b19
    repeat (first | refine StoreD.st 5 rfl rfl rfl ?_ | refine CmpD.no (by decide) ?_)
    refine CodeF.sched [[], [], [1], [], [1, 2, 3], [], [5], [1, 2, 3, 4, 5, 6], [0], [0, 1, 2, 3, 4, 5, 6, 7, 8], [0, 1, 2, 3, 4, 5, 6, 7, 8, 9]] [0, 1, 2, 3, 4, 5, 6, 7, 8, 9, 10] (by kernel_rfl) ?_
    repeat (first | refine LoadP.at 2 rfl _ rfl rfl ?_)
    refine ToD.to ((tail + k : Nat) : Int) (by show IntKind.i64.wrap ((tail : Int) + (k : Int)) = _; rw [wrap_i64 (by omega) (by omega)]; omega) ?_
    repeat (first | refine LoadP.at 1 rfl _ rfl rfl ?_)
    refine Chk.mk (by first | (show (i : Int) ≠ 0; omega) | (show (k : Int) ≠ 0; omega)) ?_
    refine ToD.to _ (tmod_nat _ _) ?_
    skip
    exact Done.mk ⟨[chO], Drop.pick [4] _ rfl, fin _ _ _ _ _ hO hgl hacc (scanK_stop fun e s l hg => by rw [hno] at hg; cases hg)⟩
  · obtain ⟨l', q1, q2, q3⟩ := grpP_hd hso
    rw [hd, Option.some.injEq] at q1
    cases q1
    have hgil : gsI.length = l.length := by rw [← q2.symm.trans rfl, ← hgp, List.length_map]
    conv => whnf
    intro b19
    repeat (first | refine LoadD.own 5 rfl _ rfl rfl ?_ | refine StoreD.st 5 rfl rfl rfl ?_ | refine CmpD.yes rfl ?_)
    conv => whnf
    intro bN
    refine appendD tabOk rfl rfl rfl rfl rfl rfl rfl 4 rfl hO (SrcOk.slice (n := 1) (news := grpCells [⟨e, sq, aI, capI, gsI⟩]) tabOk rfl ((OwnC.whole (len := 1) (size := 3) rfl).slC 6 rfl) (by intro v hv; simp [grpCells] at hv; rcases hv with rfl | rfl | rfl <;> rfl)) rfl (by show (gl.length + 1) * 40 ≤ _; omega) (by omega) ?_
    intro a2 cap2 ch2 hO2
    skip
    refine ToD.to ((k + l.length : Nat) : Int) (by rw [wrap_i64 (by omega) (by omega)]; omega) ?_
    refine ToD.to ((k + l.length + 1 : Nat) : Int) (by rw [wrap_i64 (by omega) (by omega)]; omega) ?_
    have hll3 : (gl ++ [⟨e, sq, aI, capI, gsI⟩] : List Grp).length = gl.length + 1 := by simp
    refine ⟨_, Drop.pick [0, 1, 2, 3, 4] _ rfl, ⟨k + l.length + 1, a2, cap2, ch2, gl ++ [⟨e, sq, aI, capI, gsI⟩], acc ++ [(e, sq, l2)], by omega, by simp; omega, ?_, ⟨?_, ?_⟩, ⟨?_, ?_⟩, Imm.le_trans hle hJ2, ?_, rfl⟩, ?_⟩
    · rw [hll3, grpCells_snoc]; exact hO2
    · intro g hg
      rcases List.mem_append.1 hg with hg | hg
      · exact (hgl.mono hJ2).each g hg
      · simp only [List.mem_singleton] at hg
        subst hg
        exact hgs
    · rw [List.map_append, List.map_append, hgl.g3, List.map_singleton, List.map_singleton]
      show _ ++ [((e : Int), (sq : Int), gsI.map Img.pr)] = _
      rw [hgp]; rfl
    · rw [← hacc.1]
      obtain ⟨f, hf⟩ : ∃ f, i + 1 - acc.length = f + 1 := ⟨i - acc.length, by omega⟩
      rw [hf, scanK, hso]
      dsimp only
      rw [if_pos ⟨d2, by omega⟩, List.append_assoc, List.length_append, List.length_singleton, List.singleton_append]
      rw [show i + 1 - (acc.length + 1) = f by omega, show tail + (k + l.length + 1) = tail + k + (l2.length + 1) by omega, show i - (k + l.length + 1) = i - k - (l2.length + 1) by omega, show s3 + ((acc.length + 1 : Nat) : Int) = s3 + acc.length + 1 by omega]
    · rw [List.map_append, List.sum_append, ← hacc.2]
      simp; omega
    · rw [hll3]; rfl
    · show ((i : Int) - ((k + l.length + 1 : Nat) : Int)).toNat < ((i : Int) - k).toNat; omega
end Go.Proofs.YtegdcjnjnoeinaaGreat
namespace Go.Proofs.YtegdcjnjnoeinaaGreat
open Go.RowKit Go.Sl
set_option maxRecDepth 20000

structure ImsAt (J : Imm) (aS : Option Addr) (ms : List Ims) (all : List (List PImg)) : Prop where
  rd : Rds J aS ms.length (ms.map Ims.cell)
  each : ∀ m ∈ ms, ImgsOk J m.a m.gs
  pr : ms.map Ims.pr = all
theorem ImsAt.mono {I J : Imm} {aS : Option Addr} {ms : List Ims} {all : List (List PImg)} (h : ImsAt I aS ms all) (hJ : I.le J) : ImsAt J aS ms all := ⟨h.rd.mono hJ, fun m hm => (h.each m hm).mono hJ, h.pr⟩
end Go.Proofs.YtegdcjnjnoeinaaGreat
namespace Go.Proofs.YtegdcjnjnoeinaaGreat
open Go.RowKit Go.Sl
set_option maxRecDepth 20000

end Go.Proofs.YtegdcjnjnoeinaaGreat
namespace Go.Proofs.YtegdcjnjnoeinaaGreat
open Go.RowKit Go.Sl
set_option maxRecDepth 20000

/-- bytes, as they lie -/
structure Bs where
  a : Option Addr
  len : Nat
  cap : Nat
  data : Dat
@[reducible] def Bs.cell (b : Bs) : Value := .slice b.a b.len b.cap
theorem GrpsOk.at' {J : Imm} {gl : List Grp} {L : List G3} (h : GrpsOk J gl L) (i : Nat) (hi : i < gl.length) : ∃ hl : i < L.length, gl[i].e = (L[i].1 : Int) ∧ gl[i].s = (L[i].2.1 : Int) ∧ gl[i].gs.map Img.pr = L[i].2.2 := by
  have hl : i < L.length := by rw [← h.len]; exact hi
  refine ⟨hl, ?_⟩
  have h3 := h.g3
  have : (gl.map Grp.g3)[i]'(by rw [List.length_map]; exact hi) = (L.map up3)[i]'(by rw [List.length_map]; exact hl) := by simp only [h3]
  rw [List.getElem_map, List.getElem_map] at this
  unfold Grp.g3 up3 at this
  simp only [Prod.mk.injEq] at this
  exact this
end Go.Proofs.YtegdcjnjnoeinaaGreat
namespace Go.Proofs.YtegdcjnjnoeinaaGreat
open Go.RowKit Go.Sl
set_option maxRecDepth 20000

end Go.Proofs.YtegdcjnjnoeinaaGreat
namespace Go.Proofs.YtegdcjnjnoeinaaGreat
open Go.RowKit Go.Sl
set_option maxRecDepth 20000

theorem scanL64 {d : DSt} (hlen : d.now.length = 64) (s : Sup) : scanL d s = scanK (rbP d 2 16) s.epoch 17 s.tail.toNat s.seq 16 := by
  unfold scanL
  rw [hlen]
  show scanK (rbP d 2 (layL (64 : Int)).toNat) s.epoch ((layL (64 : Int)).toNat + 1) s.tail.toNat s.seq (layL (64 : Int)).toNat = _
  rw [layL64]; rfl
@[reducible] def nA : List PImg := im9 1 0
@[reducible] def nB : List PImg := im9 2 1
theorem nA_right : RightP ((1 : Nat) : Int) ((1 : Nat) : Int) nA := im9_right (by decide) (by decide) 1 (by decide) 0
theorem nB_right : RightP ((1 : Nat) : Int) ((2 : Nat) : Int) nB := im9_right (by decide) (by decide) 2 (by decide) 1
theorem nA_len : nA.length = 1 := im9_length _ _
structure Two (rb : Nat → Dat) : Prop where
  a : ∀ (k : Nat) (h : k < (putP 1 1 nA).length), rb (14 + k) = (putP 1 1 nA)[k]
  b : ∀ (k : Nat) (h : k < (putP 1 2 nB).length), rb (0 + k) = (putP 1 2 nB)[k]
  n : rb 3 = noughts
theorem usedB : usedP [nB] = 3 := by simp [usedP, im9_length]
theorem Two.grpA {rb : Nat → Dat} (h : Two rb) : grpP rb 14 16 = some (1, 1, nA) := grpP_put nA_right (by rw [nA_len]; omega) h.a
theorem Two.m {d : DSt} (h : Two (rbP d 2 16)) (hlen : d.now.length = 64) : scanL d ⟨64, 1, 2, 0⟩ = [(1, 2, nB)] := by
  rw [scanL64 hlen]
  show scanK (rbP d 2 16) ((1 : Nat) : Int) 17 0 ((2 : Nat) : Int) 16 = _
  have e : ringB 1 2 [nB] = putP 1 2 nB := by simp [ringB]
  rw [scan_prefix (rbP d 2 16) 1 [nB] 17 0 2 16 (fun i hi => by
      have : i = 0 := by simpa using hi
      subst this; exact nB_right) (by rw [usedB]; omega) (by simp) (fun k hk => by
      have := h.b k (by rw [← e]; exact hk)
      rw [this]; simp only [e])]
  rw [scan_stop, List.append_nil]; · rfl
  intro e s l hg
  rw [usedB, grpP_none (by rw [show 0 + 3 = 3 from rfl, h.n]; exact hd_noughts)] at hg
  cases hg
theorem Two.no {d : DSt} (h : Two (rbP d 2 16)) (hlen : d.now.length = 64) : scanL d ⟨64, 1, 2, 14⟩ = [] := by
  rw [scanL64 hlen]
  refine scan_stop fun e s l hg h' => ?_
  have hg : grpP (rbP d 2 16) 14 16 = some (e, s, l) := hg
  rw [h.grpA] at hg
  cases hg
  have : ((1 : Nat) : Int) = 2 := h'.2
  omega
end Go.Proofs.YtegdcjnjnoeinaaGreat
namespace Go.Proofs.YtegdcjnjnoeinaaGreat
open Go.RowKit Go.Sl
set_option maxRecDepth 20000

theorem shr_nat8 (v s : Nat) (hs : s ≤ 8) : (v : Int).fdiv (2 ^ (min ((s : Int)).toNat IntKind.u8.bits)) = ((v / 2 ^ s : Nat) : Int) := by
  have e : min ((s : Int)).toNat IntKind.u8.bits = s := by
    show min s 8 = s; omega
  rw [e, Int.fdiv_eq_ediv_of_nonneg _ (by exact_mod_cast Nat.zero_le _)]
  norm_cast
def put5 (l m : Dat) (i : Nat) : Dat := l.take (i * 512) ++ m ++ l.drop (i * 512 + 512)
def tornK (old new : Dat) (sec : Nat) : Nat → Dat
  | 0 => old
  | k + 1 => if sec / 2 ^ k % 2 = 1 then put5 (tornK old new sec k) ((new.drop (k * 512)).take 512) k else tornK old new sec k
def tornP (old new : Dat) (sec : Nat) : Dat := tornK old new sec 8
theorem tornK_succ (old new : Dat) (sec k : Nat) : tornK old new sec (k + 1) = if sec / 2 ^ k % 2 = 1 then put5 (tornK old new sec k) ((new.drop (k * 512)).take 512) k else tornK old new sec k := rfl
theorem tornK_length {old new : Dat} (h1 : old.length = 4096) (h2 : new.length = 4096) (sec : Nat) : ∀ k, k ≤ 8 → (tornK old new sec k).length = 4096
  | 0, _ => h1
  | k + 1, h => by
    have ih := tornK_length h1 h2 sec k (by omega)
    rw [tornK_succ]
    split
    · simp only [put5, List.length_append, List.length_take, List.length_drop, ih, h2]; omega
    · exact ih
attribute [irreducible] tornK
theorem bts_put5 (l m : Dat) (i : Nat) : bts (put5 l m i) = (bts l).take (i * 512) ++ bts m ++ (bts l).drop (i * 512 + 512) := by
  simp [bts, put5, List.map_take, List.map_drop]
theorem sector_of (I : Imm) (S : St) (b off cap i : Nat) (hi : i < 8) (hcap : 4096 ≤ cap) :
    Tri Tryz.prog 167 #[.slice (some ⟨b, off, none⟩) 4096 cap, .int .i64 i] I S fun v J S' => v = .slice (some ⟨b, off + i * 512, none⟩) 512 512 ∧ I = J ∧ S' = S := by
  refine Tri.of (args := [.slice (some ⟨b, off, none⟩) 4096 cap, .int .i64 i]) tabOk Tryz.func167 rfl (by kernel_rfl) (by kernel_rfl) ?_
  refine ToD.to ((i * 512 : Nat) : Int) (by rw [wrap_i64 (by omega) (by omega)]; omega) ?_
  refine ToD.to ((i + 1 : Nat) : Int) (by rw [wrap_i64 (by omega) (by omega)]; omega) ?_
  refine ToD.to ((i * 512 + 512 : Nat) : Int) (by rw [wrap_i64 (by omega) (by omega)]; omega) ?_
  refine ToD.to ((i + 1 : Nat) : Int) (by rw [wrap_i64 (by omega) (by omega)]; omega) ?_
  refine ToD.to ((i * 512 + 512 : Nat) : Int) (by rw [wrap_i64 (by omega) (by omega)]; omega) ?_
  refine sliceD tabOk rfl rfl rfl rfl (i * 512) (i * 512 + 512) (i * 512 + 512) ⟨_, rfl⟩ ⟨_, rfl⟩ ⟨_, rfl⟩ (.inr (by simp)) (by omega) ?_
  refine Done.mk ⟨?_, rfl, rfl⟩
  show Value.slice (slAddr (some ⟨b, off, none⟩) (i * 512) (i * 512 + 512) 1) (i * 512 + 512 - i * 512) (i * 512 + 512 - i * 512) = _
  unfold slAddr
  rw [if_neg (by omega), show i * 512 + 512 - i * 512 = 512 by omega]
  simp [add_none]
set_option maxHeartbeats 4000000 in
theorem torn_own (I : Imm) (a1 : Option Addr) (cap1 : Nat) (old : Dat) (h1 : Rds I a1 4096 (bts old)) (a2 : Option Addr) (cap2 : Nat) (new : Dat) (h2 : Rds I a2 4096 (bts new)) (hc2 : 4096 ≤ cap2) (sec : Nat) (hsec : sec < 256) :
    Tri Tryz.prog 101 #[.slice a1 4096 cap1, .slice a2 4096 cap2, .int .u8 sec] I [] fun v J S' => ∃ a cap ch, v = .slice a 4096 cap ∧ OwnB ch a 4096 cap (tornP old new sec) ∧ I = J ∧ S' = [ch] := by
  have hl1 : old.length = 4096 := by rw [← bts_length, h1.len]
  have hl2 : new.length = 4096 := by rw [← bts_length, h2.len]
  refine Tri.drop ?_ (fun _ _ _ _ h => h)
  refine Tri.of (args := [.slice a1 4096 cap1, .slice a2 4096 cap2, .int .u8 sec]) tabOk Tryz.func101 rfl (by kernel_rfl) (by kernel_rfl) ?_
  refine Tri.nf (clone_bytes I [] a1 4096 cap1 (bts old) (by rw [Nat.mul_one]; exact h1.slC) (bts_plain old) (by omega)) ?_
  rintro v J S' hJ ⟨aO, capO, chO, rfl, hO, rfl, rfl⟩
  have hcO := hO.le
  rcases hO.at' with q0 | ⟨bO, pre, post, TO, rfl, rfl, hpost⟩
  · omega
  rcases h2.mem with q0 | ⟨bN, oN, cN, TN, fN, rfl, hIN, hcN⟩
  · omega
  refine CodeF.loopD [1, 2, 7, 11] (fun vs J' S' => ∃ (k : Nat), k ≤ 8 ∧ vs = [.slice (some ⟨bN, oN, none⟩) 4096 cap2, .int .u8 sec, .slice (some ⟨bO, pre.length, none⟩) 4096 capO, .int .i64 k] ∧ I = J' ∧ S' = [[(bO, row (pre ++ bts (tornK old new sec k) ++ post) TO)]])
    (fun vs _ _ => match vs with | [_, _, _, .int _ k] => ((8 : Int) - k).toNat | _ => 0) ?_ ?_
  · exact ⟨_, Drop.refl _, 0, by omega, rfl, rfl, by unfold tornK; rfl⟩
  rintro vs gE J' S' hJ' ⟨k, hk, rfl, rfl, rfl⟩
  have hkl := tornK_length hl1 hl2 sec k hk
  refine CmpD.split (fun c1 => ?_) (fun c1 => ?_)
  · have hdv : sec / 2 ^ k ≤ sec := Nat.div_le_self _ _
    refine Chk.mk (by omega) ?_
    refine ToD.to ((sec / 2 ^ k : Nat) : Int) (shr_nat8 sec k (by omega)) ?_
    refine ToD.to ((sec / 2 ^ k % 2 : Nat) : Int) (by rw [show (1 : Int) = ((1 : Nat) : Int) from rfl, u8_and_nat _ 1 (by omega) (by omega), Nat.and_one_is_mod]) ?_
    refine CmpD.split (fun (c2 : ((sec / 2 ^ k % 2 : Nat) : Int) = 1) => ?_) (fun (c2 : ¬ ((sec / 2 ^ k % 2 : Nat) : Int) = 1) => ?_)
    · refine Tri.nf (sector_of I _ bO pre.length capO k (by omega) hcO) ?_
      rintro v J S' hJ ⟨rfl, rfl, rfl⟩
      refine Tri.nf (sector_of I _ bN oN cap2 k (by omega) hc2) ?_
      rintro v J S' hJ ⟨rfl, rfl, rfl⟩
      have hm : ((new.drop (k * 512)).take 512).length = 512 := by rw [List.length_take, List.length_drop]; omega
      refine copyD tabOk rfl rfl rfl rfl rfl rfl rfl 0 rfl (SrcOk.slice (n := 512) (news := bts ((new.drop (k * 512)).take 512)) tabOk rfl (Rds_part h2 (k * 512) 512 (by omega)).slC (bts_plain _)) (Nat.le_refl _) (by simp only [List.length_append, bts_length, hkl]; show pre.length + k * 512 + 512 * 1 ≤ _; omega) (Nat.le_refl _) ?_
      have hsp : splice (pre ++ bts (tornK old new sec k) ++ post) (pre.length + k * 512) (bts ((new.drop (k * 512)).take 512)) = pre ++ bts (tornK old new sec (k + 1)) ++ post := by
        rw [splice_mid _ _ _ _ _ (by rw [bts_length, bts_length, hkl, hm]; omega), tornK_succ, if_pos (by omega), bts_put5, bts_length, hm]
      rw [hsp]
      refine ToD.i64 (by omega) (by omega) ?_
      refine ⟨_, Drop.refl _, ⟨k + 1, by omega, rfl, rfl, rfl⟩, ?_⟩
      show ((8 : Int) - ((k : Int) + 1)).toNat < ((8 : Int) - (k : Int)).toNat
      omega
    · refine ToD.i64 (by omega) (by omega) ?_
      refine ⟨_, Drop.refl _, ⟨k + 1, by omega, rfl, rfl, by rw [tornK_succ, if_neg (by omega)]⟩, ?_⟩
      show ((8 : Int) - ((k : Int) + 1)).toNat < ((8 : Int) - (k : Int)).toNat
      omega
  · obtain rfl : k = 8 := by omega
    refine Done.mk ⟨_, Drop.refl _, some ⟨bO, pre.length, none⟩, capO, _, rfl, ⟨by rw [bts_length]; exact hkl, hcO, .inr ⟨bO, pre, post, TO, rfl, rfl, hpost⟩⟩, rfl, rfl⟩
theorem torn_fix (I : Imm) (a1 : Option Addr) (cap1 : Nat) (old : Dat) (h1 : Rds I a1 4096 (bts old)) (a2 : Option Addr) (cap2 : Nat) (new : Dat) (h2 : Rds I a2 4096 (bts new)) (hc2 : 4096 ≤ cap2) (sec : Nat) (hsec : sec < 256) :
    Tri Tryz.prog 101 #[.slice a1 4096 cap1, .slice a2 4096 cap2, .int .u8 sec] I [] fun v J _ => ∃ a cap, v = .slice a 4096 cap ∧ Rds J a 4096 (bts (tornP old new sec)) := by
  refine Tri.fixed (torn_own I a1 cap1 old h1 a2 cap2 new h2 hc2 sec hsec) ?_
  rintro v J S' hJ ⟨a, cap, ch, rfl, hO, rfl, rfl⟩
  exact ⟨0, ch, rfl, fun J' hJ' hm => ⟨a, cap, rfl, Rds.of_own hO hm⟩⟩
end Go.Proofs.YtegdcjnjnoeinaaGreat
namespace Go.Proofs.YtegdcjnjnoeinaaGreat
open Go.RowKit Go.Sl
set_option maxRecDepth 20000

/-- what a crash leaves of the blocks -/
def crash1 (keep : List Bool) (tn : Int) (sec i : Nat) (n : Nat) (b : Dat) (s : List Dat) : List Dat :=
  if (i : Int) = tn then s.set n (tornP (s.getD n []) b sec) else if keep.getD i false then s.set n b else s
def crashK (keep : List Bool) (tn : Int) (sec : Nat) : Nat → List (Int × Dat) → List Dat → List Dat
  | _, [], s => s
  | i, w :: ws, s => crashK keep tn sec (i + 1) ws (crash1 keep tn sec i w.1.toNat w.2 s)
theorem crashK_snoc (keep : List Bool) (tn : Int) (sec : Nat) : ∀ (ws : List (Int × Dat)) (i : Nat) (s : List Dat) (w : Int × Dat), crashK keep tn sec i (ws ++ [w]) s = crash1 keep tn sec (i + ws.length) w.1.toNat w.2 (crashK keep tn sec i ws s)
  | [], i, s, w => by simp [crashK]
  | x :: ws, i, s, w => by
    rw [List.cons_append, crashK, crashK_snoc keep tn sec ws, crashK, List.length_cons, show i + 1 + ws.length = i + (ws.length + 1) by omega]
theorem crash1_length (keep : List Bool) (tn : Int) (sec i n : Nat) (b : Dat) (s : List Dat) : (crash1 keep tn sec i n b s).length = s.length := by
  unfold crash1; split
  · simp
  · split <;> simp
theorem crash1_mem {keep : List Bool} {tn : Int} {sec i n : Nat} {b : Dat} {s : List Dat} (hb : b.length = 4096) (hs : ∀ x ∈ s, x.length = 4096) (hn : n < s.length) : ∀ x ∈ crash1 keep tn sec i n b s, x.length = 4096 := by
  intro x hx
  unfold crash1 at hx
  split at hx
  · rcases List.mem_or_eq_of_mem_set hx with hx | rfl
    · exact hs x hx
    · refine tornK_length ?_ hb sec 8 (by omega)
      rw [List.getD_eq_getElem?_getD, List.getElem?_eq_getElem hn]
      exact hs _ (List.getElem_mem hn)
  · split at hx
    · rcases List.mem_or_eq_of_mem_set hx with hx | rfl
      · exact hs x hx
      · exact hb
    · exact hs x hx
theorem crashK_length (keep : List Bool) (tn : Int) (sec : Nat) : ∀ (ws : List (Int × Dat)) (i : Nat) (s : List Dat), (crashK keep tn sec i ws s).length = s.length
  | [], _, _ => rfl
  | w :: ws, i, s => by rw [crashK, crashK_length keep tn sec ws, crash1_length]
theorem crashK_mem {keep : List Bool} {tn : Int} {sec : Nat} : ∀ (ws : List (Int × Dat)) (i : Nat) (s : List Dat), (∀ w ∈ ws, w.1.toNat < s.length ∧ w.2.length = 4096) → (∀ x ∈ s, x.length = 4096) → ∀ x ∈ crashK keep tn sec i ws s, x.length = 4096
  | [], _, _, _, hs => hs
  | w :: ws, i, s, hw, hs => by
    have h1 := hw w (by simp)
    exact crashK_mem ws (i + 1) _ (fun y hy => by rw [crash1_length]; exact hw y (by simp [hy])) (crash1_mem h1.2 hs h1.1)
def DSt.crash (d : DSt) (keep : List Bool) (tn : Int) (sec : Nat) : DSt := ⟨crashK keep tn sec 0 d.writes d.safe, crashK keep tn sec 0 d.writes d.safe, [], d.count, false, ⟨false, 0⟩, ⟨false, 0⟩⟩
theorem DSt.Wf.crash {d : DSt} (h : d.Wf) (keep : List Bool) (tn : Int) (sec : Nat) : (d.crash keep tn sec).Wf := by
  have hl := crashK_length keep tn sec d.writes 0 d.safe
  have hm := crashK_mem (keep := keep) (tn := tn) (sec := sec) d.writes 0 d.safe (fun w hw => by have h1 := h.writes w hw; have h2 := h.len; exact ⟨by omega, h1.2.2⟩) h.safe
  have h1 := h.len
  have h2 := h.range
  exact ⟨rfl, by show 1 ≤ (crashK keep tn sec 0 d.writes d.safe).length ∧ (crashK keep tn sec 0 d.writes d.safe).length ≤ 512; omega, hm, hm, fun w hw => (List.not_mem_nil hw).elim, fun h => (Bool.false_ne_true h).elim, fun h => (Bool.false_ne_true h).elim⟩
def bools (l : List Bool) : List Value := l.map Value.bool
theorem bools_get {l : List Bool} {i : Nat} (h : i < l.length) : (bools l)[i]? = some (.bool (l.getD i false)) := by
  rw [List.getD_eq_getElem?_getD, List.getElem?_eq_getElem h]
  simp [bools, h]
set_option maxHeartbeats 4000000 in
theorem disk_Crash (b : Nat) (d : DRec) (hnl : 1 ≤ d.now.len) (hsl : d.safe.len ≤ 1000000) (hwl : d.writes.len ≤ 1000000) (chS chN chW : List Blk) (safe now : List Bk) (ws : List (Int × Bk)) (I : Imm) (hD : DiskAt I d chS chN chW safe now ws) (hws : ∀ w ∈ ws, 0 ≤ w.1 ∧ w.1 < d.safe.len)
    (aK : Option Addr) (nK capK : Nat) (keep : List Bool) (hK : Rds I aK nK (bools keep)) (tn : Int) (sec : Nat) (hsec : sec < 256) :
    Tri Tryz.prog 34 #[.pointer (some ⟨b, 0, none⟩), .slice aK nK capK, .int .i64 tn, .int .u8 sec] I [dChunk b d, chS, chN, chW] fun v J S' =>
      v = .int .i64 0 ∧ ∃ (hS hN : Hd) (chS' chN' : List Blk) (bks : List Bk), bks.map Bk.data = crashK keep tn sec 0 (ws.map fun w => (w.1, w.2.data)) (safe.map Bk.data) ∧
        S' = [dChunk b ⟨hS, hN, ⟨none, 0, 0⟩, d.count, false, ⟨false, 0⟩, ⟨false, 0⟩⟩, chS', chN', []] ∧ DiskAt J ⟨hS, hN, ⟨none, 0, 0⟩, d.count, false, ⟨false, 0⟩, ⟨false, 0⟩⟩ chS' chN' [] bks bks [] := by
  refine Tri.drop ?_ (fun _ _ _ _ h => h)
  refine Tri.of (args := [.pointer (some ⟨b, 0, none⟩), .slice aK nK capK, .int .i64 tn, .int .u8 sec]) tabOk Tryz.func34 rfl (by kernel_rfl) (by kernel_rfl) ?_
  refine Tri.frame1 0 rfl (disk_none b d I) ?_
  rintro v J S' hJ ⟨rfl, rfl, rfl⟩
  refine ⟨_, rfl, ?_⟩
  rw [decide_eq_false (show ¬ d.now.len = 0 by omega)]
  have hKl : keep.length = nK := by have := hK.len; simpa [bools] using this
  obtain ⟨hSo, hNo, hWo, hokS, _, hokW⟩ := hD
  obtain ⟨⟨sa, sl, sc⟩, ⟨na, nl, nc⟩, ⟨wa, wl, wc⟩, count, down, ⟨ao, al⟩, ⟨fo, fl⟩⟩ := d
  dsimp only at hnl hsl hwl hSo hNo hWo hws
  have hwn : ws.length = wl := by have := hWo.n; rw [wCells_length] at this; omega
  refine LoadD.own 0 rfl [.slice wa wl wc] rfl rfl ?_
  refine CodeF.loopD [0, 1, 2, 3, 16, 17, 18] (fun vs J' S' => ∃ (i : Nat) (chS : List Blk) (bks : List Bk), i ≤ wl ∧ OwnC chS 1 sa sl sc (bks.map Bk.cell) ∧ bks.map Bk.data = crashK keep tn sec 0 ((ws.take i).map fun w => (w.1, w.2.data)) (safe.map Bk.data) ∧ (∀ b ∈ bks, BkOk J' b) ∧ I.le J' ∧
      vs = [.pointer (some ⟨b, 0, none⟩), .slice aK nK capK, .int .i64 tn, .int .u8 sec, .slice wa wl wc, .int .i64 wl, .int .i64 i] ∧ S' = [dChunk b ⟨⟨sa, sl, sc⟩, ⟨na, nl, nc⟩, ⟨wa, wl, wc⟩, count, down, ⟨ao, al⟩, ⟨fo, fl⟩⟩, chS, chN, chW])
    (fun vs _ _ => match vs with | [_, _, _, _, _, _, .int _ i] => ((wl : Int) - i).toNat | _ => 0) ?_ ?_
  · exact ⟨_, Drop.refl _, 0, chS, safe, by omega, hSo, rfl, hokS, Imm.le_refl _, rfl, rfl⟩
  rintro vs gE J' S' hJ' ⟨i, chS, bks, hi, hS, hdat, hbok, hle, rfl, rfl⟩
  have hbl : bks.length = sl := by have := hS.n; rw [List.length_map] at this; omega
  refine CmpD.split (fun (c1 : (i : Int) < wl) => ?_) (fun (c1 : ¬ (i : Int) < wl) => ?_)
  · have hil : i < ws.length := by omega
    have hwi := hws _ (List.getElem_mem hil)
    obtain ⟨hwo, hwc⟩ := hokW _ (List.getElem_mem hil)
    have hcell := wCells_at hil
    have htake : ws.take (i + 1) = ws.take i ++ [ws[i]] := by rw [List.take_add_one, List.getElem?_eq_getElem hil]; rfl
    have hlt : (ws.take i).length = i := by rw [List.length_take]; omega
    obtain ⟨bW, oW, rfl, hcW⟩ := SlC.cells (hWo.slC (I := J') (S := [dChunk b ⟨⟨sa, sl, sc⟩, ⟨na, nl, nc⟩, ⟨wa, wl, wc⟩, count, down, ⟨ao, al⟩, ⟨fo, fl⟩⟩, chS, chN, chW]) 3 rfl) (by omega)
    generalize ws[i] = w at *
    obtain ⟨wn, wb⟩ := w
    dsimp only at hwi hwo hwc hcell
    obtain ⟨n, rfl⟩ : ∃ n : Nat, wn = n := ⟨wn.toNat, by omega⟩
    have hwo' := BkOk.mono hwo hle
    have hnew : ∀ bks' : List Bk, bks'.map Bk.data = crash1 keep tn sec i n wb.data (bks.map Bk.data) → bks'.map Bk.data = crashK keep tn sec 0 ((ws.take (i + 1)).map fun w => (w.1, w.2.data)) (safe.map Bk.data) := by
      intro bks' h
      rw [htake, List.map_append, List.map_singleton, crashK_snoc, List.length_map, hlt, Nat.zero_add, ← hdat, h]; rfl
    refine Chk.mk (by omega) ?_
    refine LoadD.mk [.int .i64 n, wb.cell] (by have := hcW.part (i := i * 2) (m := 2) (by omega); rw [hcell] at this; exact this) ?_
    conv => whnf
    intro b10
    refine StoreD.st 4 rfl rfl rfl ?_
    rcases hS.at' with q0 | ⟨bX, pre, post, TX, rfl, rfl, hpost⟩
    · have := hS.le; omega
    have hnb : n < bks.length := by omega
    have hset : ∀ bk : Bk, splice (pre ++ bks.map Bk.cell ++ post) (pre.length + n) [bk.cell] = pre ++ (bks.set n bk).map Bk.cell ++ post := by
      intro bk
      rw [splice_mid _ _ _ _ _ (by simp; omega), List.map_set, List.set_eq_take_append_cons_drop, if_pos (by simp; omega)]
      simp
    have hown : ∀ bk : Bk, OwnC [(bX, row (pre ++ (bks.set n bk).map Bk.cell ++ post) TX)] 1 (some ⟨bX, pre.length, none⟩) sl sc ((bks.set n bk).map Bk.cell) := fun bk => ⟨by simp [hbl], hS.le, .inr ⟨bX, pre, post, TX, rfl, rfl, hpost⟩⟩
    have hXc : Cells J' [[(bX, row (pre ++ bks.map Bk.cell ++ post) TX)]] bX pre.length sl (bks.map Bk.cell) := ⟨_, TX, (0, 0), .one 0 rfl, by have := own_take pre (bks.map Bk.cell) post; rwa [List.length_map, hbl] at this, by rw [List.length_map, hbl]⟩
    refine CmpD.split (fun (c2 : (i : Int) = tn) => ?_) (fun (c2 : ¬ (i : Int) = tn) => ?_)
    · refine CodeF.sched [[], [0], [0, 1], [0, 1, 2], [], [4], [], [6], [6, 7], [6, 7, 8], [], [10], [6, 7, 8, 9, 10, 11], [6, 7, 8, 9, 10, 11, 12], [], [14], [], [6, 7, 8, 9, 10, 11, 12, 13, 14, 15, 16], [0, 1, 2, 3, 4, 5, 6, 7, 8, 9, 10, 11, 12, 13, 14, 15, 16, 17], [0, 1, 2, 3, 4, 5, 6, 7, 8, 9, 10, 11, 12, 13, 14, 15, 16, 17, 18]] [0, 1, 2, 3, 4, 5, 6, 7, 8, 9, 10, 11, 12, 13, 14, 15, 16, 17, 18, 19] (by kernel_rfl) ?_
      repeat (first | refine LoadP.at 0 rfl _ rfl rfl ?_ | refine LoadP.at 4 rfl _ rfl rfl ?_)
      refine Chk.mk (by omega) ?_
      refine LoadP.own 1 [(bks[n]).cell] (hXc.at (by rw [Int.toNat_natCast, List.getElem?_map, List.getElem?_eq_getElem hnb]; rfl)) ?_
      repeat (first | refine LoadP.at 4 rfl _ rfl rfl ?_)
      have hbo := hbok _ (List.getElem_mem hnb)
      refine Tri.free (torn_fix J' (bks[n]).a (bks[n]).cap (bks[n]).data hbo wb.a wb.cap wb.data hwo' hwc sec hsec) ?_
      rintro v J2 _ hJ2 ⟨aT, capT, rfl, hT⟩
      repeat (first | refine Chk.mk ⟨rfl, rfl, trivial⟩ ?_)
      refine Chk.mk (by omega) ?_
      refine StoreD.to 1 rfl _ (hset ⟨aT, capT, tornP (bks[n]).data wb.data sec⟩) (by simp only [List.length_append, List.length_map, hbl]; show pre.length + n + 1 ≤ _; omega) (.inr (.inr (Nat.le_refl _))) _ rfl ?_
      refine ToD.i64 (by omega) (by omega) ?_
      refine ⟨_, Drop.pick [0, 1, 2, 3] _ rfl, ⟨i + 1, _, bks.set n ⟨aT, capT, tornP (bks[n]).data wb.data sec⟩, by omega, hown _, hnew _ ?_, ?_, Imm.le_trans hle hJ2, rfl, rfl⟩, ?_⟩
      · rw [crash1, if_pos c2, List.map_set, List.getD_eq_getElem?_getD, List.getElem?_map, List.getElem?_eq_getElem hnb]; rfl
      · intro y hy
        rcases List.mem_or_eq_of_mem_set hy with hy | rfl
        · exact (hbok y hy).mono hJ2
        · exact hT
      · show ((wl : Int) - ((i : Int) + 1)).toNat < ((wl : Int) - (i : Int)).toNat; omega
    · have hskip : keep.getD i false = false → bks.map Bk.data = crash1 keep tn sec i n wb.data (bks.map Bk.data) := fun h => by rw [crash1, if_neg c2, h]; rfl
      refine CmpD.split (fun (c3 : (i : Int) < nK) => ?_) (fun (c3 : ¬ (i : Int) < nK) => ?_)
      · have hkb := bools_get (l := keep) (i := i) (by omega)
        rcases hK.mem with q0 | ⟨bK, oK, cK, TK, fK, rfl, hIK, hcK⟩
        · omega
        refine Chk.mk (by omega) ?_
        refine LoadD.imm (hle _ _ hIK) [.bool (keep.getD i false)] (take_get hcK hkb) rfl ?_
        cases hkv : keep.getD i false with
        | true =>
          skip
          refine CodeF.sched [[], [0], [0, 1], [0, 1, 2], [], [4], [], [6], [0, 1, 2, 3, 4, 5, 6, 7], [0, 1, 2, 3, 4, 5, 6, 7, 8]] [0, 1, 2, 3, 4, 5, 6, 7, 8, 9] (by kernel_rfl) ?_
          repeat (first | refine LoadP.at 0 rfl _ rfl rfl ?_ | refine LoadP.at 4 rfl _ rfl rfl ?_)
          refine Chk.mk (by omega) ?_
          refine StoreD.to 1 rfl _ (hset wb) (by simp only [List.length_append, List.length_map, hbl]; show pre.length + n + 1 ≤ _; omega) (.inr (.inr (Nat.le_refl _))) _ rfl ?_
          refine ToD.i64 (by omega) (by omega) ?_
          refine ⟨_, Drop.pick [0, 1, 2, 3] _ rfl, ⟨i + 1, _, bks.set n wb, by omega, hown _, hnew _ ?_, ?_, hle, rfl, rfl⟩, ?_⟩
          · rw [crash1, if_neg c2, hkv, if_pos rfl, List.map_set]
          · intro y hy
            rcases List.mem_or_eq_of_mem_set hy with hy | rfl
            · exact hbok y hy
            · exact hwo'
          · show ((wl : Int) - ((i : Int) + 1)).toNat < ((wl : Int) - (i : Int)).toNat; omega
        | false =>
          skip
          refine ToD.i64 (by omega) (by omega) ?_
          refine ⟨_, Drop.pick [0, 1, 2, 3] _ rfl, ⟨i + 1, _, bks, by omega, hS, hnew _ (hskip hkv), hbok, hle, rfl, rfl⟩, ?_⟩
          show ((wl : Int) - ((i : Int) + 1)).toNat < ((wl : Int) - (i : Int)).toNat; omega
      · refine ToD.i64 (by omega) (by omega) ?_
        refine ⟨_, Drop.pick [0, 1, 2, 3] _ rfl, ⟨i + 1, _, bks, by omega, hS, hnew _ (hskip (by rw [List.getD_eq_getElem?_getD, List.getElem?_eq_none (by omega)]; rfl)), hbok, hle, rfl, rfl⟩, ?_⟩
        show ((wl : Int) - ((i : Int) + 1)).toNat < ((wl : Int) - (i : Int)).toNat; omega
  · obtain rfl : i = wl := by omega
    rw [← hwn, List.take_length] at hdat
    refine LoadD.own 0 rfl [.slice sa sl sc] rfl rfl ?_
    refine (clone_blocks J' _ sa sl sc (bks.map Bk.cell) (hS.slC 1 rfl) (by intro v hv; obtain ⟨b, _, rfl⟩ := List.mem_map.1 hv; rfl) (by omega)).mono ?_
    rintro v J3 S3 hJ3 ⟨aN, capN, chN', rfl, hN', rfl, rfl⟩
    refine StoreD.st 0 rfl rfl rfl ?_
    refine StoreD.st 0 rfl rfl rfl ?_
    refine StoreD.st 0 rfl rfl rfl ?_
    refine StoreD.st 0 rfl rfl rfl ?_
    refine StoreD.st 0 rfl rfl rfl ?_
    refine Done.mk ⟨[dChunk b ⟨⟨sa, sl, sc⟩, ⟨aN, sl, capN⟩, ⟨none, 0, 0⟩, count, false, ⟨false, 0⟩, ⟨false, 0⟩⟩, chS, chN', []], Drop.and (Drop.pick [0, 1, 4] _ rfl), rfl, ⟨sa, sl, sc⟩, ⟨aN, sl, capN⟩, chS, chN', bks, hdat, rfl, ⟨hS, hN', OwnC.nil _ _, hbok, hbok, by simp⟩⟩
theorem dk_Crash {I : Imm} {bD : Nat} {st : DSt} {ch : List Blk} (h : Dk I bD st ch) (hf : st.Few 1000000) (aK : Option Addr) (nK capK : Nat) (keep : List Bool) (hK : Rds I aK nK (bools keep)) (tn : Int) (sec : Nat) (hsec : sec < 256) :
    Tri Tryz.prog 34 #[.pointer (some ⟨bD, 0, none⟩), .slice aK nK capK, .int .i64 tn, .int .u8 sec] I [ch] fun v J S' => v = .int .i64 0 ∧ ∃ ch', Dk J bD (st.crash keep tn sec) ch' ∧ S' = [ch'] := by
  have hwf := h.wf.crash keep tn sec
  obtain ⟨hw, d, chS, chN, chW, bS, bN, bW, rfl, hD, q1, q2, q3, q4, q5, q6, q7⟩ := h
  have hl := hD.hN.len1
  have hl' : st.now.length = d.now.len := by rw [← q2]; simpa using hl
  have hls := hD.hS.len1
  have hls' : st.safe.length = d.safe.len := by rw [← q1]; simpa using hls
  have hr := hw.range
  have hwl := hw.len
  have hW := hD.hW.n
  rw [wCells_length] at hW
  have hW' : st.writes.length = d.writes.len := by rw [← q3, List.length_map]; omega
  obtain ⟨f1, f2, f3⟩ := hf
  refine Tri.abs (S2 := [dChunk bD d, chS, chN, chW]) (by simp) (disk_Crash bD d (by omega) (by omega) (by omega) chS chN chW bS bN bW I hD (fun w hw2 => by
    have := hw.writes (w.1, w.2.data) (by rw [← q3]; exact List.mem_map.2 ⟨w, hw2, rfl⟩)
    dsimp only at this
    omega) aK nK capK keep hK tn sec hsec) ?_
  rintro v J S' hJ ⟨rfl, hS, hN, chS', chN', bks, hbd, rfl, hDA⟩
  rw [q1, q3] at hbd
  exact ⟨[dChunk bD ⟨hS, hN, ⟨none, 0, 0⟩, d.count, false, ⟨false, 0⟩, ⟨false, 0⟩⟩ ++ (chS' ++ (chN' ++ []))], Drop.flat (by simp), rfl, _, ⟨hwf, _, chS', chN', [], bks, bks, [], rfl, hDA, hbd, hbd, rfl, q4, rfl, rfl, rfl⟩, rfl⟩
end Go.Proofs.YtegdcjnjnoeinaaGreat
namespace Go.Proofs.YtegdcjnjnoeinaaGreat
open Go.RowKit Go.Sl
set_option maxRecDepth 20000

theorem put5_at {l m : Dat} {k j : Nat} (hm : m.length = 512) (hl : l.length = 4096) (hk : k < 8) :
    (put5 l m k)[j]? = if j / 512 = k then m[j % 512]? else l[j]? := by
  unfold put5
  have h1 : (l.take (k * 512)).length = k * 512 := by rw [List.length_take]; omega
  rw [List.append_assoc]
  rcases Nat.lt_or_ge j (k * 512) with g | g
  · rw [List.getElem?_append_left (by omega), List.getElem?_take, if_pos g, if_neg (by omega)]
  rw [List.getElem?_append_right (by omega), h1]
  rcases Nat.lt_or_ge (j - k * 512) 512 with g2 | g2
  · rw [List.getElem?_append_left (by omega), if_pos (by omega)]
    congr 1; omega
  · rw [List.getElem?_append_right (by omega), hm, List.getElem?_drop]
    have e : k * 512 + 512 + (j - k * 512 - 512) = j := by omega
    rw [e, if_neg (by omega)]
theorem tornK_at {old new : Dat} (h1 : old.length = 4096) (h2 : new.length = 4096) (sec : Nat) : ∀ (n : Nat), n ≤ 8 → ∀ j, j < 4096 → (tornK old new sec n)[j]? = if j / 512 < n ∧ sec / 2 ^ (j / 512) % 2 = 1 then new[j]? else old[j]?
  | 0, _, j, _ => by unfold tornK; rw [if_neg (by omega)]
  | n + 1, hn, j, hj => by
    have ih := tornK_at h1 h2 sec n (by omega) j hj
    have hl := tornK_length h1 h2 sec n (by omega)
    rw [tornK_succ]
    by_cases hs : sec / 2 ^ n % 2 = 1
    · rw [if_pos hs, put5_at (by rw [List.length_take, List.length_drop]; omega) hl (by omega), ih]
      by_cases hj2 : j / 512 = n
      · rw [if_pos hj2, if_pos ⟨by omega, by rw [hj2]; exact hs⟩, List.getElem?_take, if_pos (by omega), List.getElem?_drop]
        congr 1; omega
      · rw [if_neg hj2]
        by_cases h3 : j / 512 < n ∧ sec / 2 ^ (j / 512) % 2 = 1
        · rw [if_pos h3, if_pos ⟨by omega, h3.2⟩]
        · rw [if_neg h3, if_neg (fun h => h3 ⟨by omega, h.2⟩)]
    · rw [if_neg hs, ih]
      by_cases h3 : j / 512 < n ∧ sec / 2 ^ (j / 512) % 2 = 1
      · rw [if_pos h3, if_pos ⟨by omega, h3.2⟩]
      · rw [if_neg h3]
        by_cases h4 : j / 512 < n + 1 ∧ sec / 2 ^ (j / 512) % 2 = 1
        · exfalso
          by_cases hj2 : j / 512 = n
          · exact hs (hj2 ▸ h4.2)
          · exact h3 ⟨by omega, h4.2⟩
        · rw [if_neg h4]
end Go.Proofs.YtegdcjnjnoeinaaGreat
namespace Go.Proofs.YtegdcjnjnoeinaaGreat
open Go.RowKit Go.Sl
set_option maxRecDepth 20000

def supA : Dat := supL (superOf 1 7)
def supB : Dat := supL (superOf 2 9)
theorem supB_length : supB.length = 4096 := supL_length _
theorem supL_rest (s : Sup) {j : Nat} (h1 : 44 ≤ j) (h2 : j < 4096) : (supL s)[j]? = some 0 := by
  have := sup44_length s
  rw [supL, List.getElem?_append_right (by omega), List.getElem?_replicate, if_pos (by omega)]
theorem torn_sup (sec : Nat) : tornP noughts supB sec = noughts ∨ tornP noughts supB sec = supB := by
  have hat := tornK_at noughts_length supB_length sec 8 (by omega)
  have hl : (tornP noughts supB sec).length = 4096 := tornK_length noughts_length supB_length sec 8 (by omega)
  have hz : ∀ j, 512 ≤ j → j < 4096 → (tornP noughts supB sec)[j]? = some 0 := by
    intro j h1 h2
    rw [tornP, hat j h2]
    split
    · exact supL_rest _ (by omega) h2
    · exact noughts_get h2
  by_cases h0 : sec / 2 ^ 0 % 2 = 1
  · right
    refine ext4096 hl supB_length fun j hj => ?_
    rcases Nat.lt_or_ge j 512 with g | g
    · rw [tornP, hat j hj, show j / 512 = 0 by omega, if_pos ⟨by omega, h0⟩]
    · rw [hz j g hj]; exact (supL_rest _ (by omega) hj).symm
  · left
    refine ext4096 hl noughts_length fun j hj => ?_
    rcases Nat.lt_or_ge j 512 with g | g
    · rw [tornP, hat j hj, show j / 512 = 0 by omega, if_neg (fun h => h0 h.2)]
    · rw [hz j g hj, noughts_get hj]
theorem torn_same {b : Dat} (hb : b.length = 4096) (sec : Nat) : tornP b b sec = b := by
  refine ext4096 (tornK_length hb hb sec 8 (by omega)) hb fun j hj => ?_
  rw [tornP, tornK_at hb hb sec 8 (by omega) j hj]
  split <;> rfl
/-- blocks that may lie behind any cut -/
structure PB (K : List Int) (l : List Dat) : Prop where
  len : l.length = 64
  z : l[0]? = some supA
  o : l[1]? = some noughts ∨ l[1]? = some supB
  r : ∀ n : Nat, 2 ≤ n → n < 64 → (n : Int) ∉ K → l[n]? = some noughts
def WB (K : List Int) (ws : List (Int × Dat)) : Prop := ∀ w ∈ ws, (w.1 ∈ K ∧ 2 ≤ w.1) ∨ w = (1, supB)
structure QB (K : List Int) (d : DSt) : Prop where
  safe : PB K d.safe
  now : PB K d.now
  ws : WB K d.writes
theorem PB.set {K : List Int} {l : List Dat} (h : PB K l) {n : Int} (hn : n ∈ K ∧ 2 ≤ n) (b : Dat) : PB K (l.set n.toNat b) := by
  refine ⟨by rw [List.length_set]; exact h.len, by rw [List.getElem?_set_ne (by omega)]; exact h.z, ?_, fun m h1 h2 h3 => ?_⟩
  · rw [List.getElem?_set_ne (by omega)]; exact h.o
  · have : n.toNat ≠ m := by
      intro e
      apply h3
      rw [show ((m : Nat) : Int) = n by omega]; exact hn.1
    rw [List.getElem?_set_ne this]; exact h.r m h1 h2 h3
theorem PB.set1 {K : List Int} {l : List Dat} (h : PB K l) {b : Dat} (hb : b = noughts ∨ b = supB) : PB K (l.set 1 b) := by
  have hl := h.len
  refine ⟨by rw [List.length_set]; exact h.len, by rw [List.getElem?_set_ne (by omega)]; exact h.z, ?_, fun m h1 h2 h3 => ?_⟩
  · rw [List.getElem?_set_self (by omega)]
    rcases hb with rfl | rfl
    · exact .inl rfl
    · exact .inr rfl
  · rw [List.getElem?_set_ne (by omega)]; exact h.r m h1 h2 h3
theorem PB.wr {K : List Int} {l : List Dat} (h : PB K l) {n : Int} {b : Dat} (hw : (n ∈ K ∧ 2 ≤ n) ∨ (n, b) = (1, supB)) : PB K (l.set n.toNat b) := by
  rcases hw with hw | hw
  · exact h.set hw b
  · cases hw
    exact h.set1 (.inr rfl)
theorem QB.stop {K : List Int} {d : DSt} (h : QB K d) : QB K d.stop.1 := by
  obtain ⟨e1, e2, e3, _⟩ := d.stop_same
  exact ⟨by rw [e1]; exact h.safe, by rw [e2]; exact h.now, by rw [e3]; exact h.ws⟩
theorem QB.write {K : List Int} {d : DSt} (h : QB K d) {n : Int} {b : Dat} (hw : (n ∈ K ∧ 2 ≤ n) ∨ (n, b) = (1, supB)) : QB K (d.write n b).1 := by
  unfold DSt.write
  split
  · exact h
  split
  · exact h
  split
  · exact h.stop
  obtain ⟨e1, _, _, _⟩ := d.stop_same
  refine ⟨by show PB K d.stop.1.safe; rw [e1]; exact h.safe, h.now.wr hw, ?_⟩
  intro w hm
  have hm : w ∈ d.writes ++ [(n, b)] := hm
  rcases List.mem_append.1 hm with hm | hm
  · exact h.ws w hm
  · simp only [List.mem_singleton] at hm
    subst hm; exact hw
theorem QB.flush {K : List Int} {d : DSt} (h : QB K d) : QB K d.flush.1 := by
  unfold DSt.flush
  split
  · exact h.stop
  obtain ⟨_, e2, _, _⟩ := d.stop_same
  exact ⟨h.now, by show PB K d.stop.1.now; rw [e2]; exact h.now, fun w hm => (List.not_mem_nil hm).elim⟩
theorem QB.imgs {K : List Int} : ∀ (l : List PImg) (d : DSt), QB K d → (∀ g ∈ l, g.1 ∈ K ∧ 2 ≤ g.1) → QB K (wrImgs l d).1
  | [], _, h, _ => h
  | g :: l, d, h, hl => by
    have h1 := h.write (b := g.2) (.inl (hl g (by simp)))
    rw [wrImgs]
    split
    · exact h1
    · exact QB.imgs l _ h1 fun x hx => hl x (by simp [hx])
theorem QB.last {K : List Int} {d : DSt} (h : QB K d) : QB K (lastWr d 1 (superOf 2 9)).1 := by
  have h1 := h.write (n := 1) (b := supB) (.inr rfl)
  unfold lastWr
  split
  · exact h1
  · exact h1.flush
theorem QB.doP {K : List Int} {d : DSt} (h : QB K d) {l : List PImg} (hl : ∀ g ∈ l, g.1 ∈ K ∧ 2 ≤ g.1) : QB K (doP d l (superOf 2 9) 1).1 := by
  have h1 := QB.imgs l d h hl
  unfold Go.Proofs.YtegdcjnjnoeinaaGreat.doP
  split
  · exact h
  split
  · exact h1
  split
  · exact h1.flush
  · exact h1.flush.last
theorem PB.crash {K : List Int} (keep : List Bool) (tn : Int) (sec : Nat) : ∀ (ws : List (Int × Dat)) (i : Nat) (s : List Dat), PB K s → WB K ws → PB K (crashK keep tn sec i ws s)
  | [], _, _, h, _ => h
  | w :: ws, i, s, h, hw => by
    rw [crashK]
    refine PB.crash keep tn sec ws (i + 1) _ ?_ fun x hx => hw x (by simp [hx])
    have h0 := hw w (by simp)
    obtain ⟨n, b⟩ := w
    unfold crash1
    dsimp only at h0 ⊢
    split
    · rcases h0 with h0 | h0
      · exact h.set h0 _
      · cases h0
        refine h.set1 ?_
        rw [show (1 : Int).toNat = 1 from rfl, List.getD_eq_getElem?_getD]
        rcases h.o with ho | ho
        · rw [ho]; exact torn_sup sec
        · rw [ho]; exact .inr (torn_same supB_length sec)
    · split
      · exact h.wr h0
      · exact h
theorem QB.crash {K : List Int} {d : DSt} (h : QB K d) (keep : List Bool) (tn : Int) (sec : Nat) : QB K (d.crash keep tn sec) :=
  ⟨PB.crash keep tn sec _ _ _ h.safe h.ws, PB.crash keep tn sec _ _ _ h.safe h.ws, fun _ hm => (List.not_mem_nil hm).elim⟩
/-! ### the last time, with nothing in the way -/
end Go.Proofs.YtegdcjnjnoeinaaGreat
namespace Go.Proofs.YtegdcjnjnoeinaaGreat
open Go.RowKit Go.Sl
set_option maxRecDepth 20000

theorem lastD_mem : ∀ (l : List PImg) (n : Int) (x : Dat), lastD l n = some x → ∃ g ∈ l, g.1 = n ∧ g.2 = x := by
  intro l
  refine snoc_ind (p := fun l : List PImg => ∀ (n : Int) (x : Dat), lastD l n = some x → ∃ g ∈ l, g.1 = n ∧ g.2 = x) ?_ ?_ l
  · intro n x h; cases h
  · intro l g ih n x h
    rw [lastD_snoc] at h
    split at h
    · rename_i hg
      exact ⟨g, by simp, hg, Option.some.inj h⟩
    · obtain ⟨y, hy, h1⟩ := ih n x h
      exact ⟨y, by simp [hy], h1⟩
structure HomL (l L : List PImg) : Prop where
  ok : ∀ g ∈ L, 18 ≤ g.1 ∧ g.1 < 64 ∧ g.2.length = 4096
  last : ∀ n, lastD L n = lastD l n
  few : L.length ≤ 46
theorem getD_some {l : List Dat} {n : Nat} {x : Dat} (h : l[n]? = some x) : l.getD n [] = x := by rw [List.getD_eq_getElem?_getD, h]; rfl
end Go.Proofs.YtegdcjnjnoeinaaGreat
namespace Go.Proofs.YtegdcjnjnoeinaaGreat
open Go.RowKit Go.Sl
set_option maxRecDepth 20000

theorem scanK_right {rb : Nat → Dat} {ep : Int} : ∀ (f at_ : Nat) (seq : Int) (room : Nat), ∀ g ∈ scanK rb ep f at_ seq room, RightP g.1 g.2.1 g.2.2
  | 0, _, _, _, g, hg => by simp [scanK] at hg
  | f + 1, at_, seq, room, g, hg => by
    rw [scanK] at hg
    cases hp : grpP rb at_ room with
    | none => rw [hp] at hg; simp at hg
    | some p =>
      obtain ⟨e, s, l⟩ := p
      rw [hp] at hg
      dsimp only at hg
      split at hg
      · rcases List.mem_cons.1 hg with rfl | hg
        · unfold grpP at hp
          split at hp
          · cases hp
          · split at hp
            · exact (getP_some hp).1
            · cases hp
        · exact scanK_right f _ _ _ g hg
      · simp at hg
theorem home_mem {l : List PImg} {g : PImg} (h : g ∈ homeP l) : g ∈ l := by
  unfold homeP at h
  obtain ⟨n, hn, rfl⟩ := List.mem_map.1 h
  have h1 := (sortI_perm _).mem_iff.1 hn
  have h2 := (mem_lastP l n).1 h1
  rw [lookup_lastP]
  cases hd : lastD l n with
  | none => rw [hd] at h2; simp at h2
  | some x =>
    obtain ⟨g, hg, h3, h4⟩ := lastD_mem l n x hd
    show (n, x) ∈ l
    rw [← h3, ← h4]
    exact hg
theorem homeP_len (l : List PImg) : (homeP l).length ≤ l.length := by
  have e2 : (homeP l).length = (lastP l).length := by unfold homeP; rw [List.length_map, (sortI_perm _).length_eq, List.length_map]
  have h : ∀ (l ms : List PImg), (l.foldl pput ms).length ≤ ms.length + l.length := by
    intro l
    induction l with
    | nil => intro ms; simp
    | cons g l ih =>
      intro ms
      have h1 := ih (pput ms g)
      have h2 : (pput ms g).length ≤ ms.length + 1 := by unfold pput; split <;> simp
      rw [List.foldl_cons, List.length_cons]; omega
  have := h l []
  rw [e2]; simpa [lastP] using this
theorem choose_right {a b : Option Sup} {s : Sup} {slot : Int} (ha : ∀ x, a = some x → RightS x) (hb : ∀ x, b = some x → RightS x) (h : chooseP a b = (s, slot, true)) : RightS s ∧ (slot = 0 ∨ slot = 1) := by
  cases a with
  | none =>
    cases b with
    | none => simp [chooseP] at h
    | some y =>
      simp only [chooseP, Prod.mk.injEq] at h
      obtain ⟨rfl, rfl, _⟩ := h
      exact ⟨hb _ rfl, .inr rfl⟩
  | some x =>
    cases b with
    | none =>
      simp only [chooseP, Prod.mk.injEq] at h
      obtain ⟨rfl, rfl, _⟩ := h
      exact ⟨ha _ rfl, .inl rfl⟩
    | some y =>
      simp only [chooseP] at h
      split at h
      · simp only [Prod.mk.injEq] at h
        obtain ⟨rfl, rfl, _⟩ := h
        exact ⟨ha _ rfl, .inl rfl⟩
      · simp only [Prod.mk.injEq] at h
        obtain ⟨rfl, rfl, _⟩ := h
        exact ⟨hb _ rfl, .inr rfl⟩
theorem getS_right (b : Dat) : ∀ x, getS b = some x → RightS x := fun _ h => (getS_some.1 h).1
theorem found_ok {d : DSt} (h : (foundP d).2.2 = 0) : d.down = false ∧ RightS (foundP d).1 ∧ ((foundP d).2.1 = 0 ∨ (foundP d).2.1 = 1) ∧ (foundP d).1.blocks = d.now.length ∧ (foundP d).1.tail < layL d.now.length ∧ (foundP d).1.epoch < 8388608 := by
  have hc := @choose_right (getS (d.now.getD 0 [])) (getS (d.now.getD 1 [])) 
  unfold foundP at h ⊢
  generalize chooseP (getS (d.now.getD 0 [])) (getS (d.now.getD 1 [])) = cp at *
  obtain ⟨s, slot, ok⟩ := cp
  by_cases hd : d.down = true
  · rw [if_pos hd] at h; simp at h
  rw [if_neg hd] at h ⊢
  dsimp only at h ⊢
  split at h
  · simp at h
  · rename_i hn
    rw [if_neg hn]
    have h1 : ok = true := by
      cases ok
      · exact absurd (.inl rfl) hn
      · rfl
    subst h1
    obtain ⟨r1, r2⟩ := hc (getS_right _) (getS_right _) rfl
    refine ⟨by simpa using hd, r1, r2, ?_, ?_, ?_⟩
    · exact Classical.byContradiction fun h => hn (.inr (.inl h))
    · exact Classical.byContradiction fun h => hn (.inr (.inr (.inl (by have h : ¬ s.tail < layL d.now.length := h; omega))))
    · exact Classical.byContradiction fun h => hn (.inr (.inr (.inr (by have h : ¬ s.epoch < 8388608 := h; omega))))
theorem allP_allG {J : Imm} {gl : List Grp} {l : List G3} (h : GrpsOk J gl l) : allP gl = allG l := by
  have e := congrArg (fun x => x.flatMap fun p : Int × Int × List PImg => p.2.2) h.g3
  simp only [List.flatMap_map] at e
  exact e
theorem DSt.stop_len (d : DSt) : d.stop.1.now.length = d.now.length := by rw [d.stop_same.2.1]
theorem DSt.write_len (d : DSt) (n : Int) (b : Dat) : (d.write n b).1.now.length = d.now.length := by
  unfold DSt.write
  split
  · rfl
  · split
    · rfl
    · split
      · exact d.stop_len
      · show (d.now.set _ _).length = _; rw [List.length_set]
theorem DSt.flush_len (d : DSt) : d.flush.1.now.length = d.now.length := by
  unfold DSt.flush
  split
  · exact d.stop_len
  · exact d.stop_len
theorem wrImgs_len : ∀ (l : List PImg) (d : DSt), (wrImgs l d).1.now.length = d.now.length
  | [], _ => rfl
  | g :: l, d => by
    rw [wrImgs]
    split
    · exact d.write_len _ _
    · rw [wrImgs_len l, d.write_len]
theorem doP_len (d : DSt) (l : List PImg) (s : Sup) (slot : Int) : (doP d l s slot).1.now.length = d.now.length := by
  unfold doP
  split
  · rfl
  split
  · exact wrImgs_len _ _
  split
  · rw [DSt.flush_len, wrImgs_len]
  · unfold lastWr
    split
    · rw [DSt.write_len, DSt.flush_len, wrImgs_len]
    · rw [DSt.flush_len, DSt.write_len, DSt.flush_len, wrImgs_len]
def MountQ (J : Imm) (bD : Nat) (M : DSt × Int × Option VSt) (r : Value) (S' : St) : Prop := ∃ chD', Dk J bD M.1 chD' ∧
  ((M.2.1 ≠ 0 ∧ M.2.2 = none ∧ r = .tuple #[.pointer none, .int .i64 M.2.1] ∧ S' = [chD']) ∨
   (M.2.1 = 0 ∧ ∃ v bV chV, M.2.2 = some v ∧ r = .tuple #[.pointer (some ⟨bV, 0, none⟩), .int .i64 0] ∧ Vk J bV bD v chV ∧ S' = [chD', chV]))
set_option maxHeartbeats 4000000 in
theorem vk_Mount {I : Imm} {bD : Nat} {d : DSt} {chD : List Blk} (hD : Dk I bD d chD) (hf : d.Few 700000) :
    Tri Tryz.prog 38 #[.pointer (some ⟨bD, 0, none⟩)] I [chD] fun r J S' => MountQ J bD (mountP d) r S' := by
  have hr := hD.wf.range
  refine Tri.drop ?_ (fun _ _ _ _ h => h)
  refine Tri.of (args := [.pointer (some ⟨bD, 0, none⟩)]) tabOk Tryz.func38 rfl (by kernel_rfl) (by kernel_rfl) ?_
  refine Tri.frame1 0 rfl (dk_Size hD) ?_
  rintro r _ A' hJ ⟨rfl, rfl, rfl⟩
  refine ⟨_, rfl, ?_⟩
  refine CmpD.no (by show ((d.now.length : Nat) : Int) ≠ 0; omega) ?_
  refine Tri.frame1 0 rfl (dk_Size hD) ?_
  rintro r _ A' hJ ⟨rfl, rfl, rfl⟩
  refine ⟨_, rfl, ?_⟩
  refine Tri.free (layout_Of d.now.length I) ?_
  rintro r _ _ hJ ⟨rfl, rfl⟩
  unfold mountP
  by_cases h64 : d.now.length < 64
  · rw [if_pos h64, layA, if_pos (by omega)]
    conv => whnf
    intro b4
    repeat (first | refine StoreD.st 1 rfl rfl rfl ?_ | refine CmpD.no (by decide) ?_)
    exact Done.mk ⟨_, Drop.pick [0] _ rfl, chD, hD, .inl ⟨by simp, rfl, rfl, rfl⟩⟩
  rw [if_neg h64, layA, if_neg (by omega)]
  conv => whnf
  intro b4
  repeat (first | refine LoadD.own 1 rfl _ rfl rfl ?_ | refine StoreD.st 1 rfl rfl rfl ?_ | refine CmpD.yes rfl ?_)
  refine Tri.frame1 0 rfl (v_found hD (by omega)) ?_
  have hfo := found_ok (d := d)
  obtain ⟨fp, hfp⟩ : ∃ fp, fp = foundP d := ⟨_, rfl⟩
  rw [← hfp] at hfo ⊢
  obtain ⟨s, slot, e⟩ := fp
  dsimp only at hfo ⊢
  rintro r J1 A' hJ1 ⟨rfl, hD1, rfl⟩
  refine ⟨_, rfl, ?_⟩
  conv => whnf
  intro b6
  repeat (first | refine StoreD.st 2 rfl rfl rfl ?_)
  by_cases he : e ≠ 0
  · rw [if_pos he]
    refine CmpD.no he ?_
    skip
    exact Done.mk ⟨_, Drop.pick [0] _ rfl, chD, hD1, .inl ⟨he, rfl, rfl, rfl⟩⟩
  rw [if_neg he]
  obtain rfl : e = 0 := by omega
  obtain ⟨hdn, hR, hsl, hb, htl, hep⟩ := hfo rfl
  obtain ⟨n, hn⟩ : ∃ n, n = d.now.length := ⟨_, rfl⟩
  rw [← hn] at hr h64 hb htl ⊢
  have hR' := hR
  obtain ⟨r1, r2, r3, r4, r5, r6, r7, r8⟩ := hR'
  have hlr := layL_range (n := (n : Int)) (by omega)
  repeat (first | refine LoadD.own 1 rfl _ rfl rfl ?_ | refine LoadD.own 2 rfl _ rfl rfl ?_ | refine CmpD.yes rfl ?_)
  refine Tri.frame1 0 rfl (scan_Groups hD1 (layOf n) s) ?_
  have hsok : ScanOk d.now.length (layOf n) s := by
    rw [← hn]
    exact ⟨by omega, rfl, hb, r7, htl, r3, r4, r5, r6⟩
  have hbd := scan_bound (rb := rbP d 2 (layL (d.now.length : Int)).toNat) (ep := s.epoch) ((layL (d.now.length : Int)).toNat + 1) s.tail.toNat s.seq (layL (d.now.length : Int)).toNat
  have hrt := scanK_right (rb := rbP d 2 (layL (d.now.length : Int)).toNat) (ep := s.epoch) ((layL (d.now.length : Int)).toNat + 1) s.tail.toNat s.seq (layL (d.now.length : Int)).toNat
  rw [show scanK (rbP d 2 (layL (d.now.length : Int)).toNat) s.epoch ((layL (d.now.length : Int)).toNat + 1) s.tail.toNat s.seq (layL (d.now.length : Int)).toNat = scanL d s from rfl] at hbd hrt
  rw [← hn] at hbd
  obtain ⟨L, hL⟩ : ∃ L, L = scanL d s := ⟨_, rfl⟩
  rw [← hL] at hbd hrt ⊢
  rintro r J2 A' hJ2 ⟨rfl, (⟨h, _⟩ | ⟨_, h, _⟩ | ⟨_, _, aO, capO, gl, rfl, hG, hGk⟩)⟩
  · exact absurd hsok h
  · rw [hdn] at h; exact Bool.noConfusion h
  refine ⟨_, rfl, ?_⟩
  have hpl : allP gl = allG L := allP_allG hGk
  have hgl := hGk.len
  rw [← hn]
  obtain ⟨pl, hplc⟩ : ∃ pl, pl = placeP (layL (n : Int)).toNat s.tail.toNat L := ⟨_, rfl⟩
  rw [← hplc]
  have hpl16 : pl < (layL (n : Int)).toNat := by rw [hplc]; exact Nat.mod_lt _ (by omega)
  have hsum : ∀ (l : List G3), (allG l).length ≤ (l.map fun g => g.2.2.length + 1).sum := by
    intro l
    induction l with
    | nil => simp [allG]
    | cons g l ih => simp [allG] at ih ⊢; omega
  have hall : (allI gl).length ≤ 1000 := by
    have h1 : (allP gl).length = (allI gl).length := by rw [allP_eq, List.length_map]
    have h2 := hsum L
    rw [← hpl] at h2
    omega
  have h4 : ∀ g ∈ allG L, g.2.length = 4096 := by
    intro g hg
    obtain ⟨q, hq, hgq⟩ := List.mem_flatMap.1 hg
    exact ((hrt q hq).2.2.2.2.2.2.1 g hgq).2.2
  have hIo : ∀ g ∈ allI gl, ImgOk J2 g := by
    intro g hg
    obtain ⟨q, hq, hgq⟩ := List.mem_flatMap.1 hg
    exact (hGk.each q hq).2 g hgq
  have hfew : ∀ g ∈ allI gl, g.len ≤ 100000000 := by
    intro g hg
    have h1 := (hIo g hg).2.len
    rw [bts_length] at h1
    have h2 := h4 g.pr (by rw [← hpl, allP_eq]; exact List.mem_map_of_mem hg)
    have h3 : g.data.length = 4096 := h2
    omega
  have hGR : GrpsR J2 [] aO gl := ⟨hG.slC, fun g hg => ⟨⟨(hGk.each g hg).1.slC, fun q hq => ⟨((hGk.each g hg).2 q hq).2.slC⟩⟩, by
    have : g.gs.length ≤ (allI gl).length := by
      obtain ⟨x, y, rfl⟩ := List.append_of_mem hg
      simp [allI]; omega
    omega⟩⟩
  have hgll : gl.length ≤ 64 := by omega
  repeat (first | refine LoadD.own 1 rfl _ rfl rfl ?_ | refine CmpD.yes rfl ?_)
  refine Tri.free (home_fix hGR (by omega) (by omega) hfew (layOf n)) ?_
  rw [hpl]
  have hLayOk : LayOk (layOf n) := ⟨by show (64 : Int) ≤ n; omega, by show (n : Int) ≤ 512; omega, rfl⟩
  unfold mountL
  rw [← hplc]
  rintro r J3 _ hJ3 (⟨h, _⟩ | ⟨_, hno, rfl⟩ | ⟨_, hhok, aI, capI, outs, rfl, hoR, hopr⟩)
  · exact absurd hLayOk h
  · rw [if_pos (.inl hno)]
    repeat (first | refine CmpD.no (by decide) ?_)
    exact Done.mk ⟨_, Drop.pick [0] _ rfl, chD, hD1.mono (Imm.le_trans hJ2 hJ3), .inl ⟨by simp, rfl, rfl, rfl⟩⟩
  have hle3 := Imm.le_trans hJ2 hJ3
  have hLl : L.length ≤ 64 := by omega
  rw [hgl]
  repeat (first | refine LoadD.own 2 rfl _ rfl rfl ?_ | refine CmpD.yes rfl ?_)
  refine ToD.to (549755813888 - (L.length : Int)) (wrap_i64 (by omega) (by omega)) ?_
  refine CmpD.split (fun (c1 : 549755813888 - (L.length : Int) < s.seq) => ?_) (fun (c1 : ¬ 549755813888 - (L.length : Int) < s.seq) => ?_)
  · rw [if_pos (.inr c1)]
    skip
    exact Done.mk ⟨_, Drop.pick [0] _ rfl, chD, hD1.mono hle3, .inl ⟨by simp, rfl, rfl, rfl⟩⟩
  rw [if_neg (by rintro (h | h); exact h hhok; exact c1 h)]
  repeat (first | refine LoadD.own 2 rfl _ rfl rfl ?_)
  refine ToD.to (s.epoch + 1) (wrap_i64 (by omega) (by omega)) ?_
  repeat (first | refine LoadD.own 2 rfl _ rfl rfl ?_)
  refine ToD.to (s.seq + L.length) (wrap_i64 (by omega) (by omega)) ?_
  repeat (first | refine LoadD.own 2 rfl _ rfl rfl ?_ | refine StoreD.st 2 rfl rfl rfl ?_)
  refine ToD.to (1 - slot) (wrap_i64 (by omega) (by omega)) ?_
  have hol : outs.length ≤ 1000 := by
    have h1 := homeP_len (allG L)
    rw [← hopr, List.length_map] at h1
    have h2 := hsum L
    omega
  have himg : ImgsOk J3 aI outs := by
    refine ⟨SlC.rds hoR.sl, fun g hg => ?_⟩
    have hm := home_mem (l := allG L) (g := g.pr) (by rw [← hopr]; exact List.mem_map_of_mem hg)
    have hb2 := hhok _ hm
    refine ⟨?_, SlC.rds (hoR.each g hg).rd⟩
    have e1 : (layOf (n : Int)).bi = 2 + layL n := rfl
    have e2 : (layOf (n : Int)).b = n := rfl
    rw [e1, e2] at hb2
    have e3 : g.pr.1 = g.blk := rfl
    rw [e3] at hb2
    unfold In64; omega
  refine Tri.frame1 0 rfl (dk_Do (hD1.mono hle3) 700000 hf aI capI outs himg (by omega) ⟨s.blocks, s.epoch + 1, s.seq + L.length, pl⟩ (1 - slot)) ?_
  rw [hopr]
  have hlen2 := doP_len d (homeP (allG L)) ⟨s.blocks, s.epoch + 1, s.seq + L.length, pl⟩ (1 - slot)
  rw [← hn] at hlen2
  generalize doP d (homeP (allG L)) ⟨s.blocks, s.epoch + 1, s.seq + L.length, pl⟩ (1 - slot) = dp at *
  obtain ⟨d2, e2⟩ := dp
  dsimp only at hlen2 ⊢
  rintro r J4 A' hJ4 ⟨rfl, chD2, hD2, rfl⟩
  refine ⟨_, rfl, ?_⟩
  by_cases he2 : e2 ≠ 0
  · rw [if_pos he2]
    refine CmpD.no he2 ?_
    skip
    exact Done.mk ⟨_, Drop.pick [0] _ rfl, chD2, hD2, .inl ⟨he2, rfl, rfl, rfl⟩⟩
  rw [if_neg he2]
  obtain rfl : e2 = 0 := by omega
  repeat (first | refine LoadD.own 1 rfl _ rfl rfl ?_ | refine LoadD.own 2 rfl _ rfl rfl ?_ | refine CmpD.yes rfl ?_)
  have hopk : OpenOk n (layOf n) (s.epoch + 1) (s.seq + L.length) pl := ⟨rfl, by omega, by omega, by omega, by omega, by omega, by omega⟩
  refine Tri.frameX (jk_Open hD2 n hlen2 (by omega) (layOf n) (s.epoch + 1) (s.seq + L.length) pl (by unfold In64; omega)) [0] rfl rfl ?_
  rintro r _ A' hJ5 (⟨h, _⟩ | ⟨_, rfl, bJ, chJ, rfl, hj, rfl⟩)
  · exact absurd hopk h
  repeat (first | refine LoadD.own 1 rfl _ rfl rfl ?_ | refine LoadD.own 2 rfl _ rfl rfl ?_ | refine CmpD.yes rfl ?_)
  refine makeMapD rfl ?_
  intro bM
  conv => whnf
  intro bV
  refine Done.mk ⟨[chD2, vChunk bV bD bJ bM (layOf n) (s.epoch + 1) slot false ++ ((bM, .map #[] 0) :: chJ)], (Drop.pick [3, 6, 5, 4] _ rfl).trans (Drop.flat ?_), chD2, hD2, .inr ⟨rfl, ⟨openJ n (s.epoch + 1) (s.seq + L.length) pl, s.epoch + 1, slot, [], false⟩, bV, _, rfl, rfl, ⟨bJ, bM, _, chJ, [], rfl, hj, MapR.nil, by simp, rfl⟩, rfl⟩⟩
  simp [St.at]
  rfl
end Go.Proofs.YtegdcjnjnoeinaaGreat

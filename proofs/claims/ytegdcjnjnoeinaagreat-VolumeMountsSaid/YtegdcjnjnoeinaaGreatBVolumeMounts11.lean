/- Texts of this claim laid together: VolumeMounts, Open, Open9. -/
import Derived.Test.YtegdcjnjnoeinaaGreatBVolumeMounts10
import Derived.Test.YtegdcjnjnoeinaaGreatBVolumeMounts9
import Derived.Test.YtegdcjnjnoeinaaGreatBVolumeMounts8
import Derived.Test.YtegdcjnjnoeinaaGreatRows
import Derived.Test.YtegdcjnjnoeinaaGreatBVolumeMounts4
import Derived.Test.YtegdcjnjnoeinaaGreatBVolumeMounts2
import Derived.Test.YtegdcjnjnoeinaaGreatBVolumeMounts1
import Derived.Test.YtegdcjnjnoeinaaGreatBVolumeMounts3
import Derived.Test.YtegdcjnjnoeinaaGreatBVolumeMounts5
import Derived.Test.YtegdcjnjnoeinaaGreatBVolumeMounts6
import Derived.Test.YtegdcjnjnoeinaaGreatBVolumeMounts7
namespace Go.Proofs.YtegdcjnjnoeinaaGreat
open Go.RowKit Go.Sl
set_option maxRecDepth 20000

theorem do_90 (d : DSt) (l : List PImg) (s : Sup) (slot : Int) : (doP d l s slot).2 ≠ 90 := by
  have hs : ∀ d : DSt, d.stop.2 ≠ 90 := by
    intro d
    unfold DSt.stop
    cases d.down <;> cases d.arm.step.2 <;> cases d.fault.step.2 <;> simp
  have hw : ∀ (d : DSt) (n : Int) (b : Dat), (d.write n b).2 ≠ 90 := by
    intro d n b
    unfold DSt.write
    split
    · show wrongE d.now.length n ≠ 90
      unfold wrongE
      split
      · decide
      · split <;> decide
    · split
      · simp
      · split
        · exact hs d
        · simp
  have hf : ∀ d : DSt, d.flush.2 ≠ 90 := by
    intro d
    unfold DSt.flush
    split
    · exact hs d
    · simp
  have hi : ∀ (l : List PImg) (d : DSt), (wrImgs l d).2 ≠ 90 := by
    intro l
    induction l with
    | nil => intro d; simp [wrImgs]
    | cons g l ih =>
      intro d
      rw [wrImgs]
      split
      · exact hw _ _ _
      · exact ih _
  unfold doP
  split
  · simp
  split
  · exact hi _ _
  split
  · exact hf _
  · unfold lastWr
    split
    · exact hw _ _ _
    · exact hf _
/-- what is refused for its bytes is left as it was -/
theorem mount_same (d : DSt) : (mountP d).2.1 ≠ 0 → (mountP d).2.1 = 90 → (mountP d).1 = d := by
  unfold mountP
  split
  · intro _ _; rfl
  split
  · intro _ _; rfl
  unfold mountL
  split
  · intro _ _; rfl
  split
  · intro _ h; exact absurd h (do_90 _ _ _ _)
  · intro h _; exact absurd rfl h
theorem mountP_len (d : DSt) : (mountP d).1.now.length = d.now.length := by
  unfold mountP
  split
  · rfl
  split
  · rfl
  unfold mountL
  split
  · rfl
  split <;> exact doP_len _ _ _ _
theorem mountP_few {d : DSt} {k : Nat} (h : d.Few k) (hl : d.now.length = 64) : (mountP d).1.Few (k + 17) := by
  have h16 : ∀ s, (homeP (allG (scanL d s))).length ≤ 16 := by
    intro s
    have h1 := homeP_len (allG (scanL d s))
    have h2 := allG_sum (scanL d s)
    have h3 := (scan_bound (rb := rbP d 2 16) (ep := s.epoch) 17 s.tail.toNat s.seq 16).2
    rw [← scanL64 hl] at h3
    omega
  unfold mountP
  split
  · exact h.mono (by omega)
  split
  · exact h.mono (by omega)
  have h16 := h16 (foundP d).1
  unfold mountL
  split
  · exact h.mono (by omega)
  split
  · exact (doP_few h _ _ _).mono (by omega)
  · exact (doP_few h _ _ _).mono (by omega)
theorem mountP_next {d : DSt} {v : VSt} (h : (mountP d).2.2 = some v) : In64 v.j.next := by
  unfold mountP at h
  split at h
  · cases h
  split at h
  · cases h
  rename_i h1 h2
  obtain ⟨_, hR, _⟩ := found_ok (d := d) (by simpa using h2)
  obtain ⟨_, _, _, _, r5, r6, _⟩ := hR
  unfold mountL at h
  split at h
  · cases h
  rename_i h3
  split at h
  · cases h
  · cases h
    have h4 : ¬ 549755813888 - ((scanL d (foundP d).1).length : Int) < (foundP d).1.seq := fun h => h3 (.inr h)
    show In64 ((foundP d).1.seq + ((scanL d (foundP d).1).length : Int))
    unfold In64; omega
theorem r8_Next (s w : Hd) (c : Int) (dn : Bool) (a f l1 l2 l3 l4 l5 l6 l7 js jt ju jh je jn jy : Int) (hn : In64 jn) (I : Imm) :
    Tri Tryz.prog 49 #[.agg #[s.v, w.v, .int .i64 c, .bool dn, .int .i64 a, .int .i64 f, .int .i64 l1, .int .i64 l2, .int .i64 l3, .int .i64 l4, .int .i64 l5, .int .i64 l6, .int .i64 l7, .int .i64 js, .int .i64 jt, .int .i64 ju, .int .i64 jh, .int .i64 je, .int .i64 jn, .slice none 0 0, .int .i64 jy, .bool false]] I [] fun r J _ => I = J ∧ r = .int .i64 jn := by
  unfold In64 at hn
  refine Tri.of (args := [.agg #[s.v, w.v, .int .i64 c, .bool dn, .int .i64 a, .int .i64 f, .int .i64 l1, .int .i64 l2, .int .i64 l3, .int .i64 l4, .int .i64 l5, .int .i64 l6, .int .i64 l7, .int .i64 js, .int .i64 jt, .int .i64 ju, .int .i64 jh, .int .i64 je, .int .i64 jn, .slice none 0 0, .int .i64 jy, .bool false]]) tabOk Tryz.func49 rfl (by kernel_rfl) (by kernel_rfl) ?_
  conv => whnf
  intro b1
  repeat (first | refine LoadD.own 0 rfl _ rfl rfl ?_)
  refine ToD.to jn (by show IntKind.i64.wrap (jn + 0) = _; rw [Int.add_zero]; exact by have := wrap_i64 (n := jn) (by omega) (by omega); exact this) ?_
  exact Done.mk ⟨rfl, rfl⟩
set_option maxHeartbeats 8000000 in
theorem volumeMounts_walk {I : Imm} (aF : Option Addr) (n capF : Nat) (ls : List Bs) (hln : ls.length = n) (hF : Rds I aF n (ls.map Bs.cell)) (hls : ∀ b ∈ ls, Rds I b.a b.len (bts b.data) ∧ b.len ≤ 140737488351232) :
    Tri Tryz.prog 8 #[.slice aF n capF] I [] fun v _ _ => v = .bool true := by
  refine Tri.ofF (args := [.slice aF n capF]) tabOk Tryz.func8 rfl (by kernel_rfl) (by kernel_rfl) ?_
  refine CodeF.stepD ?_
  refine CodeF.stepD ?_
  refine Tri.frameX (dk_New I 64 (by omega)) [] rfl rfl ?_
  rintro r J1 A' hJ1 ⟨bD, chD, rfl, hD, rfl⟩
  skip
  refine CodeF.stepD ?_
  refine Tri.free (r4_New J1 64 (by omega)) ?_
  rintro r J2 _ hJ2 ⟨v', rfl, hR⟩
  obtain ⟨⟨sa, sl, sc⟩, ⟨wa, wl, wc⟩, rfl, hsl⟩ := hR.cells
  conv => whnf
  intro b5
  repeat (first | refine StoreD.st 1 rfl rfl rfl ?_)
  refine CodeF.stepD ?_
  repeat (first | refine CmpD.yes rfl ?_)
  have hD := hD.mono hJ2
  have hle2 := Imm.le_trans hJ1 hJ2
  have hc0 := fresh_calm (List.replicate 64 noughts)
  have hl0 : (DSt.of (List.replicate 64 noughts)).now.length = 64 := List.length_replicate
  have hf0 := DSt.of_few (List.replicate 64 noughts)
  generalize DSt.of (List.replicate 64 noughts) = d0 at *
  refine CodeF.join [3, 5] (fun vs J' S' => ∃ (d : DSt) (chD : List Blk) (s w : Hd), Dk J' bD d chD ∧ RDk J' (rV s w d.count d.down (gv d.arm) (gv d.fault)) d ∧ d.Calm ∧ d.now.length = 64 ∧ d.Few 20 ∧ J2.le J' ∧
      vs = [.pointer (some ⟨bD, 0, none⟩), .pointer (some ⟨b5, 0, none⟩)] ∧ S' = [chD, [(b5, row (rC s w d.count d.down (gv d.arm) (gv d.fault)) 76)]]) ?_ ?_
  · refine CodeF.den ?_
    refine CodeF.loopD [0, 3, 5, 7] (fun vs J' S' => ∃ (i : Nat) (d : DSt) (chD : List Blk) (s w : Hd), i ≤ n ∧ i ≤ 20 ∧ Dk J' bD d chD ∧ RDk J' (rV s w d.count d.down (gv d.arm) (gv d.fault)) d ∧ d.Calm ∧ d.now.length = 64 ∧ d.Few i ∧ J2.le J' ∧
        vs = [.slice aF n capF, .pointer (some ⟨bD, 0, none⟩), .pointer (some ⟨b5, 0, none⟩), .int .i64 i] ∧ S' = [chD, [(b5, row (rC s w d.count d.down (gv d.arm) (gv d.fault)) 76)]])
      (fun vs _ _ => match vs with | [_, _, _, .int _ i] => ((n : Int) - i).toNat | _ => 0) ?_ ?_
    · exact ⟨_, Drop.refl _, 0, d0, chD, ⟨sa, sl, sc⟩, ⟨wa, wl, wc⟩, by omega, by omega, hD, hR, hc0, hl0, hf0, Imm.le_refl _, rfl, rfl⟩
    clear hD hR hc0 hl0 hf0
    rintro vs gE J' S' hJ' ⟨i, d, chD, s, w, hi, hi20, hD, hR, hcalm, hlen, hfew, hle3, rfl, rfl⟩
    have stop : ∃ S0, Drop [chD, [(b5, row (rC s w d.count d.down (gv d.arm) (gv d.fault)) 76)]] S0 ∧ ∃ (d : DSt) (chD : List Blk) (s w : Hd), Dk J' bD d chD ∧ RDk J' (rV s w d.count d.down (gv d.arm) (gv d.fault)) d ∧ d.Calm ∧ d.now.length = 64 ∧ d.Few 20 ∧ J2.le J' ∧
      [Value.pointer (some ⟨bD, 0, none⟩), .pointer (some ⟨b5, 0, none⟩)] = [Value.pointer (some ⟨bD, 0, none⟩), .pointer (some ⟨b5, 0, none⟩)] ∧ S0 = [chD, [(b5, row (rC s w d.count d.down (gv d.arm) (gv d.fault)) 76)]] :=
      ⟨_, Drop.refl _, d, chD, s, w, hD, hR, hcalm, hlen, hfew.mono (by omega), hle3, rfl, rfl⟩
    refine CmpD.split (fun (c1 : (i : Int) < n) => ?_) (fun (c1 : ¬ (i : Int) < n) => ?_)
    rotate_left
    · exact stop
    refine CmpD.split (fun (c2 : (i : Int) < 20) => ?_) (fun (c2 : ¬ (i : Int) < 20) => ?_)
    rotate_left
    · exact stop
    clear stop
    have hlt : i < ls.length := by omega
    have hcell : (ls.map Bs.cell)[i]? = some ls[i].cell := by rw [List.getElem?_map, List.getElem?_eq_getElem hlt]; rfl
    have hb := hls _ (List.getElem_mem hlt)
    rcases hF.mem with q0 | ⟨bF, oF, cF, TF, fF, rfl, hIF, hcF⟩
    · omega
    generalize ls[i] = b at *
    have hIJ := Imm.le_trans hle2 hle3
    skip
    refine Chk.mk (by omega) ?_
    refine LoadD.imm (hIJ _ _ hIF) [b.cell] (take_get hcF hcell) rfl ?_
    refine Tri.frame (copy_own J' b.a b.len b.cap b.data (hb.1.mono hIJ) (by omega)) [] rfl rfl ?_
    rintro r J3 A' hJ3 ⟨aC, capC, chC, rfl, hC, rfl, rfl⟩
    refine ⟨by simp, ?_⟩
    refine appendZD tabOk rfl rfl rfl rfl rfl rfl rfl rfl 2 rfl hC 4096 rfl rfl (by decide) (by intro v hv; have hv : v ∈ [Value.int .u8 0] := hv; simp at hv; subst hv; rfl) (by show (b.len + 4096) * 1 ≤ _; omega) (by omega) ?_
    intro a2 cap2 ch2 hO2
    have hle4 := hO2.le
    refine sliceD tabOk rfl rfl rfl rfl 0 4096 cap2 rfl ⟨_, rfl⟩ rfl (.inl rfl) (by omega) ?_
    have hp := hO2.part 0 4096 (by omega) (by omega)
    have e0 : bts b.data ++ rows 4096 [Value.int .u8 0] = bts (b.data ++ noughts) := by rw [rows_noughts, bts_append]
    have hp : OwnC ch2 1 (slAddr a2 0 cap2 1) 4096 cap2 (bts ((b.data ++ noughts).take 4096)) := by
      have e1 : List.take ((4096 - 0) * 1) (List.drop (0 * 1) (bts b.data ++ rows 4096 [Value.int .u8 0])) = bts ((b.data ++ noughts).take 4096) := by
        rw [e0]; simp [bts, List.map_take]
      rw [← e1]; exact hp
    skip
    refine Tri.fix 2 (ch := ch2) rfl fun I3 hI3 hm => ?_
    have hbl : ((b.data ++ noughts).take 4096).length = 4096 := by rw [List.length_take, List.length_append, noughts_length]; omega
    obtain ⟨bb, hbb⟩ : ∃ bb, bb = (b.data ++ noughts).take 4096 := ⟨_, rfl⟩
    rw [← hbb] at hp hbl
    have hB3 := Rds.of_own hp hm
    refine Tri.frame1 0 rfl (dk_Write (hD.mono hI3) (hfew.mono (by omega)) i _ 4096 cap2 bb hB3) ?_
    rw [DSt.write_calm hcalm (n := (i : Int)) (by omega) hbl]
    rintro r J4 A' hJ4 ⟨rfl, chD4, hD4, rfl⟩
    refine ⟨_, rfl, ?_⟩
    repeat (first | refine LoadD.own 1 rfl _ rfl rfl ?_)
    refine Tri.free (r4_Write (hR.mono (Imm.le_trans hI3 hJ4)) (hfew.mono (by omega)) i _ 4096 cap2 bb (hB3.mono hJ4) (by omega) (by unfold In64; omega)) ?_
    rw [DSt.write_calm hcalm (n := (i : Int)) (by omega) hbl]
    rintro r J5 _ hJ5 ⟨v', rfl, hR5⟩
    obtain ⟨⟨ta, tl, tc⟩, ⟨ua, ul, uc⟩, rfl, _⟩ := hR5.cells
    repeat (first | refine StoreD.st 1 rfl rfl rfl ?_)
    refine ToD.to (((i + 1 : Nat)) : Int) (by rw [wrap_i64 (by omega) (by omega)]; omega) ?_
    refine ⟨_, Drop.pick [0, 1] _ rfl, ⟨i + 1, d.put (i : Int) bb, chD4, ⟨ta, tl, tc⟩, ⟨ua, ul, uc⟩, by omega, by omega, hD4.mono hJ5, hR5, hcalm, by rw [DSt.put_len]; exact hlen, ?_, Imm.le_trans hle3 (Imm.le_trans hI3 (Imm.le_trans hJ4 hJ5)), rfl, rfl⟩, ?_⟩
    · obtain ⟨h1, h2, h3⟩ := hfew
      exact ⟨by show (d.writes ++ [_]).length ≤ _; simp; omega, by show 0 ≤ d.count + 1; omega, by show d.count + 1 ≤ _; omega⟩
    · show ((n : Int) - ((i + 1 : Nat) : Int)).toNat < ((n : Int) - (i : Int)).toNat; omega
  clear hD hR hc0 hl0 hf0
  rintro vs gE J3 S3 hJ3 ⟨d, chD, s, w, hD, hR, hcalm, hlen, hfew, hle3, rfl, rfl⟩
  refine CodeF.den ?_
  refine Tri.frame1 0 rfl (dk_Writes hD) ?_
  rintro r _ A' hJ4 ⟨rfl, rfl, rfl⟩
  refine ⟨_, rfl, ?_⟩
  skip
  have hM1 := vk_Mount hD (hfew.mono (by omega))
  have hq : (mountP d).2.1 ≠ 0 → (mountP d).2.1 = 90 → (mountP d).1 = d := mount_same d
  have hlenM := mountP_len d
  have hnxM := @mountP_next d
  have hfewM := mountP_few hfew hlen
  refine Tri.frameX hM1 [0] rfl rfl ?_
  rintro r J5 A' hJ5 ⟨chD5, hD5, hcase⟩
  have hRm := r11_Mount (hR.mono hJ5) (hfew.mono (by omega))
  generalize mountP d = M at *
  obtain ⟨d6, e6, v6⟩ := M
  dsimp only at *
  rcases hcase with ⟨he, rfl, rfl, rfl⟩ | ⟨rfl, v, bV, chV, rfl, rfl, hV, rfl⟩
  · repeat (first | refine LoadD.own 1 rfl _ rfl rfl ?_)
    refine Tri.free hRm ?_
    rintro r J6 _ hJ6 ⟨s6, w6, hR6, (⟨_, rfl⟩ | ⟨h0, _⟩)⟩
    rotate_left
    · exact absurd h0 he
    conv => whnf
    intro b11
    repeat (first | refine StoreD.st 3 rfl rfl rfl ?_ | refine CmpD.yes rfl ?_)
    by_cases h90 : e6 = 90
    · refine CmpD.yes h90 ?_
      have hsame := hq he h90
      rw [hsame] at hD5
      refine Tri.frame1 2 rfl (dk_Writes (hD5.mono hJ6)) ?_
      rintro r _ A' hJ7 ⟨rfl, rfl, rfl⟩
      refine ⟨_, rfl, ?_⟩
      repeat (first | refine CmpD.yes rfl ?_)
      refine CodeF.sched [[], [0], [0, 1], [0, 1, 2], [0, 1, 2, 3], [0, 1, 2], [0, 1, 2, 5], [0, 1, 2, 3, 4, 5, 6], [0, 1, 2, 3, 4, 5, 6, 7], [0, 1, 2, 3, 4, 5, 6, 7, 8], [0, 1, 2, 3, 4, 5, 6, 7, 8, 9], [0, 1, 2, 3, 4, 5, 6, 7, 8, 9, 10], [0, 1, 2, 3, 4, 5, 6, 7, 8, 9], [0, 1, 2, 3, 4, 5, 6, 7, 8, 9, 12], [0, 1, 2, 3, 4, 5, 6, 7, 8, 9, 12, 13], [0, 1, 2, 3, 4, 5, 6, 7, 8, 9, 10, 11, 12, 13, 14], [0, 1, 2, 3, 4, 5, 6, 7, 8, 9, 10, 11, 12, 13, 14, 15], [0, 1, 2, 3, 4, 5, 6, 7, 8, 9, 10, 11, 12, 13, 14, 15, 16], [0, 1, 2, 3, 4, 5, 6, 7, 8, 9, 10, 11, 12, 13, 14, 15, 16, 17], [0, 1, 2, 3, 4, 5, 6, 7, 8, 9, 10, 11, 12, 13, 14, 15, 16, 17, 18], [0, 1, 2, 3, 4, 5, 6, 7, 8, 9, 10, 11, 12, 13, 14, 15, 16, 17], [0, 1, 2, 3, 4, 5, 6, 7, 8, 9, 10, 11, 12, 13, 14, 15, 16, 17, 20], [0, 1, 2, 3, 4, 5, 6, 7, 8, 9, 10, 11, 12, 13, 14, 15, 16, 17, 20, 21], [0, 1, 2, 3, 4, 5, 6, 7, 8, 9, 10, 11, 12, 13, 14, 15, 16, 17, 18, 19, 20, 21, 22], [0, 1, 2, 3, 4, 5, 6, 7, 8, 9, 10, 11, 12, 13, 14, 15, 16, 17, 18, 19, 20, 21, 22, 23], [0, 1, 2, 3, 4, 5, 6, 7, 8, 9, 10, 11, 12, 13, 14, 15, 16, 17, 18, 19, 20, 21, 22, 23, 24], [0, 1, 2, 3, 4, 5, 6, 7, 8, 9, 10, 11, 12, 13, 14, 15, 16, 17, 18, 19, 20, 21, 22, 23, 24, 25], [0, 1, 2, 3, 4, 5, 6, 7, 8, 9, 10, 11, 12, 13, 14, 15, 16, 17, 18, 19, 20, 21, 22, 23, 24, 25, 26]] [0, 1, 2, 3, 5, 6, 4, 7, 8, 9, 10, 12, 13, 14, 11, 15, 16, 17, 18, 20, 21, 22, 19, 23, 24, 25, 26, 27] (by kernel_rfl) ?_
      refine CmpD.no he ?_
      skip
      refine Tri.mono (awake11 J6 _) ?_
      rintro r J8 S8 hJ8 rfl
      exact Done.mk rfl
    · refine CmpD.no h90 ?_
      skip
      refine CodeF.sched [[], [0], [0, 1], [0, 1, 2], [0, 1, 2, 3], [0, 1, 2], [0, 1, 2, 5], [0, 1, 2, 3, 4, 5, 6], [0, 1, 2, 3, 4, 5, 6, 7], [0, 1, 2, 3, 4, 5, 6, 7, 8], [0, 1, 2, 3, 4, 5, 6, 7, 8, 9], [0, 1, 2, 3, 4, 5, 6, 7, 8, 9, 10], [0, 1, 2, 3, 4, 5, 6, 7, 8, 9], [0, 1, 2, 3, 4, 5, 6, 7, 8, 9, 12], [0, 1, 2, 3, 4, 5, 6, 7, 8, 9, 12, 13], [0, 1, 2, 3, 4, 5, 6, 7, 8, 9, 10, 11, 12, 13, 14], [0, 1, 2, 3, 4, 5, 6, 7, 8, 9, 10, 11, 12, 13, 14, 15], [0, 1, 2, 3, 4, 5, 6, 7, 8, 9, 10, 11, 12, 13, 14, 15, 16], [0, 1, 2, 3, 4, 5, 6, 7, 8, 9, 10, 11, 12, 13, 14, 15, 16, 17], [0, 1, 2, 3, 4, 5, 6, 7, 8, 9, 10, 11, 12, 13, 14, 15, 16, 17, 18], [0, 1, 2, 3, 4, 5, 6, 7, 8, 9, 10, 11, 12, 13, 14, 15, 16, 17], [0, 1, 2, 3, 4, 5, 6, 7, 8, 9, 10, 11, 12, 13, 14, 15, 16, 17, 20], [0, 1, 2, 3, 4, 5, 6, 7, 8, 9, 10, 11, 12, 13, 14, 15, 16, 17, 20, 21], [0, 1, 2, 3, 4, 5, 6, 7, 8, 9, 10, 11, 12, 13, 14, 15, 16, 17, 18, 19, 20, 21, 22], [0, 1, 2, 3, 4, 5, 6, 7, 8, 9, 10, 11, 12, 13, 14, 15, 16, 17, 18, 19, 20, 21, 22, 23], [0, 1, 2, 3, 4, 5, 6, 7, 8, 9, 10, 11, 12, 13, 14, 15, 16, 17, 18, 19, 20, 21, 22, 23, 24], [0, 1, 2, 3, 4, 5, 6, 7, 8, 9, 10, 11, 12, 13, 14, 15, 16, 17, 18, 19, 20, 21, 22, 23, 24, 25], [0, 1, 2, 3, 4, 5, 6, 7, 8, 9, 10, 11, 12, 13, 14, 15, 16, 17, 18, 19, 20, 21, 22, 23, 24, 25, 26]] [0, 1, 2, 3, 5, 6, 4, 7, 8, 9, 10, 12, 13, 14, 11, 15, 16, 17, 18, 20, 21, 22, 19, 23, 24, 25, 26, 27] (by kernel_rfl) ?_
      refine CmpD.no he ?_
      skip
      refine Tri.mono (awake11 J6 _) ?_
      rintro r J8 S8 hJ8 rfl
      exact Done.mk rfl
  · repeat (first | refine LoadD.own 1 rfl _ rfl rfl ?_)
    refine Tri.free hRm ?_
    rintro r J6 _ hJ6 ⟨s6, w6, hR6, (⟨h0, _⟩ | ⟨_, v', hv', rfl⟩)⟩
    · exact absurd rfl h0
    cases hv'
    conv => whnf
    intro b11
    repeat (first | refine StoreD.st 4 rfl rfl rfl ?_ | refine CmpD.yes rfl ?_ | refine CmpD.no (by decide) ?_)
    refine CodeF.sched [[], [0], [0, 1], [0, 1, 2], [0, 1, 2, 3], [0, 1, 2], [0, 1, 2, 5], [0, 1, 2, 3, 4, 5, 6], [0, 1, 2, 3, 4, 5, 6, 7], [0, 1, 2, 3, 4, 5, 6, 7, 8], [0, 1, 2, 3, 4, 5, 6, 7, 8, 9], [0, 1, 2, 3, 4, 5, 6, 7, 8, 9, 10], [0, 1, 2, 3, 4, 5, 6, 7, 8, 9], [0, 1, 2, 3, 4, 5, 6, 7, 8, 9, 12], [0, 1, 2, 3, 4, 5, 6, 7, 8, 9, 12, 13], [0, 1, 2, 3, 4, 5, 6, 7, 8, 9, 10, 11, 12, 13, 14], [0, 1, 2, 3, 4, 5, 6, 7, 8, 9, 10, 11, 12, 13, 14, 15], [0, 1, 2, 3, 4, 5, 6, 7, 8, 9, 10, 11, 12, 13, 14, 15, 16], [0, 1, 2, 3, 4, 5, 6, 7, 8, 9, 10, 11, 12, 13, 14, 15, 16, 17], [0, 1, 2, 3, 4, 5, 6, 7, 8, 9, 10, 11, 12, 13, 14, 15, 16, 17, 18], [0, 1, 2, 3, 4, 5, 6, 7, 8, 9, 10, 11, 12, 13, 14, 15, 16, 17], [0, 1, 2, 3, 4, 5, 6, 7, 8, 9, 10, 11, 12, 13, 14, 15, 16, 17, 20], [0, 1, 2, 3, 4, 5, 6, 7, 8, 9, 10, 11, 12, 13, 14, 15, 16, 17, 20, 21], [0, 1, 2, 3, 4, 5, 6, 7, 8, 9, 10, 11, 12, 13, 14, 15, 16, 17, 18, 19, 20, 21, 22], [0, 1, 2, 3, 4, 5, 6, 7, 8, 9, 10, 11, 12, 13, 14, 15, 16, 17, 18, 19, 20, 21, 22, 23], [0, 1, 2, 3, 4, 5, 6, 7, 8, 9, 10, 11, 12, 13, 14, 15, 16, 17, 18, 19, 20, 21, 22, 23, 24], [0, 1, 2, 3, 4, 5, 6, 7, 8, 9, 10, 11, 12, 13, 14, 15, 16, 17, 18, 19, 20, 21, 22, 23, 24, 25], [0, 1, 2, 3, 4, 5, 6, 7, 8, 9, 10, 11, 12, 13, 14, 15, 16, 17, 18, 19, 20, 21, 22, 23, 24, 25, 26]] [0, 1, 2, 3, 5, 6, 4, 7, 8, 9, 10, 12, 13, 14, 11, 15, 16, 17, 18, 20, 21, 22, 19, 23, 24, 25, 26, 27] (by kernel_rfl) ?_
    repeat (first | refine LoadP.at 4 rfl _ rfl rfl ?_ | refine CmpD.yes rfl ?_)
    have hV6 := hV.mono hJ6
    refine Tri.frame1 3 rfl (vk_Next hV6) ?_
    rintro r _ A' hJ7 ⟨rfl, rfl, rfl⟩
    refine ⟨_, rfl, ?_⟩
    repeat (first | refine Chk.mk ⟨rfl, trivial⟩ ?_)
    obtain ⟨q1, q2⟩ : ∃ q : Hd × Hd, q = (s6, w6) := ⟨_, rfl⟩
    refine Tri.free (r8_Next s6 w6 d6.count d6.down (gv d6.arm) (gv d6.fault) v.j.lay.b v.j.lay.l v.j.lay.lb v.j.lay.bi v.j.lay.i v.j.lay.ib v.j.lay.d v.j.s v.j.t v.j.u v.j.h v.j.epoch v.j.next v.j.synced (hnxM rfl) J6) ?_
    rintro r _ _ hJ8 ⟨rfl, rfl⟩
    repeat (first | refine LoadP.at 4 rfl _ rfl rfl ?_ | refine CmpD.yes rfl ?_)
    refine Tri.frame1 3 rfl (vk_Synced hV6) ?_
    rintro r _ A' hJ9 ⟨rfl, rfl, rfl⟩
    refine ⟨_, rfl, ?_⟩
    repeat (first | refine LoadP.at 4 rfl _ rfl rfl ?_ | refine CmpD.yes rfl ?_ | refine Chk.mk ⟨rfl, trivial⟩ ?_)
    refine Tri.frameX (dk_Image (hD5.mono hJ6)) [2] rfl rfl ?_
    rintro r _ A' hJ10 ⟨a1, c1, ch1, rfl, hO1, rfl, rfl⟩
    repeat (first | refine Chk.mk ⟨rfl, trivial⟩ ?_)
    refine Tri.frameX (r4_Image hR6 (hfewM.mono (by omega))) [] rfl rfl ?_
    rintro r _ A' hJ11 ⟨a2, c2, ch2, rfl, hO2, rfl, rfl⟩
    skip
    refine Tri.mono (same_bytes (hO1.slC1 6 rfl) (hO2.slC1 7 rfl)) ?_
    rintro r _ _ hJ12 ⟨rfl, rfl, rfl⟩
    rw [decide_eq_true rfl]
    skip
    refine Tri.mono (awake11 J6 _) ?_
    rintro r J8 S8 hJ8 rfl
    exact Done.mk rfl
end Go.Proofs.YtegdcjnjnoeinaaGreat
namespace Go.Proofs.YtegdcjnjnoeinaaGreat
open Go.RowKit Go.Sl
set_option maxRecDepth 20000

theorem bulk_one {H : Type} (d : DataW H) : 1 ≤ Rows.uptoBulk d := by
  cases d with
  | lit l => cases l <;> simp [Rows.uptoBulk]
  | nil => simp [Rows.uptoBulk]
  | ptr d => simp [Rows.uptoBulk]
  | slice elems spare => simp [Rows.uptoBulk]
  | agg parts => simp [Rows.uptoBulk]
  | iface t d => simp [Rows.uptoBulk]
  | map entries => simp [Rows.uptoBulk]
  | held h => simp [Rows.uptoBulk]
theorem bulk_append {H : Type} (l r : List (DataW H)) : Rows.uptoBulkAll (l ++ r) = Rows.uptoBulkAll l + Rows.uptoBulkAll r := by
  induction l with
  | nil => simp [Rows.uptoBulkAll]
  | cons x l ih => simp only [List.cons_append, Rows.uptoBulkAll, ih]; omega
theorem bulk_sum {H : Type} (D : Nat → DataW H) (F : Nat → Nat) : ∀ n, (∀ i, i < n → F i ≤ Rows.uptoBulk (D i)) → ((List.range n).map F).sum ≤ Rows.uptoBulkAll ((List.range n).map D)
  | 0, _ => by simp
  | n + 1, h => by
    have := bulk_sum D F n (fun i hi => h i (by omega))
    have := h n (by omega)
    rw [List.range_succ, List.map_append, List.map_append, List.sum_append, bulk_append]
    simp [Rows.uptoBulkAll]
    omega
theorem bulk_slice {H : Type} {d : DataW H} {len : Nat} {D : Nat → DataW H} (h : (d = .nil ∧ len = 0) ∨ ∃ R, d = .slice ((List.range len).map D) R) (F : Nat → Nat) (hF : ∀ i, i < len → F i ≤ Rows.uptoBulk (D i)) : ((List.range len).map F).sum + 1 ≤ Rows.uptoBulk d := by
  rcases h with ⟨rfl, rfl⟩ | ⟨R, rfl⟩
  · simp [Rows.uptoBulk]
  · have := bulk_sum D F len hF
    simp only [Rows.uptoBulk]
    omega
section
variable {H : Type} {enc : TypeId × Value → H} {W : World} {held : Bool} {fuel : Nat}
theorem open_bytes {c0 : Value} {x : DataW H × List MemPlace} (h : DataW.trod enc Tryz.prog W 0 (fun _ => true) held fuel 32 [c0] = some x) :
    ∃ (a : Option Addr) (len cap : Nat) (l : Dat), c0 = .slice a len cap ∧ len ≤ cap ∧ cap ≤ maxLen ∧ l.length = len ∧ Rds (base W) a len (bts l) ∧ len + 1 ≤ Rows.uptoBulk x.1 := by
  obtain ⟨a, len, cap, vs, D, rfl, hlc, hcm, hel, hR, hD⟩ := open_elems Tryz.underlying32 (k := 1) (by kernel_rfl) (by omega) h
  obtain ⟨z, hz⟩ := Go.Deep.choose_lt (α := UInt8) (n := len) (p := fun i z => vs i = [byte z]) (fun i hi => by
    obtain ⟨hl, n, Pl, ht⟩ := hel i hi
    obtain ⟨m, h1, _, hw⟩ := DataW.trod_int Tryz.underlying5 ht
    have : 0 ≤ m ∧ m < 256 := by simp [Lit.wf, IntKind.min, IntKind.max, IntKind.signed, IntKind.bits] at hw; omega
    refine ⟨UInt8.ofNat m.toNat, ?_⟩
    rw [h1]
    simp only [byte, UInt8.toNat_ofNat']
    congr 2
    omega)
  refine ⟨a, len, cap, (List.range len).map z, rfl, hlc, hcm, by simp, ?_, ?_⟩
  · rw [Nat.mul_one] at hR
    have e : (List.range len).flatMap vs = bts ((List.range len).map z) := by
      rw [Go.Deep.flatMap_congr_range (fun i hi => hz i hi)]
      unfold bts
      rw [List.map_map]
      induction List.range len with
      | nil => rfl
      | cons y l ih => simp [ih]
    rw [← e]; exact hR
  · have h1 := bulk_slice hD (fun _ => 1) (fun i _ => bulk_one _)
    have h2 : ((List.range len).map fun _ => 1).sum = len := by
      have : ∀ n : Nat, ((List.range n).map fun _ => 1).sum = n := by
        intro n
        induction n with
        | zero => rfl
        | succ n ih => rw [List.range_succ, List.map_append, List.sum_append, ih]; rfl
      exact this len
    omega
instance : Inhabited Img := ⟨⟨0, none, 0, 0, []⟩⟩
end
end Go.Proofs.YtegdcjnjnoeinaaGreat
namespace Go.Proofs.YtegdcjnjnoeinaaGreat
open Go.RowKit Go.Sl
set_option maxRecDepth 20000

theorem weightsAll_mem {H : Type} {P : Program} {e : TypeId} : ∀ (l : List (DataW H)), (DataW.weightsAll P e l).all (· ≤ reachBytes) = true → ∀ d ∈ l, (d.weights P e).all (· ≤ reachBytes) = true
  | [], _, d, hd => by simp at hd
  | x :: l, h, d, hd => by
    simp only [DataW.weightsAll, List.all_append, Bool.and_eq_true] at h
    rcases List.mem_cons.1 hd with rfl | hd
    · exact h.1
    · exact weightsAll_mem l h.2 d hd
theorem slice_weights {H : Type} {P : Program} {t e : TypeId} (ht : P.underlying t = some (.slice e)) {d : DataW H} {len : Nat} {D : Nat → DataW H} (hD : (d = .nil ∧ len = 0) ∨ ∃ R, d = .slice ((List.range len).map D) R) (h : (d.weights P t).all (· ≤ reachBytes) = true) :
    len * P.bytesOf e ≤ reachBytes ∧ ∀ i, i < len → ((D i).weights P e).all (· ≤ reachBytes) = true := by
  rcases hD with ⟨rfl, rfl⟩ | ⟨R, rfl⟩
  · exact ⟨by rw [Nat.zero_mul]; exact Nat.zero_le _, fun i hi => by omega⟩
  · simp only [DataW.weights, ht, List.all_cons, List.all_append, Bool.and_eq_true, List.length_map, List.length_range, decide_eq_true_eq] at h
    refine ⟨Nat.le_trans (Nat.mul_le_mul_right _ (Nat.le_add_right _ _)) h.1, fun i hi => weightsAll_mem _ h.2.1 _ (List.mem_map_of_mem (List.mem_range.2 hi))⟩
section
variable {H : Type} {enc : TypeId × Value → H} {W : World} {held : Bool} {fuel : Nat}
theorem bytes_weights {a : Option Addr} {len cap : Nat} {x : DataW H × List MemPlace} (h : DataW.trod enc Tryz.prog W 0 (fun _ => true) held fuel 32 [.slice a len cap] = some x) (hw : (x.1.weights Tryz.prog 32).all (· ≤ reachBytes) = true) : len ≤ reachBytes := by
  obtain ⟨a', len', cap', vs, D, e, _, _, _, _, hD⟩ := open_elems Tryz.underlying32 (k := 1) (by kernel_rfl) (by omega) h
  cases e
  have := (slice_weights Tryz.underlying32 hD hw).1
  rwa [show Tryz.prog.bytesOf 5 = 1 from by kernel_rfl, Nat.mul_one] at this
theorem open_lists {c0 : Value} {x : DataW H × List MemPlace} (h : DataW.trod enc Tryz.prog W 0 (fun _ => true) held fuel 40 [c0] = some x) :
    ∃ (a : Option Addr) (len cap : Nat) (ls : List Bs), c0 = .slice a len cap ∧ len ≤ cap ∧ ls.length = len ∧ Rds (base W) a len (ls.map Bs.cell) ∧ (∀ b ∈ ls, Rds (base W) b.a b.len (bts b.data)) ∧ ((x.1.weights Tryz.prog 40).all (· ≤ reachBytes) = true → ∀ b ∈ ls, b.len ≤ reachBytes) := by
  obtain ⟨a, len, cap, vs, D, rfl, hlc, hcm, hel, hR, hD⟩ := open_elems Tryz.underlying40 (k := 1) (by kernel_rfl) (by omega) h
  have : Inhabited Bs := ⟨⟨none, 0, 0, []⟩⟩
  obtain ⟨z, hz⟩ := Go.Deep.choose_lt (α := Bs) (n := len) (p := fun i b => vs i = [b.cell] ∧ Rds (base W) b.a b.len (bts b.data) ∧ (((D i).weights Tryz.prog 32).all (· ≤ reachBytes) = true → b.len ≤ reachBytes)) (fun i hi => by
    obtain ⟨hl, n, Pl, ht⟩ := hel i hi
    match hv : vs i, hl with
    | [v0], _ =>
    rw [hv] at ht
    obtain ⟨a1, len1, cap1, l1, rfl, _, _, hl1, hR1, _⟩ := open_bytes ht
    exact ⟨⟨a1, len1, cap1, l1⟩, rfl, hR1, fun hw => bytes_weights ht hw⟩)
  refine ⟨a, len, cap, (List.range len).map z, rfl, hlc, by simp, ?_, ?_, ?_⟩
  · rw [Nat.mul_one] at hR
    have e : (List.range len).flatMap vs = ((List.range len).map z).map Bs.cell := by
      rw [Go.Deep.flatMap_congr_range (fun i hi => (hz i hi).1), List.map_map]
      induction List.range len with
      | nil => rfl
      | cons y l ih => simp [ih]
    rw [← e]; exact hR
  · intro b hb
    obtain ⟨i, hi, rfl⟩ := List.mem_map.1 hb
    exact (hz i (List.mem_range.1 hi)).2.1
  · intro hw b hb
    obtain ⟨i, hi, rfl⟩ := List.mem_map.1 hb
    have hi := List.mem_range.1 hi
    exact (hz i hi).2.2 ((slice_weights Tryz.underlying40 hD hw).2 i hi)
end
end Go.Proofs.YtegdcjnjnoeinaaGreat

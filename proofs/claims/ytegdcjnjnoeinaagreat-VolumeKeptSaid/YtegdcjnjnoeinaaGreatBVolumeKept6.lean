/- Texts of this claim laid together: Cr1, Cr2, Cr3, Cr4, Cr5, Img11, Awake11, Cr6, Cr7, Kp1, Kp2, Kp3, Tw1, Kept1, Rf11, VolumeMounts, Tw2, Kept2, OpenB, OpenL, Kept3. -/
import Derived.Test.YtegdcjnjnoeinaaGreatBVolumeKept5
import Derived.Test.YtegdcjnjnoeinaaGreatBVolumeKept3
import Derived.Test.YtegdcjnjnoeinaaGreatBVolumeKept4
import Derived.Test.YtegdcjnjnoeinaaGreatBVolumeKept2
import Derived.Lib.SmallJoins
import Derived.Test.YtegdcjnjnoeinaaGreatBVolumeKept1
namespace Go.Proofs.YtegdcjnjnoeinaaGreat
open Go.RowKit Go.Sl
set_option maxRecDepth 20000

/-! ### stamps that are not there -/
theorem stamp_ne2 {e e' s s' : Nat} (he : e ≤ 8388608) (he' : e' ≤ 8388608) (hs : s ≤ 549755813888) (hs' : s' ≤ 549755813888) (h : e ≠ e' ∨ s ≠ s') : stampB e s ≠ stampB e' s' := by
  intro hh
  have := congrArg nb hh
  rw [stamp_num he hs, stamp_num he' hs'] at this
  omega
/-- bytes of an older time: no sector bears a stamp of this epoch from this number on, or of a later epoch -/
def Old (ep sq : Nat) (b : Dat) : Prop := b.length = 4096 ∧ ∀ e s : Nat, (ep < e ∨ (e = ep ∧ sq ≤ s)) → e ≤ 8388608 → s ≤ 549755813888 → Foreign (stampB e s) b
theorem Old.mono {ep sq ep' sq' : Nat} {b : Dat} (h : Old ep sq b) (hle : ep < ep' ∨ (ep = ep' ∧ sq ≤ sq')) : Old ep' sq' b :=
  ⟨h.1, fun e s he h1 h2 => h.2 e s (by omega) h1 h2⟩
theorem old_noughts {ep sq : Nat} (hep : 1 ≤ ep) : Old ep sq noughts := ⟨noughts_length, fun e s he h1 h2 => noughts_foreign ⟨by omega, h1⟩ h2⟩
theorem old_bears {ep s0 sq : Nat} {b : Dat} (hl : b.length = 4096) (hb : Bears (stampB ep s0) b) (hep : ep ≤ 8388608) (hs0 : s0 ≤ 549755813888) (h : s0 < sq) : Old ep sq b :=
  ⟨hl, fun e s he h1 h2 => bears_foreign hb (stamp_ne2 hep h1 hs0 h2 (by omega))⟩
theorem torn_foreign {m old new : Dat} (h1 : old.length = 4096) (h2 : new.length = 4096) (hf1 : Foreign m old) (hf2 : Foreign m new) (sec : Nat) : Foreign m (tornP old new sec) := by
  have hl : (tornP old new sec).length = 4096 := tornK_length h1 h2 sec 8 (by omega)
  have hat := tornK_at h1 h2 sec 8 (by omega)
  intro k hk he
  by_cases hb : sec / 2 ^ k % 2 = 1
  · refine hf2 k hk ?_
    rw [← he]
    refine extN 8 (by rw [List.length_take, List.length_drop]; omega) (by rw [List.length_take, List.length_drop]; omega) fun i hi => ?_
    rw [List.getElem?_take, if_pos hi, List.getElem?_drop, List.getElem?_take, if_pos hi, List.getElem?_drop, tornP, hat _ (by omega), if_pos ⟨by omega, by rw [show (k * 512 + i) / 512 = k by omega]; exact hb⟩]
  · refine hf1 k hk ?_
    rw [← he]
    refine extN 8 (by rw [List.length_take, List.length_drop]; omega) (by rw [List.length_take, List.length_drop]; omega) fun i hi => ?_
    rw [List.getElem?_take, if_pos hi, List.getElem?_drop, List.getElem?_take, if_pos hi, List.getElem?_drop, tornP, hat _ (by omega), if_neg (by rw [show (k * 512 + i) / 512 = k by omega]; exact fun h => hb h.2)]
theorem old_torn {ep sq : Nat} {old new : Dat} (h1 : Old ep sq old) (h2 : Old ep sq new) (sec : Nat) : Old ep sq (tornP old new sec) :=
  ⟨tornK_length h1.1 h2.1 sec 8 (by omega), fun e s he g1 g2 => torn_foreign h1.1 h2.1 (h1.2 e s he g1 g2) (h2.2 e s he g1 g2) sec⟩
/-! ### a crash, block by block -/
/-- what may lie at a block behind a crash -/
def Out (sec : Nat) (old new x : Dat) : Prop := x = old ∨ x = new ∨ x = tornP old new sec
theorem crashK_at (keep : List Bool) (tn : Int) (sec : Nat) : ∀ (ws : List (Int × Dat)) (i : Nat) (s : List Dat), (ws.map fun w => w.1.toNat).Nodup → (∀ w ∈ ws, w.1.toNat < s.length) → ∀ p : Nat,
    (p ∉ (ws.map fun w => w.1.toNat) → (crashK keep tn sec i ws s).getD p [] = s.getD p []) ∧ (∀ w ∈ ws, w.1.toNat = p → Out sec (s.getD p []) w.2 ((crashK keep tn sec i ws s).getD p []))
  | [], _, _, _, _, _ => ⟨fun _ => rfl, fun w hw => by cases hw⟩
  | w :: ws, i, s, hnd, hl, p => by
    rw [List.map_cons, List.nodup_cons] at hnd
    obtain ⟨g1, g2⟩ := crash1_get keep tn sec i w.1.toNat w.2 s p (hl w (by simp))
    obtain ⟨r1, r2⟩ := crashK_at keep tn sec ws (i + 1) (crash1 keep tn sec i w.1.toNat w.2 s) hnd.2 (fun x hx => by rw [crash1_length]; exact hl x (by simp [hx])) p
    rw [crashK]
    constructor
    · intro hp
      simp only [List.map_cons, List.mem_cons, not_or] at hp
      rw [r1 hp.2, g1 (fun e => hp.1 e.symm)]
    · intro x hx hxp
      rcases List.mem_cons.1 hx with rfl | hx
      · rw [r1 (by rw [← hxp]; exact hnd.1)]
        rcases g2 hxp with h | h | h
        · exact .inl h
        · exact .inr (.inl h)
        · exact .inr (.inr h)
      · have := r2 x hx hxp
        have hne : w.1.toNat ≠ p := fun e => hnd.1 (by rw [e, ← hxp]; exact List.mem_map_of_mem hx)
        rw [g1 hne] at this
        exact this
/-! ### scanning -/
/-- as 'scan_kept', of stamps from this number on alone -/
theorem scan_kept2 {rb : Nat → Dat} {ep : Nat} : ∀ (l : List (List PImg)) (f at_ sq room : Nat), (∀ (i : Nat) (h : i < l.length), RightP ep ((sq + i : Nat) : Int) l[i]) → usedP l ≤ room → sq + l.length ≤ 549755813889 →
    (∀ (k : Nat) (h : k < (ringB ep sq l).length) (s : Nat), sq ≤ s → s ≤ 549755813888 → Bears (stampB ep s) (rb (at_ + k)) → rb (at_ + k) = (ringB ep sq l)[k]) →
    (∀ k s, usedP l ≤ k → k < room → sq ≤ s → s ≤ 549755813888 → ¬ Bears (stampB ep s) (rb (at_ + k))) →
    ∃ n, n ≤ l.length ∧ scanK rb ep f at_ sq room = gsP ep sq (l.take n)
  | [], f, at_, sq, room, _, _, hsq, _, h2 => by
    refine ⟨0, by simp, ?_⟩
    rw [scan_stop]; · rfl
    intro e s l hg h'
    have hr := (grpP_room hg).1
    obtain ⟨l', hd, _, _⟩ := grpP_hd hg
    have hb := (hdP_some hd).2.2.2.2.2.2
    have hR := (hdP_some hd).2.2.2.1
    have hs : (s : Int) = sq := h'.2
    have he : (e : Int) = ep := h'.1
    obtain rfl : e = ep := by omega
    have h549 := hR.2.2.2.1
    exact h2 0 s (by simp [usedP]) (by omega) (by omega) (by omega) (by rw [Nat.add_zero]; exact hb)
  | g :: l, 0, at_, sq, room, _, _, _, _, _ => ⟨0, by simp, rfl⟩
  | g :: l, f + 1, at_, sq, room, hR, hu, hsq, h1, h2 => by
    have e : usedP (g :: l) = g.length + 1 + usedP l := by simp [usedP]
    have hpl := putP_length ep sq g
    have hrl := ringB_length ep l (sq + 1)
    have hRl : ringB ep sq (g :: l) = putP ep sq g ++ ringB ep (sq + 1) l := rfl
    have hlen : (ringB ep sq (g :: l)).length = usedP (g :: l) := ringB_length ep (g :: l) sq
    have h0 : RightP ep ((sq : Nat) : Int) g := by have := hR 0 (by simp); rw [Nat.add_zero] at this; exact this
    have h549 : sq ≤ 549755813888 := by have := h0.2.2.2.1; omega
    have hat : ∀ (k : Nat) (hk : k < (putP ep sq g).length), Bears (stampB ep sq) (rb (at_ + k)) → rb (at_ + k) = (putP ep sq g)[k] := by
      intro k hk hb
      have := h1 k (by rw [hlen]; omega) sq (Nat.le_refl _) h549 hb
      rw [this]
      simp only [hRl]
      rw [List.getElem_append_left hk]
    rw [scanK]
    cases hg : grpP rb at_ room with
    | none => exact ⟨0, by simp, rfl⟩
    | some p =>
      obtain ⟨e2, s2, l2⟩ := p
      dsimp only
      by_cases hc : (e2 : Int) = ep ∧ (s2 : Int) = sq
      · rw [if_pos hc]
        obtain ⟨he, hs⟩ := hc
        obtain rfl : e2 = ep := by omega
        obtain rfl : s2 = sq := by omega
        obtain ⟨l', hd, hll, hroom⟩ := grpP_hd hg
        have hb0 := (hdP_some hd).2.2.2.2.2.2
        have hr0 := hat 0 (by omega) (by rw [Nat.add_zero]; exact hb0)
        rw [Nat.add_zero] at hr0
        have hr0' : rb at_ = hblk e2 s2 g := by rw [hr0]; rfl
        have hd' := hd
        rw [hr0', hdP_put h0, Option.some.injEq] at hd'
        have hl'g : l'.length = g.length := by
          have := congrArg (fun x => x.2.2.length) hd'
          simpa using this.symm
        rw [grpP_get hd (by omega)] at hg
        have hbs : ∀ i, i < l'.length → Bears (stampB e2 s2) (rb (at_ + (i + 1))) := by
          rw [List.range_succ_eq_map, List.map_cons, Nat.add_zero] at hg
          by_cases hrest : ((List.map Nat.succ (List.range l'.length)).map fun i => rb (at_ + i)).length = l'.length ∧ RestOk e2 s2 ((List.map Nat.succ (List.range l'.length)).map fun i => rb (at_ + i))
          · intro i hi
            exact (hrest.2 (rb (at_ + (i + 1))) (by
              rw [List.map_map]
              exact List.mem_map.2 ⟨i, List.mem_range.2 hi, rfl⟩)).2
          · rw [getP_bad hd hrest] at hg
            cases hg
        have hall : ((List.range (l'.length + 1)).map fun i => rb (at_ + i)) = putP e2 s2 g := by
          refine getElem_eq_of (by simp [hpl, hl'g]) fun i i1 i2 => ?_
          simp only [List.getElem_map, List.getElem_range]
          rw [List.length_map, List.length_range] at i1
          cases i with
          | zero => exact hr0
          | succ i => exact hat (i + 1) i2 (hbs i (by omega))
        rw [hall, getP_put h0, Option.some.injEq] at hg
        have hl2 : g = l2 := by
          have := congrArg (fun x => x.2.2) hg
          exact this
        subst hl2
        obtain ⟨n, hn, hrec⟩ := scan_kept2 l f (at_ + (g.length + 1)) (s2 + 1) (room - (g.length + 1)) (fun i hi => by
            have := hR (i + 1) (by simpa using hi)
            rw [show s2 + (i + 1) = s2 + 1 + i by omega] at this
            simpa using this) (by omega) (by simp at hsq; omega) (fun k hk s hs0 hs hb => by
            rw [show at_ + (g.length + 1) + k = at_ + (g.length + 1 + k) by omega] at hb ⊢
            have := h1 (g.length + 1 + k) (by rw [hlen, e]; omega) s (by omega) hs hb
            rw [this]
            simp only [hRl]
            rw [List.getElem_append_right (by omega)]
            congr 1
            omega) (fun k s hk1 hk2 hs0 hs hb => by
            rw [show at_ + (g.length + 1) + k = at_ + (g.length + 1 + k) by omega] at hb
            exact h2 (g.length + 1 + k) s (by omega) (by omega) (by omega) hs hb)
        refine ⟨n + 1, by simp; omega, ?_⟩
        rw [show ((s2 : Nat) : Int) + 1 = ((s2 + 1 : Nat) : Int) by omega, hrec]
        rfl
      · rw [if_neg hc]
        exact ⟨0, by simp, rfl⟩
/-- the groups up to a place are whole, what lies behind is kept or not: a beginning is told, those at least -/
theorem scan_from {rb : Nat → Dat} {ep t0 sq m : Nat} {ls : List (List PImg)} (hm : m ≤ ls.length) (hR : ∀ (i : Nat) (h : i < ls.length), RightP ep ((sq + i : Nat) : Int) ls[i]) (hu : usedP ls ≤ 16) (hsq : sq + ls.length ≤ 549755813889)
    (hw : ∀ (o : Nat) (h : o < (ringB ep sq ls).length), o < usedP (ls.take m) → rb (t0 + o) = (ringB ep sq ls)[o])
    (hk : ∀ (o : Nat) (h : o < (ringB ep sq ls).length), usedP (ls.take m) ≤ o → ∀ s, sq + m ≤ s → s ≤ 549755813888 → Bears (stampB ep s) (rb (t0 + o)) → rb (t0 + o) = (ringB ep sq ls)[o])
    (hf : ∀ o, usedP ls ≤ o → o < 16 → ∀ s, sq + m ≤ s → s ≤ 549755813888 → ¬ Bears (stampB ep s) (rb (t0 + o))) :
    ∃ n, m ≤ n ∧ n ≤ ls.length ∧ scanK rb ep 17 t0 sq 16 = gsP ep sq (ls.take n) := by
  have hge := usedP_ge ls
  have hsp := usedP_split ls m
  have hrl := ringB_length ep ls sq
  have htl : (ls.take m).length = m := by rw [List.length_take]; omega
  have hrt := ringB_length ep (ls.take m) sq
  have happ : ∀ (a b : List (List PImg)) (q : Nat), ringB ep q (a ++ b) = ringB ep q a ++ ringB ep (q + a.length) b := by
    intro a
    induction a with
    | nil => intro b q; simp [ringB]
    | cons x a ih => intro b q; rw [List.cons_append, ringB, ih, ringB, List.append_assoc, List.length_cons, show q + 1 + a.length = q + (a.length + 1) by omega]
  have hrsp : ringB ep sq ls = ringB ep sq (ls.take m) ++ ringB ep (sq + m) (ls.drop m) := by
    conv => lhs; rw [← List.take_append_drop m ls]
    rw [happ, htl]
  have hp := scan_prefix rb ep (ls.take m) 17 t0 sq 16 (fun i hi => by rw [List.getElem_take]; exact hR i (by rw [List.length_take] at hi; omega)) (by omega) (by omega) (fun k hk' => by
    have h2 : k < (ringB ep sq ls).length := by omega
    rw [hw k h2 (by omega)]
    simp only [hrsp]
    rw [List.getElem_append_left hk'])
  rw [htl] at hp
  obtain ⟨n, hn, hs⟩ := scan_kept2 (rb := rb) (ls.drop m) (17 - m) (t0 + usedP (ls.take m)) (sq + m) (16 - usedP (ls.take m)) (fun i hi => by
      rw [List.getElem_drop]
      have := hR (m + i) (by rw [List.length_drop] at hi; omega)
      rwa [show sq + (m + i) = sq + m + i by omega] at this) (by omega) (by rw [List.length_drop]; omega) (fun k hk' s hs0 hs hb => by
      have hkl := ringB_length ep (ls.drop m) (sq + m)
      rw [show t0 + usedP (ls.take m) + k = t0 + (usedP (ls.take m) + k) by omega] at hb ⊢
      rw [hk (usedP (ls.take m) + k) (by omega) (by omega) s hs0 hs hb]
      simp only [hrsp]
      rw [List.getElem_append_right (by omega)]
      congr 1; omega) (fun k s hk1 hk2 hs0 hs hb => by
      rw [show t0 + usedP (ls.take m) + k = t0 + (usedP (ls.take m) + k) by omega] at hb
      exact hf (usedP (ls.take m) + k) (by omega) (by omega) s hs0 hs hb)
  rw [List.length_drop] at hn
  refine ⟨m + n, by omega, by omega, ?_⟩
  rw [hp, hs]
  have hg : ∀ (a b : List (List PImg)) (q : Nat), gsP ep q (a ++ b) = gsP ep q a ++ gsP ep (q + a.length) b := by
    intro a
    induction a with
    | nil => intro b q; simp [gsP]
    | cons x a ih => intro b q; rw [List.cons_append, gsP, ih, gsP, List.cons_append, List.length_cons, show q + 1 + a.length = q + (a.length + 1) by omega]
  have ht : ls.take (m + n) = ls.take m ++ (ls.drop m).take n := by rw [List.take_add]
  rw [ht, hg, htl]
end Go.Proofs.YtegdcjnjnoeinaaGreat
namespace Go.Proofs.YtegdcjnjnoeinaaGreat
open Go.RowKit Go.Sl
set_option maxRecDepth 20000

/-- noughts, or a superblock -/
def SupForm (b : Dat) : Prop := b = noughts ∨ ∃ s, RightS s ∧ b = supL s
theorem SupForm.len {b : Dat} (h : SupForm b) : b.length = 4096 := by
  rcases h with rfl | ⟨s, _, rfl⟩
  · exact noughts_length
  · exact supL_length _
theorem SupForm.rest {b : Dat} (h : SupForm b) {j : Nat} (h1 : 512 ≤ j) (h2 : j < 4096) : b[j]? = some 0 := by
  rcases h with rfl | ⟨s, _, rfl⟩
  · exact noughts_get h2
  · exact supL_rest _ (by omega) h2
theorem torn_form {old new : Dat} (h1 : SupForm old) (h2 : SupForm new) (sec : Nat) : tornP old new sec = old ∨ tornP old new sec = new := by
  have hat := tornK_at h1.len h2.len sec 8 (by omega)
  have hl : (tornP old new sec).length = 4096 := tornK_length h1.len h2.len sec 8 (by omega)
  have hz : ∀ j, 512 ≤ j → j < 4096 → (tornP old new sec)[j]? = some 0 := by
    intro j g1 g2
    rw [tornP, hat j g2]
    split
    · exact h2.rest g1 g2
    · exact h1.rest g1 g2
  by_cases h0 : sec / 2 ^ 0 % 2 = 1
  · right
    refine ext4096 hl h2.len fun j hj => ?_
    rcases Nat.lt_or_ge j 512 with g | g
    · rw [tornP, hat j hj, show j / 512 = 0 by omega, if_pos ⟨by omega, h0⟩]
    · rw [hz j g hj]; exact (h2.rest g hj).symm
  · left
    refine ext4096 hl h1.len fun j hj => ?_
    rcases Nat.lt_or_ge j 512 with g | g
    · rw [tornP, hat j hj, show j / 512 = 0 by omega, if_neg (fun h => h0 h.2)]
    · rw [hz j g hj]; exact (h1.rest g hj).symm
theorem out_form {sec : Nat} {old new x : Dat} (h1 : SupForm old) (h2 : SupForm new) (h : Out sec old new x) : x = old ∨ x = new := by
  rcases h with h | h | h
  · exact .inl h
  · exact .inr h
  · rw [h]; exact torn_form h1 h2 sec
/-- the superblock that counts, beside another one -/
def Older (a b : Sup) : Prop := a = b ∨ a.epoch < b.epoch ∨ (a.epoch = b.epoch ∧ a.seq < b.seq)
/-- the one at place sl counts -/
structure SupAt (B : List Dat) (sl : Nat) (s : Sup) : Prop where
  at' : sl = 0 ∨ sl = 1
  right : RightS s
  cur : B.getD sl [] = supL s
  other : B.getD (1 - sl) [] = noughts ∨ ∃ s', RightS s' ∧ B.getD (1 - sl) [] = supL s' ∧ Older s' s
theorem SupAt.form {B : List Dat} {sl : Nat} {s : Sup} (h : SupAt B sl s) : SupForm (B.getD 0 []) ∧ SupForm (B.getD 1 []) := by
  have h1 : SupForm (B.getD sl []) := .inr ⟨s, h.right, h.cur⟩
  have h2 : SupForm (B.getD (1 - sl) []) := by
    rcases h.other with h | ⟨s', hr, h, _⟩
    · exact .inl h
    · exact .inr ⟨s', hr, h⟩
  rcases h.at' with e | e
  · subst e; exact ⟨h1, h2⟩
  · subst e; exact ⟨h2, h1⟩
/-- it is chosen (or its like at the other place) -/
theorem SupAt.choose {B : List Dat} {sl : Nat} {s : Sup} (h : SupAt B sl s) : ∃ sl' : Nat, SupAt B sl' s ∧ chooseP (getS (B.getD 0 [])) (getS (B.getD 1 [])) = (s, (sl' : Int), true) := by
  have hcur : getS (B.getD sl []) = some s := by rw [h.cur]; exact get_supL h.right
  rcases h.other with ho | ⟨s', hr, ho, hold⟩
  · have hoth : getS (B.getD (1 - sl) []) = none := by rw [ho]; exact get_zeros
    refine ⟨sl, h, ?_⟩
    rcases h.at' with e | e
    · subst e
      rw [hcur, show (1 : Nat) = 1 - 0 from rfl, hoth]; rfl
    · subst e
      rw [hcur, show B.getD 0 [] = B.getD (1 - 1) [] from rfl, hoth]; rfl
  · have hoth : getS (B.getD (1 - sl) []) = some s' := by rw [ho]; exact get_supL hr
    rcases h.at' with e | e
    · subst e
      refine ⟨0, h, ?_⟩
      rw [hcur, show B.getD 1 [] = B.getD (1 - 0) [] from rfl, hoth]
      unfold chooseP
      dsimp only
      rw [if_pos (by rcases hold with e | e | e; exact .inr (by rw [e]; exact ⟨rfl, Int.le_refl _⟩); exact .inl e; exact .inr ⟨e.1, by omega⟩)]
      rfl
    · subst e
      rw [hcur, show B.getD 0 [] = B.getD (1 - 1) [] from rfl, hoth]
      unfold chooseP
      dsimp only
      by_cases hc : s.epoch < s'.epoch ∨ (s.epoch = s'.epoch ∧ s.seq ≤ s'.seq)
      · have e : s' = s := by
          rcases hold with e | e | e
          · exact e
          · omega
          · omega
        rw [if_pos hc, e]
        refine ⟨0, ⟨.inl rfl, h.right, by rw [show B.getD 0 [] = B.getD (1 - 1) [] from rfl, ho, e], .inr ⟨s, h.right, h.cur, .inl rfl⟩⟩, rfl⟩
      · rw [if_neg hc]
        exact ⟨1, h, rfl⟩
/-- a disk's blocks that can be mounted: the superblock, the groups that are told, what is shown -/
structure RBx (B : List Dat) (ep t0 sq : Nat) (ls : List (List PImg)) (vw : Int → Dat) : Prop where
  len : B.length = 64
  all : ∀ b ∈ B, b.length = 4096
  sup : ∃ sl, SupAt B sl ⟨64, ep, sq, t0⟩
  t : t0 < 16
  scan : scanK (fun i => B.getD (2 + i % 16) []) ep 17 t0 sq 16 = gsP ep sq ls
  right : ∀ (i : Nat) (h : i < ls.length), RightP ep ((sq + i : Nat) : Int) ls[i]
  used : usedP ls ≤ 16
  home : HomeOk (layOf 64) ls.flatten
  old : ∀ o, o < 16 → Old (ep + 1) 0 (B.getD (2 + o) [])
  view : ∀ n : Int, 18 ≤ n → n < 64 → vw n = (lastD ls.flatten n).getD (B.getD n.toNat [])
theorem allG_gsP (ep : Nat) : ∀ (ls : List (List PImg)) (sq : Nat), allG (gsP ep sq ls) = ls.flatten
  | [], _ => rfl
  | l :: ls, sq => by
    have ih := allG_gsP ep ls (sq + 1)
    unfold allG at ih ⊢
    rw [gsP, List.flatMap_cons, ih, List.flatten_cons]
/-- what the superblock that counts is -/
theorem RBx.bounds {B : List Dat} {ep t0 sq : Nat} {ls : List (List PImg)} {vw : Int → Dat} (h : RBx B ep t0 sq ls vw) : 1 ≤ ep ∧ 1 ≤ sq := by
  obtain ⟨sl, hs⟩ := h.sup
  obtain ⟨_, _, h3, _, h5, _⟩ := hs.right
  have h3 : (1 : Int) ≤ (ep : Int) := h3
  have h5 : (1 : Int) ≤ (sq : Int) := h5
  omega
end Go.Proofs.YtegdcjnjnoeinaaGreat
namespace Go.Proofs.YtegdcjnjnoeinaaGreat
open Go.RowKit Go.Sl
set_option maxRecDepth 20000

theorem homeP_nodup (l : List PImg) : ((homeP l).map Prod.fst).Nodup := by
  unfold homeP
  rw [List.map_map]
  have : ((sortI ((lastP l).map Prod.fst)).map (Prod.fst ∘ fun n => (n, ((lastP l).lookup n).getD []))) = sortI ((lastP l).map Prod.fst) := by
    conv => rhs; rw [← List.map_id (sortI ((lastP l).map Prod.fst))]
    exact List.map_congr_left fun x _ => rfl
  rw [this, (sortI_perm _).nodup_iff]
  exact lastP_nodup l
section
variable {ep t0 sq : Nat} {ls : List (List PImg)} {vw : Int → Dat}
theorem RBx.lens {B : List Dat} (h : RBx B ep t0 sq ls vw) : ∀ g ∈ ls.flatten, 18 ≤ g.1 ∧ g.1 < 64 ∧ g.2.length = 4096 := by
  intro g hg
  obtain ⟨l, hl, hgl⟩ := List.mem_flatten.1 hg
  obtain ⟨i, hi⟩ := List.mem_iff_getElem?.1 hl
  have hlt := (List.getElem?_eq_some_iff.1 hi).1
  have hr := h.right i hlt
  have e : ls[i] = l := by rw [List.getElem?_eq_getElem hlt] at hi; exact Option.some.inj hi
  rw [e] at hr
  have h3 := home64 h.home g hg
  exact ⟨h3.1, h3.2, (hr.2.2.2.2.2.2.1 g hgl).2.2⟩
/-- what is told of a disk that can be mounted -/
theorem RBx.found {d : DSt} (hdn : d.down = false) (h : RBx d.now ep t0 sq ls vw) (hep : ep < 8388608) : ∃ sl : Nat, SupAt d.now sl ⟨64, ep, sq, t0⟩ ∧ foundP d = (⟨64, ep, sq, t0⟩, (sl : Int), 0) ∧ scanL d ⟨64, ep, sq, t0⟩ = gsP ep sq ls := by
  obtain ⟨sl0, hs0⟩ := h.sup
  obtain ⟨sl, hs, hch⟩ := hs0.choose
  refine ⟨sl, hs, ?_, ?_⟩
  · unfold foundP
    rw [if_neg (by rw [hdn]; simp), hch, h.len]
    dsimp only
    have ht := h.t
    rw [if_neg]
    rintro (h | h | h | h)
    · exact Bool.noConfusion h
    · exact h rfl
    · rw [layL_64'] at h; omega
    · omega
  · rw [scanL64 h.len]
    have := h.scan
    rw [Int.toNat_natCast]
    exact this
/-- mounting, with nothing in the way -/
theorem mount_calm {d : DSt} (hc : d.Calm) (hw : d.Wf) (h : RBx d.now ep t0 sq ls vw) (hep : ep < 8388608) (hsq : sq + ls.length ≤ 549755813888) {k : Nat} (hf : d.Few k) :
    ∃ (sl : Nat) (e : DSt) (v : VSt), SupAt d.now sl ⟨64, ep, sq, t0⟩ ∧ mountP d = (e, 0, some v) ∧ WV (ep + 1) ((t0 + usedP ls) % 16) (sq + ls.length) v e [] (k + 17) ∧ v.slot = sl ∧ e.writes = [] ∧ e.safe = e.now ∧ v.fresh = [] ∧ v.j.synced = v.j.next - 1 ∧
      (∀ n : Int, 18 ≤ n → n < 64 → v.cur e n = vw n) ∧ e.now = (wrC (homeP ls.flatten) d).now.set (1 - sl) (supL ⟨64, ((ep + 1 : Nat) : Int), ((sq + ls.length : Nat) : Int), (((t0 + usedP ls) % 16 : Nat) : Int)⟩) := by
  obtain ⟨sl, hs, hfd, hsc⟩ := h.found hc.1 hep
  obtain ⟨hep1, hsq1⟩ := h.bounds
  have hsl := hs.at'
  have hlens := h.lens
  have hhl := home_homL hlens
  have hok : DoOk d (homeP ls.flatten) := fun g hg => by obtain ⟨h1, h2, h3⟩ := hhl.ok g hg; exact ⟨by omega, by rw [h.len]; exact h2, h3⟩
  have hpl : placeP 16 t0 (gsP ep sq ls) = (t0 + usedP ls) % 16 := by unfold placeP; rw [gsP_sum]
  have hgl := gsP_length ep ls sq
  have hag := allG_gsP ep ls sq
  have hRS : RightS ⟨64, ((ep + 1 : Nat) : Int), ((sq + ls.length : Nat) : Int), (((t0 + usedP ls) % 16 : Nat) : Int)⟩ :=
    ⟨by show (64 : Int) ≤ 64; decide, by show (64 : Int) ≤ 512; decide, by show (1 : Int) ≤ ((ep + 1 : Nat) : Int); omega, by show ((ep + 1 : Nat) : Int) ≤ 8388608; omega, by show (1 : Int) ≤ ((sq + ls.length : Nat) : Int); omega, by show ((sq + ls.length : Nat) : Int) ≤ 549755813888; omega, by show (0 : Int) ≤ (((t0 + usedP ls) % 16 : Nat) : Int); omega, by show (((t0 + usedP ls) % 16 : Nat) : Int) ≤ 511; omega⟩
  have hsl1 : (1 : Int) - (sl : Int) = ((1 - sl : Nat) : Int) := by omega
  obtain ⟨e, b1, b2, b3, b4, b5, b6⟩ := doP_calm hc h.len hok hRS (slot := ((1 - sl : Nat) : Int)) (by omega)
  have hwf := doP_wf hw (homeP ls.flatten) ⟨64, ((ep + 1 : Nat) : Int), ((sq + ls.length : Nat) : Int), (((t0 + usedP ls) % 16 : Nat) : Int)⟩ ((1 - sl : Nat) : Int)
  have hfew := doP_few hf (homeP ls.flatten) ⟨64, ((ep + 1 : Nat) : Int), ((sq + ls.length : Nat) : Int), (((t0 + usedP ls) % 16 : Nat) : Int)⟩ ((1 - sl : Nat) : Int)
  rw [b1] at hwf hfew
  dsimp only at hwf hfew
  have hll : (homeP ls.flatten).length ≤ 16 := by
    have h1 := homeP_len ls.flatten
    have h2 : (ls.flatten).length ≤ usedP ls := by
      rw [List.length_flatten]
      have : ∀ l : List (List PImg), (l.map List.length).sum ≤ usedP l := by
        intro l
        induction l with
        | nil => simp [usedP]
        | cons g l ih => simp [usedP] at ih ⊢; omega
      exact this ls
    have := h.used
    omega
  have e1 : (((ep : Nat) : Int) + 1) = ((ep + 1 : Nat) : Int) := by omega
  have e2 : (((sq : Nat) : Int) + (((gsP ep sq ls).length : Nat) : Int)) = ((sq + ls.length : Nat) : Int) := by rw [hgl]; omega
  refine ⟨sl, e, ⟨openJ 64 ((ep + 1 : Nat) : Int) ((sq + ls.length : Nat) : Int) (((t0 + usedP ls) % 16 : Nat) : Int), ((ep + 1 : Nat) : Int), sl, [], false⟩, hs, ?_, ⟨openJ_we (by omega) (by omega) (by omega) b2 hwf b6 (hfew.mono (by omega)), rfl, by rcases hsl with h | h <;> simp [h], rfl, by intro g hg; simp at hg, rfl⟩, rfl, b3, b4, rfl, rfl, fun n h1 h2 => ?_, ?_⟩
  · unfold mountP
    rw [h.len, if_neg (by decide), hfd]
    dsimp only
    rw [if_neg (by simp), hsc]
    unfold mountL
    rw [show (layL ((64 : Nat) : Int)).toNat = 16 by rw [layL_64']; rfl]
    dsimp only
    rw [Int.toNat_natCast, hpl, hag, e1, e2, hsl1]
    rw [if_neg (by rintro (h' | h'); exact h' h.home; rw [hgl] at h'; omega), b1]
    dsimp only
    rw [if_neg (by simp)]
  · unfold VSt.cur
    show e.now.getD _ _ = _
    rw [b5, Int.toNat_natCast, List.getD_eq_getElem?_getD, List.getElem?_set_ne (by omega)]
    have hq := (wrC_now (homeP ls.flatten) d (fun g hg => (hok g hg).1) (fun g hg => (hok g hg).2.1)).2 n.toNat (by rw [h.len]; omega)
    rw [hq, show ((n.toNat : Nat) : Int) = n by omega, hhl.last, h.view n h1 h2]
    cases lastD ls.flatten n with
    | some x => rfl
    | none => show _ = d.now.getD _ _; rw [List.getD_eq_getElem?_getD]
  · rw [b5, Int.toNat_natCast]
end
end Go.Proofs.YtegdcjnjnoeinaaGreat
namespace Go.Proofs.YtegdcjnjnoeinaaGreat
open Go.RowKit Go.Sl
set_option maxRecDepth 20000

def wrB (l : List PImg) (B : List Dat) : List Dat := l.foldl (fun B g => B.set g.1.toNat g.2) B
theorem wrB_len : ∀ (l : List PImg) (B : List Dat), (wrB l B).length = B.length
  | [], _ => rfl
  | g :: l, B => by
    have := wrB_len l (B.set g.1.toNat g.2)
    rw [List.length_set] at this
    exact this
theorem wrC_wrB : ∀ (l : List PImg) (d : DSt), (wrC l d).now = wrB l d.now
  | [], _ => rfl
  | g :: l, d => wrC_wrB l (d.put g.1 g.2)
theorem wrB_get {l : List PImg} {B : List Dat} (h : ∀ g ∈ l, 2 ≤ g.1 ∧ g.1 < (B.length : Int)) (n : Nat) (hn : n < B.length) : (wrB l B).getD n [] = (lastD l n).getD (B.getD n []) := by
  have hq := (wrC_now l ⟨B, B, [], 0, false, ⟨false, 0⟩, ⟨false, 0⟩⟩ (fun g hg => (h g hg).1) (fun g hg => (h g hg).2)).2 n hn
  rw [wrC_wrB] at hq
  rw [List.getD_eq_getElem?_getD]
  show ((wrB l B)[n]?).getD [] = _
  have hq : (wrB l B)[n]? = match lastD l n with | some x => some x | none => B[n]? := hq
  rw [hq]
  cases lastD l n with
  | some x => rfl
  | none => show _ = B.getD n []; rw [List.getD_eq_getElem?_getD]
theorem wrB_all {l : List PImg} {B : List Dat} (h : ∀ g ∈ l, g.2.length = 4096) (hB : ∀ b ∈ B, b.length = 4096) : ∀ b ∈ wrB l B, b.length = 4096 := by
  induction l generalizing B with
  | nil => exact hB
  | cons g l ih =>
    refine ih (fun x hx => h x (by simp [hx])) (B := B.set g.1.toNat g.2) fun b hb => ?_
    rcases List.mem_or_eq_of_mem_set hb with hb | rfl
    · exact hB b hb
    · exact h g (by simp)
/-- what lies on the disk while images are done -/
inductive DoSt (B : List Dat) (l : List PImg) (slot : Nat) (s : Sup) : List Dat → List (Int × Dat) → Prop
  | one (k : Nat) : DoSt B l slot s B (l.take k)
  | two : DoSt B l slot s (wrB l B) []
  | sup : DoSt B l slot s (wrB l B) [((slot : Int), supL s)]
  | done : DoSt B l slot s ((wrB l B).set slot (supL s)) []
theorem write_any {d : DSt} {n : Int} {b : Dat} (hl : 1 ≤ d.now.length) (hn : 0 ≤ n ∧ n < d.now.length) (hb : b.length = 4096) :
    ((d.write n b).2 = 0 ∧ (d.write n b).1.safe = d.safe ∧ (d.write n b).1.writes = d.writes ++ [(n, b)] ∧ (d.write n b).1.now = d.now.set n.toNat b) ∨
    ((d.write n b).2 ≠ 0 ∧ (d.write n b).1.safe = d.safe ∧ (d.write n b).1.writes = d.writes ∧ (d.write n b).1.now = d.now) := by
  obtain ⟨e1, e2, e3, _⟩ := d.stop_same
  unfold DSt.write
  have hw : wrongE d.now.length n = 0 := (wrongE_dec _ hl n).2 hn
  rw [if_neg (by omega), if_neg (by omega)]
  by_cases h : d.stop.2 ≠ 0
  · rw [if_pos h]; exact .inr ⟨h, e1, e3, e2⟩
  · rw [if_neg h]; exact .inl ⟨rfl, e1, rfl, rfl⟩
theorem flush_any (d : DSt) : (d.flush.2 = 0 ∧ d.flush.1.safe = d.now ∧ d.flush.1.writes = [] ∧ d.flush.1.now = d.now) ∨ (d.flush.2 ≠ 0 ∧ d.flush.1.safe = d.safe ∧ d.flush.1.writes = d.writes ∧ d.flush.1.now = d.now) := by
  obtain ⟨e1, e2, e3, _⟩ := d.stop_same
  unfold DSt.flush
  by_cases h : d.stop.2 ≠ 0
  · rw [if_pos h]; exact .inr ⟨h, e1, e3, e2⟩
  · rw [if_neg h]; exact .inl ⟨rfl, rfl, rfl, e2⟩
theorem wrImgs_any : ∀ (l : List PImg) (d : DSt), 1 ≤ d.now.length → DoOk d l → ∃ k, k ≤ l.length ∧ (wrImgs l d).1.safe = d.safe ∧ (wrImgs l d).1.writes = d.writes ++ l.take k ∧ (wrImgs l d).1.now = wrB (l.take k) d.now ∧ ((wrImgs l d).2 = 0 → k = l.length)
  | [], d, _, _ => ⟨0, Nat.le_refl _, rfl, by simp [wrImgs], rfl, fun _ => rfl⟩
  | g :: l, d, hl, hok => by
    obtain ⟨h1, h2, h3⟩ := hok g (by simp)
    rw [wrImgs]
    rcases write_any hl (n := g.1) (b := g.2) ⟨by omega, h2⟩ h3 with ⟨a0, a1, a2, a3⟩ | ⟨a0, a1, a2, a3⟩
    · rw [if_neg (by simp [a0])]
      have hln : (d.write g.1 g.2).1.now.length = d.now.length := by rw [a3, List.length_set]
      obtain ⟨k, hk, b1, b2, b3, b4⟩ := wrImgs_any l (d.write g.1 g.2).1 (by rw [hln]; exact hl) (fun x hx => by rw [hln]; exact hok x (by simp [hx]))
      refine ⟨k + 1, by simp; omega, by rw [b1, a1], by rw [b2, a2]; simp, by rw [b3, a3]; rfl, fun h => by rw [b4 h]; rfl⟩
    · rw [if_pos a0]
      exact ⟨0, by omega, a1, by rw [a2]; simp, by rw [a3]; rfl, fun h => absurd h a0⟩
/-- images done on whatever disk -/
theorem do_any {d : DSt} (hw : d.writes = []) (hsn : d.safe = d.now) (hlen : d.now.length = 64) {l : List PImg} (hok : DoOk d l) {s : Sup} (hR : RightS s) {slot : Nat} (hsl : slot ≤ 1) :
    DoSt d.now l slot s (doP d l s (slot : Int)).1.safe (doP d l s (slot : Int)).1.writes ∧ ((doP d l s (slot : Int)).2 = 0 → (doP d l s (slot : Int)).1.safe = (wrB l d.now).set slot (supL s) ∧ (doP d l s (slot : Int)).1.writes = [] ∧ (doP d l s (slot : Int)).1.now = (wrB l d.now).set slot (supL s)) := by
  unfold doP
  rw [if_neg (by rintro (h | h | h | h); exact h hR; omega; omega; exact h hok)]
  obtain ⟨k, hk, b1, b2, b3, b4⟩ := wrImgs_any l d (by omega) hok
  by_cases h1 : (wrImgs l d).2 ≠ 0
  · rw [if_pos h1, b1, b2, hw, hsn, List.nil_append]
    exact ⟨.one k, fun h => absurd h h1⟩
  rw [if_neg h1]
  have hkl := b4 (by omega)
  subst hkl
  rw [List.take_length] at b2 b3
  rcases flush_any (wrImgs l d).1 with ⟨f0, f1, f2, f3⟩ | ⟨f0, f1, f2, f3⟩
  rotate_left
  · rw [if_pos f0, f1, f2, b1, b2, hw, hsn, List.nil_append]
    refine ⟨?_, fun h => absurd h f0⟩
    have := DoSt.one (B := d.now) (l := l) (slot := slot) (s := s) l.length
    rwa [List.take_length] at this
  rw [if_neg (by simp [f0])]
  rw [b3] at f1 f3
  have hln : (wrImgs l d).1.flush.1.now.length = 64 := by rw [f3, wrB_len, hlen]
  generalize (wrImgs l d).1.flush.1 = e at *
  unfold lastWr
  rcases write_any (d := e) (n := (slot : Int)) (b := supL s) (by omega) ⟨by omega, by omega⟩ (supL_length _) with ⟨a0, a1, a2, a3⟩ | ⟨a0, a1, a2, a3⟩
  rotate_left
  · rw [if_pos a0, a1, a2, f1, f2]
    exact ⟨.two, fun h => absurd h a0⟩
  rw [if_neg (by simp [a0])]
  rw [Int.toNat_natCast, f3] at a3
  rw [f2, List.nil_append] at a2
  rcases flush_any (e.write slot (supL s)).1 with ⟨g0, g1, g2, g3⟩ | ⟨g0, g1, g2, g3⟩
  · rw [g1, g2, a3]
    exact ⟨.done, fun _ => ⟨rfl, rfl, by rw [g3, a3]⟩⟩
  · rw [g1, g2, a1, a2, f1]
    exact ⟨.sup, fun h => absurd h g0⟩
/-! ### a crash -/
section
variable {B C : List Dat} {ep t0 sq : Nat} {ls : List (List PImg)} {vw : Int → Dat}
theorem scan_none {rb : Nat → Dat} {ep sq t : Nat} (hold : ∀ i, Old ep sq (rb i)) : scanK rb ep 17 t sq 16 = [] := by
  refine scan_stop fun e s l hg h' => ?_
  obtain ⟨l', hd, _, _⟩ := grpP_hd hg
  have hb := (hdP_some hd).2.2.2.2.2.2
  have hR := (hdP_some hd).2.2.2.1
  have hs : (s : Int) = sq := h'.2
  have he : (e : Int) = ep := h'.1
  have h1 := hR.2.1
  have h2 := hR.2.2.2.1
  exact foreign_not ((hold t).2 e s (by omega) (by omega) (by omega)) hb
theorem rb_old (h : RBx B ep t0 sq ls vw) (hlen : C.length = 64) (hall : ∀ b ∈ C, b.length = 4096) (h0 : C.getD 0 [] = B.getD 0 []) (h1 : C.getD 1 [] = B.getD 1 []) (hring : ∀ p, 2 ≤ p → p < 18 → C.getD p [] = B.getD p [])
    (hdata : ∀ n : Nat, 18 ≤ n → n < 64 → lastD ls.flatten n = none → C.getD n [] = B.getD n []) : RBx C ep t0 sq ls vw := by
  obtain ⟨sl, hs⟩ := h.sup
  refine ⟨hlen, hall, ⟨sl, ?_⟩, h.t, ?_, h.right, h.used, h.home, fun o ho => by rw [hring _ (by omega) (by omega)]; exact h.old o ho, fun n g1 g2 => ?_⟩
  · have e : ∀ p, p = 0 ∨ p = 1 → C.getD p [] = B.getD p [] := by rintro p (rfl | rfl) <;> assumption
    have hsl := hs.at'
    refine ⟨hsl, hs.right, by rw [e sl hsl]; exact hs.cur, ?_⟩
    rw [e (1 - sl) (by omega)]
    exact hs.other
  · rw [← h.scan]
    congr 1
    funext i
    exact hring _ (by omega) (by omega)
  · rw [h.view n g1 g2]
    cases hl : lastD ls.flatten n with
    | some x => rfl
    | none =>
      have := hdata n.toNat (by omega) (by omega) (by rw [show ((n.toNat : Nat) : Int) = n by omega]; exact hl)
      rw [this]
theorem rb_new (h : RBx B ep t0 sq ls vw) {ep' t' sq' : Nat} (hlen : C.length = 64) (hall : ∀ b ∈ C, b.length = 4096) {sl : Nat} (hs : SupAt C sl ⟨64, ep', sq', t'⟩) (ht : t' < 16) (hring : ∀ p, 2 ≤ p → p < 18 → C.getD p [] = B.getD p [])
    (hold : ∀ o, o < 16 → Old ep' sq' (B.getD (2 + o) []) ∧ Old (ep' + 1) 0 (B.getD (2 + o) [])) (hdata : ∀ n : Nat, 18 ≤ n → n < 64 → C.getD n [] = (lastD ls.flatten n).getD (B.getD n [])) : RBx C ep' t' sq' [] vw := by
  refine ⟨hlen, hall, ⟨sl, hs⟩, ht, ?_, fun i hi => by simp at hi, by simp [usedP], by intro g hg; simp at hg, fun o ho => by rw [hring _ (by omega) (by omega)]; exact (hold o ho).2, fun n g1 g2 => ?_⟩
  · refine scan_none fun i => ?_
    have h16 := Nat.mod_lt i (show 16 > 0 by decide)
    rw [hring _ (by omega) (by omega)]
    exact (hold (i % 16) h16).1
  · rw [h.view n g1 g2]
    have := hdata n.toNat (by omega) (by omega)
    rw [show ((n.toNat : Nat) : Int) = n by omega] at this
    show _ = Option.getD (lastD [] n) (C.getD n.toNat [])
    rw [this]; rfl
theorem lastD_of_mem {l : List PImg} (hnd : (l.map Prod.fst).Nodup) {g : PImg} (hg : g ∈ l) : lastD l g.1 = some g.2 := by
  cases h : lastD l g.1 with
  | some x =>
    obtain ⟨y, hy, h1, h2⟩ := lastD_mem _ _ _ h
    have : ∀ {l : List PImg}, (l.map Prod.fst).Nodup → ∀ {a b : PImg}, a ∈ l → b ∈ l → a.1 = b.1 → a = b := by
      intro l
      induction l with
      | nil => intro _ a b ha; cases ha
      | cons x l ih =>
        intro hnd a b ha hb he
        rw [List.map_cons, List.nodup_cons] at hnd
        rcases List.mem_cons.1 ha with h1 | h1
        · rcases List.mem_cons.1 hb with h2 | h2
          · rw [h1, h2]
          · exact absurd (List.mem_map.2 ⟨b, h2, by rw [← he, h1]⟩) hnd.1
        · rcases List.mem_cons.1 hb with h2 | h2
          · exact absurd (List.mem_map.2 ⟨a, h1, by rw [he, h2]⟩) hnd.1
          · exact ih hnd.2 h1 h2 he
    have := this hnd hy hg h1
    rw [← h2, this]
  | none =>
    exfalso
    have key : ∀ (l : List PImg) (g : PImg), g ∈ l → lastD l g.1 ≠ none := by
      intro l
      refine snoc_ind (p := fun l : List PImg => ∀ g ∈ l, lastD l g.1 ≠ none) (by simp) ?_ l
      intro l y ih g hg
      rw [lastD_snoc]
      split
      · simp
      · rename_i hne
        rcases List.mem_append.1 hg with hg | hg
        · exact ih g hg
        · simp only [List.mem_singleton] at hg
          subst hg; exact absurd rfl hne
    exact key l g hg h
/-- images done, cut by a crash: what was there can be mounted, or what was to be; the same is shown -/
theorem do_crash (h : RBx B ep t0 sq ls vw) {sl : Nat} (hs : SupAt B sl ⟨64, ep, sq, t0⟩) {imgs : List PImg} (hi : ∀ g ∈ imgs, 18 ≤ g.1 ∧ g.1 < 64 ∧ g.2.length = 4096) (hnd : (imgs.map Prod.fst).Nodup) (hlast : ∀ n, lastD imgs n = lastD ls.flatten n)
    {ep' t' sq' : Nat} (hR : RightS ⟨64, ep', sq', t'⟩) (holder : Older ⟨64, ep, sq, t0⟩ ⟨64, ep', sq', t'⟩) (ht : t' < 16) (hold : ∀ o, o < 16 → Old ep' sq' (B.getD (2 + o) []) ∧ Old (ep' + 1) 0 (B.getD (2 + o) []))
    {safe : List Dat} {writes : List (Int × Dat)} (hd : DoSt B imgs (1 - sl) ⟨64, ep', sq', t'⟩ safe writes) (keep : List Bool) (tn : Int) (sec : Nat) :
    RBx (crashK keep tn sec 0 writes safe) ep t0 sq ls vw ∨ RBx (crashK keep tn sec 0 writes safe) ep' t' sq' [] vw := by
  have hBl := h.len
  have hsl := hs.at'
  have hi2 : ∀ g ∈ imgs, 2 ≤ g.1 ∧ g.1 < (B.length : Int) := fun g hg => by have := hi g hg; omega
  have hWl : (wrB imgs B).length = 64 := by rw [wrB_len, hBl]
  have hWa := wrB_all (fun g hg => (hi g hg).2.2) h.all
  have hWg : ∀ p, p < 64 → (wrB imgs B).getD p [] = (lastD ls.flatten p).getD (B.getD p []) := fun p hp => by rw [wrB_get hi2 p (by omega), hlast]
  have hlow : ∀ p : Nat, p < 18 → lastD ls.flatten (p : Int) = none := fun p hp => by
    rw [← hlast]
    exact lastD_none fun hm => by
      obtain ⟨g, hg, he⟩ := List.mem_map.1 hm
      have := hi g hg; omega
  have hWlow : ∀ p, p < 18 → (wrB imgs B).getD p [] = B.getD p [] := fun p hp => by rw [hWg p (by omega), hlow p hp]; rfl
  have hform := hs.form
  -- the new superblock in its place
  have newSup : ∀ C : List Dat, C.getD (1 - sl) [] = supL ⟨64, ep', sq', t'⟩ → C.getD sl [] = B.getD sl [] → SupAt C (1 - sl) ⟨64, ep', sq', t'⟩ := by
    intro C h1 h2
    refine ⟨by omega, hR, h1, .inr ⟨⟨64, ep, sq, t0⟩, hs.right, ?_, holder⟩⟩
    rw [show 1 - (1 - sl) = sl by omega, h2]; exact hs.cur
  cases hd with
  | one k =>
    left
    have hmem : ∀ w ∈ imgs.take k, w ∈ imgs := fun w hw => List.mem_of_mem_take hw
    have hndk : ((imgs.take k).map fun w => w.1.toNat).Nodup := by
      have h1 : ((imgs.map Prod.fst).map Int.toNat).Nodup := by
        rw [List.nodup_iff_pairwise_ne, List.pairwise_map]
        have hp := List.nodup_iff_pairwise_ne.1 hnd
        rw [List.pairwise_iff_forall_sublist] at hp ⊢
        intro a b hab hne
        have ha : a ∈ imgs.map Prod.fst := hab.subset (by simp)
        have hb : b ∈ imgs.map Prod.fst := hab.subset (by simp)
        obtain ⟨x, hx, rfl⟩ := List.mem_map.1 ha
        obtain ⟨y, hy, rfl⟩ := List.mem_map.1 hb
        have hx := hi x hx
        have hy := hi y hy
        exact hp hab (by omega)
      rw [List.map_map] at h1
      have hsub : ((imgs.take k).map (Int.toNat ∘ Prod.fst)).Sublist (imgs.map (Int.toNat ∘ Prod.fst)) := (List.take_sublist k imgs).map _
      exact hsub.nodup h1
    have hcr := crashK_at keep tn sec (imgs.take k) 0 B hndk (fun w hw => by have := hi w (hmem w hw); omega)
    have hno : ∀ p : Nat, lastD ls.flatten (p : Int) = none → p ∉ ((imgs.take k).map fun w => w.1.toNat) := by
      intro p hp hm
      obtain ⟨w, hw, he⟩ := List.mem_map.1 hm
      have h1 := lastD_of_mem hnd (hmem w hw)
      have h2 := hi w (hmem w hw)
      rw [hlast, show w.1 = (p : Int) by omega, hp] at h1
      cases h1
    have hsame : ∀ p : Nat, lastD ls.flatten (p : Int) = none → (crashK keep tn sec 0 (imgs.take k) B).getD p [] = B.getD p [] := fun p hp => (hcr p).1 (hno p hp)
    refine rb_old h (by rw [crashK_length]; exact hBl) (crashK_mem _ _ _ (fun w hw => by have := hi w (hmem w hw); exact ⟨by omega, this.2.2⟩) h.all) (hsame 0 (hlow 0 (by omega))) (hsame 1 (hlow 1 (by omega))) (fun p h1 h2 => hsame p (hlow p h2)) (fun n h1 h2 h3 => hsame n h3)
  | two =>
    left
    show RBx (wrB imgs B) ep t0 sq ls vw
    exact rb_old h hWl hWa (hWlow 0 (by omega)) (hWlow 1 (by omega)) (fun p _ h2 => hWlow p h2) (fun n h1 h2 h3 => by rw [hWg n h2, h3]; rfl)
  | sup =>
    have hcr := crashK_at keep tn sec [(((1 - sl : Nat) : Int), supL ⟨64, ep', sq', t'⟩)] 0 (wrB imgs B) (by simp) (fun w hw => by simp at hw; subst hw; dsimp only; omega)
    obtain ⟨C, hC⟩ : ∃ C, C = crashK keep tn sec 0 [(((1 - sl : Nat) : Int), supL ⟨64, ep', sq', t'⟩)] (wrB imgs B) := ⟨_, rfl⟩
    rw [← hC] at hcr ⊢
    have hCl : C.length = 64 := by rw [hC, crashK_length]; exact hWl
    have hCa : ∀ b ∈ C, b.length = 4096 := by rw [hC]; exact crashK_mem _ _ _ (fun w hw => by simp at hw; subst hw; exact ⟨by dsimp only; omega, supL_length _⟩) hWa
    have hoth : ∀ p, p ≠ 1 - sl → C.getD p [] = (wrB imgs B).getD p [] := fun p hp => (hcr p).1 (by simp; exact hp)
    have hslot := (hcr (1 - sl)).2 _ (List.mem_singleton.2 rfl) (by show (((1 - sl : Nat) : Int)).toNat = 1 - sl; omega)
    have hf1 : SupForm ((wrB imgs B).getD (1 - sl) []) := by
      rw [hWlow _ (by omega)]
      rcases hsl with e | e
      · subst e; exact hform.2
      · subst e; exact hform.1
    rcases out_form hf1 (.inr ⟨_, hR, rfl⟩) hslot with hx | hx
    · left
      have hall : ∀ p, p < 64 → C.getD p [] = (wrB imgs B).getD p [] := fun p hp => by
        by_cases e : p = 1 - sl
        · rw [e]; exact hx
        · exact hoth p e
      exact rb_old h hCl hCa (by rw [hall 0 (by omega)]; exact hWlow 0 (by omega)) (by rw [hall 1 (by omega)]; exact hWlow 1 (by omega)) (fun p _ h2 => by rw [hall p (by omega)]; exact hWlow p h2) (fun n h1 h2 h3 => by rw [hall n h2, hWg n h2, h3]; rfl)
    · right
      exact rb_new h hCl hCa (newSup C hx (by rw [hoth sl (by omega)]; exact hWlow _ (by omega))) ht (fun p h1 h2 => by rw [hoth p (by omega)]; exact hWlow p h2) hold (fun n h1 h2 => by rw [hoth n (by omega)]; exact hWg n h2)
  | done =>
    right
    show RBx ((wrB imgs B).set (1 - sl) (supL ⟨64, ep', sq', t'⟩)) ep' t' sq' [] vw
    have hoth : ∀ p, p ≠ 1 - sl → ((wrB imgs B).set (1 - sl) (supL ⟨64, ep', sq', t'⟩)).getD p [] = (wrB imgs B).getD p [] := fun p hp => by
      rw [List.getD_eq_getElem?_getD, List.getElem?_set_ne (fun e => hp e.symm), List.getD_eq_getElem?_getD]
    have hx : ((wrB imgs B).set (1 - sl) (supL ⟨64, ep', sq', t'⟩)).getD (1 - sl) [] = supL ⟨64, ep', sq', t'⟩ := by
      rw [List.getD_eq_getElem?_getD, List.getElem?_set_self (by omega)]; rfl
    refine rb_new h (by rw [List.length_set]; exact hWl) (fun b hb => ?_) (newSup _ hx (by rw [hoth sl (by omega)]; exact hWlow _ (by omega))) ht (fun p h1 h2 => by rw [hoth p (by omega)]; exact hWlow p h2) hold (fun n h1 h2 => by rw [hoth n (by omega)]; exact hWg n h2)
    rcases List.mem_or_eq_of_mem_set hb with hb | rfl
    · exact hWa b hb
    · exact supL_length _
end
end Go.Proofs.YtegdcjnjnoeinaaGreat
namespace Go.Proofs.YtegdcjnjnoeinaaGreat
open Go.RowKit Go.Sl
set_option maxRecDepth 20000

theorem ringB_bears2 {ep : Nat} : ∀ (l : List (List PImg)) (sq : Nat), (∀ (i : Nat) (h : i < l.length), RightP ep ((sq + i : Nat) : Int) l[i]) → ∀ b ∈ ringB ep sq l, b.length = 4096 ∧ ∃ s', s' < sq + l.length ∧ s' ≤ 549755813888 ∧ Bears (stampB ep s') b
  | [], _, _, b, hb => by simp [ringB] at hb
  | g :: l, sq, hR, b, hb => by
    rw [ringB] at hb
    have h0 : RightP ep ((sq : Nat) : Int) g := by have := hR 0 (by simp); rw [Nat.add_zero] at this; exact this
    rcases List.mem_append.1 hb with hb | hb
    · have hl := h0.lens
      have h32 := h0.2.2.2.2.2.1
      have hsq : (sq : Int) ≤ 549755813888 := h0.2.2.2.1
      rw [putP_eq] at hb
      rcases List.mem_cons.1 hb with rfl | hb
      · exact ⟨hblk_length h32 hl, sq, by simp, by omega, hblk_bears h32 hl⟩
      · obtain ⟨x, hx, rfl⟩ := List.mem_map.1 hb
        have hx4 := hl x hx
        exact ⟨by rw [markK_length (stampB_length _ _) 8 (by omega) (by omega)]; exact hx4, sq, by simp, by omega, mark_bears (stampB_length _ _) hx4⟩
    · obtain ⟨h1, s', h2, h3, h4⟩ := ringB_bears2 l (sq + 1) (fun i hi => by
        have := hR (i + 1) (by simpa using hi)
        rw [show sq + (i + 1) = sq + 1 + i by omega] at this
        simpa using this) b hb
      exact ⟨h1, s', by simp; omega, h3, h4⟩
theorem crash_out (keep : List Bool) (tn : Int) (sec tail p : Nat) (hp : p < 2 ∨ 18 ≤ p) : ∀ (bs : List Dat) (u i : Nat) (s : List Dat), s.length = 64 → (crashK keep tn sec i (wL tail u bs) s).getD p [] = s.getD p []
  | [], _, _, _, _ => rfl
  | b :: bs, u, i, s, hs => by
    rw [wL, crashK]
    dsimp only
    rw [Int.toNat_natCast, crash_out keep tn sec tail p hp bs (u + 1) (i + 1) _ (by rw [crash1_length]; exact hs)]
    exact (crash1_get keep tn sec i (2 + (tail + u) % 16) b s p (by omega)).1 (by omega)
theorem wL_mem (tail : Nat) : ∀ (bs : List Dat) (u : Nat) (w : Int × Dat), w ∈ wL tail u bs → (2 ≤ w.1 ∧ w.1 < 18) ∧ w.2 ∈ bs
  | [], _, _, h => by simp [wL] at h
  | b :: bs, u, w, h => by
    rw [wL] at h
    rcases List.mem_cons.1 h with rfl | h
    · refine ⟨by dsimp only; omega, by simp⟩
    · obtain ⟨h1, h2⟩ := wL_mem tail bs (u + 1) w h
      exact ⟨h1, by simp [h2]⟩
/-- what lies safe on a disk, and what is pending: groups, of which the first m are safe -/
structure KC (ep t0 sq : Nat) (safe : List Dat) (writes : List (Int × Dat)) (ls : List (List PImg)) (m : Nat) : Prop where
  len : safe.length = 64
  all : ∀ b ∈ safe, b.length = 4096
  sup : ∃ sl, SupAt safe sl ⟨64, ep, sq, ((t0 % 16 : Nat) : Int)⟩
  le : m ≤ ls.length
  wr : ∃ c, writes = wL t0 (usedP (ls.take m)) ((ringB ep (sq + m) (ls.drop m)).take c)
  used : usedP ls ≤ 16
  right : ∀ (i : Nat) (h : i < ls.length), RightP ep ((sq + i : Nat) : Int) ls[i]
  home : HomeOk (layOf 64) ls.flatten
  ring : ∀ (o : Nat) (h : o < (ringB ep sq ls).length), o < usedP (ls.take m) → safe.getD (2 + (t0 + o) % 16) [] = (ringB ep sq ls)[o]
  rest : ∀ o, usedP (ls.take m) ≤ o → o < 16 → Old ep (sq + m) (safe.getD (2 + (t0 + o) % 16) [])
theorem ringB_app (ep : Nat) : ∀ (a b : List (List PImg)) (q : Nat), ringB ep q (a ++ b) = ringB ep q a ++ ringB ep (q + a.length) b
  | [], b, q => by simp [ringB]
  | x :: a, b, q => by rw [List.cons_append, ringB, ringB_app ep a, ringB, List.append_assoc, List.length_cons, show q + 1 + a.length = q + (a.length + 1) by omega]
section
variable {ep t0 sq m : Nat} {safe : List Dat} {writes : List (Int × Dat)} {ls : List (List PImg)}
theorem right_bounds {l : List PImg} (h : RightP ep ((sq : Nat) : Int) l) : ep ≤ 8388608 ∧ sq ≤ 549755813888 := by
  have h1 := h.2.1
  have h2 := h.2.2.2.1
  omega
theorem bears_old1 {s : Nat} {b : Dat} (hl : b.length = 4096) (hb : Bears (stampB ep s) b) (hep : ep ≤ 8388608) (hs : s ≤ 549755813888) : Old (ep + 1) 0 b :=
  ⟨hl, fun e s' he h1 h2 => bears_foreign hb (stamp_ne2 hep h1 hs h2 (by omega))⟩
theorem KC.crash (h : KC ep t0 sq safe writes ls m) (hep : ep ≤ 8388608) (hsq : sq + ls.length ≤ 549755813889) (keep : List Bool) (tn : Int) (sec : Nat) :
    ∃ n, m ≤ n ∧ n ≤ ls.length ∧ RBx (crashK keep tn sec 0 writes safe) ep (t0 % 16) sq (ls.take n) (fun x => (lastD (ls.take n).flatten x).getD (safe.getD x.toNat [])) := by
  obtain ⟨c, hc⟩ := h.wr
  have hlen := h.len
  have hm := h.le
  have hu := h.used
  have hsp := usedP_split ls m
  have hrl := ringB_length ep ls sq
  have hrd := ringB_length ep (ls.drop m) (sq + m)
  have hrt := ringB_length ep (ls.take m) sq
  have htl : (ls.take m).length = m := by rw [List.length_take]; omega
  have hrsp : ringB ep sq ls = ringB ep sq (ls.take m) ++ ringB ep (sq + m) (ls.drop m) := by
    conv => lhs; rw [← List.take_append_drop m ls]
    rw [ringB_app, htl]
  obtain ⟨R, hRd⟩ : ∃ R, R = (ringB ep (sq + m) (ls.drop m)).take c := ⟨_, rfl⟩
  obtain ⟨u, hud⟩ : ∃ u, u = usedP (ls.take m) := ⟨_, rfl⟩
  have hRl : R.length ≤ usedP (ls.drop m) := by rw [hRd, List.length_take]; omega
  have hRg : ∀ (k : Nat) (h1 : k < R.length) (h2 : u + k < (ringB ep sq ls).length), R[k] = (ringB ep sq ls)[u + k] := by
    intro k h1 h2
    have e1 : (ringB ep sq ls)[u + k]? = R[k]? := by
      rw [hrsp, List.getElem?_append_right (by omega), hRd, List.getElem?_take, if_pos (by rw [hRd, List.length_take] at h1; omega)]
      congr 1; omega
    rw [List.getElem?_eq_getElem h2, List.getElem?_eq_getElem h1] at e1
    exact (Option.some.inj e1).symm
  rw [← hud, ← hRd] at hc
  have hcl := crash_wL keep tn sec t0 R u 0 safe hlen (by omega)
  have hrest := h.rest
  rw [← hud] at hrest
  have hring := h.ring
  rw [← hud] at hring
  have hrb2 := fun (o : Nat) (ho : o < (ringB ep sq ls).length) => ringB_bears2 ls sq h.right _ (List.getElem_mem ho)
  obtain ⟨C, hC⟩ : ∃ C, C = crashK keep tn sec 0 writes safe := ⟨_, rfl⟩
  have hCe : C = crashK keep tn sec 0 (wL t0 u R) safe := by rw [hC, hc]
  rw [← hCe] at hcl
  have hout := fun p hp => crash_out keep tn sec t0 p hp R u 0 safe hlen
  rw [← hCe] at hout
  have hold0 : ∀ o, o < 16 → Old (ep + 1) 0 (safe.getD (2 + (t0 + o) % 16) []) := by
    intro o ho
    by_cases hou : o < u
    · have h2 : o < (ringB ep sq ls).length := by omega
      rw [hring o h2 hou]
      obtain ⟨q1, s', _, q3, q4⟩ := hrb2 o h2
      exact bears_old1 q1 q4 hep q3
    · exact (hrest o (by omega) ho).mono (by omega)
  rw [← hC]
  obtain ⟨n, n1, n2, hs⟩ := scan_from (rb := fun i => C.getD (2 + i % 16) []) (ep := ep) (t0 := t0 % 16) (sq := sq) (m := m) (ls := ls) hm h.right hu hsq
    (fun o ho hlt => by
      rw [show (t0 % 16 + o) % 16 = (t0 + o) % 16 by omega, (hcl o (by omega)).2 (by omega), hring o ho (by omega)])
    (fun o ho hge s hs1 hs2 hb => by
      rw [show (t0 % 16 + o) % 16 = (t0 + o) % 16 by omega] at hb ⊢
      have ho2 := hrest o (by omega) (by omega)
      have hfo := ho2.2 ep s (by omega) hep hs2
      by_cases hin : o - u < R.length
      · have hget := hRg (o - u) hin (by omega)
        have hnl : R[o - u].length = 4096 := by rw [hget]; exact (hrb2 _ _).1
        have e : (ringB ep sq ls)[o] = R[o - u] := by rw [hget]; congr 1; omega
        rw [e]
        rcases (hcl o (by omega)).1 (by omega) hin with g | g | g
        · rw [g] at hb; exact absurd hb (foreign_not hfo)
        · exact g
        · rw [g] at hb ⊢
          exact torn_bears ho2.1 hnl (stampB_length _ _) hfo hb
      · rw [(hcl o (by omega)).2 (by omega)] at hb
        exact absurd hb (foreign_not hfo))
    (fun o ho1 ho2 s hs1 hs2 hb => by
      rw [show (t0 % 16 + o) % 16 = (t0 + o) % 16 by omega, (hcl o (by omega)).2 (by omega)] at hb
      exact foreign_not ((hrest o (by omega) (by omega)).2 ep s (by omega) hep hs2) hb)
  have hsn := usedP_split ls n
  have hCl : C.length = 64 := by rw [hC, crashK_length]; exact hlen
  refine ⟨n, n1, n2, hCl, ?_, ?_, by omega, hs, fun i hi => ?_, by omega, fun g hg => ?_, fun o ho => ?_, fun x h1 h2 => ?_⟩
  · rw [hCe]
    refine crashK_mem _ _ _ (fun w hw => ?_) h.all
    obtain ⟨q1, q2⟩ := wL_mem t0 R u w hw
    refine ⟨by omega, ?_⟩
    obtain ⟨k, hk⟩ := List.mem_iff_getElem?.1 q2
    have hk1 := (List.getElem?_eq_some_iff.1 hk).1
    rw [List.getElem?_eq_getElem hk1] at hk
    rw [← Option.some.inj hk, hRg k hk1 (by omega)]
    exact (hrb2 _ _).1
  · obtain ⟨sl, hs0⟩ := h.sup
    have hsl := hs0.at'
    refine ⟨sl, hsl, hs0.right, ?_, ?_⟩
    · rw [hout sl (by omega)]; exact hs0.cur
    · rw [hout (1 - sl) (by omega)]; exact hs0.other
  · rw [List.getElem_take]; exact h.right i (by rw [List.length_take] at hi; omega)
  · refine h.home g ?_
    obtain ⟨l, hl, hgl⟩ := List.mem_flatten.1 hg
    exact List.mem_flatten.2 ⟨l, List.mem_of_mem_take hl, hgl⟩
  · -- the ring
    obtain ⟨o', ho', he⟩ : ∃ o', o' < 16 ∧ (t0 + o') % 16 = o := ⟨(o + 16 - t0 % 16) % 16, by omega, by omega⟩
    have h0 := hold0 o' ho'
    rw [← he]
    by_cases hin : u ≤ o' ∧ o' - u < R.length
    · have hget := hRg (o' - u) hin.2 (by omega)
      have hnew : Old (ep + 1) 0 R[o' - u] := by
        rw [hget]
        obtain ⟨q1, s', _, q3, q4⟩ := hrb2 (u + (o' - u)) (by omega)
        exact bears_old1 q1 q4 hep q3
      rcases (hcl o' ho').1 hin.1 hin.2 with g | g | g
      · rw [g]; exact h0
      · rw [g]; exact hnew
      · rw [g]; exact old_torn h0 hnew sec
    · rw [(hcl o' ho').2 hin]; exact h0
  · show _ = Option.getD _ (C.getD x.toNat [])
    rw [hout x.toNat (by omega)]
end
end Go.Proofs.YtegdcjnjnoeinaaGreat
namespace Go.Proofs.YtegdcjnjnoeinaaGreat
open Go.RowKit Go.Sl
set_option maxRecDepth 20000
theorem images11_of (aL : Option Addr) (capL : Nat) (z : List Int) (hz : z.length ≤ 40) (hz2 : ∀ x ∈ z, In64 x) (k : Int) (hk : In64 k) (I : Imm) (hL : Rds I aL z.length (ints z)) :
    Tri Tryz.prog 15 #[.slice aL z.length capL, .int .i64 k] I [] fun v J S' => ∃ a cap ch gs, v = .slice a z.length cap ∧ OwnC ch 2 a z.length cap (imgCells gs) ∧ gs.map Img.pr = imgsP z k 0 ∧ (∀ g ∈ gs, ImgOk J g ∧ g.len = 4096) ∧ S' = [ch] := by
  refine Tri.of (args := [.slice aL z.length capL, .int .i64 k]) tabOk Tryz.func15 rfl (by kernel_rfl) (by kernel_rfl) ?_
  refine CodeF.loopD [0, 1, 5, 6] (fun vs J S' => ∃ (i : Nat) (kk : Int) (a : Option Addr) (cap : Nat) (ch : List Blk) (gs : List Img), i ≤ z.length ∧ In64 kk ∧ OwnC ch 2 a i cap (imgCells gs) ∧ gs.length = i ∧ gs.map Img.pr ++ imgsP (z.drop i) kk i = imgsP z k 0 ∧ (∀ g ∈ gs, ImgOk J g ∧ g.len = 4096) ∧ I.le J ∧
      vs = [.slice aL z.length capL, .int .i64 kk, .slice a i cap, .int .i64 i] ∧ S' = [ch])
    (fun vs _ _ => match vs with | [_, _, _, .int _ i] => ((z.length : Int) - i).toNat | _ => 0) ?_ ?_
  · exact ⟨_, Drop.and (Drop.refl _), 0, k, none, 0, [], [], by omega, hk, OwnC.nil _ _, rfl, rfl, by simp, I.le_refl, rfl, rfl⟩
  rintro vs g J S' hJ ⟨i, kk, a, cap, ch, gs, hi, hkk, hown, hgs, hbl, hok, hle, rfl, rfl⟩
  refine CmpD.split (fun c1 => ?_) (fun c1 => ?_)
  · refine CmpD.yes (by omega) ?_
    have hil : i < z.length := by omega
    rcases hL.mem with q0 | ⟨bL, oL, cL, TL, fL, rfl, hIL, hcL⟩
    · omega
    refine CodeF.sched [[], [], [], [1, 2], [1, 2, 3], [], [5], [1, 2, 3, 4, 5, 6], [1, 2, 3, 4, 5, 6, 7], [0, 1, 2, 3, 4, 5, 6, 7, 8], [0, 1, 2, 3, 4, 5, 6, 7, 8, 9]] [0, 1, 2, 3, 4, 5, 6, 7, 8, 9, 10] (by kernel_rfl) ?_
    refine Chk.mk (by omega) ?_
    refine LoadP.imm [.int .i64 z[i]] ⟨cL, TL, fL, .imm (hle _ _ hIL), take_get hcL (ints_get (List.getElem?_eq_getElem hil)), rfl⟩ ?_
    refine Tri.free (made kk 4096 (by omega) J) ?_
    have hdr : z.drop i = z[i] :: z.drop (i + 1) := List.drop_eq_getElem_cons hil
    rw [hdr, imgsP] at hbl
    rintro v J1 _ hJ1 ⟨aD, rfl, hrD⟩
    conv => whnf
    intro bN
    refine appendD tabOk rfl rfl rfl rfl rfl rfl rfl 0 rfl hown (SrcOk.slice (n := 1) (news := imgCells [⟨z[i], aD, 4096, 4096, madeL kk 4096⟩]) tabOk rfl ((OwnC.whole (len := 1) (size := 2) rfl).slC 1 rfl) (by intro v hv; simp [imgCells] at hv; rcases hv with rfl | rfl <;> rfl)) rfl (by show (i + 1) * 32 ≤ _; omega) (by omega) ?_
    intro a2 cap2 ch2 hown2
    refine Chk.mk (by omega) ?_
    have hk2 := tdiv2_range hkk
    refine ToD.i64 (by omega) (by omega) ?_
    refine ToD.i64 (by omega) (by omega) ?_
    refine ToD.i64 (by omega) (by omega) ?_
    refine ⟨_, Drop.pick [0] _ rfl, ⟨i + 1, _, a2, cap2, ch2, gs ++ [⟨z[i], aD, 4096, 4096, madeL kk 4096⟩], by omega, ?_, by rw [imgCells_snoc]; exact hown2, ?_, ?_, ?_, Imm.le_trans hle hJ1, rfl, rfl⟩, ?_⟩
    · unfold In64; omega
    · simp [hgs]
    · rw [List.map_append, List.append_assoc]; exact hbl
    · intro g hg
      rcases List.mem_append.1 hg with hg | hg
      · exact ⟨(hok g hg).1.mono hJ1, (hok g hg).2⟩
      · simp only [List.mem_singleton] at hg
        subst hg
        exact ⟨⟨hz2 _ (List.getElem_mem hil), hrD⟩, rfl⟩
    · show ((z.length : Int) - ((i : Int) + 1)).toNat < ((z.length : Int) - (i : Int)).toNat
      omega
  · obtain rfl : i = z.length := by omega
    refine Done.mk ⟨a, cap, ch, gs, rfl, hown, by rw [← hbl, List.drop_length, imgsP, List.append_nil], hok, rfl⟩
theorem images11_fix (aL : Option Addr) (capL : Nat) (z : List Int) (hz : z.length ≤ 40) (hz2 : ∀ x ∈ z, In64 x) (k : Int) (hk : In64 k) (I : Imm) (hL : Rds I aL z.length (ints z)) :
    Tri Tryz.prog 15 #[.slice aL z.length capL, .int .i64 k] I [] fun v J _ => ∃ a cap gs, v = .slice a gs.length cap ∧ ImgsOk J a gs ∧ gs.map Img.pr = imgsP z k 0 := by
  refine Tri.fixed (images11_of aL capL z hz hz2 k hk I hL) ?_
  rintro v J S' hJ ⟨a, cap, ch, gs, rfl, hown, hgs, hok, rfl⟩
  have hl : gs.length = z.length := by have := congrArg List.length hgs; rw [List.length_map, imgsP_length] at this; exact this
  refine ⟨0, ch, rfl, fun J' hJ' hm => ⟨a, cap, gs, by rw [hl], ⟨?_, fun g hg => (hok g hg).1.mono hJ'⟩, hgs⟩⟩
  rw [hl]
  exact Rds.of_ownS hown hm
end Go.Proofs.YtegdcjnjnoeinaaGreat
namespace Go.Proofs.YtegdcjnjnoeinaaGreat
open Go.RowKit Go.Sl
set_option maxRecDepth 20000

def sE (ep : Int) : Sup := ⟨64, ep, 1, 0⟩
theorem sE_right {ep : Int} (h : 1 ≤ ep ∧ ep ≤ 8388608) : RightS (sE ep) := ⟨by show (64 : Int) ≤ 64; decide, by show (64 : Int) ≤ 512; decide, h.1, h.2, by show (1 : Int) ≤ 1; decide, by show (1 : Int) ≤ 549755813888; decide, by show (0 : Int) ≤ 0; decide, by show (0 : Int) ≤ 511; decide⟩
theorem getS_noughts : getS noughts = none := by
  cases h : getS noughts with
  | none => rfl
  | some s =>
    have h2 := (getS_some.1 h).2
    have h3 := congrArg (·.head?) h2
    simp [supL, sup44, sup40, magicL, noughts] at h3
def v0 : VSt := ⟨openJ 64 2 1 0, 2, 0, [], false⟩
def dV : DSt := dz (supL (sE 1)) (supL (sE 2)) 24
theorem mount_first : mountP (dz (supL (sE 1)) noughts 23) = (dV, 0, some v0) := by
  have h := mount_dz (a := supL (sE 1)) (b := noughts) (c := 23) (s := sE 1) (slot := 0) (by rw [get_supL (sE_right (by omega)), getS_noughts]; rfl) (sE_right (by omega)) rfl (by show (0 : Int) < 16; decide) (by show (1 : Int) < 8388608; decide) (by omega)
  rw [if_neg (by decide), if_neg (by decide)] at h
  exact h
theorem mount_again (c : Int) : mountP (dz (supL (sE 1)) (supL (sE 2)) c) = (dz (supL (sE 3)) (supL (sE 2)) (c + 1), 0, some ⟨openJ 64 3 1 0, 3, 1, [], false⟩) := by
  have h := mount_dz (a := supL (sE 1)) (b := supL (sE 2)) (c := c) (s := sE 2) (slot := 1) (by rw [get_supL (sE_right (by omega)), get_supL (sE_right (by omega))]; rfl) (sE_right (by omega)) rfl (by show (0 : Int) < 16; decide) (by show (2 : Int) < 8388608; decide) (by omega)
  rw [if_pos rfl, if_pos rfl] at h
  exact h
theorem v0_wf : v0.j.Wf := openJ_wf 64 (by omega) ⟨rfl, by omega, by omega, by omega, by omega, by omega, by rw [layL_64']; omega⟩
theorem law_fresh (I : Imm) : Tri Tryz.prog 14 #[] I [] fun r J S' => ∃ bD bV chD chV, r = .tuple #[.pointer (some ⟨bD, 0, none⟩), .pointer (some ⟨bV, 0, none⟩), .bool true] ∧ Dk J bD dV chD ∧ Vk J bV bD v0 chV ∧ S' = [chV, chD] := by
  refine Tri.drop ?_ (fun _ _ _ _ h => h)
  refine Tri.of (args := []) tabOk Tryz.func14 rfl (by kernel_rfl) (by kernel_rfl) ?_
  refine Tri.frameX (dk_New I 64 (by omega)) [] rfl rfl ?_
  rintro r J1 A' hJ1 ⟨bD, chD, rfl, hD, rfl⟩
  repeat (first | refine CmpD.yes rfl ?_)
  refine Tri.frame1 0 rfl (vk_Format hD ((DSt.of_few _).mono (by omega))) ?_
  rw [format_new]
  rintro r J2 A' hJ2 ⟨rfl, chD2, hD2, rfl⟩
  refine ⟨_, rfl, ?_⟩
  repeat (first | refine CmpD.yes rfl ?_)
  have hf : (dz (supL ⟨64, 1, 1, 0⟩) noughts 23).Few 700000 := (dz_few _ _ 23).mono (by omega)
  refine Tri.frameX (vk_Mount hD2 hf) [0] rfl rfl ?_
  rw [show mountP (dz (supL ⟨64, 1, 1, 0⟩) noughts 23) = (dV, 0, some v0) from mount_first]
  rintro r J3 A' hJ3 ⟨chD3, hD3, (⟨h, _⟩ | ⟨_, v, bV, chV, hv, rfl, hV, rfl⟩)⟩
  · exact absurd rfl h
  cases hv
  repeat (first | refine CmpD.yes rfl ?_)
  exact Done.mk ⟨_, Drop.pick [2, 1] _ rfl, bD, bV, chD3, chV, rfl, hD3, hV, rfl⟩
theorem law_has {bV bD : Nat} {v : VSt} {ch : List Blk} {I : Imm} (h : Vk I bV bD v ch) {d : DSt} {chD : List Blk} (hD : Dk I bD d chD) (hfew : ∀ g ∈ v.fresh, g.2.length ≤ 1000000) (n : Int) (aB : Option Addr) (lB capB : Nat) (b : Dat) (hB : Rds I aB lB (bts b)) :
    Tri Tryz.prog 21 #[.pointer (some ⟨bV, 0, none⟩), .int .i64 n, .slice aB lB capB] I [ch, chD] fun r J S' => r = .bool (decide ((v.read d n).2 = 0 ∧ (v.read d n).1 = b)) ∧ I = J ∧ S' = [ch, chD] := by
  refine Tri.drop ?_ (fun _ _ _ _ h => h)
  refine Tri.of (args := [.pointer (some ⟨bV, 0, none⟩), .int .i64 n, .slice aB lB capB]) tabOk Tryz.func21 rfl (by kernel_rfl) (by kernel_rfl) ?_
  refine Tri.nf (vk_Read h hD hfew n) ?_
  generalize v.read d n = rd
  obtain ⟨x, e⟩ := rd
  dsimp only
  rintro r _ A' hJ ⟨a, cap, chB, rfl, hO, rfl, rfl⟩
  skip
  refine CmpD.split (fun (c1 : e = 0) => ?_) (fun (c1 : ¬ e = 0) => ?_)
  · skip
    refine Tri.mono (same_bytes (hO.slC1 2 rfl) hB.slC) ?_
    rintro r _ _ hJ ⟨rfl, rfl, rfl⟩
    by_cases hx : x = b
    · rw [decide_eq_true hx, decide_eq_true ⟨c1, hx⟩]
      exact Done.mk ⟨_, Drop.pick [0, 1] _ rfl, rfl, rfl, rfl⟩
    · rw [decide_eq_false hx, decide_eq_false (fun h => hx h.2)]
      exact Done.mk ⟨_, Drop.pick [0, 1] _ rfl, rfl, rfl, rfl⟩
  · rw [decide_eq_false (fun h => c1 h.1)]
    skip
    exact Done.mk ⟨_, Drop.pick [0, 1] _ rfl, rfl, rfl, rfl⟩
theorem wrD_rest (f : Nat → Int) : ∀ (bs : List Dat) (i : Nat) (d : DSt), (wrD f bs i d).safe = d.safe ∧ (wrD f bs i d).count = d.count + bs.length
  | [], _, _ => by simp [wrD]
  | b :: bs, i, d => by
    obtain ⟨h1, h2⟩ := wrD_rest f bs (i + 1) (d.put (f i) b)
    rw [wrD, h1, h2]
    refine ⟨rfl, ?_⟩
    show d.count + 1 + (bs.length : Int) = d.count + ((bs.length + 1 : Nat) : Int)
    omega
theorem commit_first {d : DSt} (hc : d.Calm) (hlen : d.now.length = 64) {l : List PImg} (hR : RightP 2 1 l) (hho : HomeOk (layOf 64) l) (hl : l.length + 1 ≤ 16) :
    ∃ (j : JSt) (f : Nat → Int), v0.commit d l = (⟨j, 2, 0, l.foldl pput [], false⟩, wrD f (putP 2 1 l) 0 d, 1, 0) := by
  have h1 := hR.2.2.2.2.1
  have hs : v0.j.s = 16 := layL_64'
  obtain ⟨j', a, _⟩ := JSt.append_next (j := v0.j) (held := false) v0_wf (by show 0 ≤ _; omega) rfl (d := d) (l := l) hR (by rw [hs]; omega) hc (by rw [hs, hlen]; decide) (t := 0) (u := (l.length : Int) + 1) (h := 0) (at_ := 0) (by
    rw [hs]
    show putS 16 0 0 0 ((l.length : Int) + 1) (if false = true then (l.length : Int) + 1 else 0) = _
    unfold putS
    have hok : Ok 16 0 0 0 := by unfold Ok; omega
    rw [if_neg (by simp only [Bool.false_eq_true, if_false]; rintro (h | h | h | h | h); exact h hok; omega; omega; omega; omega), if_neg (by simp only [Bool.false_eq_true, if_false]; omega)]
    simp)
  have hbn : blocksN (l.length : Int) = (l.length : Int) + 1 := by unfold blocksN; rw [if_neg (by omega)]
  refine ⟨j', fun i => 2 + (0 + (i : Int)) % v0.j.s, ?_⟩
  unfold VSt.commit
  rw [if_neg (by show ¬ false = true; simp), if_neg (fun h => h hho), if_neg (fun h => h hR)]
  have hft : v0.fits (l.length : Int) = true := by
    unfold VSt.fits
    rw [hbn]
    exact decide_eq_true ⟨by omega, by show (l.length : Int) + 1 ≤ layL ((64 : Nat) : Int); rw [layL_64']; omega⟩
  rw [if_neg (by rw [hft]; simp), hbn, if_neg (by rw [hs]; show ¬ (16 : Int) - 0 - 0 < _; omega)]
  unfold VSt.app
  rw [a]
  dsimp only
  rw [if_neg (by simp)]
  rfl
set_option maxHeartbeats 4000000 in
theorem awake11 (I : Imm) (S : St) : Tri Tryz.prog 22 #[] I S fun v _ _ => v = .bool true := by
  refine Tri.free (Q := fun v _ _ => v = .bool true) ?_ (fun v J _ _ h => h)
  refine Tri.of (args := []) tabOk Tryz.func22 rfl (by kernel_rfl) (by kernel_rfl) ?_
  refine Tri.frameX (law_fresh I) [] rfl rfl ?_
  rintro r J1 A' hJ1 ⟨bD, bV, chD, chV, rfl, hD, hV, rfl⟩
  skip
  refine Tri.frame1 0 rfl (vk_Next hV) ?_
  rintro r _ A' hJ ⟨rfl, rfl, rfl⟩
  refine ⟨_, rfl, ?_⟩
  repeat (first | refine CmpD.yes rfl ?_)
  refine Tri.frame1 0 rfl (vk_Synced hV) ?_
  rintro r _ A' hJ ⟨rfl, rfl, rfl⟩
  refine ⟨_, rfl, ?_⟩
  repeat (first | refine CmpD.yes rfl ?_)
  conv => whnf
  intro bR
  refine Tri.fix 2 rfl fun I2 hI2 hRm => ?_
  have hz : Rds I2 (some ⟨bR, 0, none⟩) 2 (ints (rowL 2)) := ⟨rfl, .inr ⟨bR, 0, _, _, _, rfl, hRm _ (List.mem_singleton.2 rfl), rfl⟩⟩
  refine Tri.free (images11_fix (some ⟨bR, 0, none⟩) 2 (rowL 2) (by decide) (rowL_in 2 (by omega)) 5 (by unfold In64; omega) I2 hz) ?_
  rintro r J3 _ hJ3 ⟨aI, capI, gs, rfl, hI, hgs⟩
  have hgl : gs.length = 2 := by have := congrArg List.length hgs; rwa [List.length_map, imgsP_length, rowL_length] at this
  have hle3 := Imm.le_trans hI2 hJ3
  have hR := right_row (e := 2) (s := 1) (by omega) (by omega) 2 (by omega) 5
  have hho : HomeOk (layOf 64) (imgsP (rowL 2) 5 0) := by
    intro g hg
    have : g.1 ∈ rowL 2 := by rw [← imgsP_fst (rowL 2) 5 0]; exact List.mem_map_of_mem hg
    simp [rowL] at this
    obtain ⟨i, hi, hgi⟩ := this
    show (18 : Int) ≤ g.1 ∧ g.1 < 64
    omega
  obtain ⟨j1, f, hcm⟩ := commit_first (d := dV) (dz_calm _ _ _) (zL_length _ _) hR hho (by rw [imgsP_length, rowL_length]; decide)
  refine Tri.frame (vk_Commit (hV.mono hle3) v0_wf rfl (by show (0 : Int) ≤ 0 ∧ (0 : Int) ≤ 1; omega) (by show 0 ≤ 1000; omega) (by show 0 ≤ _; omega) (hD.mono hle3) ((dz_few _ _ 24).mono (by omega)) aI capI gs hI (by omega)) [0, 1] rfl rfl ?_
  rw [hgs, hcm]
  dsimp only
  rintro r J4 A' hJ4 ⟨rfl, chV4, chD4, hV4, hD4, rfl⟩
  refine ⟨Nat.le_refl _, ?_⟩
  repeat (first | refine CmpD.yes rfl ?_)
  refine Tri.free (made 5 4096 (by omega) J4) ?_
  rintro r J5 _ hJ5 ⟨aM, rfl, hM⟩
  skip
  have hrow : imgsP (rowL 2) 5 0 = [(30, madeL 5 4096), (31, madeL ((5 : Int).tdiv 2 + (0 : Nat)) 4096)] := rfl
  have hfr : (imgsP (rowL 2) 5 0).foldl pput [] = imgsP (rowL 2) 5 0 := by rw [hrow]; simp [pput]
  have hfew : ∀ g ∈ (imgsP (rowL 2) 5 0).foldl pput [], g.2.length ≤ 1000000 := by rw [hfr]; intro g hg; have := imgsP_snd _ _ _ g hg; omega
  refine Tri.frame (law_has (hV4.mono hJ5) (hD4.mono hJ5) hfew 30 aM 4096 4096 (madeL 5 4096) hM) [0, 1] rfl rfl ?_
  have hrd : VSt.read ⟨j1, 2, 0, (imgsP (rowL 2) 5 0).foldl pput [], false⟩ (wrD f (putP 2 1 (imgsP (rowL 2) 5 0)) 0 dV) 30 = (madeL 5 4096, 0) := by
    unfold VSt.read
    rw [if_neg (by simp), hfr, hrow]
    rfl
  rw [hrd, decide_eq_true ⟨rfl, rfl⟩]
  rintro r _ A' hJ6 ⟨rfl, rfl, rfl⟩
  refine ⟨Nat.le_refl _, ?_⟩
  skip
  obtain ⟨hsafe, hcount⟩ := wrD_rest f (putP 2 1 (imgsP (rowL 2) 5 0)) 0 dV
  have hfew4 : (wrD f (putP 2 1 (imgsP (rowL 2) 5 0)) 0 dV).Few 1000000 := (wrD_few f _ 0 dV 24 (dz_few _ _ 24)).mono (by rw [putP_length, imgsP_length, rowL_length]; omega)
  refine Tri.frame1 1 rfl (dk_Crash (hD4.mono hJ5) hfew4 none 0 0 [] ⟨rfl, .inl rfl⟩ (-1) 0 (by omega)) ?_
  have hcr : (wrD f (putP 2 1 (imgsP (rowL 2) 5 0)) 0 dV).crash [] (-1) 0 = dz (supL (sE 1)) (supL (sE 2)) 27 := by
    unfold DSt.crash
    rw [crash_none, hsafe, hcount, putP_length, imgsP_length, rowL_length]
    rfl
  rw [hcr]
  rintro r J7 A' hJ7 ⟨rfl, chD7, hD7, rfl⟩
  refine ⟨_, rfl, ?_⟩
  repeat (first | refine CmpD.yes rfl ?_)
  refine Tri.frameX (vk_Mount hD7 ((dz_few _ _ 27).mono (by omega))) [1] rfl rfl ?_
  rw [mount_again]
  rintro r J8 A' hJ8 ⟨chD8, hD8, (⟨h, _⟩ | ⟨_, v, bV8, chV8, hv, rfl, hV8, rfl⟩)⟩
  · exact absurd rfl h
  cases hv
  repeat (first | refine CmpD.yes rfl ?_)
  refine makeH tabOk rfl rfl rfl 4096 4096 rfl rfl (Nat.le_refl _) (by show 1 * 4096 ≤ _; decide) (by decide) (by show 4096 * 1 ≤ _; decide) rfl (by decide) ?_
  intro bN NB hNB
  skip
  refine Tri.fix 5 rfl fun I9 hI9 hNm => ?_
  have hN : Rds I9 (some ⟨bN, 0, none⟩) 4096 (bts noughts) := by
    rw [noughts_bts]
    exact Rds.of_own (cap := 4096) (by rw [hNB]; show OwnC [(bN, row (rows 4096 [Value.int .u8 0]) _)] 1 _ _ _ _; exact OwnC.whole (by rw [rows_length]; rfl)) hNm
  refine Tri.frame (law_has (hV8.mono hI9) (hD8.mono hI9) (by intro g hg; simp at hg) 30 (some ⟨bN, 0, none⟩) 4096 4096 noughts hN) [4, 3] rfl rfl ?_
  have hrd2 : VSt.read ⟨openJ 64 3 1 0, 3, 1, [], false⟩ (dz (supL (sE 3)) (supL (sE 2)) (27 + 1)) 30 = (noughts, 0) := by
    unfold VSt.read
    rw [if_neg (by simp)]
    show (dz (supL (sE 3)) (supL (sE 2)) (27 + 1)).read ((30 : Nat) : Int) = _
    rw [read_up (dz_wf (supL_length _) (supL_length _) _) rfl (by show 30 < (zL _ _).length; rw [zL_length]; omega)]
    show ((zL _ _).getD 30 [], (0 : Int)) = _
    rw [List.getD_eq_getElem?_getD, zL_get _ _ 30 (by omega) (by omega)]; rfl
  rw [hrd2, decide_eq_true ⟨rfl, rfl⟩]
  rintro r _ A' hJ10 ⟨rfl, rfl, rfl⟩
  refine ⟨Nat.le_refl _, ?_⟩
  skip
  refine Tri.frame1 4 rfl (vk_Next (hV8.mono hI9)) ?_
  rintro r _ A' hJ11 ⟨rfl, rfl, rfl⟩
  refine ⟨_, rfl, ?_⟩
  repeat (first | refine CmpD.yes rfl ?_)
  exact Done.mk rfl
end Go.Proofs.YtegdcjnjnoeinaaGreat
namespace Go.Proofs.YtegdcjnjnoeinaaGreat
open Go.RowKit Go.Sl
set_option maxRecDepth 20000

structure KV (ep t0 sq : Nat) (v : VSt) (d : DSt) (ls : List (List PImg)) (m k : Nat) : Prop where
  w : WV ep t0 sq v d ls k
  sup : SupAt d.safe (1 - v.slot.toNat) ⟨64, ep, sq, ((t0 % 16 : Nat) : Int)⟩
  le : m ≤ ls.length
  wr : d.writes = wL t0 (usedP (ls.take m)) (ringB ep (sq + m) (ls.drop m))
  ring : ∀ (o : Nat) (h : o < (ringB ep sq ls).length), o < usedP (ls.take m) → d.safe.getD (2 + (t0 + o) % 16) [] = (ringB ep sq ls)[o]
  rest : ∀ o, usedP (ls.take m) ≤ o → o < 16 → Old ep (sq + m) (d.safe.getD (2 + (t0 + o) % 16) [])
  nowrest : ∀ o, usedP ls ≤ o → o < 16 → d.now.getD (2 + (t0 + o) % 16) [] = d.safe.getD (2 + (t0 + o) % 16) []
  same : ∀ p, p < 64 → (p < 2 ∨ 18 ≤ p) → d.now.getD p [] = d.safe.getD p []
  sy : v.j.synced = ((sq + m : Nat) : Int) - 1
section
variable {ep t0 sq m k : Nat} {v : VSt} {d : DSt} {ls : List (List PImg)}
theorem KV.mono {n : Nat} (w : KV ep t0 sq v d ls m k) (h : k ≤ n) : KV ep t0 sq v d ls m n := { w with w := w.w.mono h }
theorem KV.safe_len (w : KV ep t0 sq v d ls m k) : d.safe.length = 64 := by rw [w.w.e.dwf.len, w.w.e.len]
theorem KV.kc (w : KV ep t0 sq v d ls m k) : KC ep t0 sq d.safe d.writes ls m :=
  ⟨w.safe_len, w.w.e.dwf.safe, ⟨_, w.sup⟩, w.le, ⟨(ringB ep (sq + m) (ls.drop m)).length, by rw [w.wr, List.take_length]⟩, w.w.e.used, w.w.e.right, w.w.home, w.ring, w.rest⟩
theorem SupAt.same {B C : List Dat} {sl : Nat} {s : Sup} (h : SupAt B sl s) (h0 : C.getD 0 [] = B.getD 0 []) (h1 : C.getD 1 [] = B.getD 1 []) : SupAt C sl s := by
  have e : ∀ p, p = 0 ∨ p = 1 → C.getD p [] = B.getD p [] := by rintro p (rfl | rfl) <;> assumption
  have hsl := h.at'
  refine ⟨hsl, h.right, by rw [e sl hsl]; exact h.cur, ?_⟩
  rw [e (1 - sl) (by omega)]
  exact h.other
theorem getD_eq' {a b : List Dat} {p : Nat} (h : a[p]? = b[p]?) : a.getD p [] = b.getD p [] := by
  rw [List.getD_eq_getElem?_getD, List.getD_eq_getElem?_getD, h]
theorem KV.app (w : KV ep t0 sq v d ls m k) {l : List PImg} (hho : HomeOk (layOf 64) l) (hR : RightP ep ((sq + ls.length : Nat) : Int) l) (hroom : usedP ls + (l.length + 1) ≤ 16) :
    ∃ v' d', v.app d l = (v', d', ((sq + ls.length : Nat) : Int), 0) ∧ KV ep t0 sq v' d' (ls ++ [l]) m (k + 16) ∧ (∀ n, 18 ≤ n → n < 64 → v'.cur d' n = (lastD l n).getD (v.cur d n)) := by
  obtain ⟨v', a, w', hcur, hsy, hsl⟩ := w.w.app hho hR hroom
  have hle := w.le
  have hge := usedP_ge ls
  have hsp := usedP_split ls m
  have hrd := ringB_length ep (ls.drop m) (sq + m)
  have hpl := putP_length ep (sq + ls.length) l
  obtain ⟨r1, r2⟩ := wrD_rest (rgAt (t0 + usedP ls)) (putP ep (sq + ls.length) l) 0 d
  have hwr := wrD_wL t0 (usedP ls) (putP ep (sq + ls.length) l) 0 d
  have hmiss := fun p hp => wrD_miss (fun k => 2 + (t0 + usedP ls + k) % 16) p (putP ep (sq + ls.length) l) 0 d hp
  have hfe : rgAt (t0 + usedP ls) = fun k => ((2 + (t0 + usedP ls + k) % 16 : Nat) : Int) := rfl
  rw [← hfe] at hwr hmiss
  obtain ⟨d', hd'⟩ : ∃ d', d' = wrD (rgAt (t0 + usedP ls)) (putP ep (sq + ls.length) l) 0 d := ⟨_, rfl⟩
  rw [← hd'] at a w' hcur r1 r2 hwr hmiss
  have htk : (ls ++ [l]).take m = ls.take m := by rw [List.take_append_of_le_length hle]
  have hdr : (ls ++ [l]).drop m = ls.drop m ++ [l] := by rw [List.drop_append_of_le_length hle]
  have hrdl : (ls.drop m).length = ls.length - m := List.length_drop
  refine ⟨v', d', a, ⟨w', by rw [hsl, r1]; exact w.sup, by simp; omega, ?_, ?_, ?_, ?_, ?_, by rw [hsy, w.sy]⟩, hcur⟩
  · rw [hwr, w.wr, htk, hdr, ringB_snoc, wL_append, hrd, ← hsp, hrdl, Nat.add_zero, show sq + m + (ls.length - m) = sq + ls.length by omega]
  · intro o ho hlt
    rw [htk] at hlt
    have hrl := ringB_length ep ls sq
    have hlt2 : o < (ringB ep sq ls).length := by omega
    rw [r1, w.ring o hlt2 hlt]
    have e0 : (ringB ep sq (ls ++ [l]))[o]? = (ringB ep sq ls)[o]? := by rw [ringB_snoc, List.getElem?_append_left hlt2]
    rw [List.getElem?_eq_getElem ho, List.getElem?_eq_getElem hlt2] at e0
    exact (Option.some.inj e0).symm
  · intro o h1 h2
    rw [htk] at h1
    rw [r1]; exact w.rest o h1 h2
  · intro o h1 h2
    rw [usedP_snoc] at h1
    rw [r1, ← w.nowrest o (by omega) h2]
    exact getD_eq' (hmiss _ (fun k hk => by omega))
  · intro p h1 h2
    rw [r1, ← w.same p h1 h2]
    exact getD_eq' (hmiss _ (fun k hk => by omega))
theorem KV.sync (w : KV ep t0 sq v d ls m k) : ∃ v' d', v.sync d = (v', d', 0) ∧ KV ep t0 sq v' d' ls ls.length k ∧ (∀ n, v'.cur d' n = v.cur d n) ∧ d'.now = d.now := by
  obtain ⟨j', a, w', hs⟩ := w.w.e.flush
  have hle := w.le
  have hv : v.sync d = ({ v with j := j', broken := false }, { d with safe := d.now, writes := [] }, 0) := by
    unfold VSt.sync
    rw [if_neg (by rw [w.w.broken]; simp), a]
    rfl
  refine ⟨_, _, hv, ⟨⟨w', w.w.epoch, w.w.slot, w.w.fresh, w.w.home, rfl⟩, ?_, Nat.le_refl _, ?_, ?_, ?_, fun _ _ _ => rfl, fun _ _ _ => rfl, ?_⟩, fun n => rfl, rfl⟩
  · exact w.sup.same (w.same 0 (by omega) (by omega)) (w.same 1 (by omega) (by omega))
  · rw [List.drop_length]; rfl
  · intro o ho _
    exact w.w.e.ring o ho
  · intro o h1 h2
    rw [List.take_length] at h1
    show Old ep _ (d.now.getD _ [])
    rw [w.nowrest o h1 h2]
    exact (w.rest o (by have := usedP_split ls m; omega) h2).mono (by omega)
  · rw [hs, w'.next]
theorem KV.ckpt (w : KV ep t0 sq v d ls m k) (hsq : sq + ls.length ≤ 549755813888) :
    ∃ v' d', v.ckpt d = (v', d', 0) ∧ KV ep (t0 + usedP ls) (sq + ls.length) v' d' [] 0 (k + 17) ∧ (∀ n, 18 ≤ n → n < 64 → v'.cur d' n = v.cur d n) := by
  obtain ⟨v', d', a, w', hcur, hsy, hsl, hfr, hw, hsn, hnow⟩ := w.w.ckpt hsq
  have hho := w.w.fresh_home
  have hlen := w.w.e.len
  have hslot := w.w.slot
  have hle := w.le
  have hu := w.w.e.used
  have hrl := ringB_length ep ls sq
  have hq := fun (n : Nat) (hn : n < 64) => (wrC_now (sortP v.fresh) ({ d with safe := d.now, writes := [] } : DSt) (fun g hg => by have := hho g hg; omega) (fun g hg => by have := hho g hg; show _ < (d.now.length : Int); omega)).2 n (by show n < d.now.length; omega)
  have hln := (wrC_now (sortP v.fresh) ({ d with safe := d.now, writes := [] } : DSt) (fun g hg => by have := hho g hg; omega) (fun g hg => by have := hho g hg; show _ < (d.now.length : Int); omega)).1
  have hlow : ∀ p, p < 18 → p ≠ v.slot.toNat → d'.now.getD p [] = d.now.getD p [] := by
    intro p hp hne
    refine getD_eq' ?_
    rw [hnow, List.getElem?_set_ne (fun e => hne e.symm), hq p (by omega)]
    have hno : lastD (sortP v.fresh) (p : Int) = none := lastD_none fun hm => by
      obtain ⟨g, hg, he⟩ := List.mem_map.1 hm
      have := hho g hg; omega
    rw [hno]
  have hsup := w.sup
  have hbear : ∀ (o : Nat) (ho : o < (ringB ep sq ls).length), Old ep (sq + ls.length) (ringB ep sq ls)[o] := by
    intro o ho
    obtain ⟨q1, s', q2, q3, q4⟩ := ringB_bears2 ls sq w.w.e.right _ (List.getElem_mem ho)
    exact old_bears q1 q4 w.w.e.epr.2 q3 q2
  have hold : ∀ o, o < 16 → Old ep (sq + ls.length) (d.now.getD (2 + (t0 + o) % 16) []) := by
    intro o ho
    by_cases hou : o < usedP ls
    · have := w.w.e.ring o (by omega)
      unfold rbP at this
      rw [this]
      exact hbear o (by omega)
    · rw [w.nowrest o (by omega) ho]
      exact (w.rest o (by have := usedP_split ls m; omega) ho).mono (by omega)
  have hep := w.w.e.epr
  have hpos := w.w.e.pos
  have hRs : RightS ⟨64, (ep : Int), ((sq + ls.length : Nat) : Int), (((t0 + usedP ls) % 16 : Nat) : Int)⟩ :=
    ⟨by show (64 : Int) ≤ 64; decide, by show (64 : Int) ≤ 512; decide, by show (1 : Int) ≤ (ep : Int); omega, by show (ep : Int) ≤ 8388608; omega, by show (1 : Int) ≤ ((sq + ls.length : Nat) : Int); omega, by show ((sq + ls.length : Nat) : Int) ≤ 549755813888; omega, by show (0 : Int) ≤ (((t0 + usedP ls) % 16 : Nat) : Int); omega, by show (((t0 + usedP ls) % 16 : Nat) : Int) ≤ 511; omega⟩
  have hs0 : v.slot.toNat = 0 ∨ v.slot.toNat = 1 := by rcases hslot with h | h <;> simp [h]
  have hs1 : 1 - v'.slot.toNat = v.slot.toNat := by rw [hsl]; rcases hslot with h | h <;> simp [h]
  refine ⟨v', d', a, ⟨w', ?_, Nat.le_refl _, ?_, ?_, ?_, fun _ _ _ => by rw [hsn], fun _ _ _ => by rw [hsn], ?_⟩, hcur⟩
  · rw [hs1, hsn]
    refine ⟨hs0, hRs, ?_, .inr ⟨⟨64, ep, sq, ((t0 % 16 : Nat) : Int)⟩, hsup.right, ?_, ?_⟩⟩
    · rw [hnow, w.w.sup, List.getD_eq_getElem?_getD, List.getElem?_set_self (by rw [hln]; show _ < d.now.length; omega)]; rfl
    · rw [hlow _ (by omega) (by omega), w.same _ (by omega) (by omega)]
      exact hsup.cur
    · by_cases h0 : ls = []
      · left; subst h0; simp [usedP]
      · right; right
        have : 0 < ls.length := List.length_pos_iff.2 h0
        exact ⟨rfl, by show (sq : Int) < ((sq + ls.length : Nat) : Int); omega⟩
  · rw [hw]; rfl
  · intro o ho _; simp [ringB] at ho
  · intro o _ h2
    rw [hsn]
    obtain ⟨o', ho', he⟩ : ∃ o', o' < 16 ∧ (t0 + o') % 16 = (t0 + usedP ls + o) % 16 := ⟨(usedP ls + o) % 16, by omega, by omega⟩
    rw [hlow _ (by omega) (by omega), ← he]
    exact hold o' ho'
  · rw [hsy, w'.e.next]; rfl
/-- a commit, calm -/
theorem KV.commit (w : KV ep t0 sq v d ls m k) {l : List PImg} (hho : HomeOk (layOf 64) l) (hR : RightP ep ((sq + ls.length : Nat) : Int) l) (hl : l.length + 1 ≤ 16) :
    ∃ v' d' t1 sq' ls' m', v.commit d l = (v', d', ((sq + ls.length : Nat) : Int), 0) ∧ KV ep t1 sq' v' d' ls' m' (k + 33) ∧ sq' + ls'.length = sq + ls.length + 1 ∧ (∀ n, 18 ≤ n → n < 64 → v'.cur d' n = (lastD l n).getD (v.cur d n)) := by
  have hll := hR.2.2.2.2.1
  have hsq : sq + ls.length ≤ 549755813888 := by have := hR.2.2.2.1; omega
  have hb : blocksN (l.length : Int) = l.length + 1 := by unfold blocksN; rw [if_neg (by omega)]
  have hu := w.w.e.used
  have hc : v.commit d l = if v.j.s - v.j.u - v.j.h < blocksN l.length then (if (v.ckpt d).2.2 ≠ 0 then ((v.ckpt d).1, (v.ckpt d).2.1, 0, (v.ckpt d).2.2) else (v.ckpt d).1.app (v.ckpt d).2.1 l) else v.app d l := by
    unfold VSt.commit
    rw [if_neg (by rw [w.w.broken]; simp), if_neg (by rw [w.w.e.lay]; exact fun h => h hho), if_neg (by rw [w.w.epoch, w.w.e.next]; exact fun h => h hR), if_neg (by rw [w.w.fits ⟨hll, hl⟩]; simp)]
  rw [hc, hb, w.w.e.s, w.w.e.u, w.w.e.h]
  by_cases hr : (16 : Int) - ((usedP ls : Nat) : Int) - 0 < (l.length : Int) + 1
  · rw [if_pos hr]
    obtain ⟨v1, d1, a1, w1, c1⟩ := w.ckpt hsq
    rw [a1]
    dsimp only
    rw [if_neg (by simp)]
    obtain ⟨v2, d2, a2, w2, c2⟩ := w1.app hho (by simpa using hR) (by simp [usedP]; omega)
    refine ⟨v2, d2, _, _, _, _, a2, w2.mono (by omega), by simp, fun n h1 h2 => ?_⟩
    rw [c2 n h1 h2, c1 n h1 h2]
  · rw [if_neg hr]
    obtain ⟨v2, d2, a2, w2, c2⟩ := w.app hho hR (by omega)
    exact ⟨v2, d2, _, _, _, _, a2, w2.mono (by omega), by simp; omega, c2⟩
end
end Go.Proofs.YtegdcjnjnoeinaaGreat
namespace Go.Proofs.YtegdcjnjnoeinaaGreat
open Go.RowKit Go.Sl
set_option maxRecDepth 20000

theorem v0_kv : KV 2 0 1 v0 dV [] 0 24 := by
  have h1 : (dV.safe.getD 1 []) = supL (sE 2) := rfl
  have h0 : (dV.safe.getD 0 []) = supL (sE 1) := rfl
  refine ⟨⟨openJ_we (by omega) (by omega) (by omega) (dz_calm _ _ _) (dz_wf (supL_length _) (supL_length _) _) (zL_length _ _) (dz_few _ _ 24), rfl, .inl rfl, rfl, by intro g hg; simp at hg, rfl⟩, ?_, Nat.le_refl _, rfl, fun o ho => by simp [ringB] at ho, fun o _ h2 => ?_, fun _ _ _ => rfl, fun _ _ _ => rfl, rfl⟩
  · exact ⟨.inr rfl, sE_right (by omega), h1, .inr ⟨sE 1, sE_right (by omega), h0, .inr (.inl (by show (1 : Int) < 2; decide))⟩⟩
  · have : dV.safe.getD (2 + (0 + o) % 16) [] = noughts := by
      show (zL _ _).getD _ _ = _
      rw [List.getD_eq_getElem?_getD, zL_get _ _ _ (by omega) (by omega)]; rfl
    rw [this]
    exact old_noughts (by omega)
section
variable {ep t0 sq m k : Nat} {v : VSt} {d : DSt} {ls : List (List PImg)} {vw : Int → Dat}
theorem KV.view (w : KV ep t0 sq v d ls m k) {n : Int} (h1 : 18 ≤ n) (h2 : n < 64) : v.cur d n = (lastD ls.flatten n).getD (d.safe.getD n.toNat []) := by
  unfold VSt.cur
  rw [w.w.lookup]
  cases lastD ls.flatten n with
  | some x => rfl
  | none => exact w.same n.toNat (by omega) (by omega)
theorem KV.crash (w : KV ep t0 sq v d ls m k) (keep : List Bool) (tn : Int) (sec : Nat) :
    ∃ n, m ≤ n ∧ n ≤ ls.length ∧ RBx (d.crash keep tn sec).now ep (t0 % 16) sq (ls.take n) (fun x => (lastD (ls.take n).flatten x).getD (d.safe.getD x.toNat [])) := by
  refine w.kc.crash w.w.e.epr.2 ?_ keep tn sec
  by_cases h0 : ls = []
  · subst h0
    have h := w.sup.right.2.2.2.2.2.1
    have h : (sq : Int) ≤ 549755813888 := h
    simp; omega
  · have hl : 0 < ls.length := List.length_pos_iff.2 h0
    have := (right_bounds (w.w.e.right (ls.length - 1) (by omega))).2
    omega
/-- what lies on the disk, nothing pending -/
theorem KV.rbx (w : KV ep t0 sq v d ls m k) (hm : m = ls.length) : RBx d.safe ep (t0 % 16) sq ls (fun x => (lastD ls.flatten x).getD (d.safe.getD x.toNat [])) := by
  have hw : d.writes = [] := by
    rw [w.wr, hm, List.drop_length]; rfl
  obtain ⟨n, h1, h2, h⟩ := w.crash [] (-1) 0
  obtain rfl : n = ls.length := by omega
  rw [List.take_length] at h
  have e : (d.crash [] (-1) 0).now = d.safe := by
    show crashK [] (-1) 0 0 d.writes d.safe = _
    rw [hw]; rfl
  rw [e] at h
  exact h
theorem mount_kv (hc : d.Calm) (hw : d.Wf) (h : RBx d.now ep t0 sq ls vw) (hep : ep < 8388608) (hsq : sq + ls.length ≤ 549755813888) (hf : d.Few k) :
    ∃ e v t1, mountP d = (e, 0, some v) ∧ KV (ep + 1) t1 (sq + ls.length) v e [] 0 (k + 17) ∧ (∀ n : Int, 18 ≤ n → n < 64 → v.cur e n = vw n) ∧ e.writes = [] ∧ e.safe = e.now := by
  obtain ⟨sl, e, v, hs, a, w', hsl, hwr, hsn, hfr, hsy, hcur, hnow⟩ := mount_calm hc hw h hep hsq hf
  have hlens := h.lens
  have hhl := home_homL hlens
  have hok : ∀ g ∈ homeP ls.flatten, 2 ≤ g.1 ∧ g.1 < d.now.length := fun g hg => by obtain ⟨h1, h2, _⟩ := hhl.ok g hg; exact ⟨by omega, by rw [h.len]; exact h2⟩
  have hq := wrC_now (homeP ls.flatten) d (fun g hg => (hok g hg).1) (fun g hg => (hok g hg).2)
  have hsl1 := hs.at'
  have hll := h.len
  have hlow : ∀ p, p < 18 → p ≠ 1 - sl → e.now.getD p [] = d.now.getD p [] := by
    intro p hp hne
    refine getD_eq' ?_
    rw [hnow, List.getElem?_set_ne (fun e => hne e.symm), hq.2 p (by omega)]
    have hno : lastD (homeP ls.flatten) (p : Int) = none := lastD_none fun hm => by
      obtain ⟨g, hg, he⟩ := List.mem_map.1 hm
      have := hhl.ok g hg; omega
    rw [hno]
  have hslv : 1 - v.slot.toNat = 1 - sl := by rw [hsl]; omega
  have hep1 := h.bounds
  refine ⟨e, v, _, a, ⟨w', ?_, Nat.le_refl _, by rw [hwr]; rfl, fun o ho => by simp [ringB] at ho, fun o _ h2 => ?_, fun _ _ _ => by rw [hsn], fun _ _ _ => by rw [hsn], by rw [hsy, w'.e.next]; rfl⟩, hcur, hwr, hsn⟩
  · rw [hslv, hsn]
    refine ⟨by omega, ?_, ?_, .inr ⟨_, hs.right, ?_, .inr (.inl (by show (ep : Int) < ((ep + 1 : Nat) : Int); omega))⟩⟩
    · exact ⟨by show (64 : Int) ≤ 64; decide, by show (64 : Int) ≤ 512; decide, by show (1 : Int) ≤ ((ep + 1 : Nat) : Int); omega, by show ((ep + 1 : Nat) : Int) ≤ 8388608; omega, by show (1 : Int) ≤ ((sq + ls.length : Nat) : Int); omega, by show ((sq + ls.length : Nat) : Int) ≤ 549755813888; omega, by show (0 : Int) ≤ (((t0 + usedP ls) % 16 % 16 : Nat) : Int); omega, by show (((t0 + usedP ls) % 16 % 16 : Nat) : Int) ≤ 511; omega⟩
    · rw [hnow, List.getD_eq_getElem?_getD, List.getElem?_set_self (by rw [hq.1]; omega), Nat.mod_mod]; rfl
    · rw [show 1 - (1 - sl) = sl by omega, hlow sl (by omega) (by omega)]
      exact hs.cur
  · rw [hsn, hlow _ (by omega) (by omega)]
    exact (h.old _ (Nat.mod_lt _ (by decide))).mono (by omega)
/-- mounting, whatever comes in the way, and a crash behind it -/
theorem mount_any (hup : d.down = false) (hw : d.writes = []) (hsn : d.safe = d.now) (h : RBx d.now ep t0 sq ls vw) (hep : ep + 1 < 8388608) (hsq : sq + ls.length ≤ 549755813888) (keep : List Bool) (tn : Int) (sec : Nat) :
    ∃ ep' t' sq' ls', RBx ((mountP d).1.crash keep tn sec).now ep' t' sq' ls' vw ∧ ep' ≤ ep + 1 ∧ sq' + ls'.length = sq + ls.length := by
  obtain ⟨sl, hs, hfd, hsc⟩ := h.found hup (by omega)
  obtain ⟨hep1, hsq1⟩ := h.bounds
  have hsl := hs.at'
  have hlens := h.lens
  have hhl := home_homL hlens
  have hok : DoOk d (homeP ls.flatten) := fun g hg => by obtain ⟨h1, h2, h3⟩ := hhl.ok g hg; exact ⟨by omega, by rw [h.len]; exact h2, h3⟩
  have hpl : placeP 16 t0 (gsP ep sq ls) = (t0 + usedP ls) % 16 := by unfold placeP; rw [gsP_sum]
  have hgl := gsP_length ep ls sq
  have hag := allG_gsP ep ls sq
  have hRS : RightS ⟨64, ((ep + 1 : Nat) : Int), ((sq + ls.length : Nat) : Int), (((t0 + usedP ls) % 16 : Nat) : Int)⟩ :=
    ⟨by show (64 : Int) ≤ 64; decide, by show (64 : Int) ≤ 512; decide, by show (1 : Int) ≤ ((ep + 1 : Nat) : Int); omega, by show ((ep + 1 : Nat) : Int) ≤ 8388608; omega, by show (1 : Int) ≤ ((sq + ls.length : Nat) : Int); omega, by show ((sq + ls.length : Nat) : Int) ≤ 549755813888; omega, by show (0 : Int) ≤ (((t0 + usedP ls) % 16 : Nat) : Int); omega, by show (((t0 + usedP ls) % 16 : Nat) : Int) ≤ 511; omega⟩
  have hsl1 : (1 : Int) - (sl : Int) = ((1 - sl : Nat) : Int) := by omega
  have e1 : (((ep : Nat) : Int) + 1) = ((ep + 1 : Nat) : Int) := by omega
  have e2 : (((sq : Nat) : Int) + (((gsP ep sq ls).length : Nat) : Int)) = ((sq + ls.length : Nat) : Int) := by rw [hgl]; omega
  have hm : (mountP d).1 = (doP d (homeP ls.flatten) ⟨64, ((ep + 1 : Nat) : Int), ((sq + ls.length : Nat) : Int), (((t0 + usedP ls) % 16 : Nat) : Int)⟩ ((1 - sl : Nat) : Int)).1 := by
    unfold mountP
    rw [h.len, if_neg (by decide), hfd]
    dsimp only
    rw [if_neg (by simp), hsc]
    unfold mountL
    rw [show (layL ((64 : Nat) : Int)).toNat = 16 by rw [layL_64']; rfl]
    dsimp only
    rw [Int.toNat_natCast, hpl, hag, e1, e2, hsl1]
    rw [if_neg (by rintro (h' | h'); exact h' h.home; rw [hgl] at h'; omega)]
    split <;> rfl
  obtain ⟨hd, _⟩ := do_any hw hsn h.len hok hRS (slot := 1 - sl) (by omega)
  rw [← hm] at hd
  have hcr := do_crash h hs (fun g hg => hhl.ok g hg) (homeP_nodup _) hhl.last hRS (.inr (.inl (by show (ep : Int) < ((ep + 1 : Nat) : Int); omega))) (Nat.mod_lt _ (by decide)) (fun o ho => ⟨(h.old o ho).mono (by omega), (h.old o ho).mono (by omega)⟩) hd keep tn sec
  rcases hcr with hcr | hcr
  · exact ⟨_, _, _, _, hcr, by omega, rfl⟩
  · exact ⟨_, _, _, _, hcr, by omega, by simp⟩
end
end Go.Proofs.YtegdcjnjnoeinaaGreat
namespace Go.Proofs.YtegdcjnjnoeinaaGreat
open Go.RowKit Go.Sl
set_option maxRecDepth 20000

/-- a disk, nothing armed -/
def DSt.still (d : DSt) : DSt := { d with arm := ⟨false, 0⟩, fault := ⟨false, 0⟩ }
theorem DSt.still_calm {d : DSt} (h : d.down = false) : d.still.Calm := ⟨h, rfl, rfl⟩
theorem DSt.stop_go {d : DSt} (h : d.stop.2 = 0) : d.stop.1.down = false ∧ d.down = false := by
  unfold DSt.stop at *
  cases hd : d.down with
  | true => rw [hd] at h; exact absurd h (by show ¬ (6 : Int) = 0; decide)
  | false =>
    rw [hd] at h
    cases ha : d.arm.step.2 with
    | true => rw [ha] at h; exact absurd h (by show ¬ (6 : Int) = 0; decide)
    | false => exact ⟨rfl, rfl⟩
theorem write_still {d : DSt} {n : Int} {b : Dat} (h : (d.write n b).2 = 0) : d.still.write n b = ((d.write n b).1.still, 0) ∧ (d.write n b).1.down = false := by
  obtain ⟨e1, e2, e3, e4⟩ := d.stop_same
  unfold DSt.write at *
  by_cases h1 : wrongE d.now.length n ≠ 0
  · rw [if_pos h1] at h; exact absurd h h1
  rw [if_neg h1] at h
  by_cases h2 : b.length ≠ 4096
  · rw [if_pos h2] at h; exact absurd h (by show ¬ (2 : Int) = 0; decide)
  rw [if_neg h2] at h
  by_cases h3 : d.stop.2 ≠ 0
  · rw [if_pos h3] at h; exact absurd h h3
  obtain ⟨g1, g2⟩ := DSt.stop_go (by omega : d.stop.2 = 0)
  rw [if_neg (show ¬ wrongE d.still.now.length n ≠ 0 from h1), if_neg h2, if_neg h1, if_neg h2, if_neg h3, DSt.stop_calm (DSt.still_calm g2), if_neg (by simp)]
  refine ⟨?_, g1⟩
  unfold DSt.still
  rw [e1, g1, g2]
theorem flush_still {d : DSt} (h : d.flush.2 = 0) : d.still.flush = (d.flush.1.still, 0) ∧ d.flush.1.down = false := by
  obtain ⟨e1, e2, e3, e4⟩ := d.stop_same
  unfold DSt.flush at *
  by_cases h3 : d.stop.2 ≠ 0
  · rw [if_pos h3] at h; exact absurd h h3
  obtain ⟨g1, g2⟩ := DSt.stop_go (by omega : d.stop.2 = 0)
  rw [if_neg h3, DSt.stop_calm (DSt.still_calm g2), if_neg (by simp)]
  refine ⟨?_, g1⟩
  unfold DSt.still
  dsimp only
  rw [e2, e4, g1, g2]
theorem write_any2 (d : DSt) (n : Int) (b : Dat) : (d.write n b).1.safe = d.safe ∧ (((d.write n b).2 = 0 ∧ (d.write n b).1.writes = d.writes ++ [(n, b)]) ∨ ((d.write n b).2 ≠ 0 ∧ (d.write n b).1.writes = d.writes)) := by
  obtain ⟨e1, e2, e3, e4⟩ := d.stop_same
  unfold DSt.write
  by_cases h1 : wrongE d.now.length n ≠ 0
  · rw [if_pos h1]; exact ⟨rfl, .inr ⟨h1, rfl⟩⟩
  rw [if_neg h1]
  by_cases h2 : b.length ≠ 4096
  · rw [if_pos h2]; exact ⟨rfl, .inr ⟨by show (2 : Int) ≠ 0; decide, rfl⟩⟩
  rw [if_neg h2]
  by_cases h3 : d.stop.2 ≠ 0
  · rw [if_pos h3]; exact ⟨e1, .inr ⟨h3, e3⟩⟩
  · rw [if_neg h3]; exact ⟨e1, .inl ⟨rfl, rfl⟩⟩
theorem wrAll_still (f : Nat → Int) : ∀ (bs : List Dat) (i : Nat) (d : DSt), d.down = false → (wrAll f bs i d).2 = 0 → wrAll f bs i d.still = ((wrAll f bs i d).1.still, 0) ∧ (wrAll f bs i d).1.down = false
  | [], _, _, hd, _ => ⟨rfl, hd⟩
  | b :: bs, i, d, _, h => by
    have hu : ∀ x : DSt, wrAll f (b :: bs) i x = if (x.write (f i) b).2 ≠ 0 then x.write (f i) b else wrAll f bs (i + 1) (x.write (f i) b).1 := fun _ => rfl
    rw [hu] at h
    by_cases h1 : (d.write (f i) b).2 ≠ 0
    · rw [if_pos h1] at h; exact absurd h h1
    obtain ⟨g1, g2⟩ := write_still (by omega : (d.write (f i) b).2 = 0)
    rw [hu d, hu d.still, g1, if_neg h1, if_neg (by simp)]
    rw [if_neg h1] at h
    exact wrAll_still f bs (i + 1) _ g2 h
theorem wrAll_any (t u : Nat) : ∀ (bs : List Dat) (i : Nat) (d : DSt), (wrAll (rgAt (t + u)) bs i d).1.safe = d.safe ∧ ∃ c, (wrAll (rgAt (t + u)) bs i d).1.writes = d.writes ++ wL t (u + i) (bs.take c)
  | [], _, _ => ⟨rfl, 0, by simp [wrAll, wL]⟩
  | b :: bs, i, d => by
    obtain ⟨e1, e2⟩ := write_any2 d (rgAt (t + u) i) b
    rw [wrAll]
    rcases e2 with ⟨h1, h2⟩ | ⟨h1, h2⟩
    · rw [if_neg (by omega)]
      obtain ⟨g1, c, g2⟩ := wrAll_any t u bs (i + 1) (d.write (rgAt (t + u) i) b).1
      refine ⟨by rw [g1, e1], c + 1, ?_⟩
      rw [g2, h2, List.take_succ_cons, wL, List.append_assoc]
      have : rgAt (t + u) i = ((2 + (t + (u + i)) % 16 : Nat) : Int) := by unfold rgAt; rw [Nat.add_assoc]
      rw [this]; rfl
    · rw [if_pos h1]
      exact ⟨e1, 0, by rw [h2]; simp [wL]⟩
theorem wrImgs_still : ∀ (l : List PImg) (d : DSt), d.down = false → (wrImgs l d).2 = 0 → wrImgs l d.still = ((wrImgs l d).1.still, 0) ∧ (wrImgs l d).1.down = false
  | [], _, hd, _ => ⟨rfl, hd⟩
  | g :: l, d, _, h => by
    have hu : ∀ x : DSt, wrImgs (g :: l) x = if (x.write g.1 g.2).2 ≠ 0 then x.write g.1 g.2 else wrImgs l (x.write g.1 g.2).1 := fun _ => rfl
    rw [hu] at h
    by_cases h1 : (d.write g.1 g.2).2 ≠ 0
    · rw [if_pos h1] at h; exact absurd h h1
    obtain ⟨g1, g2⟩ := write_still (by omega : (d.write g.1 g.2).2 = 0)
    rw [hu d, hu d.still, g1, if_neg h1, if_neg (by simp)]
    rw [if_neg h1] at h
    exact wrImgs_still l _ g2 h
theorem doP_still {d : DSt} (hd : d.down = false) {l : List PImg} {s : Sup} {slot : Int} (h : (doP d l s slot).2 = 0) : doP d.still l s slot = ((doP d l s slot).1.still, 0) ∧ (doP d l s slot).1.down = false := by
  unfold doP at *
  by_cases h1 : ¬ RightS s ∨ slot < 0 ∨ 1 < slot ∨ ¬ DoOk d l
  · rw [if_pos h1] at h; exact absurd h (by show ¬ (2 : Int) = 0; decide)
  rw [if_neg h1] at h
  rw [if_neg h1, if_neg (show ¬ (¬ RightS s ∨ slot < 0 ∨ 1 < slot ∨ ¬ DoOk d.still l) from h1)]
  by_cases h2 : (wrImgs l d).2 ≠ 0
  · rw [if_pos h2] at h; exact absurd h h2
  rw [if_neg h2] at h ⊢
  obtain ⟨g1, g2⟩ := wrImgs_still l d hd (by omega)
  rw [g1, if_neg (by simp)]
  generalize (wrImgs l d).1 = e at *
  by_cases h3 : e.flush.2 ≠ 0
  · rw [if_pos h3] at h; exact absurd h h3
  rw [if_neg h3] at h ⊢
  obtain ⟨g3, g4⟩ := flush_still (by omega : e.flush.2 = 0)
  rw [g3, if_neg (by simp)]
  generalize e.flush.1 = e2 at *
  unfold lastWr at *
  by_cases h4 : (e2.write slot (supL s)).2 ≠ 0
  · rw [if_pos h4] at h; exact absurd h h4
  rw [if_neg h4] at h ⊢
  obtain ⟨g5, g6⟩ := write_still (by omega : (e2.write slot (supL s)).2 = 0)
  rw [g5, if_neg (by simp)]
  exact flush_still h
section
variable {ep t0 sq m k : Nat} {v : VSt} {d : DSt} {ls : List (List PImg)} {j : JSt}
theorem WE.append_any (w : WE ep t0 sq j d.still ls k) (hup : d.down = false) {l : List PImg} (hR : RightP ep ((sq + ls.length : Nat) : Int) l) (hroom : usedP ls + (l.length + 1) ≤ 16) :
    ((j.appendB d l false).2.2.2 = 0 → j.appendB d.still l false = ((j.appendB d l false).1, (j.appendB d l false).2.1.still, (j.appendB d l false).2.2.1, 0) ∧ (j.appendB d l false).2.1.down = false) ∧
      (j.appendB d l false).2.1.safe = d.safe ∧ ∃ c, (j.appendB d l false).2.1.writes = d.writes ++ wL t0 (usedP ls) ((putP ep (sq + ls.length) l).take c) := by
  have hge := usedP_ge ls
  have hu := w.used
  have hR' : RightP j.epoch j.next l := by rw [w.epoch, w.next]; exact hR
  have hokd := w.room
  have hp : putS j.s j.t j.u j.h ((l.length : Int) + 1) (if false = true then (l.length : Int) + 1 else 0) = ((j.s, ((t0 % 16 : Nat) : Int), ((usedP ls : Nat) : Int) + ((l.length : Int) + 1), 0, 0), (((t0 % 16 : Nat) : Int) + (usedP ls : Nat)) % 16) := by
    have hok := hokd
    unfold Ok at hok
    rw [w.s, w.t, w.u, w.h]
    unfold putS
    rw [if_neg (by simp only [Bool.false_eq_true, if_false]; rintro (h | h | h | h | h); exact h hokd; omega; omega; omega; omega), if_neg (by simp only [Bool.false_eq_true, if_false]; omega)]
    simp only [Bool.false_eq_true, if_false, Int.sub_zero]
  have hs1 : ¬ j.s < (l.length : Int) + 1 := by rw [w.s]; omega
  have hll : j.lay.l = 2 := by rw [w.lay]; decide
  have hff : (fun k : Nat => j.lay.l + ((((t0 % 16 : Nat) : Int) + (usedP ls : Nat)) % 16 + k) % j.s) = rgAt (t0 + usedP ls) := by
    funext k
    rw [hll, w.s]; unfold rgAt; omega
  have he1 : j.epoch.toNat = ep := by rw [w.epoch]; rfl
  have he2 : j.next.toNat = sq + ls.length := by rw [w.next]; omega
  have hA : ∃ (J1 J2 : JSt), ∀ x : DSt, j.appendB x l false = if (wrAll (rgAt (t0 + usedP ls)) (putP ep (sq + ls.length) l) 0 x).2 ≠ 0 then (J1, (wrAll (rgAt (t0 + usedP ls)) (putP ep (sq + ls.length) l) 0 x).1, 0, (wrAll (rgAt (t0 + usedP ls)) (putP ep (sq + ls.length) l) 0 x).2)
      else (J2, (wrAll (rgAt (t0 + usedP ls)) (putP ep (sq + ls.length) l) 0 x).1, j.next, 0) := by
    refine ⟨{ j with s := j.s, t := ((t0 % 16 : Nat) : Int), u := ((usedP ls : Nat) : Int) + ((l.length : Int) + 1), h := 0, broken := true }, { j with s := j.s, t := ((t0 % 16 : Nat) : Int), u := ((usedP ls : Nat) : Int) + ((l.length : Int) + 1), h := 0, groups := j.groups ++ [(j.next, ((l.length : Int) + 1))], next := j.next + 1 }, fun x => ?_⟩
    unfold JSt.appendB JSt.append
    rw [if_neg (by rw [w.broken]; simp), if_neg (fun h => h hR'), if_neg hs1, hp]
    dsimp only
    rw [if_neg (by simp), hff, he1, he2]
  obtain ⟨J1, J2, hA⟩ := hA
  have hs := wrAll_still (rgAt (t0 + usedP ls)) (putP ep (sq + ls.length) l) 0 d hup
  obtain ⟨h1, c, h2⟩ := wrAll_any t0 (usedP ls) (putP ep (sq + ls.length) l) 0 d
  rw [hA d, hA d.still]
  generalize wrAll (rgAt (t0 + usedP ls)) (putP ep (sq + ls.length) l) 0 d = x at *
  by_cases hx : x.2 ≠ 0
  · rw [if_pos hx]
    exact ⟨fun h => absurd h hx, h1, c, h2⟩
  · rw [if_neg hx]
    obtain ⟨g1, g2⟩ := hs (by omega)
    refine ⟨fun _ => ⟨?_, g2⟩, h1, c, h2⟩
    rw [g1, if_neg (by simp)]
end
end Go.Proofs.YtegdcjnjnoeinaaGreat
namespace Go.Proofs.YtegdcjnjnoeinaaGreat
open Go.RowKit Go.Sl
set_option maxRecDepth 20000

/-- what is shown behind the first n groups -/
def viewN (safe : List Dat) (ls : List (List PImg)) (n : Nat) : Int → Dat := fun x => (lastD (ls.take n).flatten x).getD (safe.getD x.toNat [])
/-- whatever a crash keeps, the disk can be mounted, and shows what is behind m groups at least -/
def CrashTo (d : DSt) (epm sqm : Nat) (V : (Int → Dat) → Prop) : Prop := ∀ keep tn sec, ∃ ep t sq ls vw, RBx (d.crash keep tn sec).now ep t sq ls vw ∧ V vw ∧ ep ≤ epm ∧ sq + ls.length ≤ sqm
section
variable {ep t0 sq m k : Nat} {v : VSt} {d : DSt} {ls : List (List PImg)}
theorem KC.to {safe : List Dat} {writes : List (Int × Dat)} (h : KC ep t0 sq safe writes ls m) (hep : ep ≤ 8388608) {sqm : Nat} (hsq : sq + ls.length ≤ sqm) (hsm : sqm ≤ 549755813889) {d : DSt} (hs : d.safe = safe) (hw : d.writes = writes) : CrashTo d ep sqm (fun vw => ∃ n, m ≤ n ∧ n ≤ ls.length ∧ vw = viewN safe ls n) := by
  intro keep tn sec
  obtain ⟨n, h1, h2, h3⟩ := h.crash hep (by omega) keep tn sec
  subst hs hw
  exact ⟨ep, _, sq, _, _, h3, ⟨n, h1, h2, rfl⟩, Nat.le_refl _, by rw [List.length_take]; omega⟩
theorem KV.to (w : KV ep t0 sq v d.still ls m k) (hsq : sq + ls.length ≤ 549755813889) : CrashTo d ep (sq + ls.length) (fun vw => ∃ n, m ≤ n ∧ n ≤ ls.length ∧ vw = viewN d.safe ls n) :=
  w.kc.to w.w.e.epr.2 (Nat.le_refl _) hsq rfl rfl
theorem KV.sync_any (w : KV ep t0 sq v d.still ls m k) :
    (∃ v' d', v.sync d = (v', d', 0) ∧ d'.down = false ∧ KV ep t0 sq v' d'.still ls ls.length k ∧ d'.safe = d.now) ∨
    (∃ v' d' e, v.sync d = (v', d', e) ∧ e ≠ 0 ∧ v'.broken = true ∧ d'.safe = d.safe ∧ d'.writes = d.writes) := by
  have hb : v.j.broken = false := w.w.e.broken
  have hbv := w.w.broken
  have hf : ∀ x : DSt, v.j.flush x = if x.flush.2 ≠ 0 then ({ v.j with broken := true }, x.flush.1, x.flush.2) else ({ v.j with synced := v.j.next - 1 }, x.flush.1, 0) := fun x => by
    unfold JSt.flush; rw [if_neg (by rw [hb]; simp)]
  have hs : ∀ x : DSt, v.sync x = ({ v with j := (v.j.flush x).1, broken := decide ((v.j.flush x).2.2 ≠ 0) }, (v.j.flush x).2.1, (v.j.flush x).2.2) := fun x => by
    unfold VSt.sync; rw [if_neg (by rw [hbv]; simp)]
  rcases flush_any d with ⟨f0, f1, f2, f3⟩ | ⟨f0, f1, f2, f3⟩
  · left
    obtain ⟨g1, g2⟩ := flush_still f0
    obtain ⟨v', d', a, w', _, _⟩ := w.sync
    have e1 : v.sync d.still = ((v.sync d).1, d.flush.1.still, 0) := by
      rw [hs, hs, hf, hf, g1, if_neg (by simp), if_neg (by omega)]
    have e2 : v.sync d = ((v.sync d).1, d.flush.1, 0) := by
      rw [hs, hf, if_neg (by omega)]
    rw [e1] at a
    obtain ⟨a1, a2⟩ := Prod.mk.inj a
    have a2 := (Prod.mk.inj a2).1
    refine ⟨v', d.flush.1, by rw [e2, a1], g2, by rw [a2]; exact w', f1⟩
  · right
    have e2 : v.sync d = ({ v with j := { v.j with broken := true }, broken := decide (d.flush.2 ≠ 0) }, d.flush.1, d.flush.2) := by
      rw [hs, hf, if_pos f0]
    exact ⟨_, _, _, e2, f0, decide_eq_true f0, f1, f2⟩
theorem KV.app_any (w : KV ep t0 sq v d.still ls m k) (hup : d.down = false) {l : List PImg} (hho : HomeOk (layOf 64) l) (hR : RightP ep ((sq + ls.length : Nat) : Int) l) (hroom : usedP ls + (l.length + 1) ≤ 16) :
    (∃ v' d', v.app d l = (v', d', ((sq + ls.length : Nat) : Int), 0) ∧ d'.down = false ∧ KV ep t0 sq v' d'.still (ls ++ [l]) m (k + 16) ∧ d'.safe = d.safe) ∨
    (∃ v' d' e, v.app d l = (v', d', 0, e) ∧ e ≠ 0 ∧ v'.broken = true ∧ CrashTo d' ep (sq + ls.length + 1) (fun vw => ∃ n, m ≤ n ∧ n ≤ ls.length + 1 ∧ vw = viewN d.safe (ls ++ [l]) n)) := by
  obtain ⟨h1, h2, c, h3⟩ := w.w.e.append_any hup hR hroom
  have hle := w.le
  obtain ⟨A, hA⟩ : ∃ A, A = v.j.appendB d l false := ⟨_, rfl⟩
  rw [← hA] at h1 h2 h3
  by_cases he : A.2.2.2 = 0
  · left
    obtain ⟨g1, g2⟩ := h1 he
    obtain ⟨v', d', a, w', _⟩ := w.app hho hR hroom
    have e1 : v.app d.still l = ((v.app d l).1, A.2.1.still, A.2.2.1, 0) := by
      unfold VSt.app
      rw [g1, ← hA, if_neg (by simp), if_neg (by omega)]
    have e2 : v.app d l = ((v.app d l).1, A.2.1, A.2.2.1, 0) := by
      unfold VSt.app
      rw [← hA, if_neg (by omega)]
    rw [e1] at a
    obtain ⟨a1, a2⟩ := Prod.mk.inj a
    obtain ⟨a2, a3⟩ := Prod.mk.inj a2
    have a3 := (Prod.mk.inj a3).1
    exact ⟨v', A.2.1, by rw [e2, a1, a3], g2, by rw [a2]; exact w', h2⟩
  · right
    have e2 : v.app d l = ({ v with j := A.1, broken := true }, A.2.1, 0, A.2.2.2) := by
      unfold VSt.app
      rw [← hA, if_pos he]
    refine ⟨_, _, _, e2, he, rfl, ?_⟩
    have hk := w.kc
    have htk : (ls ++ [l]).take m = ls.take m := by rw [List.take_append_of_le_length hle]
    have hdr : (ls ++ [l]).drop m = ls.drop m ++ [l] := by rw [List.drop_append_of_le_length hle]
    have hsp := usedP_split ls m
    have hrd := ringB_length ep (ls.drop m) (sq + m)
    have hrdl : (ls.drop m).length = ls.length - m := List.length_drop
    have hsq := hR.2.2.2.1
    have kc : KC ep t0 sq d.safe A.2.1.writes (ls ++ [l]) m := by
      refine ⟨hk.len, hk.all, hk.sup, by simp; omega, ?_, by rw [usedP_snoc]; exact hroom, ?_, ?_, ?_, fun o h1 h2 => hk.rest o (by rw [htk] at h1; exact h1) h2⟩
      · refine ⟨usedP (ls.drop m) + min c (l.length + 1), ?_⟩
        rw [h3, show d.writes = d.still.writes from rfl, w.wr, htk, hdr, ringB_snoc, hrdl, show sq + m + (ls.length - m) = sq + ls.length by omega, List.take_append, hrd, wL_append]
        rw [List.take_of_length_le (show (ringB ep (sq + m) (ls.drop m)).length ≤ _ by omega), hrd, ← hsp]
        congr 2
        have hpl := putP_length ep (sq + ls.length) l
        rw [show usedP (ls.drop m) + min c (l.length + 1) - usedP (ls.drop m) = min c (l.length + 1) by omega, ← hpl, List.take_eq_take_min]
      · intro i hi
        rw [List.getElem_append]
        split
        · rename_i h; exact hk.right i h
        · rename_i h
          simp only [List.length_append, List.length_singleton] at hi
          obtain rfl : i = ls.length := by omega
          simpa using hR
      · intro g hg
        rw [List.flatten_append] at hg
        rcases List.mem_append.1 hg with hg | hg
        · exact hk.home g hg
        · exact hho g (by simpa using hg)
      · intro o ho hlt
        rw [htk] at hlt
        have hrl := ringB_length ep ls sq
        have hlt2 : o < (ringB ep sq ls).length := by omega
        have hkr := hk.ring o hlt2 hlt
        show d.still.safe.getD _ [] = _
        rw [hkr]
        have e0 : (ringB ep sq (ls ++ [l]))[o]? = (ringB ep sq ls)[o]? := by rw [ringB_snoc, List.getElem?_append_left hlt2]
        rw [List.getElem?_eq_getElem ho, List.getElem?_eq_getElem hlt2] at e0
        exact (Option.some.inj e0).symm
    have := kc.to w.w.e.epr.2 (sqm := sq + ls.length + 1) (by simp; omega) (by omega) (d := A.2.1) h2 rfl
    intro keep tn sec
    obtain ⟨e1, t1, s1, l1, vw, r1, ⟨n, n1, n2, n3⟩, r3, r4⟩ := this keep tn sec
    exact ⟨e1, t1, s1, l1, vw, r1, ⟨n, n1, by simpa using n2, n3⟩, r3, r4⟩
theorem older_next (w : KV ep t0 sq v d.still ls m k) : Older ⟨64, (ep : Int), (sq : Int), ((t0 % 16 : Nat) : Int)⟩ ⟨64, (ep : Int), ((sq + ls.length : Nat) : Int), (((t0 + usedP ls) % 16 : Nat) : Int)⟩ := by
  by_cases h0 : ls = []
  · left; subst h0; simp [usedP]
  · right; right
    have : 0 < ls.length := List.length_pos_iff.2 h0
    exact ⟨rfl, by show (sq : Int) < ((sq + ls.length : Nat) : Int); omega⟩
theorem KV.old_now (w : KV ep t0 sq v d ls m k) {o : Nat} (ho : o < 16) : Old ep (sq + ls.length) (d.now.getD (2 + o) []) ∧ Old (ep + 1) 0 (d.now.getD (2 + o) []) := by
  have hrl := ringB_length ep ls sq
  have hle := w.le
  obtain ⟨o', ho', he⟩ : ∃ o', o' < 16 ∧ (t0 + o') % 16 = o := ⟨(o + 16 - t0 % 16) % 16, by omega, by omega⟩
  rw [← he]
  by_cases hou : o' < usedP ls
  · have := w.w.e.ring o' (by omega)
    unfold rbP at this
    rw [this]
    obtain ⟨q1, s', q2, q3, q4⟩ := ringB_bears2 ls sq w.w.e.right _ (List.getElem_mem (show o' < (ringB ep sq ls).length by omega))
    exact ⟨old_bears q1 q4 w.w.e.epr.2 q3 q2, bears_old1 q1 q4 w.w.e.epr.2 q3⟩
  · rw [w.nowrest o' (by omega) ho']
    have := w.rest o' (by have := usedP_split ls m; omega) ho'
    exact ⟨this.mono (by omega), this.mono (by omega)⟩
theorem KV.ckpt_any (w : KV ep t0 sq v d.still ls m k) (_hup : d.down = false) (hsq : sq + ls.length ≤ 549755813888) :
    (∃ v' d', v.ckpt d = (v', d', 0) ∧ d'.down = false ∧ KV ep (t0 + usedP ls) (sq + ls.length) v' d'.still [] 0 (k + 17) ∧ (∀ x : Int, 18 ≤ x → x < 64 → d'.safe.getD x.toNat [] = viewN d.safe ls ls.length x)) ∨
    (∃ v' d' e, v.ckpt d = (v', d', e) ∧ e ≠ 0 ∧ v'.broken = true ∧ CrashTo d' ep (sq + ls.length) (fun vw => ∃ n, m ≤ n ∧ n ≤ ls.length ∧ ∀ x : Int, 18 ≤ x → x < 64 → vw x = viewN d.safe ls n x)) := by
  have hb : v.j.broken = false := w.w.e.broken
  have hbv := w.w.broken
  have hle := w.le
  have hslot := w.w.slot
  have hf : ∀ x : DSt, v.j.flush x = if x.flush.2 ≠ 0 then ({ v.j with broken := true }, x.flush.1, x.flush.2) else ({ v.j with synced := v.j.next - 1 }, x.flush.1, 0) := fun x => by
    unfold JSt.flush; rw [if_neg (by rw [hb]; simp)]
  have hck : ∀ x : DSt, v.ckpt x = if (v.ckS x).1 ≠ 0 then ({ v with j := (v.ckS x).2.1, broken := true }, (v.ckS x).2.2, (v.ckS x).1) else ({ v with j := (v.ckS x).2.1, slot := 1 - v.slot, fresh := [] }, (v.ckS x).2.2, 0) := fun x => by
    unfold VSt.ckpt; rw [if_neg (by rw [hbv]; simp)]
  rcases flush_any d with ⟨f0, f1, f2, f3⟩ | ⟨f0, f1, f2, f3⟩
  rotate_left
  · right
    have e1 : v.ckS d = (d.flush.2, { v.j with broken := true }, d.flush.1) := by
      unfold VSt.ckS
      rw [hf, if_pos f0]
      dsimp only
      rw [if_pos f0]
    refine ⟨_, _, _, by rw [hck, e1]; dsimp only; rw [if_pos f0], f0, rfl, ?_⟩
    intro keep tn sec
    obtain ⟨a1, a2, a3, a4, a5, a6, ⟨n, n1, n2, rfl⟩, a8, a9⟩ := w.kc.to w.w.e.epr.2 (Nat.le_refl _) (by omega) f1 f2 keep tn sec
    exact ⟨a1, a2, a3, a4, _, a6, ⟨n, n1, n2, fun _ _ _ => rfl⟩, a8, a9⟩
  obtain ⟨g1, g2⟩ := flush_still f0
  -- what lies there behind the flush
  obtain ⟨vs, ds, has0, ws, _, _⟩ := w.sync
  have hrx := ws.rbx rfl
  have hss : ds.safe = d.now := by
    have hst : VSt.sync v d.still = ({ v with j := { v.j with synced := v.j.next - 1 }, broken := false }, d.flush.1.still, 0) := by
      unfold VSt.sync
      rw [if_neg (by rw [hbv]; simp), hf, g1, if_neg (by simp)]
      rfl
    rw [hst] at has0
    have := (Prod.mk.inj (Prod.mk.inj has0).2).1
    rw [← this]; exact f1
  have hsl0 : v.slot.toNat = 0 ∨ v.slot.toNat = 1 := by rcases hslot with h | h <;> simp [h]
  have hsli : ((v.slot.toNat : Nat) : Int) = v.slot := by rcases hslot with h | h <;> simp [h]
  have hsupn : SupAt d.now (1 - v.slot.toNat) ⟨64, ep, sq, ((t0 % 16 : Nat) : Int)⟩ := w.sup.same (w.same 0 (by omega) (by omega)) (w.same 1 (by omega) (by omega))
  have hview : ∀ x : Int, 18 ≤ x → x < 64 → viewN d.safe ls ls.length x = (lastD ls.flatten x).getD (d.now.getD x.toNat []) := fun x h1 h2 => by
    have hs : d.now.getD x.toNat [] = d.safe.getD x.toNat [] := w.same x.toNat (by omega) (by omega)
    unfold viewN
    rw [List.take_length, hs]
  rw [hss] at hrx
  obtain ⟨d1, hd1⟩ : ∃ d1, d1 = d.flush.1 := ⟨_, rfl⟩
  rw [← hd1] at f1 f2 f3 g1 g2
  have hho := w.w.fresh_home
  have hok : DoOk d1 (sortP v.fresh) := fun g hg => by
    obtain ⟨h1, h2, h3⟩ := hho g hg
    have hlen : d1.now.length = 64 := by rw [f3]; exact w.w.e.len
    exact ⟨by omega, by rw [hlen]; exact h2, h3⟩
  have hep := w.w.e.epr
  have hpos := w.w.e.pos
  have hRs : RightS ⟨64, (ep : Int), ((sq + ls.length : Nat) : Int), (((t0 + usedP ls) % 16 : Nat) : Int)⟩ :=
    ⟨by show (64 : Int) ≤ 64; decide, by show (64 : Int) ≤ 512; decide, by show (1 : Int) ≤ (ep : Int); omega, by show (ep : Int) ≤ 8388608; omega, by show (1 : Int) ≤ ((sq + ls.length : Nat) : Int); omega, by show ((sq + ls.length : Nat) : Int) ≤ 549755813888; omega, by show (0 : Int) ≤ (((t0 + usedP ls) % 16 : Nat) : Int); omega, by show (((t0 + usedP ls) % 16 : Nat) : Int) ≤ 511; omega⟩
  obtain ⟨hds, hdo⟩ := do_any (d := d1) f2 (by rw [f1, f3]) (by rw [f3]; exact w.w.e.len) hok hRs (slot := v.slot.toNat) (by omega)
  rw [hsli] at hds hdo
  have hsup := w.w.sup
  have hfl : v.j.flush d = ({ v.j with synced := v.j.next - 1 }, d1, 0) := by rw [hf, if_neg (by omega), ← hd1]
  obtain ⟨P, hP⟩ : ∃ P, P = doP d1 (sortP v.fresh) v.sup v.slot := ⟨_, rfl⟩
  rw [← hsup, ← hP] at hds hdo
  by_cases hpe : P.2 ≠ 0
  · right
    have e1 : v.ckS d = (P.2, { v.j with synced := v.j.next - 1 }, P.1) := by
      unfold VSt.ckS
      rw [hfl]
      dsimp only
      rw [if_neg (by simp), ← hP, if_pos hpe]
    refine ⟨_, _, _, by rw [hck, e1]; dsimp only; rw [if_pos hpe], hpe, rfl, ?_⟩
    intro keep tn sec
    rw [f3, show v.slot.toNat = 1 - (1 - v.slot.toNat) by omega, hsup] at hds
    have hcr := do_crash hrx hsupn (fun g hg => hho g hg) (by rw [w.w.fresh]; exact homeP_nodup _) (fun n => by rw [lastD_sortP, w.w.lookup]) hRs (older_next w) (Nat.mod_lt _ (by decide)) (fun o ho => w.old_now ho) hds keep tn sec
    rcases hcr with hcr | hcr
    · exact ⟨_, _, _, _, _, hcr, ⟨ls.length, hle, Nat.le_refl _, fun x h1 h2 => (hview x h1 h2).symm⟩, Nat.le_refl _, Nat.le_refl _⟩
    · exact ⟨_, _, _, _, _, hcr, ⟨ls.length, hle, Nat.le_refl _, fun x h1 h2 => (hview x h1 h2).symm⟩, Nat.le_refl _, by simp⟩
  left
  have hp0 : P.2 = 0 := by omega
  obtain ⟨p1, p2⟩ := doP_still g2 (by rw [← hP]; exact hp0 : (doP d1 (sortP v.fresh) v.sup v.slot).2 = 0)
  rw [← hP] at p1 p2
  obtain ⟨v', d', a, w', _⟩ := w.ckpt hsq
  obtain ⟨⟨r1, e⟩, hr⟩ : ∃ p : JSt × Int, ({ v.j with synced := v.j.next - 1 } : JSt).release (v.j.next - 1) = p := ⟨_, rfl⟩
  have c1 : v.ckS d = (e, r1, P.1) := by
    unfold VSt.ckS
    rw [hfl]
    dsimp only
    rw [if_neg (by simp), ← hP, if_neg (by omega), hr]
  have c2 : v.ckS d.still = (e, r1, P.1.still) := by
    have hfs : v.j.flush d.still = ({ v.j with synced := v.j.next - 1 }, d1.still, 0) := by rw [hf, g1, if_neg (by simp)]
    unfold VSt.ckS
    rw [hfs]
    dsimp only
    rw [if_neg (by simp), p1]
    dsimp only
    rw [if_neg (by simp), hr]
  rw [hck, c2] at a
  dsimp only at a
  by_cases he : e ≠ 0
  · rw [if_pos he] at a
    exact absurd (Prod.mk.inj (Prod.mk.inj a).2).2 he
  rw [if_neg he] at a
  obtain ⟨a1, a2⟩ := Prod.mk.inj a
  have a2 := (Prod.mk.inj a2).1
  refine ⟨v', P.1, ?_, p2, by rw [a2]; exact w', fun x h1 h2 => ?_⟩
  · rw [hck, c1]
    dsimp only
    rw [if_neg he, a1]
  · obtain ⟨q1, _, _⟩ := hdo hp0
    rw [q1, hview x h1 h2, List.getD_eq_getElem?_getD, List.getElem?_set_ne (by omega), ← List.getD_eq_getElem?_getD]
    rw [wrB_get (fun g hg => by have := hho g hg; have hlen : d1.now.length = 64 := by rw [f3]; exact w.w.e.len
                                omega) x.toNat (by rw [f3]; show _ < d.still.now.length; rw [w.w.e.len]; omega)]
    rw [show ((x.toNat : Nat) : Int) = x by omega, lastD_sortP, w.w.lookup, f3]
end
end Go.Proofs.YtegdcjnjnoeinaaGreat
namespace Go.Proofs.YtegdcjnjnoeinaaGreat
open Go.RowKit Go.Sl
set_option maxRecDepth 20000

/-- six blocks -/
def six (f : Int → Dat) : List Dat := (List.range 6).map fun i : Nat => f (30 + (i : Int))
theorem six_congr {f g : Int → Dat} (h : ∀ x : Int, 18 ≤ x → x < 64 → f x = g x) : six f = six g := by
  unfold six
  refine List.map_congr_left fun i hi => ?_
  have := List.mem_range.1 hi
  exact h _ (by omega) (by omega)
/-- six blocks behind a commit -/
def behindL (was : List Dat) (l : List PImg) : List Dat := (List.range 6).map fun i : Nat => (lastD l (30 + (i : Int))).getD (was.getD i [])
/-- what is told: some state from there on -/
def ToldS (states : List (List Dat)) (sure : Nat) : (Int → Dat) → Prop := fun vw => ∃ i, sure ≤ i ∧ states[i]? = some (six vw)
theorem ToldS.app {states : List (List Dat)} {sure : Nat} {vw : Int → Dat} (h : ToldS states sure vw) (x : List (List Dat)) : ToldS (states ++ x) sure vw := by
  obtain ⟨i, h1, h2⟩ := h
  have := (List.getElem?_eq_some_iff.1 h2).1
  exact ⟨i, h1, by rw [List.getElem?_append_left this]; exact h2⟩
theorem CrashTo.mono {d : DSt} {e s e' s' : Nat} {V V' : (Int → Dat) → Prop} (h : CrashTo d e s V) (he : e ≤ e') (hs : s ≤ s') (hV : ∀ vw, V vw → V' vw) : CrashTo d e' s' V' := by
  intro keep tn sec
  obtain ⟨a1, a2, a3, a4, vw, a6, a7, a8, a9⟩ := h keep tn sec
  exact ⟨a1, a2, a3, a4, vw, a6, hV _ a7, by omega, by omega⟩
structure SK (ep t0 sq : Nat) (v : VSt) (d : DSt) (ls : List (List PImg)) (m k : Nat) (states : List (List Dat)) (b : Nat) : Prop where
  kv : KV ep t0 sq v d.still ls m k
  up : d.down = false
  len : states.length = b + ls.length + 1
  st : ∀ i, i ≤ ls.length → states[b + i]? = some (six (viewN d.safe ls i))
section
variable {ep t0 sq m k : Nat} {v : VSt} {d : DSt} {ls : List (List PImg)} {states : List (List Dat)} {b sure : Nat}
theorem SK.to (w : SK ep t0 sq v d ls m k states b) (hs : sure ≤ b + m) (hsq : sq + ls.length ≤ 549755813889) : CrashTo d ep (sq + ls.length) (ToldS states sure) := by
  refine (w.kv.to hsq).mono (Nat.le_refl _) (Nat.le_refl _) ?_
  rintro vw ⟨n, h1, h2, rfl⟩
  exact ⟨b + n, by omega, w.st n h2⟩
theorem SK.sync (w : SK ep t0 sq v d ls m k states b) (hs : sure ≤ b + m) (hsq : sq + ls.length ≤ 549755813889) :
    (∃ v' d', v.sync d = (v', d', 0) ∧ SK ep t0 sq v' d' ls ls.length k states b ∧ states.length - 1 = b + ls.length) ∨
    (∃ v' d' e, v.sync d = (v', d', e) ∧ e ≠ 0 ∧ v'.broken = true ∧ CrashTo d' ep (sq + ls.length) (ToldS states sure)) := by
  have hl := w.len
  rcases w.kv.sync_any with ⟨v', d', a, h1, h2, h3⟩ | ⟨v', d', e, a, h1, h2, h3, h4⟩
  · left
    refine ⟨v', d', a, ⟨h2, h1, w.len, fun i hi => ?_⟩, by omega⟩
    rw [w.st i hi, h3]
    congr 1
    refine six_congr fun x g1 g2 => ?_
    have hsm : d.now.getD x.toNat [] = d.safe.getD x.toNat [] := w.kv.same x.toNat (by omega) (by omega)
    unfold viewN
    rw [hsm]
  · right
    refine ⟨v', d', e, a, h1, h2, ?_⟩
    intro keep tn sec
    have := w.to hs hsq keep tn sec
    have e1 : (d'.crash keep tn sec).now = (d.crash keep tn sec).now := by
      show crashK _ _ _ _ _ _ = crashK _ _ _ _ _ _
      rw [h3, h4]
    rw [e1]; exact this
theorem SK.ckpt (w : SK ep t0 sq v d ls m k states b) (hs : sure ≤ b + m) (hsq : sq + ls.length ≤ 549755813888) :
    (∃ v' d', v.ckpt d = (v', d', 0) ∧ SK ep (t0 + usedP ls) (sq + ls.length) v' d' [] 0 (k + 17) states (b + ls.length) ∧ states.length - 1 = b + ls.length) ∨
    (∃ v' d' e, v.ckpt d = (v', d', e) ∧ e ≠ 0 ∧ v'.broken = true ∧ CrashTo d' ep (sq + ls.length) (ToldS states sure)) := by
  have hl := w.len
  rcases w.kv.ckpt_any w.up hsq with ⟨v', d', a, h1, h2, h3⟩ | ⟨v', d', e, a, h1, h2, h3⟩
  · left
    refine ⟨v', d', a, ⟨h2, h1, by simpa using hl, fun i hi => ?_⟩, by omega⟩
    obtain rfl : i = 0 := by simpa using hi
    rw [Nat.add_zero, w.st ls.length (Nat.le_refl _)]
    congr 1
    refine six_congr fun x g1 g2 => ?_
    show _ = (d'.safe.getD x.toNat [])
    rw [h3 x g1 g2]
  · right
    refine ⟨v', d', e, a, h1, h2, h3.mono (Nat.le_refl _) (Nat.le_refl _) ?_⟩
    rintro vw ⟨n, n1, n2, n3⟩
    exact ⟨b + n, by omega, by rw [w.st n n2, six_congr n3]⟩
theorem viewN_snoc {safe : List Dat} {l : List PImg} (x : Int) : viewN safe (ls ++ [l]) (ls.length + 1) x = (lastD l x).getD (viewN safe ls ls.length x) := by
  unfold viewN
  rw [show ls.length + 1 = (ls ++ [l]).length by simp, List.take_length, List.take_length, List.flatten_append, List.flatten_singleton]
  have hla : lastD (ls.flatten ++ l) x = (lastD l x).or (lastD ls.flatten x) := by
    refine snoc_ind (p := fun l : List PImg => lastD (ls.flatten ++ l) x = (lastD l x).or (lastD ls.flatten x)) ?_ ?_ l
    · rw [List.append_nil]; simp [lastD]
    · intro l g ih
      rw [← List.append_assoc, lastD_snoc, lastD_snoc]
      split
      · rfl
      · exact ih
  rw [hla]
  cases lastD l x <;> rfl
theorem viewN_pre {safe : List Dat} {l : List PImg} {i : Nat} (hi : i ≤ ls.length) : viewN safe (ls ++ [l]) i = viewN safe ls i := by
  unfold viewN
  rw [List.take_append_of_le_length hi]
theorem SK.app (w : SK ep t0 sq v d ls m k states b) (hs : sure ≤ b + m) {l : List PImg} (hho : HomeOk (layOf 64) l) (hR : RightP ep ((sq + ls.length : Nat) : Int) l) (hroom : usedP ls + (l.length + 1) ≤ 16) {last : List Dat} (hlast : states[states.length - 1]? = some last) :
    (∃ v' d', v.app d l = (v', d', ((sq + ls.length : Nat) : Int), 0) ∧ SK ep t0 sq v' d' (ls ++ [l]) m (k + 16) (states ++ [behindL last l]) b) ∨
    (∃ v' d' e, v.app d l = (v', d', 0, e) ∧ e ≠ 0 ∧ v'.broken = true ∧ CrashTo d' ep (sq + ls.length + 1) (ToldS (states ++ [behindL last l]) sure)) := by
  have hl := w.len
  have hle := w.kv.le
  have e1 : last = six (viewN d.safe ls ls.length) := by
    have := w.st ls.length (Nat.le_refl _)
    rw [show b + ls.length = states.length - 1 by omega, hlast] at this
    exact Option.some.inj this
  have e2 : behindL last l = six (viewN d.safe (ls ++ [l]) (ls.length + 1)) := by
    unfold behindL six
    refine List.map_congr_left fun i hi => ?_
    have hi := List.mem_range.1 hi
    rw [viewN_snoc, e1]
    congr 1
    unfold six
    rw [List.getD_eq_getElem?_getD, List.getElem?_map, List.getElem?_range hi]; rfl
  have hst : ∀ i, i ≤ ls.length + 1 → (states ++ [behindL last l])[b + i]? = some (six (viewN d.safe (ls ++ [l]) i)) := by
    intro i hi
    by_cases h : i ≤ ls.length
    · rw [List.getElem?_append_left (by omega), w.st i h, viewN_pre h]
    · obtain rfl : i = ls.length + 1 := by omega
      rw [List.getElem?_append_right (by omega), show b + (ls.length + 1) - states.length = 0 by omega, e2]; rfl
  rcases w.kv.app_any w.up hho hR hroom with ⟨v', d', a, h1, h2, h3⟩ | ⟨v', d', e, a, h1, h2, h3⟩
  · left
    refine ⟨v', d', a, ⟨h2, h1, by simp; omega, fun i hi => ?_⟩⟩
    rw [h3]
    exact hst i (by simpa using hi)
  · right
    refine ⟨v', d', e, a, h1, h2, h3.mono (Nat.le_refl _) (Nat.le_refl _) ?_⟩
    rintro vw ⟨n, n1, n2, rfl⟩
    exact ⟨b + n, by omega, hst n n2⟩
theorem SK.commit (w : SK ep t0 sq v d ls m k states b) (hs : sure ≤ b + m) {l : List PImg} (hho : HomeOk (layOf 64) l) (hR : RightP ep ((sq + ls.length : Nat) : Int) l) (hl : l.length + 1 ≤ 16) {last : List Dat} (hlast : states[states.length - 1]? = some last) :
    (∃ v' d' t1 sq' ls' m' b', v.commit d l = (v', d', ((sq + ls.length : Nat) : Int), 0) ∧ SK ep t1 sq' v' d' ls' m' (k + 33) (states ++ [behindL last l]) b' ∧ sure ≤ b' + m' ∧ sq' + ls'.length = sq + ls.length + 1) ∨
    (∃ v' d' e, v.commit d l = (v', d', 0, e) ∧ e ≠ 0 ∧ v'.broken = true ∧ CrashTo d' ep (sq + ls.length + 1) (ToldS (states ++ [behindL last l]) sure)) := by
  have hll := hR.2.2.2.2.1
  have hle := w.kv.le
  have hsq : sq + ls.length ≤ 549755813888 := by have := hR.2.2.2.1; omega
  have hb : blocksN (l.length : Int) = l.length + 1 := by unfold blocksN; rw [if_neg (by omega)]
  have hu := w.kv.w.e.used
  have hc : v.commit d l = if v.j.s - v.j.u - v.j.h < blocksN l.length then (if (v.ckpt d).2.2 ≠ 0 then ((v.ckpt d).1, (v.ckpt d).2.1, 0, (v.ckpt d).2.2) else (v.ckpt d).1.app (v.ckpt d).2.1 l) else v.app d l := by
    unfold VSt.commit
    rw [if_neg (by rw [w.kv.w.broken]; simp), if_neg (by rw [w.kv.w.e.lay]; exact fun h => h hho), if_neg (by rw [w.kv.w.epoch, w.kv.w.e.next]; exact fun h => h hR), if_neg (by rw [w.kv.w.fits ⟨hll, hl⟩]; simp)]
  rw [hc, hb, w.kv.w.e.s, w.kv.w.e.u, w.kv.w.e.h]
  by_cases hr : (16 : Int) - ((usedP ls : Nat) : Int) - 0 < (l.length : Int) + 1
  · rw [if_pos hr]
    rcases w.ckpt hs hsq with ⟨v1, d1, a1, w1, _⟩ | ⟨v1, d1, e, a1, h1, h2, h3⟩
    · rw [a1]
      dsimp only
      rw [if_neg (by simp)]
      rcases w1.app (sure := sure) (by omega) hho (by simpa using hR) (by simp [usedP]; omega) hlast with ⟨v2, d2, a2, w2⟩ | ⟨v2, d2, e, a2, h1, h2, h3⟩
      · left
        exact ⟨v2, d2, _, _, _, _, _, a2, { w2 with kv := w2.kv.mono (by omega) }, by omega, by simp⟩
      · right
        exact ⟨v2, d2, e, a2, h1, h2, h3.mono (Nat.le_refl _) (by simp) (fun _ h => h)⟩
    · right
      rw [a1]
      dsimp only
      rw [if_pos h1]
      exact ⟨v1, d1, e, rfl, h1, h2, h3.mono (Nat.le_refl _) (by omega) (fun _ h => h.app _)⟩
  · rw [if_neg hr]
    rcases w.app hs hho hR (by omega) hlast with ⟨v2, d2, a2, w2⟩ | ⟨v2, d2, e, a2, h1, h2, h3⟩
    · left
      exact ⟨v2, d2, _, _, _, _, _, a2, { w2 with kv := w2.kv.mono (by omega) }, hs, by simp; omega⟩
    · right
      exact ⟨v2, d2, e, a2, h1, h2, h3⟩
end
end Go.Proofs.YtegdcjnjnoeinaaGreat
namespace Go.Proofs.YtegdcjnjnoeinaaGreat
open Go.RowKit Go.Sl
set_option maxRecDepth 20000

theorem WV.cur_len2 {ep t0 sq : Nat} {v : VSt} {d : DSt} {ls : List (List PImg)} {k : Nat} (w : WV ep t0 sq v d ls k) {n : Int} (h : 0 ≤ n ∧ n < 64) : (v.cur d n).length = 4096 := by
  unfold VSt.cur
  cases h' : v.fresh.lookup n with
  | some b => exact w.fresh_len _ (lookup_mem h')
  | none =>
    dsimp only
    rw [List.getD_eq_getElem?_getD]
    have hl := w.e.len
    rw [List.getElem?_eq_getElem (by omega)]
    exact w.e.dwf.now _ (List.getElem_mem (by omega))
def cur6 (v : VSt) (d : DSt) : List Dat := (List.range 6).map fun i : Nat => v.cur d (30 + (i : Int))
theorem read_fix {I : Imm} {bV bD : Nat} {v : VSt} {d : DSt} {ch chD : List Blk} (hV : Vk I bV bD v ch) (hD : Dk I bD d chD) {ep t0 sq k : Nat} {ls : List (List PImg)} (w : WV ep t0 sq v d ls k) {n : Int} (hn : 0 ≤ n ∧ n < 64) :
    Tri Tryz.prog 17 #[.pointer (some ⟨bV, 0, none⟩), .int .i64 n] I [ch, chD] fun r J S' => ∃ bk : Bk, r = .tuple #[bk.cell, .int .i64 0] ∧ bk.data = v.cur d n ∧ BkOk J bk ∧ S' = [ch, chD] := by
  have hrd := vk_Read hV hD (fun g hg => by rw [w.fresh_len g hg]; omega) n
  rw [w.read hn] at hrd
  dsimp only at hrd
  have hcl := w.cur_len2 hn
  rw [hcl] at hrd
  refine Tri.drop (Tri.fixed hrd (K := fun r J S' => ∃ bk : Bk, r = .tuple #[bk.cell, .int .i64 0] ∧ bk.data = v.cur d n ∧ BkOk J bk ∧ S' = [ch, chD, []]) ?_) ?_
  · rintro r _ S' hJ ⟨a, cap, chB, rfl, hB, rfl, rfl⟩
    exact ⟨2, chB, rfl, fun J' hJ' hm => ⟨⟨a, cap, v.cur d n⟩, rfl, rfl, Rds.of_own hB hm, rfl⟩⟩
  · rintro r J S' hJ ⟨bk, rfl, h1, h2, rfl⟩
    exact ⟨_, Drop.pick [0, 1] _ rfl, bk, rfl, h1, h2, rfl⟩
theorem law11_blocks {I : Imm} {bV bD : Nat} {v : VSt} {d : DSt} {ch chD : List Blk} (hV : Vk I bV bD v ch) (hD : Dk I bD d chD) {ep t0 sq k : Nat} {ls : List (List PImg)} (w : WV ep t0 sq v d ls k) :
    Tri Tryz.prog 30 #[.pointer (some ⟨bV, 0, none⟩)] I [ch, chD] fun r J S' => ∃ a cap, ∃ g : List Bk, r = .slice a 6 cap ∧ g.length = 6 ∧ Rds J a 6 (g.map Bk.cell) ∧ (∀ b ∈ g, BkOk J b) ∧ g.map Bk.data = cur6 v d ∧ S' = [ch, chD] := by
  refine Tri.drop (Tri.fixed (Q := fun r J S' => ∃ a cap, ∃ g : List Bk, ∃ chO, r = .slice a 6 cap ∧ g.length = 6 ∧ OwnC chO 1 a 6 cap (g.map Bk.cell) ∧ (∀ b ∈ g, BkOk J b) ∧ g.map Bk.data = cur6 v d ∧ S' = [ch, chD, chO]) ?_
    (K := fun r J S' => ∃ a cap, ∃ g : List Bk, r = .slice a 6 cap ∧ g.length = 6 ∧ Rds J a 6 (g.map Bk.cell) ∧ (∀ b ∈ g, BkOk J b) ∧ g.map Bk.data = cur6 v d ∧ S' = [ch, chD, []]) ?_) ?_
  rotate_left
  · rintro r J S' hJ ⟨a, cap, g, chO, rfl, hgl, hO, hok, hda, rfl⟩
    exact ⟨2, chO, rfl, fun J' hJ' hm => ⟨a, cap, g, rfl, hgl, Rds.of_ownS hO hm, fun b hb => (hok b hb).mono hJ', hda, rfl⟩⟩
  · rintro r J S' hJ ⟨a, cap, g, rfl, h1, h2, h3, h4, rfl⟩
    exact ⟨_, Drop.pick [0, 1] _ rfl, a, cap, g, rfl, h1, h2, h3, h4, rfl⟩
  refine Tri.drop ?_ (fun _ _ _ _ h => h)
  refine Tri.of (args := [.pointer (some ⟨bV, 0, none⟩)]) tabOk Tryz.func30 rfl (by kernel_rfl) (by kernel_rfl) ?_
  refine CodeF.loopD [0, 3, 4] (fun vs J S' => ∃ (i : Nat) (a : Option Addr) (cap : Nat) (chO : List Blk) (g : List Bk), i ≤ 6 ∧ g.length = i ∧ OwnC chO 1 a i cap (g.map Bk.cell) ∧ (∀ b ∈ g, BkOk J b) ∧ g.map Bk.data = (List.range i).map (fun i : Nat => v.cur d (30 + (i : Int))) ∧ I.le J ∧
      vs = [.pointer (some ⟨bV, 0, none⟩), .slice a i cap, .int .i64 (30 + (i : Int))] ∧ S' = [ch, chD, chO])
    (fun vs _ _ => match vs with | [_, _, .int _ i] => ((36 : Int) - i).toNat | _ => 0) ?_ ?_
  · exact ⟨_, Drop.and (Drop.refl _), 0, none, 0, [], [], by omega, rfl, OwnC.nil _ _, by simp, rfl, I.le_refl, rfl, rfl⟩
  rintro vs gE J S' hJ ⟨i, a, cap, chO, g, hi, hgl, hO, hok, hda, hle, rfl, rfl⟩
  refine CmpD.split (fun (c1 : (30 + (i : Int)) < 36) => ?_) (fun (c1 : ¬ (30 + (i : Int)) < 36) => ?_)
  · refine Tri.frame (read_fix (hV.mono hle) (hD.mono hle) w (n := 30 + (i : Int)) (by omega)) [0, 1] rfl rfl ?_
    rintro r I1 A' hI1 ⟨bk, rfl, hbd, hbk, rfl⟩
    refine ⟨by simp, ?_⟩
    skip
    conv => whnf
    intro bN
    refine appendD tabOk rfl rfl rfl rfl rfl rfl rfl 2 rfl hO (SrcOk.slice (n := 1) (news := [bk.cell]) tabOk rfl ((OwnC.whole (len := 1) (size := 1) rfl).slC 3 rfl) (by intro v hv; simp at hv; subst hv; rfl)) rfl (by show (i + 1) * 24 ≤ _; omega) (by omega) ?_
    intro a2 cap2 ch2 hown2
    refine ToD.i64 (by omega) (by omega) ?_
    refine ⟨_, Drop.pick [0, 1, 2] _ rfl, ⟨i + 1, a2, cap2, ch2, g ++ [bk], by omega, by simp [hgl], by rw [List.map_append]; exact hown2, ?_, ?_, Imm.le_trans hle hI1, ?_, rfl⟩, ?_⟩
    · intro b hb
      rcases List.mem_append.1 hb with hb | hb
      · exact (hok b hb).mono hI1
      · simp only [List.mem_singleton] at hb
        subst hb; exact hbk
    · rw [List.map_append, hda, List.range_succ, List.map_append, List.map_singleton, List.map_singleton, hbd]
    · rw [show (30 + ((i + 1 : Nat) : Int)) = 30 + (i : Int) + 1 by omega]; rfl
    · show ((36 : Int) - (30 + (i : Int) + 1)).toNat < ((36 : Int) - (30 + (i : Int))).toNat
      omega
  · obtain rfl : i = 6 := by omega
    refine Done.mk ⟨_, Drop.refl _, a, cap, g, chO, rfl, hgl, hO, fun b hb => hok b hb, hda, rfl⟩
end Go.Proofs.YtegdcjnjnoeinaaGreat
namespace Go.Proofs.YtegdcjnjnoeinaaGreat
open Go.RowKit Go.Sl
set_option maxRecDepth 20000

theorem copy_lists {I : Imm} (a : Option Addr) (cap : Nat) (gs : List Bk) (hR : Rds I a gs.length (gs.map Bk.cell)) (hok : ∀ b ∈ gs, BkOk I b) (hl : gs.length ≤ 1000000) :
    Tri Tryz.prog 100 #[.slice a gs.length cap] I [] fun v J S' => ∃ a' cap' ch, ∃ gs' : List Bk, v = .slice a' gs.length cap' ∧ gs'.length = gs.length ∧ OwnC ch 1 a' gs.length cap' (gs'.map Bk.cell) ∧ (∀ b ∈ gs', BkOk J b) ∧ gs'.map Bk.data = gs.map Bk.data ∧ S' = [ch] := by
  refine Tri.lay (S2 := [[]]) (by simp) ?_
  refine Tri.drop ?_ (fun _ _ _ _ h => h)
  refine Tri.of (args := [.slice a gs.length cap]) tabOk Tryz.func100 rfl (by kernel_rfl) (by kernel_rfl) ?_
  refine CodeF.loopD [0, 3, 4] (fun vs J' S' => ∃ (i : Nat) (a' : Option Addr) (cap' : Nat) (ch : List Blk) (gs' : List Bk), i ≤ gs.length ∧ gs'.length = i ∧ OwnC ch 1 a' i cap' (gs'.map Bk.cell) ∧ (∀ b ∈ gs', BkOk J' b) ∧ gs'.map Bk.data = (gs.take i).map Bk.data ∧ vs = [.slice a gs.length cap, .slice a' i cap', .int .i64 i] ∧ I.le J' ∧ S' = [ch])
    (fun vs _ _ => match vs with | [_, _, .int _ i] => ((gs.length : Int) - i).toNat | _ => 0) ?_ ?_
  · exact ⟨_, Drop.pick [0] _ rfl, 0, none, 0, [], [], by omega, rfl, OwnC.nil 1 none, by simp, by simp, rfl, Imm.le_refl _, rfl⟩
  rintro vs gE J' S' hJ' ⟨i, a', cap', ch, gs', hil, hgl, hO, hok', hpr, rfl, hle, rfl⟩
  refine CmpD.split (fun c1 => ?_) (fun c1 => ?_)
  · have hlt : i < gs.length := by omega
    rcases hR.mem with q0 | ⟨bA, oA, cA, TA, fA, rfl, hIA, hcA⟩
    · omega
    have hcell : (gs.map Bk.cell)[i]? = some gs[i].cell := by rw [List.getElem?_map, List.getElem?_eq_getElem hlt]; rfl
    have htk : gs.take (i + 1) = gs.take i ++ [gs[i]] := by rw [List.take_add_one, List.getElem?_eq_getElem hlt]; rfl
    have hg := hok gs[i] (List.getElem_mem hlt)
    generalize gs[i] = g at *
    refine Chk.mk (by omega) ?_
    have hI' := hle _ _ hIA
    refine LoadD.imm hI' [g.cell] (take_get hcA hcell) rfl ?_
    refine Tri.free (copy_fix _ g.a 4096 g.cap g.data (Rds.mono hg hle) (by omega)) ?_
    rintro v J1 _ hJ1 ⟨aC, capC, rfl, hC⟩
    conv => whnf
    intro b24
    refine appendD tabOk rfl rfl rfl rfl rfl rfl rfl 0 rfl hO (SrcOk.slice (n := 1) (news := [(⟨aC, capC, g.data⟩ : Bk).cell]) tabOk rfl ((OwnC.whole (len := 1) (size := 1) rfl).slC 1 rfl) (by intro v hv; simp at hv; subst hv; rfl)) rfl (by show (i + 1) * 24 ≤ _; omega) (by omega) ?_
    intro aM capM chM hM
    refine ToD.i64 (by omega) (by omega) ?_
    refine ⟨_, Drop.pick [0] _ rfl, ⟨i + 1, aM, capM, chM, gs' ++ [⟨aC, capC, g.data⟩], by omega, by simp [hgl], by rw [List.map_append]; exact hM, ?_, ?_, rfl, Imm.le_trans hle hJ1, rfl⟩, ?_⟩
    · intro x hx
      rcases List.mem_append.1 hx with hx | hx
      · exact Rds.mono (hok' x hx) hJ1
      · simp only [List.mem_singleton] at hx
        subst hx
        exact hC
    · rw [htk, List.map_append, List.map_append, hpr]; rfl
    · show ((gs.length : Int) - ((i : Int) + 1)).toNat < ((gs.length : Int) - i).toNat; omega
  · obtain rfl : i = gs.length := by omega
    rw [List.take_length] at hpr
    exact Done.mk ⟨[ch], Drop.pick [0] _ rfl, a', cap', ch, gs', rfl, hgl, hO, hok', hpr, rfl⟩
/-- images put over six blocks -/
def layB (was : List Dat) (l : List PImg) : List Dat := l.foldl (fun w g => w.set (g.1 - 30).toNat g.2) was
theorem layB_snoc (was : List Dat) (l : List PImg) (g : PImg) : layB was (l ++ [g]) = (layB was l).set (g.1 - 30).toNat g.2 := by
  unfold layB; rw [List.foldl_append]; rfl
theorem layB_behind {was : List Dat} (hw : was.length = 6) : ∀ {l : List PImg}, (∀ g ∈ l, 30 ≤ g.1 ∧ g.1 < 36) → layB was l = behindL was l := by
  intro l
  refine snoc_ind (p := fun l : List PImg => (∀ g ∈ l, 30 ≤ g.1 ∧ g.1 < 36) → layB was l = behindL was l) ?_ ?_ l
  · intro _
    refine List.ext_getElem? fun i => ?_
    unfold behindL layB
    by_cases hi : i < 6
    · rw [List.getElem?_map, List.getElem?_range hi]
      show was[i]? = some ((lastD [] _).getD (was.getD i []))
      rw [List.getD_eq_getElem?_getD, List.getElem?_eq_getElem (by omega)]; rfl
    · rw [List.getElem?_eq_none (by rw [List.foldl_nil]; omega), List.getElem?_eq_none (by simp; omega)]
  · intro l g ih h
    have hg := h g (by simp)
    rw [layB_snoc, ih (fun x hx => h x (by simp [hx]))]
    refine List.ext_getElem? fun i => ?_
    unfold behindL
    by_cases hi : i < 6
    · rw [List.getElem?_map, List.getElem?_range hi]
      by_cases he : (g.1 - 30).toNat = i
      · rw [he, List.getElem?_set_self (by simp; omega)]
        show some g.2 = some ((lastD (l ++ [g]) (30 + (i : Int))).getD (was.getD i []))
        rw [lastD_snoc]
        rw [if_pos (by omega)]; rfl
      · rw [List.getElem?_set_ne he, List.getElem?_map, List.getElem?_range hi]
        show some ((lastD l (30 + (i : Int))).getD (was.getD i [])) = some ((lastD (l ++ [g]) (30 + (i : Int))).getD (was.getD i []))
        rw [lastD_snoc, if_neg (by omega)]
    · rw [List.getElem?_eq_none (by simp; omega), List.getElem?_eq_none (by simp; omega)]
theorem law11_behind {I : Imm} (a : Option Addr) (cap : Nat) (gs : List Bk) (hgl : gs.length = 6) (hR : Rds I a 6 (gs.map Bk.cell)) (hok : ∀ b ∈ gs, BkOk I b) (aL : Option Addr) (capL : Nat) (is : List Img) (hi : ImgsOk I aL is) (hil : is.length ≤ 1000) (hb : ∀ g ∈ is, 30 ≤ g.blk ∧ g.blk < 36 ∧ g.len = 4096) :
    Tri Tryz.prog 33 #[.slice a 6 cap, .slice aL is.length capL] I [] fun v J _ => ∃ a' cap', ∃ gs' : List Bk, v = .slice a' 6 cap' ∧ gs'.length = 6 ∧ Rds J a' 6 (gs'.map Bk.cell) ∧ (∀ b ∈ gs', BkOk J b) ∧ gs'.map Bk.data = layB (gs.map Bk.data) (is.map Img.pr) := by
  refine Tri.fixed (Q := fun v J S' => ∃ a' cap' ch, ∃ gs' : List Bk, v = .slice a' 6 cap' ∧ gs'.length = 6 ∧ OwnC ch 1 a' 6 cap' (gs'.map Bk.cell) ∧ (∀ b ∈ gs', BkOk J b) ∧ gs'.map Bk.data = layB (gs.map Bk.data) (is.map Img.pr) ∧ S' = [ch]) ?_ ?_
  rotate_left
  · rintro v J S' hJ ⟨a', cap', ch, gs', rfl, hgl', hO, hok, hpr, rfl⟩
    exact ⟨0, ch, rfl, fun J' hJ' hm => ⟨a', cap', gs', rfl, hgl', Rds.of_ownS hO hm, fun g hg => Rds.mono (hok g hg) hJ', hpr⟩⟩
  refine Tri.drop ?_ (fun _ _ _ _ h => h)
  refine Tri.of (args := [.slice a 6 cap, .slice aL is.length capL]) tabOk Tryz.func33 rfl (by kernel_rfl) (by kernel_rfl) ?_
  have hcp := copy_lists a cap gs (by rw [hgl]; exact hR) hok (by omega)
  rw [hgl] at hcp
  refine Tri.frameX hcp [] rfl rfl ?_
  rintro v J1 A' hJ1 ⟨a1, cap1, ch1, gs1, rfl, hgl1, hO1, hok1, hda1, rfl⟩
  refine CodeF.loopD [1, 5, 6] (fun vs J' S' => ∃ (i : Nat) (ch : List Blk) (gs' : List Bk), i ≤ is.length ∧ gs'.length = 6 ∧ OwnC ch 1 a1 6 cap1 (gs'.map Bk.cell) ∧ (∀ b ∈ gs', BkOk J' b) ∧ gs'.map Bk.data = layB (gs.map Bk.data) ((is.take i).map Img.pr) ∧ vs = [.slice aL is.length capL, .slice a1 6 cap1, .int .i64 i] ∧ J1.le J' ∧ S' = [ch])
    (fun vs _ _ => match vs with | [_, _, .int _ i] => ((is.length : Int) - i).toNat | _ => 0) ?_ ?_
  · exact ⟨_, Drop.refl _, 0, ch1, gs1, by omega, hgl1, hO1, hok1, hda1, rfl, Imm.le_refl _, rfl⟩
  rintro vs gE J' S' hJ' ⟨i, ch, gs', hle, hgl', hO, hok', hpr, rfl, hJl, rfl⟩
  refine CmpD.split (fun (c1 : (i : Int) < (is.length : Int)) => ?_) (fun (c1 : ¬ (i : Int) < (is.length : Int)) => ?_)
  rotate_left
  · obtain rfl : i = is.length := by omega
    rw [List.take_length] at hpr
    exact Done.mk ⟨[ch], Drop.refl _, a1, cap1, ch, gs', rfl, hgl', hO, hok', hpr, rfl⟩
  have hlt : i < is.length := by omega
  rcases hi.1.mem with q0 | ⟨bA, oA, cA, TA, fA, rfl, hIA, hcA⟩
  · omega
  have hpair := take_part hcA (i := i * 2) (m := 2) (by omega)
  rw [imgCells_at hlt] at hpair
  have htk : is.take (i + 1) = is.take i ++ [is[i]] := by rw [List.take_add_one, List.getElem?_eq_getElem hlt]; rfl
  have hg := hi.2 is[i] (List.getElem_mem hlt)
  have hgb := hb is[i] (List.getElem_mem hlt)
  generalize is[i] = g at *
  have hI' := (Imm.le_trans hJ1 hJl) _ _ hIA
  rcases hO.at' with q0 | ⟨bX, pre, post, TX, rfl, rfl, hpost⟩
  · have := hO.le; omega
  refine CodeF.sched [[], [], [], [1, 2], [1, 2, 3], [1, 2, 3, 4], [1, 2, 3, 4, 5], [], [], [7, 8], [7, 8, 9], [7, 8, 9, 10], [0, 1, 2, 3, 4, 5, 6, 7, 8, 9, 10, 11], [0, 1, 2, 3, 4, 5, 6, 7, 8, 9, 10, 11, 12]] [0, 1, 2, 3, 4, 5, 6, 7, 8, 9, 10, 11, 12, 13] (by kernel_rfl) ?_
  refine Chk.mk (by omega) ?_
  refine LoadP.imm [.int .i64 g.blk] ⟨cA, TA, fA, .imm hI', pair_fst hpair, rfl⟩ ?_
  refine ToD.i64 (by omega) (by omega) ?_
  refine Chk.mk (by omega) ?_
  refine LoadP.imm [.slice g.a g.len g.cap] ⟨cA, TA, fA, .imm hI', pair_snd hpair, rfl⟩ ?_
  refine Chk.mk (by omega) ?_
  rw [hgb.2.2]
  have hsp : splice (pre ++ gs'.map Bk.cell ++ post) (pre.length + (g.blk - 30).toNat) [.slice g.a 4096 g.cap] = pre ++ (gs'.set (g.blk - 30).toNat ⟨g.a, g.cap, g.data⟩).map Bk.cell ++ post := by
    rw [splice_mid _ _ _ _ _ (by simp; omega), List.map_set, List.set_eq_take_append_cons_drop, if_pos (by simp; omega)]
    simp
  refine StoreD.to 0 rfl _ hsp (by simp only [List.length_append, List.length_map, List.length_cons, List.length_nil]; show pre.length + (g.blk - 30).toNat + 1 ≤ _; omega) (.inr (.inr (Nat.le_refl _))) _ rfl ?_
  refine ToD.i64 (by omega) (by omega) ?_
  refine ⟨_, Drop.refl _, ⟨i + 1, _, gs'.set (g.blk - 30).toNat ⟨g.a, g.cap, g.data⟩, by omega, by rw [List.length_set]; exact hgl', ⟨by simp [hgl'], hO.le, .inr ⟨bX, pre, post, TX, rfl, rfl, hpost⟩⟩, ?_, ?_, rfl, hJl, rfl⟩, ?_⟩
  · intro b hb'
    rcases List.mem_or_eq_of_mem_set hb' with hb' | rfl
    · exact hok' b hb'
    · have := hg.2
      rw [hgb.2.2] at this
      exact Rds.mono this (Imm.le_trans hJ1 hJl)
  · rw [htk, List.map_append, List.map_singleton, layB_snoc, ← hpr, List.map_set]
  · show ((is.length : Int) - ((i : Int) + 1)).toNat < ((is.length : Int) - i).toNat; omega
end Go.Proofs.YtegdcjnjnoeinaaGreat
namespace Go.Proofs.YtegdcjnjnoeinaaGreat
open Go.RowKit Go.Sl
set_option maxRecDepth 20000

/-- a disk's cells -/
@[reducible] def rC (s w : Hd) (count : Int) (down : Bool) (arm fault : Int) : List Value := [s.v, w.v, .int .i64 count, .bool down, .int .i64 arm, .int .i64 fault]
theorem RDk.cells {I : Imm} {v : Value} {d : DSt} (h : RDk I v d) : ∃ (s w : Hd), v = rV s w d.count d.down (gv d.arm) (gv d.fault) ∧ s.len = d.now.length := by
  obtain ⟨s, w, bS, gs, rfl, h1, h2, h3, h4⟩ := h.ex
  refine ⟨s, w, rfl, ?_⟩
  have e1 := h1.len
  have e2 := congrArg List.length h3
  have e3 := h.wf.len
  rw [List.length_map] at e1 e2
  omega
/-- a journal's cells -/
@[reducible] def jC (s w : Hd) (count : Int) (down : Bool) (arm fault : Int) (x : Lay) (rs rt ru rh ep first : Int) (sz : Hd) (syn : Int) (br : Bool) : List Value := rC s w count down arm fault ++ (x.vals ++ [.int .i64 rs, .int .i64 rt, .int .i64 ru, .int .i64 rh, .int .i64 ep, .int .i64 first, sz.v, .int .i64 syn, .bool br])
@[reducible] def zr : List Value := [.int .i64 0, .int .i64 0, .int .i64 0, .int .i64 0, .int .i64 0, .int .i64 0, .int .i64 0, .int .i64 0, .int .i64 0, .int .i64 0, .int .i64 0, .int .i64 0, .int .i64 0, .slice none 0 0, .int .i64 0, .bool false, .int .i64 0, .int .i64 0, .int .i64 0, .int .i64 0, .int .i64 0, .int .i64 0, .int .i64 0, .int .i64 0, .slice none 0 0, .bool false]
@[reducible] def rvC (v : VSt) : List Value := [.int .i64 v.j.lay.b, .int .i64 v.j.lay.l, .int .i64 v.j.lay.lb, .int .i64 v.j.lay.bi, .int .i64 v.j.lay.i, .int .i64 v.j.lay.ib, .int .i64 v.j.lay.d, .int .i64 v.j.s, .int .i64 v.j.t, .int .i64 v.j.u, .int .i64 v.j.h, .int .i64 v.j.epoch, .int .i64 v.j.next, .slice none 0 0, .int .i64 v.j.synced, .bool false, .int .i64 v.j.lay.b, .int .i64 v.j.lay.l, .int .i64 v.j.lay.lb, .int .i64 v.j.lay.bi, .int .i64 v.j.lay.i, .int .i64 v.j.lay.ib, .int .i64 v.j.lay.d, .int .i64 v.slot, .slice none 0 0, .bool false]
theorem allG_sum : ∀ (l : List G3), (allG l).length ≤ (l.map fun g => g.2.2.length + 1).sum := by
  intro l
  induction l with
  | nil => simp [allG]
  | cons g l ih => simp [allG] at ih ⊢; omega
end Go.Proofs.YtegdcjnjnoeinaaGreat
namespace Go.Proofs.YtegdcjnjnoeinaaGreat
open Go.RowKit Go.Sl
set_option maxRecDepth 20000

theorem mountP_few {d : DSt} {k : Nat} (h : d.Few k) (hl : d.now.length = 64) : (mountP d).1.Few (k + 17) := by
  have h16 : ∀ s, (homeP (allG (scanL d s))).length ≤ 16 := by
    intro s
    have h1 := homeP_len (allG (scanL d s))
    have h2 := allG_sum (scanL d s)
    have h3 := (scan_bound (rb := rbP d 2 16) (ep := s.epoch) 17 s.tail.toNat s.seq 16).2
    rw [← scanL64 hl] at h3
    omega
  unfold mountP
  split
  · exact h.mono (by omega)
  split
  · exact h.mono (by omega)
  have h16 := h16 (foundP d).1
  unfold mountL
  split
  · exact h.mono (by omega)
  split
  · exact (doP_few h _ _ _).mono (by omega)
  · exact (doP_few h _ _ _).mono (by omega)
end Go.Proofs.YtegdcjnjnoeinaaGreat
namespace Go.Proofs.YtegdcjnjnoeinaaGreat
open Go.RowKit Go.Sl
set_option maxRecDepth 20000

theorem mount_dk {I : Imm} {bD : Nat} {d : DSt} {chD : List Blk} (hD : Dk I bD d chD) (hf : d.Few 700000) :
    Tri Tryz.prog 38 #[.pointer (some ⟨bD, 0, none⟩)] I [chD] fun r J S' => ∃ a b chD', r = .tuple #[a, b] ∧ Dk J bD (mountP d).1 chD' ∧ S' = [chD'] := by
  refine Tri.drop (vk_Mount hD hf) ?_
  rintro r J S' hJ ⟨chD', hD', ⟨_, _, rfl, rfl⟩ | ⟨_, v, bV, chV, _, rfl, _, rfl⟩⟩
  · exact ⟨_, Drop.refl _, _, _, chD', rfl, hD', rfl⟩
  · exact ⟨_, Drop.pick [0] _ rfl, _, _, chD', rfl, hD', rfl⟩
theorem mount_vk {I : Imm} {bD : Nat} {d : DSt} {chD : List Blk} (hD : Dk I bD d chD) {ep t0 sq k : Nat} {ls : List (List PImg)} {vw : Int → Dat} (hc : d.Calm) (h : RBx d.now ep t0 sq ls vw) (hep : ep < 8388608) (hsq : sq + ls.length ≤ 549755813888) (hf : d.Few k) (hk : k ≤ 700000) :
    Tri Tryz.prog 38 #[.pointer (some ⟨bD, 0, none⟩)] I [chD] fun r J S' => ∃ bV v e t1 chV chD', r = .tuple #[.pointer (some ⟨bV, 0, none⟩), .int .i64 0] ∧ Dk J bD e chD' ∧ Vk J bV bD v chV ∧ KV (ep + 1) t1 (sq + ls.length) v e [] 0 (k + 17) ∧ (∀ n : Int, 18 ≤ n → n < 64 → v.cur e n = vw n) ∧ e.safe = e.now ∧ S' = [chD', chV] := by
  obtain ⟨e, v, t1, a, w, hcur, _, hsn⟩ := mount_kv hc hD.wf h hep hsq hf
  have hm := vk_Mount hD (hf.mono hk)
  rw [a] at hm
  refine hm.mono ?_
  rintro r J S' hJ ⟨chD', hD', ⟨h0, _⟩ | ⟨_, v', bV, chV, hv, rfl, hV, rfl⟩⟩
  · exact absurd rfl h0
  · cases hv
    exact ⟨bV, v, e, t1, chV, chD', rfl, hD', hV, w, hcur, hsn, rfl⟩
theorem DSt.Few.crash {d : DSt} {k : Nat} (h : d.Few k) (keep : List Bool) (tn : Int) (sec : Nat) : (d.crash keep tn sec).Few k := ⟨by show ([] : List (Int × Dat)).length ≤ k; simp, h.2.1, h.2.2⟩
theorem law11_mounted {I : Imm} {bD : Nat} {d : DSt} {chD : List Blk} (hD : Dk I bD d chD) (hup : d.down = false) (hw : d.writes = []) (hsn : d.safe = d.now) {ep t0 sq k : Nat} {ls : List (List PImg)} {vw : Int → Dat} (h : RBx d.now ep t0 sq ls vw) (hep : ep + 2 < 8388608) (hsq : sq + ls.length ≤ 549755813888) (hf : d.Few k) (hk : k + 17 ≤ 700000)
    (aW : Option Addr) (nW capW : Nat) (arm : Int) (aK : Option Addr) (nK capK : Nat) (aL : Option Addr) (nL capL : Nat) (later : List Bool) (hL : Rds I aL nL (bools later)) (tn : Int) (sec : Nat) (hsec : sec < 256) (again : Int) (hag : In64 again) :
    Tri Tryz.prog 35 #[.pointer (some ⟨bD, 0, none⟩), .agg #[.slice aW nW capW, .int .i64 arm, .slice aK nK capK, .slice aL nL capL, .int .i64 tn, .int .u8 sec, .int .i64 again]] I [chD] fun r J S' =>
      ∃ bV v e ep' t1 chV chD', r = .tuple #[.pointer (some ⟨bV, 0, none⟩), .bool true] ∧ Dk J bD e chD' ∧ Vk J bV bD v chV ∧ KV ep' t1 (sq + ls.length) v e [] 0 (k + 34) ∧ ep' ≤ ep + 2 ∧ (∀ n : Int, 18 ≤ n → n < 64 → v.cur e n = vw n) ∧ S' = [chD', chV] := by
  have hp := pickS_range (n := again) (m := 8) (by decide)
  refine Tri.drop ?_ (fun _ _ _ _ h => h)
  refine Tri.of (args := [.pointer (some ⟨bD, 0, none⟩), .agg #[.slice aW nW capW, .int .i64 arm, .slice aK nK capK, .slice aL nL capL, .int .i64 tn, .int .u8 sec, .int .i64 again]]) tabOk Tryz.func35 rfl (by kernel_rfl) (by kernel_rfl) ?_
  conv => whnf
  intro b1
  repeat (first | refine LoadD.own 1 rfl _ rfl rfl ?_)
  refine Tri.free (low_Pick again 8 _ hag (by unfold In64; omega)) ?_
  rintro v _ _ hJ ⟨rfl, rfl⟩
  refine Tri.frame1 0 rfl (dk_Arm hD (pickS again 8) (by unfold In64; omega)) ?_
  rw [show d.armed (pickS again 8) = ({ d with arm := ⟨true, pickS again 8⟩ }, 0) by unfold DSt.armed; rw [if_neg (by omega)]]
  rintro v J1 A' hJ1 ⟨rfl, chD1, hD1, rfl⟩
  refine ⟨_, rfl, ?_⟩
  dsimp only at hD1
  skip
  obtain ⟨d1, hd1⟩ : ∃ d1 : DSt, d1 = { d with arm := ⟨true, pickS again 8⟩ } := ⟨_, rfl⟩
  rw [← hd1] at hD1
  have hup1 : d1.down = false := by rw [hd1]; exact hup
  have hw1 : d1.writes = [] := by rw [hd1]; exact hw
  have hsn1 : d1.safe = d1.now := by rw [hd1]; exact hsn
  have h1 : RBx d1.now ep t0 sq ls vw := by rw [hd1]; exact h
  have hf1 : d1.Few k := by rw [hd1]; exact hf
  have hl1 : d1.now.length = 64 := h1.len
  refine Tri.frame1 0 rfl (mount_dk hD1 (hf1.mono (by omega))) ?_
  rintro r J2 A' hJ2 ⟨ra, rb, chD2, rfl, hD2, rfl⟩
  refine ⟨_, rfl, ?_⟩
  repeat (first | refine LoadD.own 1 rfl _ rfl rfl ?_)
  have hf2 := mountP_few hf1 hl1
  refine Tri.frame1 0 rfl (dk_Crash hD2 (hf2.mono (by omega)) aL nL capL later (hL.mono (Imm.le_trans hJ1 hJ2)) tn sec hsec) ?_
  rintro r J3 A' hJ3 ⟨rfl, chD3, hD3, rfl⟩
  refine ⟨_, rfl, ?_⟩
  repeat (first | refine CmpD.yes rfl ?_)
  obtain ⟨ep', t', sq', ls', hR, hle, hsum⟩ := mount_any hup1 hw1 hsn1 h1 (by omega) hsq later tn sec
  refine Tri.frame (mount_vk hD3 ⟨rfl, rfl, rfl⟩ hR (by omega) (by omega) (hf2.crash later tn sec) hk) [0] rfl rfl ?_
  rintro r J4 A' hJ4 ⟨bV, v, e, t1, chV, chD4, rfl, hD4, hV, w, hcur, _, rfl⟩
  refine ⟨by simp, ?_⟩
  repeat (first | refine CmpD.yes rfl ?_)
  rw [hsum] at w
  exact Done.mk ⟨_, Drop.pick [0, 2] _ rfl, bV, v, e, ep' + 1, t1, chV, chD4, rfl, hD4, hV, w, by omega, hcur, rfl⟩
end Go.Proofs.YtegdcjnjnoeinaaGreat
namespace Go.Proofs.YtegdcjnjnoeinaaGreat
open Go.RowKit Go.Sl
set_option maxRecDepth 20000

theorem wrAll_few (f : Nat → Int) : ∀ (bs : List Dat) (i : Nat) (d : DSt) (k : Nat), d.Few k → (wrAll f bs i d).1.Few (k + bs.length)
  | [], _, _, _, h => h
  | b :: bs, i, d, k, h => by
    rw [wrAll]
    split
    · exact (h.write _ _).mono (by simp)
    · exact (wrAll_few f bs (i + 1) _ _ (h.write _ _)).mono (by simp; omega)
theorem append_few (j : JSt) {d : DSt} {k : Nat} (h : d.Few k) (l : List PImg) (hd : Bool) : (j.appendB d l hd).2.1.Few (k + (l.length + 1)) := by
  have h0 : d.Few (k + (l.length + 1)) := h.mono (by omega)
  unfold JSt.appendB
  split
  · exact h0
  unfold JSt.append
  split
  · exact h0
  split
  · exact h0
  have key : ∀ p : (Int × Int × Int × Int × Int) × Int, (match p with
      | ((s, t, u, h, e), at_) => if e ≠ 0 then (j, d, 0, e) else
        match wrAll (fun i => j.lay.l + (at_ + i) % s) (putP j.epoch.toNat j.next.toNat l) 0 d with
        | (d', e') => if e' ≠ 0 then ({ j with s := s, t := t, u := u, h := h, broken := true }, d', 0, e') else
          ({ j with s := s, t := t, u := u, h := h, groups := j.groups ++ [(j.next, (l.length + 1 : Int))], next := j.next + 1 }, d', j.next, 0) : JSt × DSt × Int × Int).2.1.Few (k + (l.length + 1)) := by
    rintro ⟨⟨s, t, u, h', e⟩, at_⟩
    dsimp only
    have := wrAll_few (fun i => j.lay.l + (at_ + i) % s) (putP j.epoch.toNat j.next.toNat l) 0 d k h
    rw [putP_length] at this
    split
    · exact h0
    · split <;> exact this
  exact key _
theorem sync_few (v : VSt) {d : DSt} {k : Nat} (h : d.Few k) : (v.sync d).2.1.Few k := by
  unfold VSt.sync
  split
  · exact h
  · exact jflush_few h
theorem ckpt_few (v : VSt) {d : DSt} {k : Nat} (h : d.Few k) (hf : v.fresh.length ≤ 16) : (v.ckpt d).2.1.Few (k + 17) := by
  have h1 := jflush_few (j := v.j) h
  have h2 := doP_few h1 (sortP v.fresh) v.sup v.slot
  have hl : (sortP v.fresh).length = v.fresh.length := sortP_length _
  have hs : (v.ckS d).2.2.Few (k + 17) := by
    unfold VSt.ckS
    split
    · exact h1.mono (by omega)
    split
    · exact h2.mono (by omega)
    · exact h2.mono (by omega)
  unfold VSt.ckpt
  split
  · exact h.mono (by omega)
  split
  · exact hs
  · exact hs
theorem app_few (v : VSt) {d : DSt} {k : Nat} (h : d.Few k) (l : List PImg) : (v.app d l).2.1.Few (k + (l.length + 1)) := by
  unfold VSt.app
  split <;> exact append_few v.j h l false
theorem commit_few (v : VSt) {d : DSt} {k : Nat} (h : d.Few k) (hf : v.fresh.length ≤ 16) (l : List PImg) (hl : l.length + 1 ≤ 16) : (v.commit d l).2.1.Few (k + 33) := by
  unfold VSt.commit
  split
  · exact h.mono (by omega)
  split
  · exact h.mono (by omega)
  split
  · exact h.mono (by omega)
  split
  · exact h.mono (by omega)
  split
  · split
    · exact (ckpt_few v h hf).mono (by omega)
    · exact (app_few _ (ckpt_few v h hf) l).mono (by omega)
  · exact (app_few v h l).mono (by omega)
/-- a volume and its disk, between two crashes -/
structure LifeSt (epm sqm K : Nat) (states : List (List Dat)) (sure : Nat) (v : VSt) (d : DSt) : Prop where
  few : d.Few K
  st : (v.broken = true ∧ CrashTo d epm sqm (ToldS states sure)) ∨ (v.broken = false ∧ ∃ ep t sq ls m k b, SK ep t sq v d ls m k states b ∧ sure ≤ b + m ∧ ep ≤ epm ∧ sq + ls.length ≤ sqm)
section
variable {epm sqm K : Nat} {states : List (List Dat)} {sure : Nat} {v : VSt} {d : DSt}
theorem LifeSt.to (h : LifeSt epm sqm K states sure v d) (hsq : sqm ≤ 549755813889) : CrashTo d epm sqm (ToldS states sure) := by
  rcases h.st with ⟨_, h⟩ | ⟨_, ep, t, sq, ls, m, k, b, w, hs, he, hq⟩
  · exact h
  · exact (w.to hs (by omega)).mono he hq (fun _ h => h)
theorem LifeSt.mono {e s k : Nat} (h : LifeSt epm sqm K states sure v d) (he : epm ≤ e) (hs : sqm ≤ s) (hk : K ≤ k) : LifeSt e s k states sure v d := by
  refine ⟨h.few.mono hk, ?_⟩
  rcases h.st with ⟨h1, h2⟩ | ⟨h1, ep, t, sq, ls, m, k, b, w, g1, g2, g3⟩
  · exact .inl ⟨h1, h2.mono he hs (fun _ h => h)⟩
  · exact .inr ⟨h1, ep, t, sq, ls, m, k, b, w, g1, by omega, by omega⟩
structure Calls (v : VSt) : Prop where
  wf : v.j.Wf
  ep : v.epoch = v.j.epoch
  slot : 0 ≤ v.slot ∧ v.slot ≤ 1
  fresh : v.fresh.length ≤ 16
  groups : v.j.groups.length ≤ 800000
theorem SK.calls {ep t0 sq m k b : Nat} {ls : List (List PImg)} (w : SK ep t0 sq v d ls m k states b) : Calls v := by
  refine ⟨w.kv.w.e.wf, by rw [w.kv.w.epoch, w.kv.w.e.epoch], by rcases w.kv.w.slot with h | h <;> omega, w.kv.w.few_fresh, ?_⟩
  have := usedP_ge ls
  have := w.kv.w.e.used
  rw [w.kv.w.e.groups, grL_length]; omega
theorem LifeSt.calls (h : LifeSt epm sqm K states sure v d) (hb : v.broken = false) : Calls v := by
  rcases h.st with ⟨h1, _⟩ | ⟨_, ep, t, sq, ls, m, k, b, w, _⟩
  · rw [hb] at h1; cases h1
  · exact w.calls
theorem LifeSt.sync (h : LifeSt epm sqm K states sure v d) (hb : v.broken = false) (hsq : sqm ≤ 549755813888) : LifeSt epm sqm K states (if (v.sync d).2.2 = 0 then states.length - 1 else sure) (v.sync d).1 (v.sync d).2.1 := by
  refine ⟨sync_few v h.few, ?_⟩
  rcases h.st with ⟨h1, _⟩ | ⟨_, ep, t, sq, ls, m, k, b, w, g1, g2, g3⟩
  · rw [hb] at h1; cases h1
  rcases w.sync g1 (by omega) with ⟨v', d', a, w', hl⟩ | ⟨v', d', e, a, he, hbr, hc⟩
  · right
    rw [a, if_pos rfl]
    exact ⟨w'.kv.w.broken, ep, t, sq, ls, _, k, b, w', by omega, g2, g3⟩
  · left
    rw [a, if_neg he]
    exact ⟨hbr, hc.mono g2 g3 (fun _ h => h)⟩
theorem LifeSt.ckpt (h : LifeSt epm sqm K states sure v d) (hb : v.broken = false) (hsq : sqm ≤ 549755813888) : LifeSt epm sqm (K + 17) states (if (v.ckpt d).2.2 = 0 then states.length - 1 else sure) (v.ckpt d).1 (v.ckpt d).2.1 := by
  refine ⟨ckpt_few v h.few (h.calls hb).fresh, ?_⟩
  rcases h.st with ⟨h1, _⟩ | ⟨_, ep, t, sq, ls, m, k, b, w, g1, g2, g3⟩
  · rw [hb] at h1; cases h1
  rcases w.ckpt g1 (by omega) with ⟨v', d', a, w', hl⟩ | ⟨v', d', e, a, he, hbr, hc⟩
  · right
    rw [a, if_pos rfl]
    exact ⟨w'.kv.w.broken, ep, _, _, [], 0, _, _, w', by omega, g2, by simp; omega⟩
  · left
    rw [a, if_neg he]
    exact ⟨hbr, hc.mono g2 g3 (fun _ h => h)⟩
theorem LifeSt.commit (h : LifeSt epm sqm K states sure v d) (hb : v.broken = false) (hsq : sqm ≤ 549755813880) {l : List PImg} (hl : 1 ≤ l.length ∧ l.length + 1 ≤ 16) (hg : ∀ g ∈ l, 18 ≤ g.1 ∧ g.1 < 64 ∧ g.2.length = 4096) (hnd : (l.map Prod.fst).Nodup) {last : List Dat} (hlast : states[states.length - 1]? = some last) :
    LifeSt epm (sqm + 1) (K + 33) (states ++ [behindL last l]) sure (v.commit d l).1 (v.commit d l).2.1 ∧ ((v.commit d l).2.2.2 = 0 ∨ (v.commit d l).1.broken = true) := by
  rcases h.st with ⟨h1, _⟩ | ⟨_, ep, t, sq, ls, m, k, b, w, g1, g2, g3⟩
  · rw [hb] at h1; cases h1
  have hpos := w.kv.w.e.pos
  have hep1 := w.kv.w.e.epr
  have hR : RightP ep ((sq + ls.length : Nat) : Int) l := ⟨by omega, by omega, by omega, by omega, hl.1, by omega, fun g hg' => by have := hg g hg'; exact ⟨by omega, by omega, this.2.2⟩, hnd⟩
  have hho : HomeOk (layOf 64) l := of_home64 fun g hg' => ⟨(hg g hg').1, (hg g hg').2.1⟩
  have hfew := commit_few v h.few (h.calls hb).fresh l hl.2
  rcases w.commit g1 hho hR hl.2 hlast with ⟨v', d', t1, sq', ls', m', b', a, w', hs', hsum⟩ | ⟨v', d', e, a, he, hbr, hc⟩
  · rw [a] at hfew ⊢
    exact ⟨⟨hfew, .inr ⟨w'.kv.w.broken, ep, t1, sq', ls', m', _, b', w', hs', g2, by omega⟩⟩, .inl rfl⟩
  · rw [a] at hfew ⊢
    exact ⟨⟨hfew, .inl ⟨hbr, hc.mono g2 (by omega) (fun _ h => h)⟩⟩, .inr hbr⟩
/-- a life begins: what is told is what is there -/
theorem KV.still {ep t0 sq m k : Nat} {ls : List (List PImg)} (w : KV ep t0 sq v d ls m k) : KV ep t0 sq v d.still ls m k := by
  have hc := w.w.e.calm
  refine ⟨⟨{ w.w.e with calm := DSt.still_calm hc.1, dwf := ?_, len := w.w.e.len, few := w.w.e.few, ring := w.w.e.ring }, w.w.epoch, w.w.slot, w.w.fresh, w.w.home, w.w.broken⟩, w.sup, w.le, w.wr, w.ring, w.rest, w.nowrest, w.same, w.sy⟩
  have hw := w.w.e.dwf
  exact ⟨hw.len, hw.range, hw.safe, hw.now, hw.writes, fun h => (Bool.false_ne_true h).elim, fun h => (Bool.false_ne_true h).elim⟩
theorem LifeSt.start {ep t0 sq k : Nat} (w : KV ep t0 sq v d [] 0 k) (n : Int) : LifeSt ep sq k [cur6 v d] 0 v { d with arm := ⟨true, n⟩ } := by
  refine ⟨w.w.e.few, .inr ⟨w.w.broken, ep, t0, sq, [], 0, k, 0, ⟨w.still, w.w.e.calm.1, rfl, fun i hi => ?_⟩, Nat.le_refl _, Nat.le_refl _, by simp⟩⟩
  obtain rfl : i = 0 := by simpa using hi
  show some (cur6 v d) = some (six _)
  congr 1
  unfold cur6 six
  refine List.map_congr_left fun i hi => ?_
  have := List.mem_range.1 hi
  rw [w.view (by omega) (by omega)]
  rfl
end
end Go.Proofs.YtegdcjnjnoeinaaGreat
namespace Go.Proofs.YtegdcjnjnoeinaaGreat
open Go.RowKit Go.Sl
set_option maxRecDepth 20000

theorem open_bools {H : Type} {enc : TypeId × Value → H} {W : World} {held : Bool} {fuel : Nat} {c0 : Value} {x : DataW H × List MemPlace} (h : DataW.trod enc Tryz.prog W 0 (fun _ => true) held fuel 57 [c0] = some x) :
    ∃ (a : Option Addr) (len cap : Nat) (l : List Bool), c0 = .slice a len cap ∧ Rds (base W) a len (bools l) := by
  obtain ⟨a, len, cap, vs, D, rfl, _, _, hel, hR, _⟩ := open_elems Tryz.underlying57 (k := 1) (by kernel_rfl) (by omega) h
  obtain ⟨z, hz⟩ := Go.Deep.choose_lt (α := Bool) (n := len) (p := fun i z => vs i = [.bool z]) (fun i hi => by
    obtain ⟨_, n, Pl, ht⟩ := hel i hi
    obtain ⟨b, h1, _⟩ := DataW.trod_bool Tryz.underlying4 ht
    exact ⟨b, h1⟩)
  refine ⟨a, len, cap, (List.range len).map z, rfl, ?_⟩
  rw [Nat.mul_one] at hR
  have e : (List.range len).flatMap vs = bools ((List.range len).map z) := by
    rw [Go.Deep.flatMap_congr_range (fun i hi => hz i hi)]
    unfold bools
    rw [List.map_map]
    induction List.range len with
    | nil => rfl
    | cons y l ih => simp [ih]
  rw [← e]; exact hR
theorem u8_of_wf {n : Int} (h : (Lit.int .u8 n).wf = true) : ∃ m : Nat, n = m ∧ m < 256 := by
  simp [Lit.wf, IntKind.min, IntKind.max, IntKind.signed, IntKind.bits] at h
  exact ⟨n.toNat, by omega, by omega⟩
end Go.Proofs.YtegdcjnjnoeinaaGreat
namespace Go.Proofs.YtegdcjnjnoeinaaGreat
open Go.RowKit Go.Sl
set_option maxRecDepth 20000

theorem open_intsL {H : Type} {enc : TypeId × Value → H} {W : World} {held : Bool} {fuel : Nat} {c0 : Value} {x : DataW H × List MemPlace} (h : DataW.trod enc Tryz.prog W 0 (fun _ => true) held fuel 28 [c0] = some x) :
    ∃ (a : Option Addr) (len cap : Nat) (l : List Int), c0 = .slice a len cap ∧ l.length = len ∧ Rds (base W) a len (ints l) ∧ ∀ z ∈ l, In64 z := by
  obtain ⟨a, len, cap, vs, D, rfl, _, _, hel, hR, _⟩ := open_elems Tryz.underlying28 (k := 1) (by kernel_rfl) (by omega) h
  obtain ⟨z, hz⟩ := Go.Deep.choose_lt (α := Int) (n := len) (p := fun i z => vs i = [.int .i64 z] ∧ In64 z) (fun i hi => by
    obtain ⟨_, n, Pl, ht⟩ := hel i hi
    obtain ⟨b, h1, _, h2⟩ := DataW.trod_int Tryz.underlying3 ht
    exact ⟨b, h1, int_of_wf h2⟩)
  refine ⟨a, len, cap, (List.range len).map z, rfl, by simp, ?_, ?_⟩
  · rw [Nat.mul_one] at hR
    have e : (List.range len).flatMap vs = ints ((List.range len).map z) := by
      rw [Go.Deep.flatMap_congr_range (fun i hi => (hz i hi).1)]
      unfold ints
      rw [List.map_map]
      induction List.range len with
      | nil => rfl
      | cons y l ih => simp [ih]
    rw [← e]; exact hR
  · intro y hy
    obtain ⟨i, hi, rfl⟩ := List.mem_map.1 hy
    exact (hz i (List.mem_range.1 hi)).2
/-- a life, as it lies -/
structure LifeV where
  aW : Option Addr
  nW : Nat
  capW : Nat
  work : List Int
  arm : Int
  aK : Option Addr
  nK : Nat
  capK : Nat
  keep : List Bool
  aL : Option Addr
  nL : Nat
  capL : Nat
  later : List Bool
  tn : Int
  sec : Nat
  again : Int
def LifeV.cells (x : LifeV) : List Value := [.slice x.aW x.nW x.capW, .int .i64 x.arm, .slice x.aK x.nK x.capK, .slice x.aL x.nL x.capL, .int .i64 x.tn, .int .u8 x.sec, .int .i64 x.again]
structure LifeOk (J : Imm) (x : LifeV) : Prop where
  wl : x.work.length = x.nW
  w : Rds J x.aW x.nW (ints x.work)
  wi : ∀ z ∈ x.work, In64 z
  arm : In64 x.arm
  k : Rds J x.aK x.nK (bools x.keep)
  l : Rds J x.aL x.nL (bools x.later)
  tn : In64 x.tn
  sec : x.sec < 256
  again : In64 x.again
theorem LifeOk.mono {I J : Imm} {x : LifeV} (h : LifeOk I x) (hJ : I.le J) : LifeOk J x := ⟨h.wl, h.w.mono hJ, h.wi, h.arm, h.k.mono hJ, h.l.mono hJ, h.tn, h.sec, h.again⟩
theorem trod_struct7 {H : Type} {enc : TypeId × Value → H} {P : Program} {W : World} {base : Nat} {spare : TypeId → Bool} {held : Bool} {t : TypeId} {f0 f1 f2 f3 f4 f5 f6 : Field} {fuel : Nat} {cs : List Value} {x : DataW H × List MemPlace} (ht : P.underlying t = some (.struct #[f0, f1, f2, f3, f4, f5, f6])) (h : DataW.trod enc P W base spare held fuel t cs = some x) :
    ∃ y0 y1 y2 y3 y4 y5 y6 n, DataW.trod enc P W base spare held n f0.type ((cs.drop f0.offset).take (P.cellsOf f0.type)) = some y0 ∧ DataW.trod enc P W base spare held n f1.type ((cs.drop f1.offset).take (P.cellsOf f1.type)) = some y1 ∧
      DataW.trod enc P W base spare held n f2.type ((cs.drop f2.offset).take (P.cellsOf f2.type)) = some y2 ∧ DataW.trod enc P W base spare held n f3.type ((cs.drop f3.offset).take (P.cellsOf f3.type)) = some y3 ∧
      DataW.trod enc P W base spare held n f4.type ((cs.drop f4.offset).take (P.cellsOf f4.type)) = some y4 ∧ DataW.trod enc P W base spare held n f5.type ((cs.drop f5.offset).take (P.cellsOf f5.type)) = some y5 ∧
      DataW.trod enc P W base spare held n f6.type ((cs.drop f6.offset).take (P.cellsOf f6.type)) = some y6 := by
  obtain ⟨xs, n, _, rfl, hl, hlen, hf⟩ := DataW.trod_struct ht h
  match xs, hlen with
  | [y0, y1, y2, y3, y4, y5, y6], _ => exact ⟨y0, y1, y2, y3, y4, y5, y6, n, by simpa using hf 0 f0 rfl, by simpa using hf 1 f1 rfl, by simpa using hf 2 f2 rfl, by simpa using hf 3 f3 rfl, by simpa using hf 4 f4 rfl, by simpa using hf 5 f5 rfl, by simpa using hf 6 f6 rfl⟩
theorem list7 {α : Type} {cs : List α} (h : cs.length = 7) : ∃ a b c d e f g, cs = [a, b, c, d, e, f, g] := by
  match cs, h with
  | [a, b, c, d, e, f, g], _ => exact ⟨a, b, c, d, e, f, g, rfl⟩
theorem open_life {H : Type} {enc : TypeId × Value → H} {W : World} {held : Bool} {fuel : Nat} {cs : List Value} (hl : cs.length = 7) {x : DataW H × List MemPlace} (h : DataW.trod enc Tryz.prog W 0 (fun _ => true) held fuel 59 cs = some x) :
    ∃ l : LifeV, cs = l.cells ∧ LifeOk (base W) l := by
  obtain ⟨v0, v1, v2, v3, v4, v5, v6, rfl⟩ := list7 hl
  obtain ⟨y0, y1, y2, y3, y4, y5, y6, n2, t0, t1, t2, t3, t4, t5, t6⟩ := trod_struct7 Tryz.underlying59 h
  have c1 : Tryz.prog.cellsOf 3 = 1 := by kernel_rfl
  have c2 : Tryz.prog.cellsOf 57 = 1 := by kernel_rfl
  have c3 : Tryz.prog.cellsOf 5 = 1 := by kernel_rfl
  have c4 : Tryz.prog.cellsOf 28 = 1 := by kernel_rfl
  have t0 : DataW.trod enc Tryz.prog W 0 (fun _ => true) held n2 28 (([v0, v1, v2, v3, v4, v5, v6].drop 0).take (Tryz.prog.cellsOf 28)) = some y0 := t0
  have t1 : DataW.trod enc Tryz.prog W 0 (fun _ => true) held n2 3 (([v0, v1, v2, v3, v4, v5, v6].drop 1).take (Tryz.prog.cellsOf 3)) = some y1 := t1
  have t2 : DataW.trod enc Tryz.prog W 0 (fun _ => true) held n2 57 (([v0, v1, v2, v3, v4, v5, v6].drop 2).take (Tryz.prog.cellsOf 57)) = some y2 := t2
  have t3 : DataW.trod enc Tryz.prog W 0 (fun _ => true) held n2 57 (([v0, v1, v2, v3, v4, v5, v6].drop 3).take (Tryz.prog.cellsOf 57)) = some y3 := t3
  have t4 : DataW.trod enc Tryz.prog W 0 (fun _ => true) held n2 3 (([v0, v1, v2, v3, v4, v5, v6].drop 4).take (Tryz.prog.cellsOf 3)) = some y4 := t4
  have t5 : DataW.trod enc Tryz.prog W 0 (fun _ => true) held n2 5 (([v0, v1, v2, v3, v4, v5, v6].drop 5).take (Tryz.prog.cellsOf 5)) = some y5 := t5
  have t6 : DataW.trod enc Tryz.prog W 0 (fun _ => true) held n2 3 (([v0, v1, v2, v3, v4, v5, v6].drop 6).take (Tryz.prog.cellsOf 3)) = some y6 := t6
  rw [c4] at t0
  rw [c1] at t1 t4 t6
  rw [c2] at t2 t3
  rw [c3] at t5
  obtain ⟨m1, h1, _, hw1⟩ := DataW.trod_int Tryz.underlying3 t1
  obtain ⟨m4, h4, _, hw4⟩ := DataW.trod_int Tryz.underlying3 t4
  obtain ⟨m5, h5, _, hw5⟩ := DataW.trod_int Tryz.underlying5 t5
  obtain ⟨m6, h6, _, hw6⟩ := DataW.trod_int Tryz.underlying3 t6
  obtain ⟨a0, len0, cap0, l0, rfl, hl0, hR0, hi0⟩ := open_intsL t0
  obtain ⟨a2, len2, cap2, l2, rfl, hR2⟩ := open_bools t2
  obtain ⟨a3, len3, cap3, l3, rfl, hR3⟩ := open_bools t3
  obtain ⟨s5, rfl, hs5⟩ := u8_of_wf hw5
  simp only [List.drop_succ_cons, List.drop_zero, List.take_succ_cons, List.take_zero, List.cons.injEq, and_true] at h1 h4 h5 h6
  subst h1 h4 h5 h6
  exact ⟨⟨a0, len0, cap0, l0, m1, a2, len2, cap2, l2, a3, len3, cap3, l3, m4, s5, m6⟩, rfl, hl0, hR0, hi0, int_of_wf hw1, hR2, hR3, int_of_wf hw4, hs5, int_of_wf hw6⟩
theorem open_lives {H : Type} {enc : TypeId × Value → H} {W : World} {held : Bool} {fuel : Nat} {c0 : Value} {x : DataW H × List MemPlace} (h : DataW.trod enc Tryz.prog W 0 (fun _ => true) held fuel 54 [c0] = some x) :
    ∃ (a : Option Addr) (len cap : Nat) (l : List LifeV), c0 = .slice a len cap ∧ l.length = len ∧ Rds (base W) a (len * 7) (l.flatMap LifeV.cells) ∧ ∀ c ∈ l, LifeOk (base W) c := by
  obtain ⟨a, len, cap, vs, D, rfl, _, _, hel, hR, _⟩ := open_elems Tryz.underlying54 (k := 7) (by kernel_rfl) (by omega) h
  have : Inhabited LifeV := ⟨⟨none, 0, 0, [], 0, none, 0, 0, [], none, 0, 0, [], 0, 0, 0⟩⟩
  obtain ⟨z, hz⟩ := Go.Deep.choose_lt (α := LifeV) (n := len) (p := fun i c => vs i = c.cells ∧ LifeOk (base W) c) (fun i hi => by
    obtain ⟨hl, n, Pl, ht⟩ := hel i hi
    exact open_life hl ht)
  refine ⟨a, len, cap, (List.range len).map z, rfl, by simp, ?_, ?_⟩
  · have e : (List.range len).flatMap vs = ((List.range len).map z).flatMap LifeV.cells := by
      rw [Go.Deep.flatMap_congr_range (fun i hi => (hz i hi).1), List.flatMap_map]
    rw [← e]; exact hR
  · intro g hg
    obtain ⟨i, hi, rfl⟩ := List.mem_map.1 hg
    exact (hz i (List.mem_range.1 hi)).2
end Go.Proofs.YtegdcjnjnoeinaaGreat
namespace Go.Proofs.YtegdcjnjnoeinaaGreat
open Go.RowKit Go.Sl
set_option maxRecDepth 20000

/-- six blocks, as they lie -/
structure Ls where
  a : Option Addr
  cap : Nat
  g : List Bk
def Ls.cell (x : Ls) : Value := .slice x.a 6 x.cap
def Ls.dat (x : Ls) : List Dat := x.g.map Bk.data
structure LsOk (J : Imm) (x : Ls) : Prop where
  len : x.g.length = 6
  rds : Rds J x.a 6 (x.g.map Bk.cell)
  ok : ∀ b ∈ x.g, BkOk J b
theorem LsOk.mono {I J : Imm} {x : Ls} (h : LsOk I x) (hJ : I.le J) : LsOk J x := ⟨h.len, h.rds.mono hJ, fun b hb => Rds.mono (h.ok b hb) hJ⟩
theorem lives_at {l : List LifeV} {i : Nat} (h : i < l.length) : ((l.flatMap LifeV.cells).drop (i * 7)).take 7 = l[i].cells := by
  induction l generalizing i with
  | nil => simp at h
  | cons g l ih =>
    have e : (g :: l).flatMap LifeV.cells = g.cells ++ l.flatMap LifeV.cells := by simp
    cases i with
    | zero => rw [e]; rfl
    | succ i =>
      have := ih (i := i) (by simpa using h)
      rw [e, show (i + 1) * 7 = g.cells.length + i * 7 by simp [LifeV.cells]; omega, ← List.drop_drop, List.drop_left]
      simpa using this
theorem quo_nat11 (a b : Nat) (h : a ≤ 9223372036854775807) : IntKind.i64.wrap (((a : Int)).tdiv (b : Int)) = ((a / b : Nat) : Int) := by
  have h1 : a / b ≤ a := Nat.div_le_self _ _
  rw [Int.tdiv_eq_ediv_of_nonneg (by omega), ← Int.natCast_ediv]
  generalize a / b = q at *
  exact wrap_i64 (by omega) (by omega)
def imL (p n : Nat) : List PImg := (List.range n).map fun i : Nat => (((30 + (p / 32 + i) % 6 : Nat) : Int), madeL ((p + i : Nat) : Int) 4096)
theorem imL_succ (p n : Nat) : imL p (n + 1) = imL p n ++ [(((30 + (p / 32 + n) % 6 : Nat) : Int), madeL ((p + n : Nat) : Int) 4096)] := by simp [imL, List.range_succ]
theorem imL_nodup (p n : Nat) (hn : n ≤ 4) : ((imL p n).map Prod.fst).Nodup := by
  have : (imL p n).map Prod.fst = (List.range n).map fun i : Nat => ((30 + (p / 32 + i) % 6 : Nat) : Int) := by
    unfold imL; rw [List.map_map]; rfl
  rw [this, List.nodup_iff_pairwise_ne, List.pairwise_map]
  refine List.Pairwise.imp_of_mem ?_ (List.pairwise_lt_range (n := n))
  intro a b ha hb hab
  have := List.mem_range.1 ha
  have := List.mem_range.1 hb
  omega
set_option maxHeartbeats 8000000 in
theorem volumeKept_walk {I : Imm} (aX : Option Addr) (nX capX : Nat) (lv : List LifeV) (hlv : lv.length = nX) (hX : Rds I aX (nX * 7) (lv.flatMap LifeV.cells)) (hok : ∀ x ∈ lv, LifeOk I x) :
    Tri Tryz.prog 5 #[.slice aX nX capX] I [] fun v _ _ => v = .bool true := by
  refine Tri.of (args := [.slice aX nX capX]) tabOk Tryz.func5 rfl (by kernel_rfl) (by kernel_rfl) ?_
  refine Tri.frameX (law_fresh _) [] rfl rfl ?_
  rintro r J1 A' hJ1 ⟨bD, bV0, chD0, chV0, rfl, hD0, hV0, rfl⟩
  skip
  refine Tri.frame (law11_blocks hV0 hD0 v0_kv.w) [0, 1] rfl rfl ?_
  rintro r J2 A' hJ2 ⟨aG, capG, g, rfl, hgl, hG, hgok, hgd, rfl⟩
  refine ⟨by simp, ?_⟩
  skip
  conv => whnf
  intro bS
  skip
  refine CodeF.loopF [0, 3, 4, 6, 7] (fun vs J S' => ∃ (i : Nat) (v : VSt) (d : DSt) (bV aSo : Nat) (t0 ep sq k : Nat) (chV chD chS : List Blk) (aS : Option Addr) (capS : Nat) (x : Ls), i ≤ nX ∧ i ≤ 3 ∧ aSo = 0 ∧ Vk J bV bD v chV ∧ Dk J bD d chD ∧ KV ep t0 sq v d [] 0 k ∧ ep ≤ 2 + 3 * i ∧ sq ≤ 1 + 26 * i ∧ k ≤ 24 + 1000 * i ∧ OwnC chS 1 aS 1 capS [x.cell] ∧ LsOk J x ∧ x.dat = cur6 v d ∧ J2.le J ∧
      vs = [.slice aX nX capX, .pointer (some ⟨bD, 0, none⟩), .pointer (some ⟨bV, 0, none⟩), .slice aS 1 capS, .int .i64 i] ∧ S' = [chV, chD, chS])
    (fun vs _ _ => match vs with | [_, _, _, _, .int _ i] => ((3 : Int) - i).toNat | _ => 0) ?_ ?_
  · exact ⟨_, Drop.refl _, 0, v0, dV, bV0, 0, 0, 2, 1, 24, chV0, chD0, _, _, _, ⟨aG, capG, g⟩, by omega, by omega, rfl, hV0.mono hJ2, hD0.mono hJ2, v0_kv, by omega, by omega, by omega, OwnC.whole (len := 1) (size := 1) rfl, ⟨hgl, hG, hgok⟩, hgd, Imm.le_refl _, rfl, rfl⟩
  rintro vs gE J S' hJ ⟨i, v, d, bV, aSo, t0, ep, sq, k, chV, chD, chS, aS, capS, x, hi, hi3, rfl, hV, hD, w, hep, hsq, hk, hS, hx, hxd, hle, rfl, rfl⟩
  refine CodeF.stepD ?_
  refine CmpD.split (fun (c1 : (i : Int) < (nX : Int)) => ?_) (fun (c1 : ¬ (i : Int) < (nX : Int)) => ?_)
  rotate_left
  · refine Tri.mono (awake11 _ _) ?_
    rintro r _ _ hJ11 rfl
    exact Done.mk rfl
  refine CmpD.split (fun (c2 : (i : Int) < 3) => ?_) (fun (c2 : ¬ (i : Int) < 3) => ?_)
  rotate_left
  · refine Tri.mono (awake11 _ _) ?_
    rintro r _ _ hJ11 rfl
    exact Done.mk rfl
  refine CodeF.seqF (CodeF.blockF ?_ rfl)
  have hlt : i < lv.length := by omega
  rcases hX.mem with q0 | ⟨bA, oA, cA, TA, fA, rfl, hIA, hcA⟩
  · omega
  have hpart := take_part hcA (i := i * 7) (m := 7) (by omega)
  rw [lives_at hlt] at hpart
  have hlf := hok lv[i] (List.getElem_mem hlt)
  generalize lv[i] = y at *
  obtain ⟨aW, nW, capW, work, arm, aK, nK, capK, keep, aL, nL, capL, later, tn, sec, again⟩ := y
  obtain ⟨hwl, hW, hwi, harm, hK, hL, htn, hsec, hag⟩ := hlf
  dsimp only at hwl hW hwi harm hK hL htn hsec hag
  have hle0 : I.le J := Imm.le_trans hJ1 (Imm.le_trans hJ2 hle)
  have hI' := hle0 _ _ hIA
  refine CodeF.stepD ?_
  refine Chk.mk (by omega) ?_
  refine LoadD.imm hI' _ hpart rfl ?_
  conv => whnf
  intro b8
  repeat (first | refine StoreD.st 3 rfl rfl rfl ?_)
  refine CodeF.stepD ?_
  repeat (first | refine LoadD.own 3 rfl _ rfl rfl ?_)
  have hp120 := pickS_range (n := arm) (m := 120) (by decide)
  refine Tri.free (low_Pick arm 120 _ harm (by unfold In64; omega)) ?_
  rintro r _ _ hJp ⟨rfl, rfl⟩
  refine Tri.frame1 1 rfl (dk_Arm hD (pickS arm 120) (by unfold In64; omega)) ?_
  rw [show d.armed (pickS arm 120) = ({ d with arm := ⟨true, pickS arm 120⟩ }, 0) by unfold DSt.armed; rw [if_neg (by omega)]]
  rintro r J3 A' hJ3 ⟨rfl, chD1, hD1, rfl⟩
  refine ⟨_, rfl, ?_⟩
  dsimp only at hD1
  repeat (first | refine CmpD.yes rfl ?_)
  refine CodeF.stepD ?_
  have hst := (LifeSt.start w (pickS arm 120)).mono (e := 2 + 3 * i) (s := 1 + 26 * i) (k := k) hep hsq (Nat.le_refl _)
  generalize ({ d with arm := ⟨true, pickS arm 120⟩ } : DSt) = d1 at *
  obtain ⟨bx, hbx⟩ : ∃ bx, bx = [(b8, row [.slice aW nW capW, .int .i64 arm, .slice aK nK capK, .slice aL nL capL, .int .i64 tn, .int .u8 sec, .int .i64 again] 59)] := ⟨_, rfl⟩
  refine CodeF.join [0, 3, 4, 6, 7, 8, 9] (fun vs J' S' => ∃ (v : VSt) (d : DSt) (chV chD chS : List Blk) (aS : Option Addr) (capS : Nat) (sts : List Ls) (sure : Nat), Vk J' bV bD v chV ∧ Dk J' bD d chD ∧ LifeSt (2 + 3 * i) (1 + 26 * i + 25) (k + 33 * 25) (sts.map Ls.dat) sure v d ∧ OwnC chS 1 aS sts.length capS (sts.map Ls.cell) ∧ (∀ x ∈ sts, LsOk J' x) ∧ (∀ x ∈ sts, x.dat.length = 6) ∧ 1 ≤ sts.length ∧ sts.length ≤ 1 + 25 ∧ sure < sts.length ∧ J3.le J' ∧
    vs = [.slice (some ⟨bA, oA, none⟩) nX capX, .pointer (some ⟨bD, 0, none⟩), .pointer (some ⟨bV, 0, none⟩), .slice aS sts.length capS, .int .i64 i, .pointer (some ⟨b8, 0, none⟩), .int .i64 sure] ∧ S' = [chV, chD, chS, bx]) ?_ ?_
  · refine CodeF.den ?_
    refine CodeF.loopF [0, 3, 4, 6, 7, 8, 9, 10] (fun vs J' S' => ∃ j : Nat, j ≤ nW ∧ j ≤ 25 ∧ ∃ (v : VSt) (d : DSt) (chV chD chS : List Blk) (aS : Option Addr) (capS : Nat) (sts : List Ls) (sure : Nat), Vk J' bV bD v chV ∧ Dk J' bD d chD ∧ LifeSt (2 + 3 * i) (1 + 26 * i + j) (k + 33 * j) (sts.map Ls.dat) sure v d ∧ OwnC chS 1 aS sts.length capS (sts.map Ls.cell) ∧ (∀ x ∈ sts, LsOk J' x) ∧ (∀ x ∈ sts, x.dat.length = 6) ∧ 1 ≤ sts.length ∧ sts.length ≤ 1 + j ∧ sure < sts.length ∧ J3.le J' ∧
      vs = [.slice (some ⟨bA, oA, none⟩) nX capX, .pointer (some ⟨bD, 0, none⟩), .pointer (some ⟨bV, 0, none⟩), .slice aS sts.length capS, .int .i64 i, .pointer (some ⟨b8, 0, none⟩), .int .i64 sure, .int .i64 j] ∧ S' = [chV, chD, chS, bx])
      (fun vs _ _ => match vs with | [_, _, _, _, _, _, _, .int _ j] => ((25 : Int) - j).toNat | _ => 0) ?_ ?_
    · refine ⟨_, Drop.refl _, 0, by omega, by omega, v, d1, chV, chD1, chS, aS, capS, [x], 0, hV.mono hJ3, hD1, ?_, hS, ?_, ?_, by simp, by simp, by simp, Imm.le_refl _, rfl, by rw [hbx]; rfl⟩
      · show LifeSt _ _ _ [x.dat] 0 _ _
        rw [hxd]
        exact hst.mono (Nat.le_refl _) (by omega) (by omega)
      · intro y hy
        simp only [List.mem_singleton] at hy
        subst hy; exact hx.mono hJ3
      · intro y hy
        simp only [List.mem_singleton] at hy
        subst hy
        show (y.g.map Bk.data).length = 6
        rw [List.length_map]; exact hx.len
    clear hst hD1 hV hD w hS hx hxd
    rintro vs gE4 J4 S4 hJ4 ⟨j, hj, hj25, v, d, chV, chD, chS, aS, capS, sts, sure, hV, hD, hls, hS, hso, hsl6, hs1, hs26, hsu, hle4, rfl, rfl⟩
    have stop : ∃ S0, Drop [chV, chD, chS, bx] S0 ∧ ∃ (v : VSt) (d : DSt) (chV chD chS : List Blk) (aS' : Option Addr) (capS' : Nat) (sts' : List Ls) (sure' : Nat), Vk J4 bV bD v chV ∧ Dk J4 bD d chD ∧ LifeSt (2 + 3 * i) (1 + 26 * i + 25) (k + 33 * 25) (sts'.map Ls.dat) sure' v d ∧ OwnC chS 1 aS' sts'.length capS' (sts'.map Ls.cell) ∧ (∀ x ∈ sts', LsOk J4 x) ∧ (∀ x ∈ sts', x.dat.length = 6) ∧ 1 ≤ sts'.length ∧ sts'.length ≤ 1 + 25 ∧ sure' < sts'.length ∧ J3.le J4 ∧
        [Value.slice (some ⟨bA, oA, none⟩) nX capX, .pointer (some ⟨bD, 0, none⟩), .pointer (some ⟨bV, 0, none⟩), .slice aS sts.length capS, .int .i64 i, .pointer (some ⟨b8, 0, none⟩), .int .i64 sure] = [Value.slice (some ⟨bA, oA, none⟩) nX capX, .pointer (some ⟨bD, 0, none⟩), .pointer (some ⟨bV, 0, none⟩), .slice aS' sts'.length capS', .int .i64 i, .pointer (some ⟨b8, 0, none⟩), .int .i64 sure'] ∧ S0 = [chV, chD, chS, bx] :=
      ⟨_, Drop.refl _, v, d, chV, chD, chS, aS, capS, sts, sure, hV, hD, hls.mono (Nat.le_refl _) (by omega) (by omega), hS, hso, hsl6, hs1, by omega, hsu, hle4, rfl, rfl⟩
    subst hbx
    refine CodeF.stepD ?_
    repeat (first | refine LoadD.own 3 rfl _ rfl rfl ?_)
    refine CmpD.split (fun (c3 : (j : Int) < (nW : Int)) => ?_) (fun (c3 : ¬ (j : Int) < (nW : Int)) => ?_)
    rotate_left
    · exact stop
    refine CmpD.split (fun (c4 : (j : Int) < 25) => ?_) (fun (c4 : ¬ (j : Int) < 25) => ?_)
    rotate_left
    · exact stop
    refine Tri.frame1 0 rfl (vk_Broken hV) ?_
    rintro r _ A' hJb ⟨rfl, rfl, rfl⟩
    refine ⟨_, rfl, ?_⟩
    cases hbr : v.broken with
    | true => exact stop
    | false =>
    clear stop
    have hcl := hls.calls hbr
    obtain ⟨bx, hbx⟩ : ∃ bx, bx = [(b8, row [.slice aW nW capW, .int .i64 arm, .slice aK nK capK, .slice aL nL capL, .int .i64 tn, .int .u8 sec, .int .i64 again] 59)] := ⟨_, rfl⟩
    rw [← hbx]
    refine CodeF.join [0, 3, 4, 6, 7, 8, 9, 10] (fun vs J' S' => ∃ (v : VSt) (d : DSt) (chV chD chS : List Blk) (aS : Option Addr) (capS : Nat) (sts : List Ls) (sure : Nat), Vk J' bV bD v chV ∧ Dk J' bD d chD ∧ LifeSt (2 + 3 * i) (1 + 26 * i + (j + 1)) (k + 33 * (j + 1)) (sts.map Ls.dat) sure v d ∧ OwnC chS 1 aS sts.length capS (sts.map Ls.cell) ∧ (∀ x ∈ sts, LsOk J' x) ∧ (∀ x ∈ sts, x.dat.length = 6) ∧ 1 ≤ sts.length ∧ sts.length ≤ 1 + (j + 1) ∧ sure < sts.length ∧ J4.le J' ∧
      vs = [.slice (some ⟨bA, oA, none⟩) nX capX, .pointer (some ⟨bD, 0, none⟩), .pointer (some ⟨bV, 0, none⟩), .slice aS sts.length capS, .int .i64 i, .pointer (some ⟨b8, 0, none⟩), .int .i64 sure, .int .i64 j] ∧ S' = [chV, chD, chS, bx]) ?_ ?_
    rotate_left
    · rintro vs gE5 J5 S5 hJ5 ⟨v, d, chV, chD, chS, aS, capS, sts, sure, hV, hD, hls, hS, hso, hsl6, hs1, hs26, hsu, hle5, rfl, rfl⟩
      refine CodeF.den ?_
      refine ToD.i64 (by omega) (by omega) ?_
      refine ⟨_, Drop.refl _, ⟨j + 1, by omega, by omega, v, d, chV, chD, chS, aS, capS, sts, sure, hV, hD, hls, hS, hso, hsl6, hs1, hs26, hsu, Imm.le_trans hle4 hle5, rfl, rfl⟩, ?_⟩
      show ((25 : Int) - ((j : Int) + 1)).toNat < ((25 : Int) - (j : Int)).toNat
      omega
    refine CodeF.blockF ?_ rfl
    refine CodeF.stepD ?_
    rw [hbx]
    repeat (first | refine LoadD.own 3 rfl _ rfl rfl ?_)
    have hlt2 : j < work.length := by omega
    have hcell := ints_get (List.getElem?_eq_getElem hlt2)
    have hx64 := hwi _ (List.getElem_mem hlt2)
    rcases hW.mem with q0 | ⟨bZ, oZ, cZ, TZ, fZ, rfl, hIZ, hcZ⟩
    · omega
    have hIZ2 := (Imm.le_trans hle0 (Imm.le_trans hJ3 hle4)) _ _ hIZ
    have hpx := pickS_range (n := work[j]) (m := 1000003) (by decide)
    generalize work[j] = x0 at *
    obtain ⟨p, hp⟩ : ∃ p : Nat, pickS x0 1000003 = p := ⟨(pickS x0 1000003).toNat, by omega⟩
    refine Chk.mk (by omega) ?_
    refine LoadD.imm hIZ2 [.int .i64 x0] (take_get hcZ hcell) rfl ?_
    refine Tri.free (low_Pick x0 1000003 _ hx64 (by unfold In64; omega)) ?_
    rintro r _ _ hJp2 ⟨rfl, rfl⟩
    rw [hp] at hpx ⊢
    have hpl : p < 1000003 := by omega
    refine CodeF.stepD ?_
    refine Chk.mk (by decide) ?_
    refine ToD.to ((p % 8 : Nat) : Int) (tmod_nat p 8) ?_
    rw [← hbx]
    refine CodeF.den ?_
    refine CmpD.split (fun (c5 : ((p % 8 : Nat) : Int) = 0) => ?_) (fun (c5 : ¬ ((p % 8 : Nat) : Int) = 0) => ?_)
    · have hs2 := vk_Sync hV hcl.wf hD
      have hn := hls.sync hbr (by omega)
      refine Tri.frame hs2 [0, 1] rfl rfl ?_
      rintro r J5 A' hJ5 ⟨rfl, chV5, chD5, hV5, hD5, rfl⟩
      refine ⟨by simp, ?_⟩
      generalize v.sync d = sy at *
      obtain ⟨v5, d5, e5⟩ := sy
      dsimp only at hV5 hD5 hn ⊢
      refine CmpD.split (fun (c6 : e5 = 0) => ?_) (fun (c6 : ¬ e5 = 0) => ?_)
      · rw [if_pos c6, List.length_map] at hn
        refine ToD.to ((sts.length - 1 : Nat) : Int) (by show IntKind.i64.wrap ((sts.length : Int) - 1) = _; rw [wrap_i64 (by omega) (by omega)]; omega) ?_
        exact ⟨_, Drop.pick [0, 1, 2, 3] _ rfl, v5, d5, chV5, chD5, chS, aS, capS, sts, sts.length - 1, hV5, hD5, hn.mono (Nat.le_refl _) (by omega) (by omega), hS, fun x hx => (hso x hx).mono hJ5, hsl6, hs1, by omega, by omega, hJ5, rfl, rfl⟩
      · rw [if_neg c6] at hn
        exact ⟨_, Drop.pick [0, 1, 2, 3] _ rfl, v5, d5, chV5, chD5, chS, aS, capS, sts, sure, hV5, hD5, hn.mono (Nat.le_refl _) (by omega) (by omega), hS, fun x hx => (hso x hx).mono hJ5, hsl6, hs1, by omega, by omega, hJ5, rfl, rfl⟩
    refine CmpD.split (fun (c6 : ((p % 8 : Nat) : Int) = 1) => ?_) (fun (c6 : ¬ ((p % 8 : Nat) : Int) = 1) => ?_)
    · have hs2 := vk_Checkpoint hV hcl.wf hcl.slot (by have := hcl.fresh; omega) hD (hls.few.mono (by omega))
      have hn := hls.ckpt hbr (by omega)
      refine Tri.frame hs2 [0, 1] rfl rfl ?_
      rintro r J5 A' hJ5 ⟨rfl, chV5, chD5, hV5, hD5, rfl⟩
      refine ⟨by simp, ?_⟩
      generalize v.ckpt d = sy at *
      obtain ⟨v5, d5, e5⟩ := sy
      dsimp only at hV5 hD5 hn ⊢
      refine CmpD.split (fun (c7 : e5 = 0) => ?_) (fun (c7 : ¬ e5 = 0) => ?_)
      · rw [if_pos c7, List.length_map] at hn
        refine ToD.to ((sts.length - 1 : Nat) : Int) (by show IntKind.i64.wrap ((sts.length : Int) - 1) = _; rw [wrap_i64 (by omega) (by omega)]; omega) ?_
        exact ⟨_, Drop.pick [0, 1, 2, 3] _ rfl, v5, d5, chV5, chD5, chS, aS, capS, sts, sts.length - 1, hV5, hD5, hn.mono (Nat.le_refl _) (by omega) (by omega), hS, fun x hx => (hso x hx).mono hJ5, hsl6, hs1, by omega, by omega, hJ5, rfl, rfl⟩
      · rw [if_neg c7] at hn
        exact ⟨_, Drop.pick [0, 1, 2, 3] _ rfl, v5, d5, chV5, chD5, chS, aS, capS, sts, sure, hV5, hD5, hn.mono (Nat.le_refl _) (by omega) (by omega), hS, fun x hx => (hso x hx).mono hJ5, hsl6, hs1, by omega, by omega, hJ5, rfl, rfl⟩
    obtain ⟨n, hn⟩ : ∃ n, n = 1 + p / 8 % 4 := ⟨_, rfl⟩
    refine CodeF.loopD [0, 3, 4, 6, 7, 8, 9, 10, 11, 12, 13] (fun vs J' S' => ∃ (a : Option Addr) (cap : Nat) (chL : List Blk) (gs : List Img), gs.length ≤ n ∧ OwnC chL 2 a gs.length cap (imgCells gs) ∧ gs.map Img.pr = imL p gs.length ∧ (∀ g ∈ gs, ImgOk J' g ∧ 30 ≤ g.blk ∧ g.blk < 36 ∧ g.len = 4096) ∧ J4.le J' ∧
      vs = [.slice (some ⟨bA, oA, none⟩) nX capX, .pointer (some ⟨bD, 0, none⟩), .pointer (some ⟨bV, 0, none⟩), .slice aS sts.length capS, .int .i64 i, .pointer (some ⟨b8, 0, none⟩), .int .i64 sure, .int .i64 j, .int .i64 p, .slice a gs.length cap, .int .i64 gs.length] ∧ S' = [chV, chD, chS, bx, chL])
      (fun vs _ _ => match vs with | [_, _, _, _, _, _, _, _, _, _, .int _ m] => ((n : Int) - m).toNat | _ => 0) ?_ ?_
    · exact ⟨_, Drop.and (Drop.refl _), none, 0, [], [], by simp, OwnC.nil _ _, rfl, by simp, Imm.le_refl _, rfl, rfl⟩
    rintro vs gE6 J5 S5 hJ5 ⟨aI, capI, chL, gs, hgn, hL6, hgpr, hgok, hle5, rfl, rfl⟩
    refine Chk.mk (by decide) ?_
    refine ToD.to ((p / 8 : Nat) : Int) (quo_nat11 p 8 (by omega)) ?_
    refine Chk.mk (by decide) ?_
    refine ToD.to ((p / 8 % 4 : Nat) : Int) (tmod_nat (p / 8) 4) ?_
    refine ToD.to ((1 + p / 8 % 4 : Nat) : Int) (by show IntKind.i64.wrap (1 + ((p / 8 % 4 : Nat) : Int)) = _; rw [wrap_i64 (by omega) (by omega)]; omega) ?_
    rw [← hn]
    refine CmpD.split (fun (c7 : (gs.length : Int) < (n : Int)) => ?_) (fun (c7 : ¬ (gs.length : Int) < (n : Int)) => ?_)
    · refine Chk.mk (by decide) ?_
      refine ToD.to ((p / 32 : Nat) : Int) (quo_nat11 p 32 (by omega)) ?_
      refine ToD.to ((p / 32 + gs.length : Nat) : Int) (by show IntKind.i64.wrap (((p / 32 : Nat) : Int) + (gs.length : Int)) = _; rw [wrap_i64 (by omega) (by omega)]; omega) ?_
      refine Chk.mk (by decide) ?_
      refine ToD.to (((p / 32 + gs.length) % 6 : Nat) : Int) (tmod_nat (p / 32 + gs.length) 6) ?_
      refine ToD.to ((30 + (p / 32 + gs.length) % 6 : Nat) : Int) (by show IntKind.i64.wrap (30 + (((p / 32 + gs.length) % 6 : Nat) : Int)) = _; rw [wrap_i64 (by omega) (by omega)]; omega) ?_
      refine ToD.to ((p + gs.length : Nat) : Int) (by show IntKind.i64.wrap ((p : Int) + (gs.length : Int)) = _; rw [wrap_i64 (by omega) (by omega)]; omega) ?_
      refine Tri.free (made ((p + gs.length : Nat) : Int) 4096 (by omega) J5) ?_
      rintro r J6 _ hJ6 ⟨aM, rfl, hM⟩
      conv => whnf
      intro bN
      refine appendD tabOk rfl rfl rfl rfl rfl rfl rfl 4 rfl hL6 (SrcOk.slice (n := 1) (news := imgCells [⟨((30 + (p / 32 + gs.length) % 6 : Nat) : Int), aM, 4096, 4096, madeL ((p + gs.length : Nat) : Int) 4096⟩]) tabOk rfl ((OwnC.whole (len := 1) (size := 2) rfl).slC 5 rfl) (by intro v hv; simp [imgCells] at hv; rcases hv with rfl | rfl <;> rfl)) rfl (by show (gs.length + 1) * 32 ≤ _; omega) (by omega) ?_
      intro a2 cap2 ch2 hown2
      refine ToD.i64 (by omega) (by omega) ?_
      refine ⟨_, Drop.pick [0, 1, 2, 3, 4] _ rfl, ⟨a2, cap2, ch2, gs ++ [⟨((30 + (p / 32 + gs.length) % 6 : Nat) : Int), aM, 4096, 4096, madeL ((p + gs.length : Nat) : Int) 4096⟩], by simp; omega, by rw [imgCells_snoc, List.length_append]; exact hown2, ?_, ?_, Imm.le_trans hle5 hJ6, by rw [List.length_append]; rfl, rfl⟩, ?_⟩
      · rw [List.map_append, hgpr, List.length_append]
        show imL p gs.length ++ [_] = imL p (gs.length + 1)
        rw [imL_succ]
      · intro g hg
        rcases List.mem_append.1 hg with hg | hg
        · exact ⟨(hgok g hg).1.mono hJ6, (hgok g hg).2⟩
        · simp only [List.mem_singleton] at hg
          subst hg
          exact ⟨⟨by show In64 ((30 + (p / 32 + gs.length) % 6 : Nat) : Int); unfold In64; omega, hM⟩, by dsimp only; omega, by dsimp only; omega, rfl⟩
      · show ((n : Int) - ((gs.length : Int) + 1)).toNat < ((n : Int) - (gs.length : Int)).toNat
        omega
    have hgsn : gs.length = n := by omega
    refine Tri.fix 4 rfl fun J6 hJ6 hm => ?_
    have hle46 := Imm.le_trans hle5 hJ6
    have hI6 : ImgsOk J6 aI gs := ⟨Rds.of_ownS hL6 hm, fun g hg => (hgok g hg).1.mono hJ6⟩
    have hgb : ∀ g ∈ gs, 30 ≤ g.blk ∧ g.blk < 36 ∧ g.len = 4096 := fun g hg => (hgok g hg).2
    have hgp : ∀ g ∈ gs.map Img.pr, 30 ≤ g.1 ∧ g.1 < 36 := by
      intro g hg
      obtain ⟨y, hy, rfl⟩ := List.mem_map.1 hg
      have := hgb y hy
      exact ⟨this.1, this.2.1⟩
    have hg3 : ∀ g ∈ gs.map Img.pr, 18 ≤ g.1 ∧ g.1 < 64 ∧ g.2.length = 4096 := by
      intro g hg
      have h1 := hgp g hg
      rw [hgpr] at hg
      obtain ⟨y, hy, rfl⟩ := List.mem_map.1 hg
      exact ⟨by omega, by omega, madeL_length _ _⟩
    obtain ⟨xl, hxl⟩ : ∃ xl, sts[sts.length - 1]? = some xl := ⟨_, List.getElem?_eq_getElem (by omega)⟩
    have hlast0 : (sts.map Ls.dat)[(sts.map Ls.dat).length - 1]? = some xl.dat := by rw [List.length_map, List.getElem?_map, hxl]; rfl
    have hcom := hls.commit hbr (by omega) (l := gs.map Img.pr) (by rw [List.length_map]; omega) hg3 (by rw [hgpr, hgsn]; exact imL_nodup p n (by omega)) hlast0
    refine Tri.frame (vk_Commit (hV.mono hle46) hcl.wf hcl.ep hcl.slot (by have := hcl.fresh; omega) hcl.groups (hD.mono hle46) (hls.few.mono (by omega)) aI capI gs hI6 (by omega)) [0, 1] rfl rfl ?_
    rintro r J7 A' hJ7 ⟨rfl, chV7, chD7, hV7, hD7, rfl⟩
    refine ⟨by simp, ?_⟩
    generalize v.commit d (gs.map Img.pr) = sy at *
    obtain ⟨v7, d7, q7, e7⟩ := sy
    dsimp only at hV7 hD7 hcom ⊢
    have hle67 := Imm.le_trans hle46 hJ7
    have hI7 : ImgsOk J7 aI gs := ⟨hI6.1.mono hJ7, fun g hg => (hI6.2 g hg).mono hJ7⟩
    skip
    refine CmpD.split (fun (c8 : e7 = 0) => ?_) (fun (c8 : ¬ e7 = 0) => ?_)
    · skip
      have hlast : (sts.map Ls.dat)[(sts.map Ls.dat).length - 1]? = some xl.dat := by rw [List.length_map, List.getElem?_map, hxl]; rfl
      obtain ⟨bQ, oQ, rfl, hcQ⟩ := SlC.split (hS.slC1 (I := J7) (S := [chV7, chD7, chS, bx, []]) 2 rfl) (by omega)
      refine ToD.to ((sts.length - 1 : Nat) : Int) (by show IntKind.i64.wrap ((sts.length : Int) - 1) = _; rw [wrap_i64 (by omega) (by omega)]; omega) ?_
      refine Chk.mk (by omega) ?_
      refine LoadD.mk [xl.cell] ?_ ?_
      · have := hcQ.at (i := sts.length - 1) (v := xl.cell) (by rw [List.getElem?_map, hxl]; rfl)
        exact this
      have hxo := (hso xl (List.mem_of_getElem? hxl)).mono hle67
      refine Tri.free (law11_behind xl.a xl.cap xl.g hxo.len hxo.rds hxo.ok aI capI gs hI7 (by omega) hgb) ?_
      rintro r J8 _ hJ8 ⟨aB, capB, gB, rfl, hgBl, hBR, hBok, hBd⟩
      conv => whnf
      intro bN
      refine appendD tabOk rfl rfl rfl rfl rfl rfl rfl 2 rfl hS (SrcOk.slice (n := 1) (news := [(⟨aB, capB, gB⟩ : Ls).cell]) tabOk rfl ((OwnC.whole (len := 1) (size := 1) rfl).slC 5 rfl) (by intro v hv; simp at hv; subst hv; rfl)) rfl (by show (sts.length + 1) * 24 ≤ _; omega) (by omega) ?_
      intro aS2 capS2 chS2 hS2
      have hbd : (⟨aB, capB, gB⟩ : Ls).dat = behindL xl.dat (gs.map Img.pr) := by
        show gB.map Bk.data = _
        rw [hBd]
        exact layB_behind (hsl6 xl (List.mem_of_getElem? hxl)) hgp
      refine ⟨_, Drop.pick [0, 1, 2, 3] _ rfl, ⟨_, _, chV7, chD7, chS2, aS2, capS2, sts ++ [⟨aB, capB, gB⟩], sure, hV7.mono hJ8, hD7.mono hJ8, ?_, by rw [List.length_append, List.map_append]; exact hS2, ?_, ?_, by simp, by simp; omega, by simp; omega, Imm.le_trans hle67 hJ8, by rw [List.length_append]; rfl, rfl⟩⟩
      · rw [List.map_append, List.map_singleton, hbd]
        have := hcom.1
        exact this.mono (Nat.le_refl _) (by omega) (by omega)
      · intro x hx
        rcases List.mem_append.1 hx with hx | hx
        · exact (hso x hx).mono (Imm.le_trans hle67 hJ8)
        · simp only [List.mem_singleton] at hx
          subst hx
          exact ⟨hgBl, hBR, hBok⟩
      · intro x hx
        rcases List.mem_append.1 hx with hx | hx
        · exact hsl6 x hx
        · simp only [List.mem_singleton] at hx
          subst hx
          show (gB.map Bk.data).length = 6
          rw [List.length_map]; exact hgBl
    · have hb7 : v7.broken = true := hcom.2.resolve_left c8
      refine Tri.frame1 0 rfl (vk_Broken hV7) ?_
      rintro r _ A' hJb7 ⟨rfl, rfl, rfl⟩
      refine ⟨_, rfl, ?_⟩
      rw [hb7]
      skip
      have hlast : (sts.map Ls.dat)[(sts.map Ls.dat).length - 1]? = some xl.dat := by rw [List.length_map, List.getElem?_map, hxl]; rfl
      obtain ⟨bQ, oQ, rfl, hcQ⟩ := SlC.split (hS.slC1 (I := J7) (S := [chV7, chD7, chS, bx, []]) 2 rfl) (by omega)
      refine ToD.to ((sts.length - 1 : Nat) : Int) (by show IntKind.i64.wrap ((sts.length : Int) - 1) = _; rw [wrap_i64 (by omega) (by omega)]; omega) ?_
      refine Chk.mk (by omega) ?_
      refine LoadD.mk [xl.cell] ?_ ?_
      · have := hcQ.at (i := sts.length - 1) (v := xl.cell) (by rw [List.getElem?_map, hxl]; rfl)
        exact this
      have hxo := (hso xl (List.mem_of_getElem? hxl)).mono hle67
      refine Tri.free (law11_behind xl.a xl.cap xl.g hxo.len hxo.rds hxo.ok aI capI gs hI7 (by omega) hgb) ?_
      rintro r J8 _ hJ8 ⟨aB, capB, gB, rfl, hgBl, hBR, hBok, hBd⟩
      conv => whnf
      intro bN
      refine appendD tabOk rfl rfl rfl rfl rfl rfl rfl 2 rfl hS (SrcOk.slice (n := 1) (news := [(⟨aB, capB, gB⟩ : Ls).cell]) tabOk rfl ((OwnC.whole (len := 1) (size := 1) rfl).slC 5 rfl) (by intro v hv; simp at hv; subst hv; rfl)) rfl (by show (sts.length + 1) * 24 ≤ _; omega) (by omega) ?_
      intro aS2 capS2 chS2 hS2
      have hbd : (⟨aB, capB, gB⟩ : Ls).dat = behindL xl.dat (gs.map Img.pr) := by
        show gB.map Bk.data = _
        rw [hBd]
        exact layB_behind (hsl6 xl (List.mem_of_getElem? hxl)) hgp
      refine ⟨_, Drop.pick [0, 1, 2, 3] _ rfl, ⟨_, _, chV7, chD7, chS2, aS2, capS2, sts ++ [⟨aB, capB, gB⟩], sure, hV7.mono hJ8, hD7.mono hJ8, ?_, by rw [List.length_append, List.map_append]; exact hS2, ?_, ?_, by simp, by simp; omega, by simp; omega, Imm.le_trans hle67 hJ8, by rw [List.length_append]; rfl, rfl⟩⟩
      · rw [List.map_append, List.map_singleton, hbd]
        have := hcom.1
        exact this.mono (Nat.le_refl _) (by omega) (by omega)
      · intro x hx
        rcases List.mem_append.1 hx with hx | hx
        · exact (hso x hx).mono (Imm.le_trans hle67 hJ8)
        · simp only [List.mem_singleton] at hx
          subst hx
          exact ⟨hgBl, hBR, hBok⟩
      · intro x hx
        rcases List.mem_append.1 hx with hx | hx
        · exact hsl6 x hx
        · simp only [List.mem_singleton] at hx
          subst hx
          show (gB.map Bk.data).length = 6
          rw [List.length_map]; exact hgBl
  rintro vs gE7 J4 S4 hJ4 ⟨v, d, chV, chD, chS, aS, capS, sts, sure, hV, hD, hls, hS, hso, hsl6, hs1, hs26, hsu, hle4, rfl, rfl⟩
  subst hbx
  have hle04 := Imm.le_trans hle0 (Imm.le_trans hJ3 hle4)
  refine CodeF.stepD ?_
  repeat (first | refine LoadD.own 3 rfl _ rfl rfl ?_)
  have hfew := hls.few.mono (m := 4000) (by omega)
  refine Tri.frame1 1 rfl (dk_Crash hD (hfew.mono (by omega)) aK nK capK keep (hK.mono hle04) tn sec hsec) ?_
  rintro r J5 A' hJ5 ⟨rfl, chD5, hD5, rfl⟩
  refine ⟨_, rfl, ?_⟩
  repeat (first | refine CmpD.yes rfl ?_)
  obtain ⟨ep1, t1, sq1, ls1, vw, hR, ⟨at0, hat, hatS⟩, hep1, hsq1⟩ := hls.to (by omega) keep tn sec
  have hf5 := hls.few.crash keep tn sec
  have hup5 : (d.crash keep tn sec).down = false := rfl
  have hw5 : (d.crash keep tn sec).writes = [] := rfl
  have hsn5 : (d.crash keep tn sec).safe = (d.crash keep tn sec).now := rfl
  generalize d.crash keep tn sec = d5 at *
  refine CodeF.stepD ?_
  repeat (first | refine LoadD.own 3 rfl _ rfl rfl ?_)
  refine Tri.frame (law11_mounted hD5 hup5 hw5 hsn5 hR (by omega) (by omega) hf5 (by omega) aW nW capW arm aK nK capK aL nL capL later (hL.mono (Imm.le_trans hle04 hJ5)) tn sec hsec again hag) [1] rfl rfl ?_
  rintro r J6 A' hJ6 ⟨bV6, v6, e6, ep6, t6, chV6, chD6, rfl, hD6, hV6, w6, hep6, hcur6, rfl⟩
  refine ⟨by simp, ?_⟩
  skip
  refine CodeF.stepD ?_
  skip
  refine CodeF.stepD ?_
  refine Tri.frame (law11_blocks hV6 hD6 w6.w) [4, 1] rfl rfl ?_
  rintro r J7 A' hJ7 ⟨aH, capH, g2, rfl, hgl2, hH, hgok2, hgd2, rfl⟩
  refine ⟨by simp, ?_⟩
  skip
  refine CodeF.stepD ?_
  skip
  have hle47 := Imm.le_trans hJ5 (Imm.le_trans hJ6 hJ7)
  have hnow : g2.map Bk.data = six vw := by
    rw [hgd2]
    unfold cur6 six
    refine List.map_congr_left fun i hi => ?_
    have := List.mem_range.1 hi
    exact hcur6 _ (by omega) (by omega)
  have hatl : at0 < sts.length := by
    have := (List.getElem?_eq_some_iff.1 hatS).1
    rwa [List.length_map] at this
  obtain ⟨bx, hbx⟩ : ∃ bx, bx = [(b8, row [.slice aW nW capW, .int .i64 arm, .slice aK nK capK, .slice aL nL capL, .int .i64 tn, .int .u8 sec, .int .i64 again] 59)] := ⟨_, rfl⟩
  refine CodeF.join [0, 3, 4, 7, 16, 17] (fun vs J' S' => ∃ q : Nat, J7 = J' ∧ vs = [.slice (some ⟨bA, oA, none⟩) nX capX, .pointer (some ⟨bD, 0, none⟩), .pointer (some ⟨bV6, 0, none⟩), .int .i64 i, .slice aH 6 capH, .int .i64 q] ∧ S' = [chV, chD6, chS, bx, chV6]) ?_ ?_
  · refine CodeF.den ?_
    refine CodeF.loopD [0, 3, 4, 6, 7, 16, 17, 18] (fun vs J' S' => ∃ kk : Nat, sure ≤ kk ∧ kk ≤ at0 ∧ J7 = J' ∧ vs = [.slice (some ⟨bA, oA, none⟩) nX capX, .pointer (some ⟨bD, 0, none⟩), .pointer (some ⟨bV6, 0, none⟩), .slice aS sts.length capS, .int .i64 i, .slice aH 6 capH, .int .i64 (-1), .int .i64 kk] ∧ S' = [chV, chD6, chS, bx, chV6])
      (fun vs _ _ => match vs with | [_, _, _, _, _, _, _, .int _ m] => ((at0 : Int) - m).toNat | _ => 0) ?_ ?_
    · exact ⟨_, Drop.refl _, sure, Nat.le_refl _, hat, rfl, rfl, by rw [hbx]⟩
    rintro vs gE8 J8 S8 hJ8 ⟨kk, hk1, hk2, rfl, rfl, rfl⟩
    obtain ⟨xl, hxl⟩ : ∃ xl, sts[kk]? = some xl := ⟨_, List.getElem?_eq_getElem (by omega)⟩
    have hxo := (hso xl (List.mem_of_getElem? hxl)).mono hle47
    obtain ⟨bQ, oQ, rfl, hcQ⟩ := SlC.split (hS.slC1 (I := J7) (S := [chV, chD6, chS, bx, chV6]) 2 rfl) (by omega)
    refine CmpD.yes (show (kk : Int) < (sts.length : Int) by omega) ?_
    refine Chk.mk (by omega) ?_
    refine LoadD.mk [xl.cell] ?_ ?_
    · have := hcQ.at (i := kk) (v := xl.cell) (by rw [List.getElem?_map, hxl]; rfl)
      exact this
    have hsm := same_lists (c1 := xl.cap) (c2 := capH) (S := [chV, chD6, chS, bx, chV6]) (g1 := xl.g) (g2 := g2) (by rw [hxo.len]; exact hxo.rds.slC) (by rw [hgl2]; exact hH.slC) hxo.ok hgok2 (by have := hxo.len; omega)
    rw [hxo.len, hgl2] at hsm
    refine Tri.mono hsm ?_
    rintro r _ _ hJ9 ⟨rfl, rfl, rfl⟩
    by_cases hsame : xl.g.map Bk.data = g2.map Bk.data
    · rw [decide_eq_true hsame]
      skip
      exact ⟨_, Drop.refl _, kk, rfl, rfl, rfl⟩
    · rw [decide_eq_false hsame]
      skip
      have hne : kk ≠ at0 := by
        rintro rfl
        rw [List.getElem?_map, hxl] at hatS
        have := Option.some.inj hatS
        exact hsame (by rw [hnow]; exact this)
      refine ToD.i64 (by omega) (by omega) ?_
      refine ⟨_, Drop.refl _, ⟨kk + 1, by omega, by omega, rfl, rfl, rfl⟩, ?_⟩
      show ((at0 : Int) - ((kk : Int) + 1)).toNat < ((at0 : Int) - (kk : Int)).toNat
      omega
  rintro vs gE9 J8 S8 hJ8 ⟨q, rfl, rfl, rfl⟩
  refine CodeF.stepD ?_
  refine CmpD.no (show ¬ (q : Int) < 0 by omega) ?_
  refine CodeF.den ?_
  conv => whnf
  intro bN
  refine CodeF.den ?_
  refine ToD.i64 (by omega) (by omega) ?_
  refine ⟨_, Drop.pick [4, 1, 5] _ rfl, ⟨i + 1, v6, e6, bV6, 0, t6, ep6, sq1 + ls1.length, _, chV6, chD6, _, _, _, ⟨aH, capH, g2⟩, by omega, by omega, rfl, hV6.mono hJ7, hD6.mono hJ7, w6, by omega, by omega, by omega, OwnC.whole (len := 1) (size := 1) rfl, ⟨hgl2, hH, hgok2⟩, hgd2, Imm.le_trans hle (Imm.le_trans hJ3 (Imm.le_trans hle4 hle47)), rfl, rfl⟩, ?_⟩
  show ((3 : Int) - ((i : Int) + 1)).toNat < ((3 : Int) - (i : Int)).toNat
  omega
end Go.Proofs.YtegdcjnjnoeinaaGreat

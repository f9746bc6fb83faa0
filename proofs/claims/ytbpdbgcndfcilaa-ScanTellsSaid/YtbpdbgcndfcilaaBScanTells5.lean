/- Texts of this claim laid together: JNum, Wi, ScanP, Written, Rf10c, Do, Rf10d, Ref03c, Rf10a, Image, JournalNumbers, ReplayNumbers, ReplayTells, Same9, ScanAny, SameG, ScanTells. -/
import Derived.Test.YtbpdbgcndfcilaaBScanTells4
import Derived.Test.YtbpdbgcndfcilaaBScanTells3
import Derived.Test.YtbpdbgcndfcilaaBScanTells1
import Derived.Test.YtbpdbgcndfcilaaBScanTells2
namespace Go.Proofs.Ytbpdbgcndfcilaa
open Go.RowKit Go.Sl
set_option maxRecDepth 20000

theorem JSt.Wf.turn {j : JSt} (hj : j.Wf) {r : R5} (hr : r.2.2.2.2 = 0 → Ok r.1 r.2.1 r.2.2.1 r.2.2.2.1) : (j.turn r).1.Wf := by
  obtain ⟨s, t, u, h, e⟩ := r
  unfold JSt.turn
  dsimp only at hr ⊢
  split
  · rename_i h0; exact ⟨hj.log, hr h0, hj.epoch, hj.next, hj.synced, hj.few, hj.groups⟩
  · exact hj
/-- a journal of the examples -/
structure JB (j : JSt) (t u h next synced : Int) (gs : List (Int × Int)) : Prop where
  s : j.s = 16
  t : j.t = t
  u : j.u = u
  h : j.h = h
  epoch : j.epoch = 1
  next : j.next = next
  synced : j.synced = synced
  groups : j.groups = gs
  broken : j.broken = false
  wf : j.Wf
/-- a disk of the examples -/
structure DB (d : DSt) (k : Nat) : Prop where
  calm : d.Calm
  len : d.now.length = 64
  few : d.Few k
/-- all of them -/
structure Numbers where
  jA : JSt
  jB : JSt
  jF : JSt
  jR : JSt
  jH : JSt
  jC : JSt
  jX : JSt
  dA : DSt
  dB : DSt
  dF : DSt
  dC : DSt
  dX : DSt
  dY : DSt
end Go.Proofs.Ytbpdbgcndfcilaa
namespace Go.Proofs.Ytbpdbgcndfcilaa
open Go.RowKit Go.Sl
set_option maxRecDepth 20000

/-! ### where writes go -/
theorem put_get {d : DSt} {p : Nat} {n : Nat} {b : Dat} (h : n ≠ p) : (d.put (n : Int) b).now[p]? = d.now[p]? := by
  show (d.now.set _ _)[p]? = _
  rw [Int.toNat_natCast, List.getElem?_set_ne h]
theorem put_hit {d : DSt} {p : Nat} {b : Dat} (h : p < d.now.length) : (d.put (p : Int) b).now[p]? = some b := by
  show (d.now.set _ _)[p]? = _
  rw [Int.toNat_natCast, List.getElem?_set_self h]
theorem wrD_miss (f : Nat → Nat) (p : Nat) : ∀ (bs : List Dat) (i : Nat) (d : DSt), (∀ k, k < bs.length → f (i + k) ≠ p) → (wrD (fun k => (f k : Int)) bs i d).now[p]? = d.now[p]?
  | [], _, _, _ => rfl
  | b :: bs, i, d, h => by
    rw [wrD, wrD_miss f p bs (i + 1) _ (fun k hk => by have := h (k + 1) (by simp; omega); rwa [show i + (k + 1) = i + 1 + k by omega] at this)]
    exact put_get (h 0 (by simp))
theorem wrD_hit (f : Nat → Nat) (p : Nat) : ∀ (bs : List Dat) (i : Nat) (d : DSt) (k : Nat), (hk : k < bs.length) → f (i + k) = p → (∀ k', k < k' → k' < bs.length → f (i + k') ≠ p) → p < d.now.length → (wrD (fun k => (f k : Int)) bs i d).now[p]? = some bs[k]
  | [], _, _, k, hk, _, _, _ => by simp at hk
  | b :: bs, i, d, 0, _, hf, hno, hp => by
    rw [wrD, wrD_miss f p bs (i + 1) _ (fun k' hk' => by have := hno (k' + 1) (by omega) (by simp; omega); rwa [show i + (k' + 1) = i + 1 + k' by omega] at this)]
    have hf : f i = p := hf
    show (d.put (f i : Int) b).now[p]? = _
    rw [hf, put_hit hp]; rfl
  | b :: bs, i, d, k + 1, hk, hf, hno, hp => by
    rw [wrD]
    have := wrD_hit f p bs (i + 1) (d.put (f i : Int) b) k (by simpa using hk) (by rw [show i + 1 + k = i + (k + 1) by omega]; exact hf) (fun k' h1 h2 => by have := hno (k' + 1) (by omega) (by simp; omega); rwa [show i + (k' + 1) = i + 1 + k' by omega] at this) (by rw [DSt.put_len]; exact hp)
    simpa using this
/-! ### the ring's blocks -/
def usedP (l : List (List PImg)) : Nat := (l.map fun g => g.length + 1).sum
def ringB (ep : Nat) : Nat → List (List PImg) → List Dat
  | _, [] => []
  | sq, g :: l => putP ep sq g ++ ringB ep (sq + 1) l
theorem ringB_length (ep : Nat) : ∀ (l : List (List PImg)) (sq : Nat), (ringB ep sq l).length = usedP l
  | [], _ => rfl
  | g :: l, sq => by rw [ringB, List.length_append, putP_length, ringB_length ep l]; simp [usedP]
theorem ringB_snoc (ep : Nat) : ∀ (l : List (List PImg)) (sq : Nat) (g : List PImg), ringB ep sq (l ++ [g]) = ringB ep sq l ++ putP ep (sq + l.length) g
  | [], sq, g => by simp [ringB]
  | x :: l, sq, g => by
    rw [List.cons_append, ringB, ringB_snoc ep l, ringB, List.append_assoc, List.length_cons, show sq + 1 + l.length = sq + (l.length + 1) by omega]
theorem usedP_snoc (l : List (List PImg)) (g : List PImg) : usedP (l ++ [g]) = usedP l + (g.length + 1) := by simp [usedP]
structure WI (ep tail : Nat) (z : Nat → Dat) (j : JSt) (d : DSt) (all : List (List PImg)) : Prop where
  s : j.s = 16
  t : j.t = tail
  u : j.u = (usedP all : Nat)
  h : j.h = 0
  epoch : j.epoch = ep
  next : j.next = (all.length + 1 : Nat)
  groups : j.groups.length = all.length
  broken : j.broken = false
  log : j.lay.l = 2
  wf : j.Wf
  calm : d.Calm
  dwf : d.Wf
  len : d.now.length = 64
  few : d.Few (usedP all)
  used : usedP all ≤ 16
  right : ∀ (i : Nat) (h : i < all.length), RightP ep ((i + 1 : Nat) : Int) all[i]
  ring : ∀ o, o < 16 → rbP d 2 16 (tail + o) = (ringB ep 1 all).getD o (z o)
theorem usedP_ge (l : List (List PImg)) : l.length ≤ usedP l := by
  unfold usedP
  induction l with
  | nil => simp
  | cons g l ih => simp; omega
theorem DSt.Wf.put {d : DSt} (h : d.Wf) (hc : d.Calm) {n : Int} {b : Dat} (hn : 0 ≤ n ∧ n < d.now.length) (hb : b.length = 4096) : (d.put n b).Wf := by
  have := h.write n b
  rwa [DSt.write_calm hc hn hb] at this
theorem wrD_wf (f : Nat → Int) : ∀ (bs : List Dat) (i : Nat) (d : DSt), d.Wf → d.Calm → (∀ b ∈ bs, b.length = 4096) → (∀ k, 0 ≤ f k ∧ f k < d.now.length) → (wrD f bs i d).Wf
  | [], _, _, h, _, _, _ => h
  | b :: bs, i, d, h, hc, hb, hf => wrD_wf f bs (i + 1) _ (h.put hc (hf i) (hb b (by simp))) (hc.put _ _) (fun x hx => hb x (by simp [hx])) (by rw [DSt.put_len]; exact hf)
/-- a group is appended, or there is no room -/
theorem WI.append {ep tail : Nat} {z : Nat → Dat} {j : JSt} {d : DSt} {all : List (List PImg)} (w : WI ep tail z j d all) {l : List PImg} (hR : RightP ep ((all.length + 1 : Nat) : Int) l) :
    (usedP all + (l.length + 1) ≤ 16 ∧ WI ep tail z (j.appendB d l false).1 (j.appendB d l false).2.1 (all ++ [l]) ∧ (j.appendB d l false).2.2.2 = 0) ∨
    (16 < usedP all + (l.length + 1) ∧ (j.appendB d l false).1 = j ∧ (j.appendB d l false).2.1 = d ∧ (j.appendB d l false).2.2.2 ≠ 0) := by
  have hge := usedP_ge all
  have hu := w.used
  have hll := hR.2.2.2.2.2.1
  have hR' : RightP j.epoch j.next l := by rw [w.epoch, w.next]; exact hR
  have hok := w.wf.ring
  have hokd : Ok 16 tail (usedP all : Nat) 0 := by have := hok; rw [w.s, w.t, w.u, w.h] at this; exact this
  have htl : (tail : Int) < 16 := hokd.2.2.2.1
  rcases Nat.lt_or_ge 16 (usedP all + (l.length + 1)) with hf | hf
  · right
    refine ⟨hf, ?_⟩
    unfold JSt.appendB JSt.append
    rw [if_neg (by rw [w.broken]; simp), if_neg (by simpa using hR')]
    by_cases hs : j.s < (l.length : Int) + 1
    · rw [if_pos hs]; exact ⟨rfl, rfl, by simp⟩
    rw [if_neg hs]
    have hp : putS j.s j.t j.u j.h ((l.length : Int) + 1) (if false = true then (l.length : Int) + 1 else 0) = ((0, 0, 0, 0, 5), 0) := by
      rw [w.s, w.t, w.u, w.h]
      unfold putS
      rw [if_neg (by simp only [Bool.false_eq_true, if_false]; rintro (h | h | h | h | h); exact h hokd; omega; omega; omega; omega), if_pos (by simp only [Bool.false_eq_true, if_false]; omega)]
    rw [hp]
    exact ⟨rfl, rfl, by simp⟩
  · left
    refine ⟨hf, ?_⟩
    have hp : putS j.s j.t j.u j.h ((l.length : Int) + 1) (if false = true then (l.length : Int) + 1 else 0) = ((j.s, (tail : Int), ((usedP all : Nat) : Int) + ((l.length : Int) + 1), 0, 0), ((tail : Int) + (usedP all : Nat)) % 16) := by
      rw [w.s, w.t, w.u, w.h]
      unfold putS
      rw [if_neg (by simp only [Bool.false_eq_true, if_false]; rintro (h | h | h | h | h); exact h hokd; omega; omega; omega; omega), if_neg (by simp only [Bool.false_eq_true, if_false]; omega)]
      simp only [Bool.false_eq_true, if_false, Int.sub_zero]
    have hlen16 : j.s + 2 ≤ d.now.length := by rw [w.s, w.len]; decide
    have hs1 : (l.length : Int) + 1 ≤ j.s := by rw [w.s]; omega
    obtain ⟨j', a, f1, f2, f3, f4, f5, f6, f7, f8, f9, f10, w'⟩ := JSt.append_next w.wf (by rw [w.groups]; omega) w.broken hR' hs1 w.calm hlen16 hp
    rw [a]
    have hB := putP_len (e := j.epoch.toNat) (s := j.next.toNat) hll hR.lens
    have hfl : ∀ k : Nat, (0 : Int) ≤ 2 + (((tail : Int) + (usedP all : Nat)) % 16 + k) % j.s ∧ 2 + (((tail : Int) + (usedP all : Nat)) % 16 + k) % j.s < d.now.length := by
      intro k
      rw [w.s, w.len]
      have := Int.emod_nonneg (((tail : Int) + (usedP all : Nat)) % 16 + k) (b := 16) (by decide)
      have := Int.emod_lt_of_pos (((tail : Int) + (usedP all : Nat)) % 16 + k) (b := 16) (by decide)
      omega
    have hff : (fun k : Nat => (2 : Int) + (((tail : Int) + (usedP all : Nat)) % 16 + k) % j.s) = fun k : Nat => ((2 + (tail + usedP all + k) % 16 : Nat) : Int) := by
      funext k
      rw [w.s]; omega
    refine ⟨⟨by rw [f2, w.s], f3, by rw [f4, usedP_snoc]; omega, f5, by rw [f6, w.epoch], by rw [f7, w.next, List.length_append]; rfl, by rw [f9]; simp [w.groups], f10, by rw [f1, w.log], w', wrD_calm _ _ _ _ w.calm, wrD_wf _ _ _ _ w.dwf w.calm hB hfl, by rw [wrD_len, w.len], ?_, by rw [usedP_snoc]; exact hf, ?_, ?_⟩, rfl⟩
    · have := wrD_few (fun i : Nat => (2 : Int) + (((tail : Int) + (usedP all : Nat)) % 16 + i) % j.s) (putP j.epoch.toNat j.next.toNat l) 0 d _ w.few
      rw [putP_length] at this
      rw [usedP_snoc]; exact this
    · intro i hi
      rw [List.getElem_append]
      split
      · rename_i h; exact w.right i h
      · rename_i h
        simp only [List.length_append, List.length_singleton] at hi
        obtain rfl : i = all.length := by omega
        simpa using hR
    · intro o ho
      rw [hff, ringB_snoc]
      have hrl := ringB_length ep all 1
      have he1 : j.epoch.toNat = ep := by rw [w.epoch]; rfl
      have he2 : j.next.toNat = 1 + all.length := by rw [w.next]; omega
      rw [he1, he2]
      have hpl := putP_length ep (1 + all.length) l
      obtain ⟨B, hBe⟩ : ∃ B, B = putP ep (1 + all.length) l := ⟨_, rfl⟩
      rw [← hBe] at hpl ⊢
      have hw := w.ring o ho
      unfold rbP at hw ⊢
      rw [List.getD_eq_getElem?_getD] at hw ⊢
      have inj : ∀ k, k < B.length → (2 + (tail + usedP all + k) % 16 = 2 + (tail + o) % 16 ↔ usedP all + k = o) := by
        intro k hk; omega
      by_cases hin : usedP all ≤ o ∧ o < usedP all + B.length
      · have := wrD_hit (fun k => 2 + (tail + usedP all + k) % 16) (2 + (tail + o) % 16) B 0 d (o - usedP all) (by omega) (by have := (inj (o - usedP all) (by omega)).2 (by omega); simpa using this)
          (fun k' h1 h2 h3 => by have := (inj k' h2).1 (by simpa using h3); omega) (by rw [w.len]; omega)
        rw [this, List.getD_eq_getElem?_getD, List.getElem?_append_right (by omega), hrl, List.getElem?_eq_getElem (by omega)]; rfl
      · have := wrD_miss (fun k => 2 + (tail + usedP all + k) % 16) (2 + (tail + o) % 16) B 0 d (fun k hk h3 => by have := (inj k hk).1 (by simpa using h3); omega)
        rw [this, hw]
        rw [List.getD_eq_getElem?_getD, List.getD_eq_getElem?_getD]
        rcases Nat.lt_or_ge o (usedP all) with g | g
        · rw [List.getElem?_append_left (by omega)]
        · rw [List.getElem?_eq_none (by omega), List.getElem?_eq_none (by rw [List.length_append]; omega)]
end Go.Proofs.Ytbpdbgcndfcilaa
namespace Go.Proofs.Ytbpdbgcndfcilaa
open Go.RowKit Go.Sl
set_option maxRecDepth 20000

def gsP (ep : Nat) : Nat → List (List PImg) → List G3
  | _, [] => []
  | sq, g :: l => (ep, sq, g) :: gsP ep (sq + 1) l
theorem gsP_length (ep : Nat) : ∀ (l : List (List PImg)) (sq : Nat), (gsP ep sq l).length = l.length
  | [], _ => rfl
  | _ :: l, sq => by rw [gsP, List.length_cons, gsP_length ep l, List.length_cons]
theorem gsP_sum (ep : Nat) : ∀ (l : List (List PImg)) (sq : Nat), ((gsP ep sq l).map fun g => g.2.2.length + 1).sum = usedP l
  | [], _ => rfl
  | g :: l, sq => by rw [gsP, List.map_cons, List.sum_cons, gsP_sum ep l]; simp [usedP]
theorem grpP_put {rb : Nat → Dat} {at_ room ep sq : Nat} {l : List PImg} (hR : RightP ep sq l) (hroom : l.length + 1 ≤ room) (hrb : ∀ (k : Nat) (h : k < (putP ep sq l).length), rb (at_ + k) = (putP ep sq l)[k]) : grpP rb at_ room = some (ep, sq, l) := by
  have h0 : rb at_ = hblk ep sq l := by have := hrb 0 (by rw [putP_length]; omega); simpa [putP_eq] using this
  unfold grpP
  rw [h0, hdP_put hR]
  dsimp only
  rw [List.length_map, if_pos hroom]
  have : ((List.range (l.length + 1)).map fun i => rb (at_ + i)) = putP ep sq l := by
    refine getElem_eq_of (by rw [putP_length]; simp) fun i h1 h2 => ?_
    simp only [List.getElem_map, List.getElem_range]
    exact hrb i h2
  rw [this, getP_put hR]
theorem scan_prefix (rb : Nat → Dat) (ep : Nat) : ∀ (all : List (List PImg)) (f at_ sq room : Nat), (∀ (i : Nat) (h : i < all.length), RightP ep ((sq + i : Nat) : Int) all[i]) → usedP all ≤ room → all.length ≤ f → (∀ (k : Nat) (h : k < (ringB ep sq all).length), rb (at_ + k) = (ringB ep sq all)[k]) →
    scanK rb ep f at_ sq room = gsP ep sq all ++ scanK rb ep (f - all.length) (at_ + usedP all) ((sq + all.length : Nat) : Int) (room - usedP all)
  | [], f, at_, sq, room, _, _, _, _ => by simp [gsP, usedP]
  | g :: l, 0, _, _, _, _, _, h, _ => by simp at h
  | g :: l, f + 1, at_, sq, room, hR, hu, hf, hrb => by
    have e : usedP (g :: l) = g.length + 1 + usedP l := by simp [usedP]
    have hg : grpP rb at_ room = some (ep, sq, g) := by
      refine grpP_put (hR 0 (by simp)) (by omega) fun k hk => ?_
      have := hrb k (by rw [ringB, List.length_append]; omega)
      simp only [ringB] at this
      rw [List.getElem_append_left hk] at this
      exact this
    rw [scanK, hg]
    dsimp only
    rw [if_pos ⟨rfl, rfl⟩, gsP, List.cons_append]
    congr 1
    have ih := scan_prefix rb ep l f (at_ + (g.length + 1)) (sq + 1) (room - (g.length + 1)) (fun i hi => by
        have := hR (i + 1) (by simpa using hi)
        rw [show sq + (i + 1) = sq + 1 + i by omega] at this
        simpa using this) (by omega) (by simpa using hf) (fun k hk => by
        have hpl := putP_length ep sq g
        have := hrb (g.length + 1 + k) (by rw [ringB, List.length_append, hpl]; omega)
        simp only [ringB] at this
        rw [List.getElem_append_right (by omega)] at this
        rw [show at_ + (g.length + 1) + k = at_ + (g.length + 1 + k) by omega, this]
        congr 1
        omega)
    rw [show ((sq : Nat) : Int) + 1 = ((sq + 1 : Nat) : Int) by omega, ih, List.length_cons]
    rw [show f + 1 - (l.length + 1) = f - l.length by omega, show at_ + (g.length + 1) + usedP l = at_ + usedP (g :: l) by omega, show sq + 1 + l.length = sq + (l.length + 1) by omega, show room - (g.length + 1) - usedP l = room - usedP (g :: l) by omega]
/-- where no group follows -/
theorem scan_stop {rb : Nat → Dat} {ep : Int} {f at_ room : Nat} {seq : Int} (h : ∀ e s l, grpP rb at_ room = some (e, s, l) → ¬ ((e : Int) = ep ∧ (s : Int) = seq)) : scanK rb ep f at_ seq room = [] := by
  cases f with
  | zero => rfl
  | succ f =>
    rw [scanK]
    cases hg : grpP rb at_ room with
    | none => rfl
    | some p =>
      obtain ⟨e, s, l⟩ := p
      dsimp only
      rw [if_neg (h e s l hg)]
theorem hd_noughts : hdP noughts = none := by
  have h0 : (numV noughts 0 8).1 = 0 := by
    unfold numV noughts
    rw [if_neg (by rw [List.length_replicate]; omega)]
    simp [nb]
  unfold hdP hbE
  rw [h0, if_neg (fun h => by have := h.1.1; simp at this)]
theorem grpP_none {rb : Nat → Dat} {at_ room : Nat} (h : hdP (rb at_) = none) : grpP rb at_ room = none := by unfold grpP; rw [h]
theorem grpP_zero {rb : Nat → Dat} {at_ : Nat} : grpP rb at_ 0 = none := by
  unfold grpP
  split
  · rfl
  · rw [if_neg (by omega)]
theorem layL64 : layL (64 : Int) = 16 := by decide
/-- a new ring that was written tells what was appended -/
theorem WI.scan {ep tail : Nat} {j : JSt} {d : DSt} {all : List (List PImg)} (w : WI ep tail (fun _ => noughts) j d all) (b : Int) : scanL d ⟨b, ep, 1, tail⟩ = gsP ep 1 all ∧ placeP 16 tail (scanL d ⟨b, ep, 1, tail⟩) = (tail + usedP all) % 16 := by
  have e : scanL d ⟨b, ep, 1, tail⟩ = gsP ep 1 all := by
    unfold scanL
    rw [w.len]
    show scanK (rbP d 2 (layL (64 : Int)).toNat) ep ((layL (64 : Int)).toNat + 1) ((tail : Nat) : Int).toNat 1 (layL (64 : Int)).toNat = _
    rw [layL64]
    show scanK (rbP d 2 16) ep 17 tail ((1 : Nat) : Int) 16 = _
    have hu := w.used
    have hge := usedP_ge all
    have hrl := ringB_length ep all 1
    rw [scan_prefix (rbP d 2 16) ep all 17 tail 1 16 (fun i hi => by have := w.right i hi; rwa [show 1 + i = i + 1 by omega]) hu (by omega) (fun k hk => by
      rw [w.ring k (by omega), List.getD_eq_getElem?_getD, List.getElem?_eq_getElem hk]; rfl)]
    rw [scan_stop, List.append_nil]
    intro e s l hg
    exfalso
    rcases Nat.lt_or_ge (usedP all) 16 with g | g
    · have := w.ring (usedP all) g
      rw [List.getD_eq_getElem?_getD, List.getElem?_eq_none (by omega)] at this
      have h2 : grpP (rbP d 2 16) (tail + usedP all) (16 - usedP all) = none := grpP_none (by rw [this]; exact hd_noughts)
      rw [h2] at hg; cases hg
    · rw [show 16 - usedP all = 0 by omega, grpP_zero] at hg; cases hg
  refine ⟨e, ?_⟩
  rw [e]
  unfold placeP
  rw [gsP_sum]
theorem WI.fresh {ep tail : Nat} (hep : 1 ≤ ep ∧ ep ≤ 8388608) (ht : tail < 16) : WI ep tail (fun _ => noughts) (openJ 64 ep 1 tail) (DSt.of (List.replicate 64 noughts)) [] := by
  have hlen : (List.replicate 64 noughts).length = 64 := List.length_replicate ..
  have hmem : ∀ b ∈ List.replicate 64 noughts, b.length = 4096 := fun b hb => by rw [(List.mem_replicate.1 hb).2]; exact noughts_length
  have hw : (DSt.of (List.replicate 64 noughts)).Wf := ⟨rfl, by show 1 ≤ (List.replicate 64 noughts).length ∧ (List.replicate 64 noughts).length ≤ 512; omega, hmem, hmem, fun w hw => (List.not_mem_nil hw).elim, fun h => (Bool.false_ne_true h).elim, fun h => (Bool.false_ne_true h).elim⟩
  refine ⟨layL_64', rfl, rfl, rfl, rfl, rfl, rfl, rfl, rfl, openJ_wf 64 (by omega) ⟨rfl, by omega, by omega, by omega, by omega, by omega, by rw [layL_64']; omega⟩, fresh_calm _, hw, hlen, DSt.of_few _, by simp [usedP], fun i h => by simp at h, ?_⟩
  intro o ho
  unfold rbP
  show (List.replicate 64 noughts).getD _ [] = _
  rw [List.getD_eq_getElem?_getD, List.getElem?_replicate, if_pos (by omega)]; rfl
theorem im9_pick {ep : Nat} (hep : 1 ≤ ep ∧ ep ≤ 8388608) (sz : Int) (k : Nat) (hk : k ≤ 16) : RightP ep ((k + 1 : Nat) : Int) (im9 (1 + pickS sz 5).toNat sz) := by
  have := pickS_range (n := sz) (m := 5) (by decide)
  exact im9_right ⟨by omega, by omega⟩ ⟨by omega, by omega⟩ _ (by omega) _
theorem WI.step {ep tail : Nat} {z : Nat → Dat} (hep : 1 ≤ ep ∧ ep ≤ 8388608) {j : JSt} {d : DSt} {all : List (List PImg)} (w : WI ep tail z j d all) (sz : Int) : WI ep tail z (wrtStep j d all sz).1 (wrtStep j d all sz).2.1 (wrtStep j d all sz).2.2 := by
  have hge := usedP_ge all
  have hu := w.used
  unfold wrtStep
  rcases w.append (im9_pick hep sz all.length (by omega)) with ⟨_, h1, h2⟩ | ⟨_, h1, h2, h3⟩
  · dsimp only; rw [if_pos h2]; exact h1
  · dsimp only; rw [if_neg h3, h1, h2]; exact w
theorem WI.all {ep tail : Nat} {z : Nat → Dat} (hep : 1 ≤ ep ∧ ep ≤ 8388608) : ∀ (l : List Int) (x : JSt × DSt × List (List PImg)), WI ep tail z x.1 x.2.1 x.2.2 → WI ep tail z (wrtK x l).1 (wrtK x l).2.1 (wrtK x l).2.2
  | [], _, h => h
  | s :: l, _, h => WI.all hep l _ (h.step hep s)
end Go.Proofs.Ytbpdbgcndfcilaa
namespace Go.Proofs.Ytbpdbgcndfcilaa
open Go.RowKit Go.Sl
set_option maxRecDepth 20000

structure ImsAt (J : Imm) (aS : Option Addr) (ms : List Ims) (all : List (List PImg)) : Prop where
  rd : Rds J aS ms.length (ms.map Ims.cell)
  each : ∀ m ∈ ms, ImgsOk J m.a m.gs
  pr : ms.map Ims.pr = all
theorem ImsAt.mono {I J : Imm} {aS : Option Addr} {ms : List Ims} {all : List (List PImg)} (h : ImsAt I aS ms all) (hJ : I.le J) : ImsAt J aS ms all := ⟨h.rd.mono hJ, fun m hm => (h.each m hm).mono hJ, h.pr⟩
theorem wrtP_wi {ep tail : Nat} (hep : 1 ≤ ep ∧ ep ≤ 8388608) (ht : tail < 16) (l : List Int) : WI ep tail (fun _ => noughts) (wrtP ep tail l).1 (wrtP ep tail l).2.1 (wrtP ep tail l).2.2 := WI.all hep _ _ (WI.fresh hep ht)
set_option maxHeartbeats 4000000 in
theorem written9 (I : Imm) (ep tail : Nat) (hep : 1 ≤ ep ∧ ep ≤ 8388608) (ht : tail < 16) (aZ : Option Addr) (n capZ : Nat) (z : List Int) (hz : z.length = n) (hz2 : ∀ x ∈ z, In64 x) (hZ : Rds I aZ n (ints z)) :
    Tri Try.prog 32 #[.int .i64 ep, .int .i64 tail, .slice aZ n capZ] I [] fun v J S' => ∃ bD chD aS capS, ∃ ms : List Ims, v = .tuple #[.pointer (some ⟨bD, 0, none⟩), .slice aS ms.length capS, .bool true] ∧ Dk J bD (wrtP ep tail z).2.1 chD ∧ ImsAt J aS ms (wrtP ep tail z).2.2 ∧ ms.length ≤ capS ∧ S' = [chD] := by
  refine Tri.drop (Tri.fixed (Q := fun v J S' => ∃ bD chD aS capS chS, ∃ ms : List Ims, v = .tuple #[.pointer (some ⟨bD, 0, none⟩), .slice aS ms.length capS, .bool true] ∧ Dk J bD (wrtP ep tail z).2.1 chD ∧ OwnC chS 1 aS ms.length capS (ms.map Ims.cell) ∧ (∀ m ∈ ms, ImgsOk J m.a m.gs) ∧ ms.map Ims.pr = (wrtP ep tail z).2.2 ∧ S' = [chD, chS]) ?_
    (K := fun v J S' => ∃ bD chD aS capS, ∃ ms : List Ims, v = .tuple #[.pointer (some ⟨bD, 0, none⟩), .slice aS ms.length capS, .bool true] ∧ Dk J bD (wrtP ep tail z).2.1 chD ∧ ImsAt J aS ms (wrtP ep tail z).2.2 ∧ ms.length ≤ capS ∧ S' = [chD, []]) ?_) ?_
  rotate_left
  · rintro v J S' hJ ⟨bD, chD, aS, capS, chS, ms, rfl, hD, hS, hms, hp, rfl⟩
    exact ⟨1, chS, rfl, fun J' hJ' hm => ⟨bD, chD, aS, capS, ms, rfl, hD.mono hJ', ⟨Rds.of_own hS hm, fun m hm => (hms m hm).mono hJ', hp⟩, hS.le, rfl⟩⟩
  · rintro v J S' hJ ⟨bD, chD, aS, capS, ms, rfl, hD, hms, hle, rfl⟩
    exact ⟨[chD], Drop.pick [0] _ rfl, bD, chD, aS, capS, ms, rfl, hD, hms, hle, rfl⟩
  refine Tri.drop ?_ (fun _ _ _ _ h => h)
  refine Tri.of (args := [.int .i64 ep, .int .i64 tail, .slice aZ n capZ]) tabOk Try.func32 rfl (by kernel_rfl) (by kernel_rfl) ?_
  refine Tri.frameX (dk_New I 64 (by omega)) [] rfl rfl ?_
  rintro v J1 A' hJ1 ⟨bD, chD, rfl, hD, rfl⟩
  refine Tri.free (ref_Of 64 J1) ?_
  rintro v J2 _ hJ2 ⟨rfl, rfl⟩
  rw [layA, if_neg (by omega)]
  conv => whnf
  intro b11
  repeat (first
    | refine LoadD.own 0 rfl _ rfl rfl ?_
    | refine LoadD.own 1 rfl _ rfl rfl ?_
    | refine LoadD.own 2 rfl _ rfl rfl ?_
    | refine LoadP.at 0 rfl _ rfl rfl ?_
    | refine LoadP.at 1 rfl _ rfl rfl ?_
    | refine LoadP.at 2 rfl _ rfl rfl ?_
    | refine StoreD.st 0 rfl rfl rfl ?_
    | refine StoreD.st 1 rfl rfl rfl ?_
    | refine StoreD.st 2 rfl rfl rfl ?_
    | refine CmpD.yes rfl ?_
    | refine CmpD.yes (by decide) ?_
    | refine CmpD.no (by decide) ?_
    | refine Chk.mk ⟨rfl, trivial⟩ ?_
    | refine Chk.mk ⟨rfl, rfl, trivial⟩ ?_
    | refine Chk.mk ⟨rfl, rfl, rfl, trivial⟩ ?_
    | refine Chk.mk ⟨rfl, rfl, rfl, rfl, trivial⟩ ?_
    | refine Chk.mk ⟨rfl, rfl, rfl, rfl, rfl, trivial⟩ ?_
    | refine Chk.mk ⟨rfl, rfl, rfl, rfl, rfl, rfl, trivial⟩ ?_)
  refine Tri.frame (jk_Open hD 64 List.length_replicate (by omega) (layOf 64) ep 1 tail (by unfold In64; omega)) [0] rfl rfl ?_
  have hok : OpenOk 64 (layOf 64) ep 1 tail := ⟨rfl, by omega, by omega, by omega, by omega, by omega, by rw [layL_64']; omega⟩
  rintro v J3 A' hJ3 (⟨hno, _⟩ | ⟨_, rfl, bJ, chJ, rfl, hJk, rfl⟩)
  · exact absurd hok hno
  refine ⟨by simp, ?_⟩
  repeat (first
    | refine LoadD.own 0 rfl _ rfl rfl ?_
    | refine LoadD.own 1 rfl _ rfl rfl ?_
    | refine LoadD.own 2 rfl _ rfl rfl ?_
    | refine LoadP.at 0 rfl _ rfl rfl ?_
    | refine LoadP.at 1 rfl _ rfl rfl ?_
    | refine LoadP.at 2 rfl _ rfl rfl ?_
    | refine StoreD.st 0 rfl rfl rfl ?_
    | refine StoreD.st 1 rfl rfl rfl ?_
    | refine StoreD.st 2 rfl rfl rfl ?_
    | refine CmpD.yes rfl ?_
    | refine CmpD.yes (by decide) ?_
    | refine CmpD.no (by decide) ?_
    | refine Chk.mk ⟨rfl, trivial⟩ ?_
    | refine Chk.mk ⟨rfl, rfl, trivial⟩ ?_
    | refine Chk.mk ⟨rfl, rfl, rfl, trivial⟩ ?_
    | refine Chk.mk ⟨rfl, rfl, rfl, rfl, trivial⟩ ?_
    | refine Chk.mk ⟨rfl, rfl, rfl, rfl, rfl, trivial⟩ ?_
    | refine Chk.mk ⟨rfl, rfl, rfl, rfl, rfl, rfl, trivial⟩ ?_)
  have hw0 := WI.fresh hep ht
  refine CodeF.loopD [2, 9, 13, 15, 16] (fun vs J' S' => ∃ (i : Nat) (x : JSt × DSt × List (List PImg)) (chD chJ chS : List Blk) (aS : Option Addr) (capS : Nat) (ms : List Ims), i ≤ z.length ∧ i ≤ 12 ∧ x = wrtK (wrt0 ep tail) (z.take i) ∧ Dk J' bD x.2.1 chD ∧ Jk bJ bD x.1 chJ ∧ OwnC chS 1 aS ms.length capS (ms.map Ims.cell) ∧ (∀ m ∈ ms, ImgsOk J' m.a m.gs) ∧ ms.map Ims.pr = x.2.2 ∧ J1.le J' ∧
      vs = [.slice aZ n capZ, .pointer (some ⟨bD, 0, none⟩), .pointer (some ⟨bJ, 0, none⟩), .slice aS ms.length capS, .int .i64 i] ∧ S' = [chD, chJ, chS])
    (fun vs _ _ => match vs with | [_, _, _, _, .int _ i] => ((n : Int) - i).toNat | _ => 0) ?_ ?_
  · exact ⟨_, Drop.and (Drop.pick [0, 2] _ rfl), 0, _, chD, chJ, [], none, 0, [], by omega, by omega, rfl, hD, hJk, OwnC.nil _ _, by simp, rfl, Imm.le_refl _, rfl, rfl⟩
  rintro vs gE J' S' hJ' ⟨i, ⟨j, d, all⟩, chD, chJ, chS, aS, capS, ms, hi, hi12, hx, hD, hJk, hS, hms, hmp, hle, rfl, rfl⟩
  have hw : WI ep tail (fun _ => noughts) j d all := by have := WI.all hep (z.take i) (wrt0 ep tail) hw0; rw [← hx] at this; exact this
  have hge := usedP_ge all
  have hu := hw.used
  dsimp only at hD hJk hmp
  have hml : ms.length = all.length := by rw [← hmp, List.length_map]
  have stop : z.take i = z.take 12 → ∃ S'', Drop [chD, chJ, chS] S'' ∧ ∃ bD' chD' aS' capS' chS', ∃ ms' : List Ims, Value.tuple #[.pointer (some ⟨bD, 0, none⟩), .slice aS ms.length capS, .bool true] = .tuple #[.pointer (some ⟨bD', 0, none⟩), .slice aS' ms'.length capS', .bool true] ∧ Dk J' bD' (wrtP ep tail z).2.1 chD' ∧ OwnC chS' 1 aS' ms'.length capS' (ms'.map Ims.cell) ∧ (∀ m ∈ ms', ImgsOk J' m.a m.gs) ∧ ms'.map Ims.pr = (wrtP ep tail z).2.2 ∧ S'' = [chD', chS'] := by
    intro h
    have e : wrtP ep tail z = (j, d, all) := by unfold wrtP; rw [← h, ← hx]
    rw [e]
    exact ⟨[chD, chS], Drop.pick [0, 2] _ rfl, bD, chD, aS, capS, chS, ms, rfl, hD, hS, hms, hmp, rfl⟩
  refine CmpD.split (fun c1 => ?_) (fun c1 => ?_)
  rotate_left
  · repeat (first
      | refine LoadD.own 0 rfl _ rfl rfl ?_
      | refine LoadD.own 1 rfl _ rfl rfl ?_
      | refine LoadD.own 2 rfl _ rfl rfl ?_
      | refine LoadP.at 0 rfl _ rfl rfl ?_
      | refine LoadP.at 1 rfl _ rfl rfl ?_
      | refine LoadP.at 2 rfl _ rfl rfl ?_
      | refine StoreD.st 0 rfl rfl rfl ?_
      | refine StoreD.st 1 rfl rfl rfl ?_
      | refine StoreD.st 2 rfl rfl rfl ?_
      | refine CmpD.yes rfl ?_
      | refine CmpD.yes (by decide) ?_
      | refine CmpD.no (by decide) ?_
      | refine Chk.mk ⟨rfl, trivial⟩ ?_
      | refine Chk.mk ⟨rfl, rfl, trivial⟩ ?_
      | refine Chk.mk ⟨rfl, rfl, rfl, trivial⟩ ?_
      | refine Chk.mk ⟨rfl, rfl, rfl, rfl, trivial⟩ ?_
      | refine Chk.mk ⟨rfl, rfl, rfl, rfl, rfl, trivial⟩ ?_
      | refine Chk.mk ⟨rfl, rfl, rfl, rfl, rfl, rfl, trivial⟩ ?_)
    exact Done.mk (stop (by rw [List.take_of_length_le (by omega), List.take_of_length_le (by omega)]))
  repeat (first
    | refine LoadD.own 0 rfl _ rfl rfl ?_
    | refine LoadD.own 1 rfl _ rfl rfl ?_
    | refine LoadD.own 2 rfl _ rfl rfl ?_
    | refine LoadP.at 0 rfl _ rfl rfl ?_
    | refine LoadP.at 1 rfl _ rfl rfl ?_
    | refine LoadP.at 2 rfl _ rfl rfl ?_
    | refine StoreD.st 0 rfl rfl rfl ?_
    | refine StoreD.st 1 rfl rfl rfl ?_
    | refine StoreD.st 2 rfl rfl rfl ?_
    | refine CmpD.yes rfl ?_
    | refine CmpD.yes (by decide) ?_
    | refine CmpD.no (by decide) ?_
    | refine Chk.mk ⟨rfl, trivial⟩ ?_
    | refine Chk.mk ⟨rfl, rfl, trivial⟩ ?_
    | refine Chk.mk ⟨rfl, rfl, rfl, trivial⟩ ?_
    | refine Chk.mk ⟨rfl, rfl, rfl, rfl, trivial⟩ ?_
    | refine Chk.mk ⟨rfl, rfl, rfl, rfl, rfl, trivial⟩ ?_
    | refine Chk.mk ⟨rfl, rfl, rfl, rfl, rfl, rfl, trivial⟩ ?_)
  refine CmpD.split (fun c2 => ?_) (fun c2 => ?_)
  rotate_left
  · repeat (first
      | refine LoadD.own 0 rfl _ rfl rfl ?_
      | refine LoadD.own 1 rfl _ rfl rfl ?_
      | refine LoadD.own 2 rfl _ rfl rfl ?_
      | refine LoadP.at 0 rfl _ rfl rfl ?_
      | refine LoadP.at 1 rfl _ rfl rfl ?_
      | refine LoadP.at 2 rfl _ rfl rfl ?_
      | refine StoreD.st 0 rfl rfl rfl ?_
      | refine StoreD.st 1 rfl rfl rfl ?_
      | refine StoreD.st 2 rfl rfl rfl ?_
      | refine CmpD.yes rfl ?_
      | refine CmpD.yes (by decide) ?_
      | refine CmpD.no (by decide) ?_
      | refine Chk.mk ⟨rfl, trivial⟩ ?_
      | refine Chk.mk ⟨rfl, rfl, trivial⟩ ?_
      | refine Chk.mk ⟨rfl, rfl, rfl, trivial⟩ ?_
      | refine Chk.mk ⟨rfl, rfl, rfl, rfl, trivial⟩ ?_
      | refine Chk.mk ⟨rfl, rfl, rfl, rfl, rfl, trivial⟩ ?_
      | refine Chk.mk ⟨rfl, rfl, rfl, rfl, rfl, rfl, trivial⟩ ?_)
    exact Done.mk (stop (by rw [show i = 12 by omega]))
  have hlt : i < z.length := by omega
  have htk : z.take (i + 1) = z.take i ++ [z[i]] := by rw [List.take_add_one, List.getElem?_eq_getElem hlt]; rfl
  have hz64 := hz2 _ (List.getElem_mem hlt)
  have hcell : (ints z)[i]? = some (.int .i64 z[i]) := ints_get (List.getElem?_eq_getElem hlt)
  have hpk := pickS_range (n := z[i]) (m := 5) (by decide)
  have hR := im9_pick hep z[i] all.length (by omega)
  have hxi : wrtK (wrt0 ep tail) (z.take (i + 1)) = wrtStep j d all z[i] := by rw [htk]; unfold wrtK at hx ⊢; rw [List.foldl_append, ← hx]; rfl
  rcases hZ.mem with q0 | ⟨bZ, oZ, cZ, TZ, fZ, rfl, hIZ, hcZ⟩
  · omega
  have hIZ2 := (Imm.le_trans hJ1 hle) _ _ hIZ
  generalize z[i] = sz at *
  obtain ⟨ln, hln⟩ : ∃ ln : Nat, 1 + pickS sz 5 = ln := ⟨(1 + pickS sz 5).toNat, by omega⟩
  have hln2 : (1 + pickS sz 5).toNat = ln := by omega
  repeat (first
    | refine LoadD.own 0 rfl _ rfl rfl ?_
    | refine LoadD.own 1 rfl _ rfl rfl ?_
    | refine LoadD.own 2 rfl _ rfl rfl ?_
    | refine LoadP.at 0 rfl _ rfl rfl ?_
    | refine LoadP.at 1 rfl _ rfl rfl ?_
    | refine LoadP.at 2 rfl _ rfl rfl ?_
    | refine StoreD.st 0 rfl rfl rfl ?_
    | refine StoreD.st 1 rfl rfl rfl ?_
    | refine StoreD.st 2 rfl rfl rfl ?_
    | refine CmpD.yes rfl ?_
    | refine CmpD.yes (by decide) ?_
    | refine CmpD.no (by decide) ?_
    | refine Chk.mk ⟨rfl, trivial⟩ ?_
    | refine Chk.mk ⟨rfl, rfl, trivial⟩ ?_
    | refine Chk.mk ⟨rfl, rfl, rfl, trivial⟩ ?_
    | refine Chk.mk ⟨rfl, rfl, rfl, rfl, trivial⟩ ?_
    | refine Chk.mk ⟨rfl, rfl, rfl, rfl, rfl, trivial⟩ ?_
    | refine Chk.mk ⟨rfl, rfl, rfl, rfl, rfl, rfl, trivial⟩ ?_)
  refine CodeF.sched [[], [], [0, 1], [0, 1, 2], [0, 1, 2, 3], [0, 1, 2, 3, 4], [], [], [6, 7], [6, 7, 8], [0, 1, 2, 3, 4, 5, 6, 7, 8, 9], [0, 1, 2, 3, 4, 5, 6, 7, 8, 9, 10]] [0, 1, 2, 3, 6, 7, 8, 9, 4, 5, 10, 11] (by kernel_rfl) ?_
  refine Chk.mk (by omega) ?_
  refine LoadP.imm [.int .i64 sz] ⟨cZ, TZ, fZ, .imm hIZ2, take_get hcZ hcell, rfl⟩ ?_
  refine Chk.mk (by omega) ?_
  refine LoadP.imm [.int .i64 sz] ⟨cZ, TZ, fZ, .imm hIZ2, take_get hcZ hcell, rfl⟩ ?_
  refine Tri.free (low_Pick sz 5 J' hz64 (by unfold In64; omega)) ?_
  rintro v _ _ hJ4 ⟨rfl, rfl⟩
  repeat (first
    | refine LoadD.own 0 rfl _ rfl rfl ?_
    | refine LoadD.own 1 rfl _ rfl rfl ?_
    | refine LoadD.own 2 rfl _ rfl rfl ?_
    | refine LoadP.at 0 rfl _ rfl rfl ?_
    | refine LoadP.at 1 rfl _ rfl rfl ?_
    | refine LoadP.at 2 rfl _ rfl rfl ?_
    | refine StoreD.st 0 rfl rfl rfl ?_
    | refine StoreD.st 1 rfl rfl rfl ?_
    | refine StoreD.st 2 rfl rfl rfl ?_
    | refine CmpD.yes rfl ?_
    | refine CmpD.yes (by decide) ?_
    | refine CmpD.no (by decide) ?_
    | refine Chk.mk ⟨rfl, trivial⟩ ?_
    | refine Chk.mk ⟨rfl, rfl, trivial⟩ ?_
    | refine Chk.mk ⟨rfl, rfl, rfl, trivial⟩ ?_
    | refine Chk.mk ⟨rfl, rfl, rfl, rfl, trivial⟩ ?_
    | refine Chk.mk ⟨rfl, rfl, rfl, rfl, rfl, trivial⟩ ?_
    | refine Chk.mk ⟨rfl, rfl, rfl, rfl, rfl, rfl, trivial⟩ ?_)
  refine ToD.to (ln : Int) (by rw [wrap_i64 (by omega) (by omega)]; exact hln) ?_
  refine Tri.free (images9 ln (by omega) sz J') ?_
  rintro v J5 _ hJ5 ⟨aI, capI, gs, rfl, hgs, hgp⟩
  have hgl : gs.length = ln := by have := congrArg List.length hgp; simpa [im9_length] using this
  repeat (first
    | refine LoadD.own 0 rfl _ rfl rfl ?_
    | refine LoadD.own 1 rfl _ rfl rfl ?_
    | refine LoadD.own 2 rfl _ rfl rfl ?_
    | refine LoadP.at 0 rfl _ rfl rfl ?_
    | refine LoadP.at 1 rfl _ rfl rfl ?_
    | refine LoadP.at 2 rfl _ rfl rfl ?_
    | refine StoreD.st 0 rfl rfl rfl ?_
    | refine StoreD.st 1 rfl rfl rfl ?_
    | refine StoreD.st 2 rfl rfl rfl ?_
    | refine CmpD.yes rfl ?_
    | refine CmpD.yes (by decide) ?_
    | refine CmpD.no (by decide) ?_
    | refine Chk.mk ⟨rfl, trivial⟩ ?_
    | refine Chk.mk ⟨rfl, rfl, trivial⟩ ?_
    | refine Chk.mk ⟨rfl, rfl, rfl, trivial⟩ ?_
    | refine Chk.mk ⟨rfl, rfl, rfl, rfl, trivial⟩ ?_
    | refine Chk.mk ⟨rfl, rfl, rfl, rfl, rfl, trivial⟩ ?_
    | refine Chk.mk ⟨rfl, rfl, rfl, rfl, rfl, rfl, trivial⟩ ?_)
  refine Tri.frame (jk_Append hJk hw.wf (hD.mono hJ5) (hw.few.mono (by omega)) (by rw [hw.groups]; omega) aI capI gs hgs (by omega) false) [1, 0] rfl rfl ?_
  rw [hgp]
  rw [← hln2] at hgp ⊢
  have hxi1 := congrArg (·.1) hxi
  have hxi2 := congrArg (·.2.1) hxi
  have hxi3 := congrArg (·.2.2) hxi
  unfold wrtStep at hxi1 hxi2 hxi3
  dsimp only at hxi1 hxi2 hxi3
  generalize j.appendB d (im9 (1 + pickS sz 5).toNat sz) false = ap at *
  obtain ⟨j2, d2, sq2, e2⟩ := ap
  dsimp only at hxi1 hxi2 hxi3 ⊢
  rintro v J6 A' hJ6 ⟨rfl, chJ2, chD2, hJ2, hD2, rfl⟩
  refine ⟨Nat.le_refl _, ?_⟩
  have hle6 := Imm.le_trans hle (Imm.le_trans hJ5 hJ6)
  have hms6 : ∀ m ∈ ms, ImgsOk J6 m.a m.gs := fun m hm => (hms m hm).mono (Imm.le_trans hJ5 hJ6)
  repeat (first
    | refine LoadD.own 0 rfl _ rfl rfl ?_
    | refine LoadD.own 1 rfl _ rfl rfl ?_
    | refine LoadD.own 2 rfl _ rfl rfl ?_
    | refine LoadP.at 0 rfl _ rfl rfl ?_
    | refine LoadP.at 1 rfl _ rfl rfl ?_
    | refine LoadP.at 2 rfl _ rfl rfl ?_
    | refine StoreD.st 0 rfl rfl rfl ?_
    | refine StoreD.st 1 rfl rfl rfl ?_
    | refine StoreD.st 2 rfl rfl rfl ?_
    | refine CmpD.yes rfl ?_
    | refine CmpD.yes (by decide) ?_
    | refine CmpD.no (by decide) ?_
    | refine Chk.mk ⟨rfl, trivial⟩ ?_
    | refine Chk.mk ⟨rfl, rfl, trivial⟩ ?_
    | refine Chk.mk ⟨rfl, rfl, rfl, trivial⟩ ?_
    | refine Chk.mk ⟨rfl, rfl, rfl, rfl, trivial⟩ ?_
    | refine Chk.mk ⟨rfl, rfl, rfl, rfl, rfl, trivial⟩ ?_
    | refine Chk.mk ⟨rfl, rfl, rfl, rfl, rfl, rfl, trivial⟩ ?_)
  refine CmpD.split (fun c3 => ?_) (fun c3 => ?_)
  · repeat (first
      | refine LoadD.own 0 rfl _ rfl rfl ?_
      | refine LoadD.own 1 rfl _ rfl rfl ?_
      | refine LoadD.own 2 rfl _ rfl rfl ?_
      | refine LoadP.at 0 rfl _ rfl rfl ?_
      | refine LoadP.at 1 rfl _ rfl rfl ?_
      | refine LoadP.at 2 rfl _ rfl rfl ?_
      | refine StoreD.st 0 rfl rfl rfl ?_
      | refine StoreD.st 1 rfl rfl rfl ?_
      | refine StoreD.st 2 rfl rfl rfl ?_
      | refine CmpD.yes rfl ?_
      | refine CmpD.yes (by decide) ?_
      | refine CmpD.no (by decide) ?_
      | refine Chk.mk ⟨rfl, trivial⟩ ?_
      | refine Chk.mk ⟨rfl, rfl, trivial⟩ ?_
      | refine Chk.mk ⟨rfl, rfl, rfl, trivial⟩ ?_
      | refine Chk.mk ⟨rfl, rfl, rfl, rfl, trivial⟩ ?_
      | refine Chk.mk ⟨rfl, rfl, rfl, rfl, rfl, trivial⟩ ?_
      | refine Chk.mk ⟨rfl, rfl, rfl, rfl, rfl, rfl, trivial⟩ ?_)
    conv => whnf
    intro bN
    refine appendD tabOk rfl rfl rfl rfl rfl rfl rfl 2 rfl hS (SrcOk.slice (n := 1) (news := [Ims.cell ⟨aI, capI, gs⟩]) tabOk rfl ((OwnC.whole (len := 1) (size := 1) rfl).slC 3 rfl) (by intro v hv; simp only [List.mem_singleton] at hv; subst hv; rfl)) rfl (by show (ms.length + 1) * 24 ≤ _; omega) (by omega) ?_
    intro a2 cap2 ch2 hO2
    refine ToD.i64 (by omega) (by omega) ?_
    have hml3 : (ms ++ [⟨aI, capI, gs⟩] : List Ims).length = ms.length + 1 := by simp
    refine ⟨_, Drop.pick [0, 1, 2] _ rfl, ⟨i + 1, _, chD2, chJ2, ch2, a2, cap2, ms ++ [⟨aI, capI, gs⟩], by omega, by omega, rfl, by rw [hxi2]; exact hD2, by rw [hxi1]; exact hJ2, by rw [hml3, List.map_append]; exact hO2, ?_, ?_, hle6, by rw [hml3]; rfl, rfl⟩, ?_⟩
    · intro m hm
      rcases List.mem_append.1 hm with hm | hm
      · exact hms6 m hm
      · simp only [List.mem_singleton] at hm
        subst hm
        exact hgs.mono hJ6
    · rw [hxi3, if_pos c3, List.map_append, hmp]
      show _ ++ [gs.map Img.pr] = _
      rw [hgp]
    · show ((n : Int) - ((i : Int) + 1)).toNat < ((n : Int) - (i : Int)).toNat; omega
  · repeat (first
      | refine LoadD.own 0 rfl _ rfl rfl ?_
      | refine LoadD.own 1 rfl _ rfl rfl ?_
      | refine LoadD.own 2 rfl _ rfl rfl ?_
      | refine LoadP.at 0 rfl _ rfl rfl ?_
      | refine LoadP.at 1 rfl _ rfl rfl ?_
      | refine LoadP.at 2 rfl _ rfl rfl ?_
      | refine StoreD.st 0 rfl rfl rfl ?_
      | refine StoreD.st 1 rfl rfl rfl ?_
      | refine StoreD.st 2 rfl rfl rfl ?_
      | refine CmpD.yes rfl ?_
      | refine CmpD.yes (by decide) ?_
      | refine CmpD.no (by decide) ?_
      | refine Chk.mk ⟨rfl, trivial⟩ ?_
      | refine Chk.mk ⟨rfl, rfl, trivial⟩ ?_
      | refine Chk.mk ⟨rfl, rfl, rfl, trivial⟩ ?_
      | refine Chk.mk ⟨rfl, rfl, rfl, rfl, trivial⟩ ?_
      | refine Chk.mk ⟨rfl, rfl, rfl, rfl, rfl, trivial⟩ ?_
      | refine Chk.mk ⟨rfl, rfl, rfl, rfl, rfl, rfl, trivial⟩ ?_)
    refine ToD.i64 (by omega) (by omega) ?_
    refine ⟨_, Drop.pick [0, 1, 2] _ rfl, ⟨i + 1, _, chD2, chJ2, chS, aS, capS, ms, by omega, by omega, rfl, by rw [hxi2]; exact hD2, by rw [hxi1]; exact hJ2, hS, hms6, by rw [hxi3, if_neg c3]; exact hmp, hle6, rfl, rfl⟩, ?_⟩
    show ((n : Int) - ((i : Int) + 1)).toNat < ((n : Int) - (i : Int)).toNat; omega
end Go.Proofs.Ytbpdbgcndfcilaa
namespace Go.Proofs.Ytbpdbgcndfcilaa
open Go.RowKit Go.Sl
set_option maxRecDepth 20000

end Go.Proofs.Ytbpdbgcndfcilaa
namespace Go.Proofs.Ytbpdbgcndfcilaa
open Go.RowKit Go.Sl
set_option maxRecDepth 20000

def DoOk (d : DSt) (l : List PImg) : Prop := ∀ g ∈ l, 2 ≤ g.1 ∧ g.1 < d.now.length ∧ g.2.length = 4096
instance (d : DSt) (l : List PImg) : Decidable (DoOk d l) := by unfold DoOk; infer_instance
end Go.Proofs.Ytbpdbgcndfcilaa
namespace Go.Proofs.Ytbpdbgcndfcilaa
open Go.RowKit Go.Sl
set_option maxRecDepth 20000

@[reducible] def rBox (b : Nat) (s w : Hd) (count : Int) (down : Bool) (arm fault : Int) : List Blk := [(b, row [s.v, w.v, .int .i64 count, .bool down, .int .i64 arm, .int .i64 fault] 79)]
@[reducible] def sBox (b : Nat) (s : Sup) : List Blk := [(b, row [.int .i64 s.blocks, .int .i64 s.epoch, .int .i64 s.seq, .int .i64 s.tail] 56)]
end Go.Proofs.Ytbpdbgcndfcilaa
namespace Go.Proofs.Ytbpdbgcndfcilaa
open Go.RowKit Go.Sl
set_option maxRecDepth 20000

end Go.Proofs.Ytbpdbgcndfcilaa
namespace Go.Proofs.Ytbpdbgcndfcilaa
open Go.RowKit Go.Sl
set_option maxRecDepth 20000

end Go.Proofs.Ytbpdbgcndfcilaa
namespace Go.Proofs.Ytbpdbgcndfcilaa
open Go.RowKit Go.Sl
set_option maxRecDepth 20000

theorem grow_nil (I : Imm) (n : Nat) (hn : n ≤ 1000000000) :
    Tri Try.prog 135 #[.slice none 0 0, .int .i64 n] I [] fun v J S' => ∃ a cap ch, v = .slice a 0 cap ∧ OwnB ch a 0 cap [] ∧ I = J ∧ S' = [ch] := by
  refine Tri.lay (S2 := [[]]) (by simp) ?_
  refine Tri.of (args := [.slice none 0 0, .int .i64 n]) tabOk Try.func135 rfl (by kernel_rfl) (by kernel_rfl) ?_
  refine CmpD.no (by omega) ?_
  refine capD tabOk rfl rfl rfl rfl rfl rfl ?_
  refine ToD.i64 (by omega) (by omega) ?_
  refine ToD.to (n : Int) (by rw [wrap_i64 (by omega) (by omega)]; omega) ?_
  refine CmpD.split (fun c1 => ?_) (fun c1 => ?_)
  · refine capD tabOk rfl rfl rfl rfl rfl rfl ?_
    refine sliceD tabOk rfl rfl rfl rfl 0 0 0 rfl ⟨_, rfl⟩ rfl (.inl rfl) (by omega) ?_
    refine appendZD tabOk rfl rfl rfl rfl rfl rfl rfl rfl 0 rfl (OwnC.nil 1 none) n rfl rfl (by decide) (by intro v hv; have hv : v ∈ [Value.int .u8 0] := hv; simp at hv; subst hv; rfl) (by show (0 + n) * 1 ≤ _; omega) (by omega) ?_
    intro a1 cap1 ch1 hown1
    refine sliceD tabOk rfl rfl rfl rfl 0 0 cap1 rfl ⟨_, rfl⟩ rfl (.inl rfl) (by omega) ?_
    have := hown1.part 0 0 (Nat.le_refl _) (by omega)
    exact Done.mk ⟨_, cap1 - 0, ch1, rfl, this, rfl, rfl⟩
  · exact Done.mk ⟨none, 0, [], rfl, OwnC.nil 1 none, rfl, rfl⟩
theorem concat_one (c0 : List Blk) {I : Imm} (a : Option Addr) (n cap : Nat) (bks : List Bk) (hn : n ≤ 512) (h : SlC I [c0] a n (bks.map Bk.cell)) (hok : ∀ b ∈ bks, BkOk I b) :
    Tri Try.prog 100 #[.slice a n cap] I [c0] fun v J S' => ∃ a' cap' ch, v = .slice a' (n * 4096 : Nat) cap' ∧ OwnB ch a' (n * 4096) cap' (bks.map Bk.data).flatten ∧ I = J ∧ S' = [c0, ch] := by
  have hl : bks.length = n := by have := h.len; rwa [List.length_map] at this
  refine Tri.drop ?_ (fun _ _ _ _ h => h)
  refine Tri.of (args := [.slice a n cap]) tabOk Try.func100 rfl (by kernel_rfl) (by kernel_rfl) ?_
  refine CodeF.loopD [0, 3, 9, 10, 11] (fun vs J' S' => ∃ i : Nat, i ≤ n ∧ vs = [.slice a n cap, .int .i64 (i * 4096 : Nat), .slice a n cap, .int .i64 n, .int .i64 i] ∧ I = J' ∧ S' = [c0])
    (fun vs _ _ => match vs with | [_, _, _, _, .int _ i] => ((n : Int) - i).toNat | _ => 0) ?_ ?_
  · exact ⟨_, Drop.pick [0] _ rfl, 0, by omega, rfl, rfl, rfl⟩
  · rintro vs gE J' S' hJ' ⟨i, hi, rfl, rfl, rfl⟩
    refine CmpD.split (fun c1 => ?_) (fun c1 => ?_)
    · have hlt : i < bks.length := by omega
      have hcell : (bks.map Bk.cell)[i]? = some bks[i].cell := by rw [List.getElem?_map, List.getElem?_eq_getElem hlt]; rfl
      rcases h.mem with q0 | ⟨b, off, rfl, hc⟩
      · omega
      refine Chk.mk (by omega) ?_
      refine LoadD.mk [bks[i].cell] (hc.at (i := i) hcell) ?_
      refine ToD.to ((((i + 1) * 4096 : Nat)) : Int) (by rw [wrap_i64 (by omega) (by omega)]; omega) ?_
      refine CmpD.no (by omega) ?_
      refine ToD.i64 (by omega) (by omega) ?_
      refine ⟨_, Drop.pick [0] _ rfl, ⟨i + 1, by omega, rfl, rfl, rfl⟩, ?_⟩
      show ((n : Int) - ((i : Int) + 1)).toNat < ((n : Int) - i).toNat; omega
    · obtain rfl : i = n := by omega
      refine Tri.frame (grow_nil I (i * 4096) (by omega)) [] rfl rfl ?_
      rintro v J A' hJ ⟨aG, capG, chG, rfl, hG, rfl, rfl⟩
      refine ⟨by simp, ?_⟩
      refine CodeF.loopD [6, 25, 26, 27] (fun vs J' S' => ∃ (k : Nat) (aG : Option Addr) (capG : Nat) (chG : List Blk), k ≤ i ∧ OwnB chG aG (k * 4096) capG ((bks.map Bk.data).take k).flatten ∧ vs = [.slice aG (k * 4096 : Nat) capG, .slice a i cap, .int .i64 i, .int .i64 k] ∧ I = J' ∧ S' = [c0, chG])
        (fun vs _ _ => match vs with | [_, _, _, .int _ k] => ((i : Int) - k).toNat | _ => 0) ?_ ?_
      · exact ⟨_, Drop.pick [0, 1] _ rfl, 0, aG, capG, chG, by omega, by rw [Nat.zero_mul]; exact hG, by rw [Nat.zero_mul]; rfl, rfl, rfl⟩
      rintro vs gE2 J2 S2 hJ2 ⟨k, aK, capK, chK, hk, hK, rfl, rfl, rfl⟩
      refine CmpD.split (fun c2 => ?_) (fun c2 => ?_)
      · have hlt : k < bks.length := by omega
        have hcell : (bks.map Bk.cell)[k]? = some bks[k].cell := by rw [List.getElem?_map, List.getElem?_eq_getElem hlt]; rfl
        have hb := hok _ (List.getElem_mem hlt)
        have htk : ((bks.map Bk.data).take (k + 1)).flatten = ((bks.map Bk.data).take k).flatten ++ bks[k].data := by
          rw [List.take_add_one, List.getElem?_map, List.getElem?_eq_getElem hlt]; simp
        generalize bks[k] = bk at *
        rcases (h.more [] (I := I) : SlC I ([c0] ++ [[]]) a i (bks.map Bk.cell)).mem with q0 | ⟨b, off, rfl, _⟩
        · omega
        rcases (h.more chK).mem with q0 | ⟨b2, off2, e2, hc⟩
        · omega
        cases e2
        refine Chk.mk (by omega) ?_
        refine LoadD.mk [bk.cell] (hc.at (i := k) hcell) ?_
        refine appendD tabOk rfl rfl rfl rfl rfl rfl rfl 1 rfl hK (SrcOk.slice (n := 4096) (news := bts bk.data) tabOk rfl (by show SlC _ _ _ (4096 * 1) _; exact Rds.slC hb) (bts_plain _)) rfl (by show (k * 4096 + 4096) * 1 ≤ _; omega) (by omega) ?_
        intro a2 cap2 ch2 hO2
        refine ToD.i64 (by omega) (by omega) ?_
        have e : k * 4096 + 4096 = (k + 1) * 4096 := by omega
        refine ⟨_, Drop.pick [0, 1] _ rfl, ⟨k + 1, a2, cap2, ch2, by omega, ?_, by rw [← e]; rfl, rfl, rfl⟩, ?_⟩
        · rw [htk, ← e, OwnB, bts_append]; exact hO2
        · show ((i : Int) - ((k : Int) + 1)).toNat < ((i : Int) - k).toNat; omega
      · obtain rfl : k = i := by omega
        rw [List.take_of_length_le (by rw [List.length_map]; omega)] at hK
        exact Done.mk ⟨_, Drop.pick [0, 1] _ rfl, aK, capK, chK, rfl, hK, rfl, rfl⟩
theorem dk_Image {I : Imm} {bD : Nat} {st : DSt} {ch : List Blk} (h : Dk I bD st ch) :
    Tri Try.prog 44 #[.pointer (some ⟨bD, 0, none⟩)] I [ch] fun v J S' => ∃ a cap chB, v = .slice a (st.now.length * 4096 : Nat) cap ∧ OwnB chB a (st.now.length * 4096) cap st.now.flatten ∧ I = J ∧ S' = [ch, chB] := by
  obtain ⟨hw, d, chS, chN, chW, bS, bN, bW, rfl, hD, q1, q2, q3, q4, q5, q6, q7⟩ := h
  have hl := hD.hN.len1
  have hl' : st.now.length = d.now.len := by rw [← q2]; simpa using hl
  have hr := hw.range
  refine Tri.lay (S2 := [dChunk bD d, chS, chN, chW]) (by simp) ?_
  refine Tri.drop ?_ (fun _ _ _ _ h => h)
  refine Tri.of (args := [.pointer (some ⟨bD, 0, none⟩)]) tabOk Try.func44 rfl (by kernel_rfl) (by kernel_rfl) ?_
  refine Tri.frame1 0 rfl (disk_none bD d I) ?_
  rintro v J S' hJ ⟨rfl, rfl, rfl⟩
  refine ⟨_, rfl, ?_⟩
  rw [decide_eq_false (show ¬ d.now.len = 0 by omega)]
  have hslc := hD.hN.slC1 (I := I) (S := [chN]) 0 rfl
  have hc := concat_one chN d.now.a d.now.len d.now.cap bN (by omega) hslc hD.okN
  obtain ⟨⟨sa, sl, sc⟩, ⟨na, nl, nc⟩, ⟨wa, wl, wc⟩, count, down, ⟨ao, al⟩, ⟨fo, fl⟩⟩ := d
  dsimp only at hl hl' hc
  refine LoadD.own 0 rfl [.slice na nl nc] rfl rfl ?_
  refine Tri.frame hc [2] rfl rfl ?_
  rintro v J A' hJ ⟨a', cap', chB, rfl, hB, rfl, rfl⟩
  refine ⟨by simp, ?_⟩
  rw [q2] at hB
  rw [hl']
  exact Done.mk ⟨[_ ++ (chS ++ (chN ++ chW)), chB], Drop.flat (by simp), a', cap', chB, rfl, hB, rfl, rfl⟩
end Go.Proofs.Ytbpdbgcndfcilaa
namespace Go.Proofs.Ytbpdbgcndfcilaa
open Go.RowKit Go.Sl
set_option maxRecDepth 20000

end Go.Proofs.Ytbpdbgcndfcilaa
namespace Go.Proofs.Ytbpdbgcndfcilaa
open Go.RowKit Go.Sl
set_option maxRecDepth 20000

end Go.Proofs.Ytbpdbgcndfcilaa
namespace Go.Proofs.Ytbpdbgcndfcilaa
open Go.RowKit Go.Sl
set_option maxRecDepth 20000

theorem imgsR_of {I : Imm} {S : St} {a : Option Addr} {gs : List Img} (h : ImgsOk I a gs) : ImgsR I S a gs := ⟨h.1.slC, fun g hg => ⟨(h.2 g hg).2.slC⟩⟩
end Go.Proofs.Ytbpdbgcndfcilaa
namespace Go.Proofs.Ytbpdbgcndfcilaa
open Go.RowKit Go.Sl
set_option maxRecDepth 20000

theorem gsP_get (ep : Nat) : ∀ (l : List (List PImg)) (sq i : Nat) (h : i < l.length) (h' : i < (gsP ep sq l).length), (gsP ep sq l)[i] = (ep, sq + i, l[i])
  | [], _, i, h, _ => by simp at h
  | g :: l, sq, 0, _, _ => rfl
  | g :: l, sq, i + 1, h, h' => by
    simp only [gsP, List.getElem_cons_succ]
    rw [gsP_get ep l (sq + 1) i (by simpa using h), show sq + 1 + i = sq + (i + 1) by omega]
theorem grpCells_0 {l : List Grp} {i : Nat} (h : i < l.length) : (grpCells l)[i * 3]? = some (.int .i64 l[i].e) := by
  have := congrArg (·[0]?) (grpCells_at h)
  simpa using this
theorem grpCells_1 {l : List Grp} {i : Nat} (h : i < l.length) : (grpCells l)[i * 3 + 1]? = some (.int .i64 l[i].s) := by
  have := congrArg (·[1]?) (grpCells_at h)
  simpa using this
theorem grpCells_2 {l : List Grp} {i : Nat} (h : i < l.length) : (grpCells l)[i * 3 + 2]? = some (.slice l[i].a l[i].gs.length l[i].cap) := by
  have := congrArg (·[2]?) (grpCells_at h)
  simpa using this
set_option maxHeartbeats 1000000 in
theorem same9 (I : Imm) (aO : Option Addr) (capO : Nat) (gl : List Grp) (L : List G3) (hO : Rds I aO (gl.length * 3) (grpCells gl)) (hg : GrpsOk I gl L) (aS : Option Addr) (capS : Nat) (ms : List Ims) (all : List (List PImg)) (hms : ImsAt I aS ms all) (ep : Nat) (hL : L = gsP ep 1 all) (hfew : all.length ≤ 1000 ∧ ∀ g ∈ all, g.length ≤ 1000) :
    Tri Try.prog 41 #[.slice aO gl.length capO, .slice aS ms.length capS, .int .i64 ep] I [] fun v _ _ => v = .bool true := by
  have hl1 := hg.len
  have hl2 : ms.length = all.length := by rw [← hms.pr, List.length_map]
  rw [hL, gsP_length] at hl1
  refine Tri.of (args := [.slice aO gl.length capO, .slice aS ms.length capS, .int .i64 ep]) tabOk Try.func41 rfl (by kernel_rfl) (by kernel_rfl) ?_
  refine CmpD.yes (by omega) ?_
  refine CodeF.loopD [0, 1, 2, 7] (fun vs J' S' => ∃ i : Nat, i ≤ gl.length ∧ vs = [.slice aO gl.length capO, .slice aS ms.length capS, .int .i64 ep, .int .i64 i] ∧ I = J' ∧ S' = [])
    (fun vs _ _ => match vs with | [_, _, _, .int _ i] => ((gl.length : Int) - i).toNat | _ => 0) ?_ ?_
  · exact ⟨_, Drop.refl _, 0, by omega, rfl, rfl, rfl⟩
  rintro vs gE J' S' hJ' ⟨i, hi, rfl, rfl, rfl⟩
  refine CmpD.split (fun c1 => ?_) (fun c1 => ?_)
  · have hlt : i < gl.length := by omega
    have hlt2 : i < ms.length := by omega
    have k0 := grpCells_0 hlt
    have k1 := grpCells_1 hlt
    have k2 := grpCells_2 hlt
    have hm : (ms.map Ims.cell)[i]? = some ms[i].cell := by rw [List.getElem?_map, List.getElem?_eq_getElem hlt2]; rfl
    have hmo := hms.each _ (List.getElem_mem hlt2)
    have hgo := hg.each _ (List.getElem_mem hlt)
    have hmp : ms[i].gs.map Img.pr = all[i]'(by omega) := by
      have : (ms.map Ims.pr)[i]'(by rw [List.length_map]; exact hlt2) = all[i]'(by omega) := by simp only [hms.pr]
      rw [List.getElem_map] at this; exact this
    have hfi := hfew.2 _ (List.getElem_mem (by omega : i < all.length))
    have hg3 : gl[i].g3 = up3 (ep, 1 + i, all[i]'(by omega)) := by
      have h3 := hg.g3
      have : (gl.map Grp.g3)[i]'(by rw [List.length_map]; exact hlt) = (L.map up3)[i]'(by rw [← h3, List.length_map]; exact hlt) := by simp only [h3]
      rw [List.getElem_map, List.getElem_map] at this
      rw [this]
      congr 1
      have h4 : L[i]'(by rw [hL, gsP_length]; omega) = (gsP ep 1 all)[i]'(by rw [gsP_length]; omega) := by simp only [hL]
      rw [h4, gsP_get ep all 1 i (by omega)]
    rcases hO.mem with q0 | ⟨bO, oO, cO, TO, fO, rfl, hIO, hcO⟩
    · omega
    rcases hms.rd.mem with q0 | ⟨bS, oS, cS, TS, fS, rfl, hIS, hcS⟩
    · omega
    generalize gl[i] = g at *
    generalize ms[i] = m at *
    generalize all[i]'(by omega) = al at *
    unfold Grp.g3 up3 at hg3
    simp only [Prod.mk.injEq] at hg3
    obtain ⟨g1, g2, g3⟩ := hg3
    have hml : m.gs.length = al.length := by rw [← hmp, List.length_map]
    have hgl : g.gs.length = al.length := by rw [← g3, List.length_map]
    have t0 : (cO.drop (oO + i * 3)).take 1 = [.int .i64 g.e] := take_get hcO k0
    have t1 : (cO.drop (oO + (i * 3 + 1))).take 1 = [.int .i64 g.s] := take_get hcO k1
    have t2 : (cO.drop (oO + (i * 3 + 2))).take 1 = [.slice g.a g.gs.length g.cap] := take_get hcO k2
    refine CodeF.sched [[], [], [0, 1], [0, 1, 2], [0, 1, 2, 3], [], [0, 1, 2, 3, 4, 5], [0, 1, 2, 3, 4, 5, 6], [0, 1, 2, 3, 4, 5, 6, 7], [0, 1, 2, 3, 4, 5, 6, 7], [0, 1, 2, 3, 4, 5, 6, 7, 8, 9], [0, 1, 2, 3, 4, 5, 6, 7, 8, 9, 10], [0, 1, 2, 3, 4, 5, 6, 7, 8, 9, 10, 11], [0, 1, 2, 3, 4, 5, 6, 7], [0, 1, 2, 3, 4, 5, 6, 7, 13], [0, 1, 2, 3, 4, 5, 6, 7, 8, 9, 10, 11, 12, 13, 14], [0, 1, 2, 3, 4, 5, 6, 7, 8, 9, 10, 11, 12, 13, 14, 15], [0, 1, 2, 3, 4, 5, 6, 7, 8, 9, 10, 11, 12, 13, 14, 15, 16], [0, 1, 2, 3, 4, 5, 6, 7, 8, 9, 10, 11, 12, 13, 14, 15, 16, 17], [0, 1, 2, 3, 4, 5, 6, 7, 8, 9, 10, 11, 12, 13, 14, 15, 16, 17], [0, 1, 2, 3, 4, 5, 6, 7, 8, 9, 10, 11, 12, 13, 14, 15, 16, 17, 18, 19], [0, 1, 2, 3, 4, 5, 6, 7, 8, 9, 10, 11, 12, 13, 14, 15, 16, 17, 18, 19, 20], [0, 1, 2, 3, 4, 5, 6, 7, 8, 9, 10, 11, 12, 13, 14, 15, 16, 17, 18, 19, 20, 21], [0, 1, 2, 3, 4, 5, 6, 7, 8, 9, 10, 11, 12, 13, 14, 15, 16, 17], [0, 1, 2, 3, 4, 5, 6, 7, 8, 9, 10, 11, 12, 13, 14, 15, 16, 17], [0, 1, 2, 3, 4, 5, 6, 7, 8, 9, 10, 11, 12, 13, 14, 15, 16, 17, 23, 24], [0, 1, 2, 3, 4, 5, 6, 7, 8, 9, 10, 11, 12, 13, 14, 15, 16, 17, 23, 24, 25], [0, 1, 2, 3, 4, 5, 6, 7, 8, 9, 10, 11, 12, 13, 14, 15, 16, 17, 18, 19, 20, 21, 22, 23, 24, 25, 26], [0, 1, 2, 3, 4, 5, 6, 7, 8, 9, 10, 11, 12, 13, 14, 15, 16, 17, 18, 19, 20, 21, 22, 23, 24, 25, 26, 27], [0, 1, 2, 3, 4, 5, 6, 7, 8, 9, 10, 11, 12, 13, 14, 15, 16, 17, 18, 19, 20, 21, 22, 23, 24, 25, 26, 27, 28]] [0, 1, 2, 3, 4, 5, 6, 7, 8, 9, 10, 11, 12, 13, 14, 15, 16, 17, 18, 19, 20, 21, 22, 23, 24, 25, 26, 27, 28, 29] (by kernel_rfl) ?_
    refine Chk.mk (by omega) ?_
    refine LoadP.imm [.int .i64 g.e] ⟨cO, TO, fO, .imm hIO, t0, rfl⟩ ?_
    refine CmpD.yes g1 ?_
    refine Chk.mk (by omega) ?_
    refine LoadP.imm [.int .i64 g.s] ⟨cO, TO, fO, .imm hIO, t1, rfl⟩ ?_
    refine ToD.i64 (by omega) (by omega) ?_
    refine CmpD.yes (by rw [g2]; omega) ?_
    refine Chk.mk (by omega) ?_
    refine LoadP.imm [.slice g.a g.gs.length g.cap] ⟨cO, TO, fO, .imm hIO, t2, rfl⟩ ?_
    refine Chk.mk (by omega) ?_
    refine LoadP.imm [m.cell] ⟨cS, TS, fS, .imm hIS, take_get hcS hm, rfl⟩ ?_
    refine Tri.free (same_imgs (S := []) (imgsR_of hgo) (imgsR_of hmo) (by omega)) ?_
    rintro v _ _ _ ⟨rfl, rfl, rfl⟩
    rw [decide_eq_true (g3.trans hmp.symm)]
    repeat (first
      | refine LoadD.own 0 rfl _ rfl rfl ?_
      | refine LoadP.at 0 rfl _ rfl rfl ?_
      | refine StoreD.st 0 rfl rfl rfl ?_
      | refine CmpD.yes rfl ?_
      | refine CmpD.yes (by decide) ?_
      | refine CmpD.no (by decide) ?_
      | refine Chk.mk ⟨rfl, trivial⟩ ?_
      | refine Chk.mk ⟨rfl, rfl, trivial⟩ ?_
      | refine Chk.mk ⟨rfl, rfl, rfl, trivial⟩ ?_
      | refine Chk.mk ⟨rfl, rfl, rfl, rfl, trivial⟩ ?_
      | refine Chk.mk ⟨rfl, rfl, rfl, rfl, rfl, trivial⟩ ?_
      | refine Chk.mk ⟨rfl, rfl, rfl, rfl, rfl, rfl, trivial⟩ ?_)
    refine ToD.i64 (by omega) (by omega) ?_
    refine ⟨_, Drop.refl _, ⟨i + 1, by omega, rfl, rfl, rfl⟩, ?_⟩
    show ((gl.length : Int) - ((i : Int) + 1)).toNat < ((gl.length : Int) - (i : Int)).toNat
    omega
  · exact Done.mk rfl
theorem WI.fewA {ep tail : Nat} {z : Nat → Dat} {j : JSt} {d : DSt} {all : List (List PImg)} (w : WI ep tail z j d all) : all.length ≤ 1000 ∧ ∀ g ∈ all, g.length ≤ 1000 := by
  have := usedP_ge all
  have := w.used
  refine ⟨by omega, fun g hg => ?_⟩
  obtain ⟨i, hi, rfl⟩ := List.mem_iff_getElem.1 hg
  have := (w.right i hi).2.2.2.2.2.1
  omega
theorem scanOk64 {b ep sq tail : Int} (hb : b = 64) (h1 : 1 ≤ ep ∧ ep ≤ 8388608) (h2 : 1 ≤ sq ∧ sq ≤ 549755813888) (h3 : 0 ≤ tail ∧ tail < 16) : ScanOk 64 (layOf 64) ⟨b, ep, sq, tail⟩ :=
  ⟨by omega, rfl, hb, h3.1, by show tail < layL ((64 : Nat) : Int); rw [layL_64']; exact h3.2, h1.1, h1.2, h2.1, h2.2⟩
def addK (all : List (List PImg)) (sz : Int) : List (List PImg) := if usedP all + ((1 + pickS sz 5).toNat + 1) ≤ 16 then all ++ [im9 (1 + pickS sz 5).toNat sz] else all
theorem WI.addK {ep tail : Nat} {z : Nat → Dat} (hep : 1 ≤ ep ∧ ep ≤ 8388608) {j : JSt} {d : DSt} {all : List (List PImg)} (w : WI ep tail z j d all) (sz : Int) : (wrtStep j d all sz).2.2 = addK all sz := by
  have hge := usedP_ge all
  have hu := w.used
  unfold wrtStep Go.Proofs.Ytbpdbgcndfcilaa.addK
  rcases w.append (im9_pick hep sz all.length (by omega)) with ⟨h0, _, h2⟩ | ⟨h0, _, _, h3⟩
  · rw [im9_length] at h0
    dsimp only; rw [if_pos h2, if_pos h0]
  · rw [im9_length] at h0
    dsimp only; rw [if_neg h3, if_neg (by omega)]
theorem WI.adds {ep tail : Nat} {z : Nat → Dat} (hep : 1 ≤ ep ∧ ep ≤ 8388608) : ∀ (l : List Int) (x : JSt × DSt × List (List PImg)), WI ep tail z x.1 x.2.1 x.2.2 → (wrtK x l).2.2 = l.foldl Go.Proofs.Ytbpdbgcndfcilaa.addK x.2.2
  | [], _, _ => rfl
  | s :: l, x, h => by
    have := WI.adds hep l (wrtStep x.1 x.2.1 x.2.2 s) (h.step hep s)
    rw [h.addK hep s] at this
    exact this
theorem wrt_all {ep tail : Nat} (hep : 1 ≤ ep ∧ ep ≤ 8388608) (ht : tail < 16) (l : List Int) : (wrtP ep tail l).2.2 = (l.take 12).foldl addK [] := WI.adds hep _ _ (WI.fresh hep ht)
theorem addK_yes {all : List (List PImg)} {sz : Int} {n u : Nat} (hn : (1 + pickS sz 5).toNat = n) (hu : usedP all = u) (h : u + (n + 1) ≤ 16) : addK all sz = all ++ [im9 n sz] := by unfold addK; rw [hn, hu, if_pos h]
/-- the examples of chapter 9 -/
theorem adds01 : [0, 1].foldl addK [] = [im9 1 0, im9 2 1] := by
  show addK (addK [] 0) 1 = _
  have h0 : addK [] 0 = [im9 1 0] := addK_yes (n := 1) (u := 0) (by decide) rfl (by decide)
  rw [h0, addK_yes (n := 2) (u := 2) (by decide) (by simp [usedP, im9_length]) (by decide)]; rfl
theorem awk9 : (wrtP ((1 : Nat) : Int) ((14 : Nat) : Int) [0, 1]).2.2 = [im9 1 0, im9 2 1] := by
  rw [wrt_all (by decide) (by decide)]; exact adds01
set_option maxHeartbeats 1000000 in
theorem awake09 (I : Imm) (S : St) : Tri Try.prog 38 #[] I S fun v _ _ => v = .bool true := by
  refine Tri.free (Q := fun v _ _ => v = .bool true) ?_ (fun v J _ _ h => h)
  refine Tri.of (args := []) tabOk Try.func38 rfl (by kernel_rfl) (by kernel_rfl) ?_
  conv => whnf
  intro bZ
  refine Tri.fix 0 rfl fun I1 hI1 hm => ?_
  have hZ : Rds I1 (some ⟨bZ, 0, none⟩) 2 (ints [0, 1]) := Rds.of_own (cap := 2) (OwnC.whole rfl) hm
  refine Tri.frameX (written9 I1 1 14 (by decide) (by decide) _ 2 2 [0, 1] rfl (by intro x hx; simp at hx; unfold In64; omega) hZ) [] rfl rfl ?_
  rintro v J1 A' hJ1 ⟨bD, chD, aS, capS, ms, rfl, hD, hms, hle, rfl⟩
  have w := wrtP_wi (ep := 1) (tail := 14) (by decide) (by decide) [0, 1]
  have hsc := w.scan 64
  have hfew := w.fewA
  have hcalm := w.calm
  have hlen := w.len
  rw [awk9] at hsc hms hfew
  have hml : ms.length = 2 := by have := congrArg List.length hms.pr; simpa using this
  generalize (wrtP 1 14 [0, 1]).2.1 = d at *
  rw [show usedP [im9 1 0, im9 2 1] = 5 from by simp [usedP, im9_length]] at hsc
  repeat (first
    | refine LoadD.own 0 rfl _ rfl rfl ?_
    | refine LoadD.own 1 rfl _ rfl rfl ?_
    | refine LoadD.own 2 rfl _ rfl rfl ?_
    | refine LoadP.at 0 rfl _ rfl rfl ?_
    | refine LoadP.at 1 rfl _ rfl rfl ?_
    | refine LoadP.at 2 rfl _ rfl rfl ?_
    | refine StoreD.st 0 rfl rfl rfl ?_
    | refine StoreD.st 1 rfl rfl rfl ?_
    | refine StoreD.st 2 rfl rfl rfl ?_
    | refine CmpD.yes rfl ?_
    | refine CmpD.yes (by decide) ?_
    | refine CmpD.no (by decide) ?_
    | refine Chk.mk ⟨rfl, trivial⟩ ?_
    | refine Chk.mk ⟨rfl, rfl, trivial⟩ ?_
    | refine Chk.mk ⟨rfl, rfl, rfl, trivial⟩ ?_
    | refine Chk.mk ⟨rfl, rfl, rfl, rfl, trivial⟩ ?_
    | refine Chk.mk ⟨rfl, rfl, rfl, rfl, rfl, trivial⟩ ?_
    | refine Chk.mk ⟨rfl, rfl, rfl, rfl, rfl, rfl, trivial⟩ ?_)
  refine CmpD.yes (by omega) ?_
  repeat (first
    | refine LoadD.own 0 rfl _ rfl rfl ?_
    | refine LoadD.own 1 rfl _ rfl rfl ?_
    | refine LoadD.own 2 rfl _ rfl rfl ?_
    | refine LoadP.at 0 rfl _ rfl rfl ?_
    | refine LoadP.at 1 rfl _ rfl rfl ?_
    | refine LoadP.at 2 rfl _ rfl rfl ?_
    | refine StoreD.st 0 rfl rfl rfl ?_
    | refine StoreD.st 1 rfl rfl rfl ?_
    | refine StoreD.st 2 rfl rfl rfl ?_
    | refine CmpD.yes rfl ?_
    | refine CmpD.yes (by decide) ?_
    | refine CmpD.no (by decide) ?_
    | refine Chk.mk ⟨rfl, trivial⟩ ?_
    | refine Chk.mk ⟨rfl, rfl, trivial⟩ ?_
    | refine Chk.mk ⟨rfl, rfl, rfl, trivial⟩ ?_
    | refine Chk.mk ⟨rfl, rfl, rfl, rfl, trivial⟩ ?_
    | refine Chk.mk ⟨rfl, rfl, rfl, rfl, rfl, trivial⟩ ?_
    | refine Chk.mk ⟨rfl, rfl, rfl, rfl, rfl, rfl, trivial⟩ ?_)
  refine Tri.free (layout9 J1) ?_
  rintro v _ _ _ ⟨rfl, rfl⟩
  repeat (first
    | refine LoadD.own 0 rfl _ rfl rfl ?_
    | refine LoadD.own 1 rfl _ rfl rfl ?_
    | refine LoadD.own 2 rfl _ rfl rfl ?_
    | refine LoadP.at 0 rfl _ rfl rfl ?_
    | refine LoadP.at 1 rfl _ rfl rfl ?_
    | refine LoadP.at 2 rfl _ rfl rfl ?_
    | refine StoreD.st 0 rfl rfl rfl ?_
    | refine StoreD.st 1 rfl rfl rfl ?_
    | refine StoreD.st 2 rfl rfl rfl ?_
    | refine CmpD.yes rfl ?_
    | refine CmpD.yes (by decide) ?_
    | refine CmpD.no (by decide) ?_
    | refine Chk.mk ⟨rfl, trivial⟩ ?_
    | refine Chk.mk ⟨rfl, rfl, trivial⟩ ?_
    | refine Chk.mk ⟨rfl, rfl, rfl, trivial⟩ ?_
    | refine Chk.mk ⟨rfl, rfl, rfl, rfl, trivial⟩ ?_
    | refine Chk.mk ⟨rfl, rfl, rfl, rfl, rfl, trivial⟩ ?_
    | refine Chk.mk ⟨rfl, rfl, rfl, rfl, rfl, rfl, trivial⟩ ?_)
  refine Tri.frame1 1 rfl (scan_Groups hD (layOf 64) ⟨64, 1, 1, 14⟩) ?_
  have hok : ScanOk d.now.length (layOf 64) ⟨64, 1, 1, 14⟩ := by rw [hlen]; exact scanOk64 rfl (by decide) (by decide) (by decide)
  rintro v J2 A' hJ2 ⟨rfl, ⟨h, _⟩ | ⟨_, h, _⟩ | ⟨_, _, aO, capO, gl, rfl, hO, hg⟩⟩
  · exact absurd hok h
  · rw [hcalm.1] at h; cases h
  refine ⟨_, rfl, ?_⟩
  have hpl : placeP (layL d.now.length).toNat ((14 : Int)).toNat (scanL d ⟨64, 1, 1, 14⟩) = 3 := by
    rw [hlen]
    show placeP (layL (64 : Int)).toNat 14 (scanL d ⟨64, ((1 : Nat) : Int), 1, ((14 : Nat) : Int)⟩) = 3
    rw [layL64]
    exact hsc.2
  rw [hpl]
  repeat (first
    | refine LoadD.own 0 rfl _ rfl rfl ?_
    | refine LoadD.own 1 rfl _ rfl rfl ?_
    | refine LoadD.own 2 rfl _ rfl rfl ?_
    | refine LoadP.at 0 rfl _ rfl rfl ?_
    | refine LoadP.at 1 rfl _ rfl rfl ?_
    | refine LoadP.at 2 rfl _ rfl rfl ?_
    | refine StoreD.st 0 rfl rfl rfl ?_
    | refine StoreD.st 1 rfl rfl rfl ?_
    | refine StoreD.st 2 rfl rfl rfl ?_
    | refine CmpD.yes rfl ?_
    | refine CmpD.yes (by decide) ?_
    | refine CmpD.no (by decide) ?_
    | refine Chk.mk ⟨rfl, trivial⟩ ?_
    | refine Chk.mk ⟨rfl, rfl, trivial⟩ ?_
    | refine Chk.mk ⟨rfl, rfl, rfl, trivial⟩ ?_
    | refine Chk.mk ⟨rfl, rfl, rfl, rfl, trivial⟩ ?_
    | refine Chk.mk ⟨rfl, rfl, rfl, rfl, rfl, trivial⟩ ?_
    | refine Chk.mk ⟨rfl, rfl, rfl, rfl, rfl, rfl, trivial⟩ ?_)
  refine Tri.free (same9 J2 aO capO gl _ hO hg aS capS ms _ (hms.mono hJ2) 1 hsc.1 hfew) ?_
  rintro v _ _ _ rfl
  repeat (first
    | refine LoadD.own 0 rfl _ rfl rfl ?_
    | refine LoadD.own 1 rfl _ rfl rfl ?_
    | refine LoadD.own 2 rfl _ rfl rfl ?_
    | refine LoadP.at 0 rfl _ rfl rfl ?_
    | refine LoadP.at 1 rfl _ rfl rfl ?_
    | refine LoadP.at 2 rfl _ rfl rfl ?_
    | refine StoreD.st 0 rfl rfl rfl ?_
    | refine StoreD.st 1 rfl rfl rfl ?_
    | refine StoreD.st 2 rfl rfl rfl ?_
    | refine CmpD.yes rfl ?_
    | refine CmpD.yes (by decide) ?_
    | refine CmpD.no (by decide) ?_
    | refine Chk.mk ⟨rfl, trivial⟩ ?_
    | refine Chk.mk ⟨rfl, rfl, trivial⟩ ?_
    | refine Chk.mk ⟨rfl, rfl, rfl, trivial⟩ ?_
    | refine Chk.mk ⟨rfl, rfl, rfl, rfl, trivial⟩ ?_
    | refine Chk.mk ⟨rfl, rfl, rfl, rfl, rfl, trivial⟩ ?_
    | refine Chk.mk ⟨rfl, rfl, rfl, rfl, rfl, rfl, trivial⟩ ?_)
  exact Done.mk rfl
end Go.Proofs.Ytbpdbgcndfcilaa
namespace Go.Proofs.Ytbpdbgcndfcilaa
open Go.RowKit Go.Sl
set_option maxRecDepth 20000

/-- bytes, as they lie -/
structure Bs where
  a : Option Addr
  len : Nat
  cap : Nat
  data : Dat
@[reducible] def Bs.cell (b : Bs) : Value := .slice b.a b.len b.cap
theorem GrpsOk.at' {J : Imm} {gl : List Grp} {L : List G3} (h : GrpsOk J gl L) (i : Nat) (hi : i < gl.length) : ∃ hl : i < L.length, gl[i].e = (L[i].1 : Int) ∧ gl[i].s = (L[i].2.1 : Int) ∧ gl[i].gs.map Img.pr = L[i].2.2 := by
  have hl : i < L.length := by rw [← h.len]; exact hi
  refine ⟨hl, ?_⟩
  have h3 := h.g3
  have : (gl.map Grp.g3)[i]'(by rw [List.length_map]; exact hi) = (L.map up3)[i]'(by rw [List.length_map]; exact hl) := by simp only [h3]
  rw [List.getElem_map, List.getElem_map] at this
  unfold Grp.g3 up3 at this
  simp only [Prod.mk.injEq] at this
  exact this
end Go.Proofs.Ytbpdbgcndfcilaa
namespace Go.Proofs.Ytbpdbgcndfcilaa
open Go.RowKit Go.Sl
set_option maxRecDepth 20000

theorem same_group {I : Imm} (g1 g2 : Grp) (h1 : ImgsOk I g1.a g1.gs) (h2 : ImgsOk I g2.a g2.gs) (hl : g1.gs.length ≤ 1000000000) (he : g1.g3 = g2.g3) :
    Tri Try.prog 47 #[.agg #[.int .i64 g1.e, .int .i64 g1.s, .slice g1.a g1.gs.length g1.cap], .agg #[.int .i64 g2.e, .int .i64 g2.s, .slice g2.a g2.gs.length g2.cap]] I [] fun v J _ => v = .bool true ∧ I = J := by
  obtain ⟨e1, s1, a1, c1, l1⟩ := g1
  obtain ⟨e2, s2, a2, c2, l2⟩ := g2
  unfold Grp.g3 at he
  simp only [Prod.mk.injEq] at he
  obtain ⟨rfl, rfl, he⟩ := he
  dsimp only at h1 h2 hl
  refine Tri.of (args := [.agg #[.int .i64 e1, .int .i64 s1, .slice a1 l1.length c1], .agg #[.int .i64 e1, .int .i64 s1, .slice a2 l2.length c2]]) tabOk Try.func47 rfl (by kernel_rfl) (by kernel_rfl) ?_
  conv => whnf
  intro b2
  conv => whnf
  intro b3
  repeat (first
    | refine LoadD.own 0 rfl _ rfl rfl ?_
    | refine LoadD.own 1 rfl _ rfl rfl ?_
    | refine LoadP.at 0 rfl _ rfl rfl ?_
    | refine LoadP.at 1 rfl _ rfl rfl ?_
    | refine StoreD.st 0 rfl rfl rfl ?_
    | refine StoreD.st 1 rfl rfl rfl ?_
    | refine CmpD.yes rfl ?_
    | refine CmpD.yes (by decide) ?_
    | refine CmpD.no (by decide) ?_
    | refine Chk.mk ⟨rfl, trivial⟩ ?_
    | refine Chk.mk ⟨rfl, rfl, trivial⟩ ?_
    | refine Chk.mk ⟨rfl, rfl, rfl, trivial⟩ ?_
    | refine Chk.mk ⟨rfl, rfl, rfl, rfl, trivial⟩ ?_
    | refine Chk.mk ⟨rfl, rfl, rfl, rfl, rfl, trivial⟩ ?_
    | refine Chk.mk ⟨rfl, rfl, rfl, rfl, rfl, rfl, trivial⟩ ?_)
  refine Tri.free (same_imgs (S := []) (imgsR_of h1) (imgsR_of h2) hl) ?_
  rintro v J S' hJ ⟨rfl, rfl, rfl⟩
  rw [decide_eq_true he]
  exact Done.mk ⟨rfl, rfl⟩
theorem flat_drop : ∀ (l : List Dat), (∀ b ∈ l, b.length = 4096) → ∀ (i : Nat) (h : i < l.length), (l.flatten.drop (i * 4096)).take 4096 = l[i]
  | [], _, i, h => by simp at h
  | b :: l, hl, 0, _ => by
    have hb := hl b (by simp)
    rw [Nat.zero_mul, List.drop_zero, List.flatten_cons, List.take_append_of_le_length (by omega), List.take_of_length_le (by omega)]; rfl
  | b :: l, hl, i + 1, h => by
    have hb := hl b (by simp)
    rw [List.flatten_cons, show (i + 1) * 4096 = b.length + i * 4096 by omega, ← List.drop_drop, List.drop_left]
    simpa using flat_drop l (fun x hx => hl x (by simp [hx])) i (by simpa using h)
theorem blocks_flat {l : List Dat} (hl : ∀ b ∈ l, b.length = 4096) : blocksOf l.flatten l.length = l := by
  rw [show blocksOf l.flatten l.length = (List.range l.length).map fun (i : Nat) => (l.flatten.drop (i * 4096)).take 4096 from by unfold blocksOf; rfl]
  refine getElem_eq_of (by simp) fun i i1 i2 => ?_
  simp only [List.getElem_map, List.getElem_range]
  exact flat_drop l hl i i2
theorem scanL_now {d1 d2 : DSt} (h : d1.now = d2.now) (s : Sup) : scanL d1 s = scanL d2 s := by
  unfold scanL rbP
  rw [h]
theorem and_127 (v : Int) : ∃ m : Nat, m < 128 ∧ bits .and .i64 v 127 = (m : Int) := by
  refine ⟨(BitVec.ofInt 64 v &&& BitVec.ofInt 64 127).toNat, ?_, ?_⟩
  · rw [BitVec.toNat_and]
    have : (BitVec.ofInt 64 127).toNat = 127 := by decide
    rw [this]
    have := Nat.and_le_right (n := (BitVec.ofInt 64 v).toNat) (m := 127)
    omega
  · show IntKind.i64.wrap (((BitVec.ofInt 64 v &&& BitVec.ofInt 64 127).toNat : Nat) : Int) = _
    rw [wrap_i64]
    · omega
    · rw [BitVec.toNat_and]
      have : (BitVec.ofInt 64 127).toNat = 127 := by decide
      rw [this]
      have := Nat.and_le_right (n := (BitVec.ofInt 64 v).toNat) (m := 127)
      omega
theorem scanK_few {rb : Nat → Dat} {ep : Int} : ∀ (f at_ : Nat) (seq : Int) (room : Nat), ∀ g ∈ scanK rb ep f at_ seq room, g.2.2.length ≤ 32
  | 0, _, _, _, g, hg => by simp [scanK] at hg
  | f + 1, at_, seq, room, g, hg => by
    rw [scanK] at hg
    cases hp : grpP rb at_ room with
    | none => rw [hp] at hg; simp at hg
    | some p =>
      obtain ⟨e, s, l⟩ := p
      rw [hp] at hg
      dsimp only at hg
      split at hg
      · rcases List.mem_cons.1 hg with rfl | hg
        · exact (grpP_room hp).2.2
        · exact scanK_few f _ _ _ g hg
      · simp at hg
/-- what a call of 'Groups' tells -/
def Told (J : Imm) (v : Value) (L : List G3) (at_ er : Int) : Prop := ∃ aO capO gl, v = .tuple #[.slice aO gl.length capO, .int .i64 at_, .int .i64 er] ∧ Rds J aO (gl.length * 3) (grpCells gl) ∧ GrpsOk J gl L
end Go.Proofs.Ytbpdbgcndfcilaa
namespace Go.Proofs.Ytbpdbgcndfcilaa
open Go.RowKit Go.Sl
set_option maxRecDepth 20000

set_option maxHeartbeats 8000000 in
theorem scanTells_walk {I : Imm} (t0 : Int) (h0 : In64 t0) (t1 : Int) (h1 : In64 t1) (aZ : Option Addr) (nZ capZ : Nat) (z : List Int) (hz : z.length = nZ) (hZ : Rds I aZ nZ (z.map (Value.int .i64))) (hz2 : ∀ x ∈ z, (Lit.int .i64 x).wf = true)
    (aT : Option Addr) (nT capT : Nat) (t : List Int) (ht : t.length = nT) (hT : Rds I aT nT (t.map (Value.int .i64))) (ht2 : ∀ x ∈ t, (Lit.int .i64 x).wf = true) (s : Sup) (_hs1 : In64 s.blocks) (_hs2 : In64 s.epoch) (_hs3 : In64 s.seq) (_hs4 : In64 s.tail) :
    Tri Try.prog 7 #[.int .i64 t0, .int .i64 t1, .slice aZ nZ capZ, .slice aT nT capT, s.v] I [] fun v _ _ => v = .bool true := by
  have hT : Rds I aT nT (ints t) := hT
  have hZ : Rds I aZ nZ (ints z) := hZ
  have hz3 : ∀ x ∈ z, In64 x := fun x hx => int_of_wf (hz2 x hx)
  have ht3 : ∀ x ∈ t, In64 x := fun x hx => int_of_wf (ht2 x hx)
  clear hz2 ht2
  obtain ⟨s1, s2, s3, s4⟩ := s
  refine Tri.of (args := [.int .i64 t0, .int .i64 t1, .slice aZ nZ capZ, .slice aT nT capT, (⟨s1, s2, s3, s4⟩ : Sup).v]) tabOk Try.func7 rfl (by kernel_rfl) (by kernel_rfl) ?_
  conv => whnf
  intro b9
  have hp0 := pickS_range (n := t0) (m := 5) (by decide)
  have hp1 := pickS_range (n := t1) (m := 16) (by decide)
  refine Tri.free (low_Pick t0 5 I h0 (by unfold In64; omega)) ?_
  rintro v _ _ hJ ⟨rfl, rfl⟩
  obtain ⟨ep, hep⟩ : ∃ ep : Nat, 1 + pickS t0 5 = ep := ⟨(1 + pickS t0 5).toNat, by omega⟩
  refine ToD.to (ep : Int) (by rw [wrap_i64 (by omega) (by omega)]; exact hep) ?_
  refine Tri.free (low_Pick t1 16 I h1 (by unfold In64; omega)) ?_
  rintro v _ _ hJ ⟨rfl, rfl⟩
  obtain ⟨tail, htl⟩ : ∃ tail : Nat, pickS t1 16 = tail := ⟨(pickS t1 16).toNat, by omega⟩
  rw [htl]
  refine Tri.frameX (written9 I ep tail (by omega) (by omega) aZ nZ capZ z hz hz3 hZ) [] rfl rfl ?_
  rintro v J1 A' hJ1 ⟨bD, chD, aS, capS, ms, rfl, hD, hms, hle, rfl⟩
  have w := wrtP_wi (ep := ep) (tail := tail) (by omega) (by omega) z
  have hcalm := w.calm
  have hlen := w.len
  have hfew := w.few
  have hused := w.used
  have hfew16 := hfew.mono (m := 16) hused
  clear hfew hused w hms
  generalize (wrtP (ep : Int) (tail : Int) z).2.1 = d at *
  repeat (first
    | refine LoadD.own 0 rfl _ rfl rfl ?_
    | refine LoadD.own 1 rfl _ rfl rfl ?_
    | refine LoadD.own 2 rfl _ rfl rfl ?_
    | refine LoadP.at 0 rfl _ rfl rfl ?_
    | refine LoadP.at 1 rfl _ rfl rfl ?_
    | refine LoadP.at 2 rfl _ rfl rfl ?_
    | refine StoreD.st 0 rfl rfl rfl ?_
    | refine StoreD.st 1 rfl rfl rfl ?_
    | refine StoreD.st 2 rfl rfl rfl ?_
    | refine CmpD.yes rfl ?_
    | refine CmpD.yes (by decide) ?_
    | refine CmpD.no (by decide) ?_
    | refine Chk.mk ⟨rfl, trivial⟩ ?_
    | refine Chk.mk ⟨rfl, rfl, trivial⟩ ?_
    | refine Chk.mk ⟨rfl, rfl, rfl, trivial⟩ ?_
    | refine Chk.mk ⟨rfl, rfl, rfl, rfl, trivial⟩ ?_
    | refine Chk.mk ⟨rfl, rfl, rfl, rfl, rfl, trivial⟩ ?_
    | refine Chk.mk ⟨rfl, rfl, rfl, rfl, rfl, rfl, trivial⟩ ?_)
  refine CodeF.loopD [3, 9, 11, 14] (fun vs J' S' => ∃ (i : Nat) (d : DSt) (chD : List Blk), i ≤ nT ∧ i ≤ 10 ∧ Dk J' bD d chD ∧ d.Calm ∧ d.now.length = 64 ∧ d.Few (16 + i) ∧ J1.le J' ∧
      vs = [.slice aT nT capT, .pointer (some ⟨b9, 0, none⟩), .pointer (some ⟨bD, 0, none⟩), .int .i64 i] ∧ S' = [sBoxS b9 ⟨s1, s2, s3, s4⟩, chD])
    (fun vs _ _ => match vs with | [_, _, _, .int _ i] => ((nT : Int) - i).toNat | _ => 0) ?_ ?_
  · exact ⟨_, Drop.pick [0, 1] _ rfl, 0, d, chD, by omega, by omega, hD, hcalm, hlen, hfew16, Imm.le_refl _, rfl, rfl⟩
  clear hD hcalm hlen hfew16
  rintro vs gE J' S' hJ' ⟨i, d, chD, hi, hi10, hD, hcalm, hlen, hfew, hle2, rfl, rfl⟩
  have hIJ := Imm.le_trans hJ1 hle2
  refine CmpD.split (fun c1 => ?_) (fun c1 => ?_)
  focus
    repeat (first
      | refine LoadD.own 0 rfl _ rfl rfl ?_
      | refine LoadD.own 1 rfl _ rfl rfl ?_
      | refine LoadD.own 2 rfl _ rfl rfl ?_
      | refine LoadP.at 0 rfl _ rfl rfl ?_
      | refine LoadP.at 1 rfl _ rfl rfl ?_
      | refine LoadP.at 2 rfl _ rfl rfl ?_
      | refine StoreD.st 0 rfl rfl rfl ?_
      | refine StoreD.st 1 rfl rfl rfl ?_
      | refine StoreD.st 2 rfl rfl rfl ?_
      | refine CmpD.yes rfl ?_
      | refine CmpD.yes (by decide) ?_
      | refine CmpD.no (by decide) ?_
      | refine Chk.mk ⟨rfl, trivial⟩ ?_
      | refine Chk.mk ⟨rfl, rfl, trivial⟩ ?_
      | refine Chk.mk ⟨rfl, rfl, rfl, trivial⟩ ?_
      | refine Chk.mk ⟨rfl, rfl, rfl, rfl, trivial⟩ ?_
      | refine Chk.mk ⟨rfl, rfl, rfl, rfl, rfl, trivial⟩ ?_
      | refine Chk.mk ⟨rfl, rfl, rfl, rfl, rfl, rfl, trivial⟩ ?_)
    refine CmpD.split (fun c2 => ?_) (fun c2 => ?_)
    · have hlt : i < t.length := by omega
      have hcell : (ints t)[i]? = some (.int .i64 t[i]) := ints_get (List.getElem?_eq_getElem hlt)
      have hb := ht3 _ (List.getElem_mem hlt)
      rcases hT.mem with q0 | ⟨bF, oF, cF, TF, fF, rfl, hIF, hcF⟩
      · omega
      generalize t[i] = x at *
      have hpx := pickS_range (n := x) (m := 65536) (by decide)
      obtain ⟨p, hp⟩ : ∃ p : Nat, pickS x 65536 = p := ⟨(pickS x 65536).toNat, by omega⟩
      obtain ⟨m7, hm7, hm7e⟩ := and_127 x
      repeat (first
        | refine LoadD.own 0 rfl _ rfl rfl ?_
        | refine LoadD.own 1 rfl _ rfl rfl ?_
        | refine LoadD.own 2 rfl _ rfl rfl ?_
        | refine LoadP.at 0 rfl _ rfl rfl ?_
        | refine LoadP.at 1 rfl _ rfl rfl ?_
        | refine LoadP.at 2 rfl _ rfl rfl ?_
        | refine StoreD.st 0 rfl rfl rfl ?_
        | refine StoreD.st 1 rfl rfl rfl ?_
        | refine StoreD.st 2 rfl rfl rfl ?_
        | refine CmpD.yes rfl ?_
        | refine CmpD.yes (by decide) ?_
        | refine CmpD.no (by decide) ?_
        | refine Chk.mk ⟨rfl, trivial⟩ ?_
        | refine Chk.mk ⟨rfl, rfl, trivial⟩ ?_
        | refine Chk.mk ⟨rfl, rfl, rfl, trivial⟩ ?_
        | refine Chk.mk ⟨rfl, rfl, rfl, rfl, trivial⟩ ?_
        | refine Chk.mk ⟨rfl, rfl, rfl, rfl, rfl, trivial⟩ ?_
        | refine Chk.mk ⟨rfl, rfl, rfl, rfl, rfl, rfl, trivial⟩ ?_)
      refine Chk.mk (by omega) ?_
      refine LoadD.imm (hIJ _ _ hIF) [.int .i64 x] (take_get hcF hcell) rfl ?_
      refine Tri.free (low_Pick x 65536 J' hb (by unfold In64; omega)) ?_
      rintro v _ _ hJ ⟨rfl, rfl⟩
      rw [hp] at hpx ⊢
      refine Chk.mk (by decide) ?_
      refine ToD.to ((p / 4096 : Nat) : Int) (by rw [Int.tdiv_eq_ediv_of_nonneg (by omega), wrap_i64 (by omega) (by omega)]; omega) ?_
      refine ToD.to ((2 + p / 4096 : Nat) : Int) (by rw [wrap_i64 (by omega) (by omega)]; omega) ?_
      have hrd := read_up hD.wf hcalm.1 (k := 2 + p / 4096) (by omega)
      have hb4 : (d.now.getD (2 + p / 4096) []).length = 4096 := by
        rw [List.getD_eq_getElem?_getD, List.getElem?_eq_getElem (by omega : 2 + p / 4096 < d.now.length)]
        exact hD.wf.now _ (List.getElem_mem _)
      have hdr := dk_Read hD ((2 + p / 4096 : Nat) : Int)
      rw [hrd] at hdr
      dsimp only at hdr
      rw [hb4] at hdr
      refine Tri.frame hdr [1] rfl rfl ?_
      rintro v J2 A' hJ2 ⟨aB, capB, chB, rfl, hB, rfl, rfl⟩
      refine ⟨by simp, ?_⟩
      generalize d.now.getD (2 + p / 4096) [] = bd at *
      rcases hB.at' with q0 | ⟨bB, pre, post, TB, rfl, rfl, hpost⟩
      · have := hB.le; omega
      repeat (first
        | refine LoadD.own 0 rfl _ rfl rfl ?_
        | refine LoadD.own 1 rfl _ rfl rfl ?_
        | refine LoadD.own 2 rfl _ rfl rfl ?_
        | refine LoadP.at 0 rfl _ rfl rfl ?_
        | refine LoadP.at 1 rfl _ rfl rfl ?_
        | refine LoadP.at 2 rfl _ rfl rfl ?_
        | refine StoreD.st 0 rfl rfl rfl ?_
        | refine StoreD.st 1 rfl rfl rfl ?_
        | refine StoreD.st 2 rfl rfl rfl ?_
        | refine CmpD.yes rfl ?_
        | refine CmpD.yes (by decide) ?_
        | refine CmpD.no (by decide) ?_
        | refine Chk.mk ⟨rfl, trivial⟩ ?_
        | refine Chk.mk ⟨rfl, rfl, trivial⟩ ?_
        | refine Chk.mk ⟨rfl, rfl, rfl, trivial⟩ ?_
        | refine Chk.mk ⟨rfl, rfl, rfl, rfl, trivial⟩ ?_
        | refine Chk.mk ⟨rfl, rfl, rfl, rfl, rfl, trivial⟩ ?_
        | refine Chk.mk ⟨rfl, rfl, rfl, rfl, rfl, rfl, trivial⟩ ?_)
      refine CodeF.sched [[], [], [1], [], [], [4], [3, 4, 5], [3, 4, 5, 6], [], [], [8, 9], [8, 9, 10], [8, 9, 10, 11], [8, 9, 10, 11, 12], [8, 9, 10, 11, 12, 13], [3, 4, 5, 6, 7, 8, 9, 10, 11, 12, 13, 14], [0, 1, 2, 3, 4, 5, 6, 7, 8, 9, 10, 11, 12, 13, 14, 15], [0, 1, 2, 3, 4, 5, 6, 7, 8, 9, 10, 11, 12, 13, 14, 15, 16]] [0, 1, 2, 3, 4, 5, 6, 7, 8, 9, 10, 11, 12, 13, 14, 15, 16, 17] (by kernel_rfl) ?_
      refine Chk.mk (by decide) ?_
      refine ToD.to ((p % 4096 : Nat) : Int) (tmod_nat p 4096) ?_
      refine Chk.mk (by decide) ?_
      refine ToD.to ((p % 4096 : Nat) : Int) (tmod_nat p 4096) ?_
      refine Chk.mk (by omega) ?_
      have hBc : Cells J' [[(bB, row (pre ++ bts bd ++ post) TB)]] bB pre.length 4096 (bts bd) :=
        ⟨_, TB, (0, 0), .one 0 rfl, by have := own_take pre (bts bd) post; rwa [bts_length, hb4] at this, by rw [bts_length, hb4]⟩
      refine LoadP.own 2 [byte (bd.getD (p % 4096) 0)] (hBc.at (bts_get (getD_get (by omega)))) ?_
      refine Chk.mk (by omega) ?_
      refine LoadP.imm [.int .i64 x] ⟨cF, TF, fF, .imm (hIJ _ _ hIF), take_get hcF hcell, rfl⟩ ?_
      refine ToD.to (m7 : Int) hm7e ?_
      refine ToD.to ((1 + m7 : Nat) : Int) (by rw [wrap_i64 (by omega) (by omega)]; omega) ?_
      refine ToD.to ((1 + m7 : Nat) : Int) (wrap_u rfl (by omega) (by show (((1 + m7 : Nat)) : Int) < 2 ^ 8; omega)) ?_
      have hby := (bd.getD (p % 4096) 0).toNat_lt
      have hx8 : (bd.getD (p % 4096) 0).toNat ^^^ (1 + m7) < 256 := Nat.xor_lt_two_pow (n := 8) (by omega) (by omega)
      refine ToD.to (((bd.getD (p % 4096) 0).toNat ^^^ (1 + m7) : Nat) : Int) (u8_xor_nat _ _ (by omega) (by omega)) ?_
      generalize (bd.getD (p % 4096) 0).toNat ^^^ (1 + m7) = y at *
      have hyb : Value.int .u8 (y : Int) = byte (UInt8.ofNat y) := by
        unfold byte
        rw [UInt8.toNat_ofNat', Nat.mod_eq_of_lt (by omega)]
      refine Chk.mk (by omega) ?_
      have hsp : splice (pre ++ bts bd ++ post) (pre.length + p % 4096) [Value.int .u8 (y : Int)] = pre ++ bts (bd.set (p % 4096) (UInt8.ofNat y)) ++ post := by
        rw [splice_mid _ _ _ _ _ (by rw [bts_length, hb4]; show p % 4096 + 1 ≤ _; omega), bts_set (by rw [hb4]; omega) rfl, hyb]
        rfl
      refine StoreD.to 2 rfl (pre ++ bts (bd.set (p % 4096) (UInt8.ofNat y)) ++ post) hsp (by simp only [List.length_append, bts_length, hb4]; show pre.length + p % 4096 + 1 ≤ _; omega) (.inr (.inr (Nat.le_refl _))) _ rfl ?_
      have hsl : (bd.set (p % 4096) (UInt8.ofNat y)).length = 4096 := by rw [List.length_set]; exact hb4
      generalize bd.set (p % 4096) (UInt8.ofNat y) = b2 at *
      have hB2 : OwnB [(bB, row (pre ++ bts b2 ++ post) TB)] (some ⟨bB, pre.length, none⟩) 4096 capB b2 := ⟨by rw [bts_length, hsl], hB.le, .inr ⟨bB, pre, post, TB, rfl, rfl, hpost⟩⟩
      refine Chk.mk (by decide) ?_
      refine ToD.to ((p / 4096 : Nat) : Int) (by rw [Int.tdiv_eq_ediv_of_nonneg (by omega), wrap_i64 (by omega) (by omega)]; omega) ?_
      refine ToD.to ((2 + p / 4096 : Nat) : Int) (by rw [wrap_i64 (by omega) (by omega)]; omega) ?_
      refine Tri.fix 2 rfl fun I3 hI3 hm => ?_
      refine Tri.frame1 1 rfl (dk_Write (hD.mono hI3) (hfew.mono (by omega)) (2 + p / 4096 : Nat) _ 4096 capB _ (Rds.of_own hB2 hm)) ?_
      rw [DSt.write_calm hcalm (n := ((2 + p / 4096 : Nat) : Int)) (by omega) hsl]
      rintro v J4 A' hJ4 ⟨rfl, chD4, hD4, rfl⟩
      refine ⟨_, rfl, ?_⟩
      repeat (first
        | refine LoadD.own 0 rfl _ rfl rfl ?_
        | refine LoadD.own 1 rfl _ rfl rfl ?_
        | refine LoadD.own 2 rfl _ rfl rfl ?_
        | refine LoadP.at 0 rfl _ rfl rfl ?_
        | refine LoadP.at 1 rfl _ rfl rfl ?_
        | refine LoadP.at 2 rfl _ rfl rfl ?_
        | refine StoreD.st 0 rfl rfl rfl ?_
        | refine StoreD.st 1 rfl rfl rfl ?_
        | refine StoreD.st 2 rfl rfl rfl ?_
        | refine CmpD.yes rfl ?_
        | refine CmpD.yes (by decide) ?_
        | refine CmpD.no (by decide) ?_
        | refine Chk.mk ⟨rfl, trivial⟩ ?_
        | refine Chk.mk ⟨rfl, rfl, trivial⟩ ?_
        | refine Chk.mk ⟨rfl, rfl, rfl, trivial⟩ ?_
        | refine Chk.mk ⟨rfl, rfl, rfl, rfl, trivial⟩ ?_
        | refine Chk.mk ⟨rfl, rfl, rfl, rfl, rfl, trivial⟩ ?_
        | refine Chk.mk ⟨rfl, rfl, rfl, rfl, rfl, rfl, trivial⟩ ?_)
      refine ToD.i64 (by omega) (by omega) ?_
      refine ⟨_, Drop.pick [0, 1] _ rfl, ⟨i + 1, _, chD4, by omega, by omega, hD4, hcalm, by rw [DSt.put_len]; exact hlen, ?_, Imm.le_trans hle2 (Imm.le_trans hI3 hJ4), rfl, rfl⟩, ?_⟩
      · obtain ⟨q1, q2, q3⟩ := hfew
        exact ⟨by show (d.writes ++ [_]).length ≤ _; simp; omega, by show 0 ≤ d.count + 1; omega, by show d.count + 1 ≤ _; omega⟩
      · show ((nT : Int) - ((i : Int) + 1)).toNat < ((nT : Int) - (i : Int)).toNat; omega
  all_goals
    repeat (first
      | refine LoadD.own 0 rfl _ rfl rfl ?_
      | refine LoadD.own 1 rfl _ rfl rfl ?_
      | refine LoadD.own 2 rfl _ rfl rfl ?_
      | refine LoadP.at 0 rfl _ rfl rfl ?_
      | refine LoadP.at 1 rfl _ rfl rfl ?_
      | refine LoadP.at 2 rfl _ rfl rfl ?_
      | refine StoreD.st 0 rfl rfl rfl ?_
      | refine StoreD.st 1 rfl rfl rfl ?_
      | refine StoreD.st 2 rfl rfl rfl ?_
      | refine CmpD.yes rfl ?_
      | refine CmpD.yes (by decide) ?_
      | refine CmpD.no (by decide) ?_
      | refine Chk.mk ⟨rfl, trivial⟩ ?_
      | refine Chk.mk ⟨rfl, rfl, trivial⟩ ?_
      | refine Chk.mk ⟨rfl, rfl, rfl, trivial⟩ ?_
      | refine Chk.mk ⟨rfl, rfl, rfl, rfl, trivial⟩ ?_
      | refine Chk.mk ⟨rfl, rfl, rfl, rfl, rfl, trivial⟩ ?_
      | refine Chk.mk ⟨rfl, rfl, rfl, rfl, rfl, rfl, trivial⟩ ?_)
    have hdI := dk_Image hD
    rw [hlen] at hdI
    refine Tri.frame hdI [1] rfl rfl ?_
    rintro v J2 A' hJ2 ⟨aIm, capIm, chIm, rfl, hIm, rfl, rfl⟩
    refine ⟨by simp, ?_⟩
    refine Tri.fix 2 rfl fun I3 hI3 hIm2 => ?_
    have hImR := Rds.of_own hIm hIm2
    have hnow : blocksOf d.now.flatten 64 = d.now := by
      have := blocks_flat (l := d.now) hD.wf.now
      rwa [hlen] at this
    have hld := r4_Load aIm 64 capIm d.now.flatten (by omega) hImR hIm.le
    rw [hnow] at hld
    refine Tri.free hld ?_
    rintro v J4 _ hJ4 ⟨vW, rfl, hW⟩
    obtain ⟨hS, wS, bS0, gs0, hvW, _⟩ := hW.ex
    have hD4 := hD.mono (Imm.le_trans hI3 hJ4)
    have hImR := hImR.mono hJ4
    rw [hvW] at hW ⊢
    conv => whnf
    intro b19
    repeat (first
      | refine LoadD.own 0 rfl _ rfl rfl ?_
      | refine LoadD.own 1 rfl _ rfl rfl ?_
      | refine LoadD.own 2 rfl _ rfl rfl ?_
      | refine LoadD.own 3 rfl _ rfl rfl ?_
      | refine LoadP.at 0 rfl _ rfl rfl ?_
      | refine LoadP.at 1 rfl _ rfl rfl ?_
      | refine LoadP.at 2 rfl _ rfl rfl ?_
      | refine LoadP.at 3 rfl _ rfl rfl ?_
      | refine StoreD.st 0 rfl rfl rfl ?_
      | refine StoreD.st 1 rfl rfl rfl ?_
      | refine StoreD.st 2 rfl rfl rfl ?_
      | refine StoreD.st 3 rfl rfl rfl ?_
      | refine CmpD.yes rfl ?_
      | refine CmpD.yes (by decide) ?_
      | refine CmpD.no (by decide) ?_
      | refine Chk.mk ⟨rfl, trivial⟩ ?_
      | refine Chk.mk ⟨rfl, rfl, trivial⟩ ?_
      | refine Chk.mk ⟨rfl, rfl, rfl, trivial⟩ ?_
      | refine Chk.mk ⟨rfl, rfl, rfl, rfl, trivial⟩ ?_
      | refine Chk.mk ⟨rfl, rfl, rfl, rfl, rfl, trivial⟩ ?_
      | refine Chk.mk ⟨rfl, rfl, rfl, rfl, rfl, rfl, trivial⟩ ?_)
    have hboth : ∃ (L : List G3) (pl er : Int), L.length ≤ 1000000 ∧ (∀ g ∈ L, g.2.2.length ≤ 32) ∧ (∀ J v, ((¬ ScanOk 64 (layOf 64) ⟨s1, s2, s3, s4⟩ ∧ v = .tuple #[.slice none 0 0, .int .i64 0, .int .i64 2]) ∨
       (ScanOk 64 (layOf 64) ⟨s1, s2, s3, s4⟩ ∧ false = true ∧ v = .tuple #[.slice none 0 0, .int .i64 0, .int .i64 6]) ∨
       (ScanOk 64 (layOf 64) ⟨s1, s2, s3, s4⟩ ∧ false = false ∧ ∃ aO capO gl, v = .tuple #[.slice aO gl.length capO, .int .i64 (placeP (layL ((64 : Nat) : Int)).toNat s4.toNat (scanL d ⟨s1, s2, s3, s4⟩) : Nat), .int .i64 0] ∧ Rds J aO (gl.length * 3) (grpCells gl) ∧ GrpsOk J gl (scanL d ⟨s1, s2, s3, s4⟩))) → Told J v L pl er) := by
      by_cases hok : ScanOk 64 (layOf 64) ⟨s1, s2, s3, s4⟩
      · refine ⟨scanL d ⟨s1, s2, s3, s4⟩, (placeP (layL ((64 : Nat) : Int)).toNat s4.toNat (scanL d ⟨s1, s2, s3, s4⟩) : Nat), 0, ?_, by unfold scanL; exact scanK_few _ _ _ _, ?_⟩
        · have q1 := scan_bound (rb := rbP d 2 (layL (d.now.length : Int)).toNat) (ep := s2) ((layL (d.now.length : Int)).toNat + 1) s4.toNat s3 (layL (d.now.length : Int)).toNat
          have q2 : (layL (d.now.length : Int)).toNat = 16 := by rw [hlen]; rfl
          unfold scanL
          rw [q2] at q1 ⊢
          have := q1.1
          dsimp only
          omega
        · rintro J v (⟨h, _⟩ | ⟨_, h, _⟩ | ⟨_, _, aO, capO, gl, rfl, q1, q2⟩)
          · exact absurd hok h
          · cases h
          · exact ⟨aO, capO, gl, rfl, q1, q2⟩
      · refine ⟨[], 0, 2, by simp, by simp, ?_⟩
        rintro J v (⟨_, rfl⟩ | ⟨h, _⟩ | ⟨h, _⟩)
        · exact ⟨none, 0, [], rfl, ⟨rfl, .inl rfl⟩, ⟨by simp, rfl⟩⟩
        · exact absurd h hok
        · exact absurd h hok
    obtain ⟨L, pl, er, hLn, hLf, hboth⟩ := hboth
    refine CodeF.sched [[], [], [], [0, 1, 2], [0, 1, 2, 3], [0, 1, 2, 3, 4], [0, 1, 2, 3, 4], [0, 1, 2, 3, 4], [0, 1, 2, 3, 4, 5], [0, 1, 2, 3, 4, 5, 6, 8], [0, 1, 2, 3, 4, 5, 6, 7, 8, 9]] [0, 2, 1, 3, 4, 5, 6, 7, 8, 9, 10] (by kernel_rfl) ?_
    repeat (first
      | refine LoadD.own 0 rfl _ rfl rfl ?_
      | refine LoadD.own 1 rfl _ rfl rfl ?_
      | refine LoadD.own 2 rfl _ rfl rfl ?_
      | refine LoadD.own 3 rfl _ rfl rfl ?_
      | refine LoadP.at 0 rfl _ rfl rfl ?_
      | refine LoadP.at 1 rfl _ rfl rfl ?_
      | refine LoadP.at 2 rfl _ rfl rfl ?_
      | refine LoadP.at 3 rfl _ rfl rfl ?_
      | refine StoreD.st 0 rfl rfl rfl ?_
      | refine StoreD.st 1 rfl rfl rfl ?_
      | refine StoreD.st 2 rfl rfl rfl ?_
      | refine StoreD.st 3 rfl rfl rfl ?_
      | refine CmpD.yes rfl ?_
      | refine CmpD.yes (by decide) ?_
      | refine CmpD.no (by decide) ?_
      | refine Chk.mk ⟨rfl, trivial⟩ ?_
      | refine Chk.mk ⟨rfl, rfl, trivial⟩ ?_
      | refine Chk.mk ⟨rfl, rfl, rfl, trivial⟩ ?_
      | refine Chk.mk ⟨rfl, rfl, rfl, rfl, trivial⟩ ?_
      | refine Chk.mk ⟨rfl, rfl, rfl, rfl, rfl, trivial⟩ ?_
      | refine Chk.mk ⟨rfl, rfl, rfl, rfl, rfl, rfl, trivial⟩ ?_)
    refine Tri.free (layout9 J4) ?_
    rintro v _ _ _ ⟨rfl, rfl⟩
    repeat (first
      | refine LoadD.own 0 rfl _ rfl rfl ?_
      | refine LoadD.own 1 rfl _ rfl rfl ?_
      | refine LoadD.own 2 rfl _ rfl rfl ?_
      | refine LoadD.own 3 rfl _ rfl rfl ?_
      | refine LoadP.at 0 rfl _ rfl rfl ?_
      | refine LoadP.at 1 rfl _ rfl rfl ?_
      | refine LoadP.at 2 rfl _ rfl rfl ?_
      | refine LoadP.at 3 rfl _ rfl rfl ?_
      | refine StoreD.st 0 rfl rfl rfl ?_
      | refine StoreD.st 1 rfl rfl rfl ?_
      | refine StoreD.st 2 rfl rfl rfl ?_
      | refine StoreD.st 3 rfl rfl rfl ?_
      | refine CmpD.yes rfl ?_
      | refine CmpD.yes (by decide) ?_
      | refine CmpD.no (by decide) ?_
      | refine Chk.mk ⟨rfl, trivial⟩ ?_
      | refine Chk.mk ⟨rfl, rfl, trivial⟩ ?_
      | refine Chk.mk ⟨rfl, rfl, rfl, trivial⟩ ?_
      | refine Chk.mk ⟨rfl, rfl, rfl, rfl, trivial⟩ ?_
      | refine Chk.mk ⟨rfl, rfl, rfl, rfl, rfl, trivial⟩ ?_
      | refine Chk.mk ⟨rfl, rfl, rfl, rfl, rfl, rfl, trivial⟩ ?_)
    have hsg := scan_Groups hD4 (layOf 64) ⟨s1, s2, s3, s4⟩
    rw [hlen, hcalm.1] at hsg
    refine Tri.frame1 1 rfl hsg ?_
    rintro v J5 A' hJ5 ⟨rfl, hv⟩
    obtain ⟨aX, capX, gX, rfl, hX, hXg⟩ := hboth J5 v hv
    clear hv hsg
    refine ⟨_, rfl, ?_⟩
    repeat (first
      | refine LoadD.own 0 rfl _ rfl rfl ?_
      | refine LoadD.own 1 rfl _ rfl rfl ?_
      | refine LoadD.own 2 rfl _ rfl rfl ?_
      | refine LoadD.own 3 rfl _ rfl rfl ?_
      | refine LoadP.at 0 rfl _ rfl rfl ?_
      | refine LoadP.at 1 rfl _ rfl rfl ?_
      | refine LoadP.at 2 rfl _ rfl rfl ?_
      | refine LoadP.at 3 rfl _ rfl rfl ?_
      | refine StoreD.st 0 rfl rfl rfl ?_
      | refine StoreD.st 1 rfl rfl rfl ?_
      | refine StoreD.st 2 rfl rfl rfl ?_
      | refine StoreD.st 3 rfl rfl rfl ?_
      | refine CmpD.yes rfl ?_
      | refine CmpD.yes (by decide) ?_
      | refine CmpD.no (by decide) ?_
      | refine Chk.mk ⟨rfl, trivial⟩ ?_
      | refine Chk.mk ⟨rfl, rfl, trivial⟩ ?_
      | refine Chk.mk ⟨rfl, rfl, rfl, trivial⟩ ?_
      | refine Chk.mk ⟨rfl, rfl, rfl, rfl, trivial⟩ ?_
      | refine Chk.mk ⟨rfl, rfl, rfl, rfl, rfl, trivial⟩ ?_
      | refine Chk.mk ⟨rfl, rfl, rfl, rfl, rfl, rfl, trivial⟩ ?_)
    refine CodeF.sched [[], [], [], [0, 1, 2], [0, 1, 2, 3], [0, 1, 2, 3, 4], [0, 1, 2, 3, 4], [0, 1, 2, 3, 4], [0, 1, 2, 3, 4, 5], [0, 1, 2, 3, 4, 5, 6, 8], [0, 1, 2, 3, 4, 5, 6, 7, 8, 9]] [0, 2, 1, 3, 4, 5, 6, 7, 8, 9, 10] (by kernel_rfl) ?_
    repeat (first
      | refine LoadD.own 0 rfl _ rfl rfl ?_
      | refine LoadD.own 1 rfl _ rfl rfl ?_
      | refine LoadD.own 2 rfl _ rfl rfl ?_
      | refine LoadD.own 3 rfl _ rfl rfl ?_
      | refine LoadP.at 0 rfl _ rfl rfl ?_
      | refine LoadP.at 1 rfl _ rfl rfl ?_
      | refine LoadP.at 2 rfl _ rfl rfl ?_
      | refine LoadP.at 3 rfl _ rfl rfl ?_
      | refine StoreD.st 0 rfl rfl rfl ?_
      | refine StoreD.st 1 rfl rfl rfl ?_
      | refine StoreD.st 2 rfl rfl rfl ?_
      | refine StoreD.st 3 rfl rfl rfl ?_
      | refine CmpD.yes rfl ?_
      | refine CmpD.yes (by decide) ?_
      | refine CmpD.no (by decide) ?_
      | refine Chk.mk ⟨rfl, trivial⟩ ?_
      | refine Chk.mk ⟨rfl, rfl, trivial⟩ ?_
      | refine Chk.mk ⟨rfl, rfl, rfl, trivial⟩ ?_
      | refine Chk.mk ⟨rfl, rfl, rfl, rfl, trivial⟩ ?_
      | refine Chk.mk ⟨rfl, rfl, rfl, rfl, rfl, trivial⟩ ?_
      | refine Chk.mk ⟨rfl, rfl, rfl, rfl, rfl, rfl, trivial⟩ ?_)
    refine Tri.free (layout9 J5) ?_
    rintro v _ _ _ ⟨rfl, rfl⟩
    repeat (first
      | refine LoadD.own 0 rfl _ rfl rfl ?_
      | refine LoadD.own 1 rfl _ rfl rfl ?_
      | refine LoadD.own 2 rfl _ rfl rfl ?_
      | refine LoadD.own 3 rfl _ rfl rfl ?_
      | refine LoadP.at 0 rfl _ rfl rfl ?_
      | refine LoadP.at 1 rfl _ rfl rfl ?_
      | refine LoadP.at 2 rfl _ rfl rfl ?_
      | refine LoadP.at 3 rfl _ rfl rfl ?_
      | refine StoreD.st 0 rfl rfl rfl ?_
      | refine StoreD.st 1 rfl rfl rfl ?_
      | refine StoreD.st 2 rfl rfl rfl ?_
      | refine StoreD.st 3 rfl rfl rfl ?_
      | refine CmpD.yes rfl ?_
      | refine CmpD.yes (by decide) ?_
      | refine CmpD.no (by decide) ?_
      | refine Chk.mk ⟨rfl, trivial⟩ ?_
      | refine Chk.mk ⟨rfl, rfl, trivial⟩ ?_
      | refine Chk.mk ⟨rfl, rfl, rfl, trivial⟩ ?_
      | refine Chk.mk ⟨rfl, rfl, rfl, rfl, trivial⟩ ?_
      | refine Chk.mk ⟨rfl, rfl, rfl, rfl, rfl, trivial⟩ ?_
      | refine Chk.mk ⟨rfl, rfl, rfl, rfl, rfl, rfl, trivial⟩ ?_)
    have hrg := r9_Groups (hW.mono hJ5) (by show ([] : List PImg).length ≤ _; simp) (layOf 64) ⟨s1, s2, s3, s4⟩
    rw [show (DSt.of d.now).now.length = 64 from hlen, show (DSt.of d.now).down = false from rfl, scanL_now (show (DSt.of d.now).now = d.now from rfl)] at hrg
    refine Tri.free hrg ?_
    rintro v J6 _ hJ6 hv
    obtain ⟨aY, capY, gY, rfl, hY, hYg⟩ := hboth J6 v hv
    clear hv hrg
    repeat (first
      | refine LoadD.own 0 rfl _ rfl rfl ?_
      | refine LoadD.own 1 rfl _ rfl rfl ?_
      | refine LoadD.own 2 rfl _ rfl rfl ?_
      | refine LoadD.own 3 rfl _ rfl rfl ?_
      | refine LoadP.at 0 rfl _ rfl rfl ?_
      | refine LoadP.at 1 rfl _ rfl rfl ?_
      | refine LoadP.at 2 rfl _ rfl rfl ?_
      | refine LoadP.at 3 rfl _ rfl rfl ?_
      | refine StoreD.st 0 rfl rfl rfl ?_
      | refine StoreD.st 1 rfl rfl rfl ?_
      | refine StoreD.st 2 rfl rfl rfl ?_
      | refine StoreD.st 3 rfl rfl rfl ?_
      | refine CmpD.yes rfl ?_
      | refine CmpD.yes (by decide) ?_
      | refine CmpD.no (by decide) ?_
      | refine Chk.mk ⟨rfl, trivial⟩ ?_
      | refine Chk.mk ⟨rfl, rfl, trivial⟩ ?_
      | refine Chk.mk ⟨rfl, rfl, rfl, trivial⟩ ?_
      | refine Chk.mk ⟨rfl, rfl, rfl, rfl, trivial⟩ ?_
      | refine Chk.mk ⟨rfl, rfl, rfl, rfl, rfl, trivial⟩ ?_
      | refine Chk.mk ⟨rfl, rfl, rfl, rfl, rfl, rfl, trivial⟩ ?_)
    have hXl := hXg.len
    have hYl := hYg.len
    refine CmpD.yes (by omega) ?_
    refine CodeF.loopD [9, 11, 18, 21, 24, 27] (fun vs J3 S' => ∃ k : Nat, k ≤ gX.length ∧ vs = [.pointer (some ⟨b9, 0, none⟩), .pointer (some ⟨bD, 0, none⟩), .slice aIm (64 * 4096 : Nat) capIm, .slice aX gX.length capX, .slice aY gY.length capY, .int .i64 k] ∧ J6 = J3 ∧ S' = [sBoxS b9 ⟨s1, s2, s3, s4⟩, chD])
      (fun vs _ _ => match vs with | [_, _, _, _, _, .int _ k] => ((gX.length : Int) - k).toNat | _ => 0) ?_ ?_
    · exact ⟨_, Drop.pick [0, 1] _ rfl, 0, by omega, rfl, rfl, rfl⟩
    rintro vs gE2 J7 S7 hJ7 ⟨k, hk, rfl, rfl, rfl⟩
    refine CmpD.split (fun c3 => ?_) (fun c3 => ?_)
    · have k1 : k < gX.length := by omega
      have k2 : k < gY.length := by omega
      have hXk := hXg.each _ (List.getElem_mem k1)
      have hYk := hYg.each _ (List.getElem_mem k2)
      obtain ⟨q1, e1, e2, e3⟩ := hXg.at' k k1
      obtain ⟨_, f1, f2, f3⟩ := hYg.at' k k2
      have h3 : gX[k].g3 = gY[k].g3 := by
        unfold Grp.g3
        rw [e1, e2, e3, f1, f2, f3]
      have hln : gX[k].gs.length ≤ 1000000000 := by
        have := hLf _ (List.getElem_mem q1)
        have := congrArg List.length e3
        rw [List.length_map] at this
        omega
      have hcX := grpCells_at k1
      have hcY := grpCells_at k2
      rcases hX.mem with q0 | ⟨bX, oX, cX, TX, fX, rfl, hIX, hcX2⟩
      · omega
      rcases hY.mem with q0 | ⟨bY, oY, cY, TY, fY, rfl, hIY, hcY2⟩
      · omega
      generalize gX[k] = g1 at *
      generalize gY[k] = g2 at *
      have u1 := take_part hcX2 (i := k * 3) (m := 3) (by omega)
      rw [hcX] at u1
      have u2 := take_part hcY2 (i := k * 3) (m := 3) (by omega)
      rw [hcY] at u2
      refine CodeF.sched [[], [], [0, 1], [0, 1, 2], [], [], [4, 5], [4, 5, 6], [0, 1, 2, 3, 4, 5, 6, 7], [0, 1, 2, 3, 4, 5, 6, 7, 8]] [0, 1, 2, 3, 4, 5, 6, 7, 8, 9] (by kernel_rfl) ?_
      refine Chk.mk (by omega) ?_
      refine LoadP.imm [.int .i64 g1.e, .int .i64 g1.s, .slice g1.a g1.gs.length g1.cap] ⟨cX, TX, fX, .imm (hJ6 _ _ hIX), u1, rfl⟩ ?_
      refine Chk.mk (by omega) ?_
      refine LoadP.imm [.int .i64 g2.e, .int .i64 g2.s, .slice g2.a g2.gs.length g2.cap] ⟨cY, TY, fY, .imm hIY, u2, rfl⟩ ?_
      refine Tri.free (same_group g1 g2 (hXk.mono hJ6) hYk hln h3) ?_
      rintro v _ _ _ ⟨rfl, rfl⟩
      repeat (first
        | refine LoadD.own 0 rfl _ rfl rfl ?_
        | refine LoadD.own 1 rfl _ rfl rfl ?_
        | refine LoadP.at 0 rfl _ rfl rfl ?_
        | refine LoadP.at 1 rfl _ rfl rfl ?_
        | refine StoreD.st 0 rfl rfl rfl ?_
        | refine StoreD.st 1 rfl rfl rfl ?_
        | refine CmpD.yes rfl ?_
        | refine CmpD.yes (by decide) ?_
        | refine CmpD.no (by decide) ?_
        | refine Chk.mk ⟨rfl, trivial⟩ ?_
        | refine Chk.mk ⟨rfl, rfl, trivial⟩ ?_
        | refine Chk.mk ⟨rfl, rfl, rfl, trivial⟩ ?_
        | refine Chk.mk ⟨rfl, rfl, rfl, rfl, trivial⟩ ?_
        | refine Chk.mk ⟨rfl, rfl, rfl, rfl, rfl, trivial⟩ ?_
        | refine Chk.mk ⟨rfl, rfl, rfl, rfl, rfl, rfl, trivial⟩ ?_)
      refine ToD.i64 (by omega) (by omega) ?_
      refine ⟨_, Drop.pick [0, 1] _ rfl, ⟨k + 1, by omega, rfl, rfl, rfl⟩, ?_⟩
      show ((gX.length : Int) - ((k : Int) + 1)).toNat < ((gX.length : Int) - (k : Int)).toNat; omega
    · have hdI2 := dk_Image (hD4.mono (Imm.le_trans hJ5 hJ6))
      rw [hlen] at hdI2
      refine Tri.frame hdI2 [1] rfl rfl ?_
      rintro v J8 A' hJ8 ⟨aK, capK, chK, rfl, hK, rfl, rfl⟩
      refine ⟨by simp, ?_⟩
      refine Tri.nf (same_bytes (hK.slC1 2 rfl) ((hImR.mono (Imm.le_trans hJ5 hJ6)).slC)) ?_
      rintro v J9 S' hJ9 ⟨rfl, rfl, rfl⟩
      rw [decide_eq_true rfl]
      repeat (first
        | refine LoadD.own 0 rfl _ rfl rfl ?_
        | refine LoadD.own 1 rfl _ rfl rfl ?_
        | refine LoadD.own 2 rfl _ rfl rfl ?_
        | refine LoadP.at 0 rfl _ rfl rfl ?_
        | refine LoadP.at 1 rfl _ rfl rfl ?_
        | refine LoadP.at 2 rfl _ rfl rfl ?_
        | refine StoreD.st 0 rfl rfl rfl ?_
        | refine StoreD.st 1 rfl rfl rfl ?_
        | refine StoreD.st 2 rfl rfl rfl ?_
        | refine CmpD.yes rfl ?_
        | refine CmpD.yes (by decide) ?_
        | refine CmpD.no (by decide) ?_
        | refine Chk.mk ⟨rfl, trivial⟩ ?_
        | refine Chk.mk ⟨rfl, rfl, trivial⟩ ?_
        | refine Chk.mk ⟨rfl, rfl, rfl, trivial⟩ ?_
        | refine Chk.mk ⟨rfl, rfl, rfl, rfl, trivial⟩ ?_
        | refine Chk.mk ⟨rfl, rfl, rfl, rfl, rfl, trivial⟩ ?_
        | refine Chk.mk ⟨rfl, rfl, rfl, rfl, rfl, rfl, trivial⟩ ?_)
      refine Tri.mono (awake09 _ _) ?_
      rintro v J10 S10 hJ10 rfl
      repeat (first
        | refine LoadD.own 0 rfl _ rfl rfl ?_
        | refine LoadP.at 0 rfl _ rfl rfl ?_
        | refine StoreD.st 0 rfl rfl rfl ?_
        | refine CmpD.yes rfl ?_
        | refine CmpD.yes (by decide) ?_
        | refine CmpD.no (by decide) ?_
        | refine Chk.mk ⟨rfl, trivial⟩ ?_
        | refine Chk.mk ⟨rfl, rfl, trivial⟩ ?_
        | refine Chk.mk ⟨rfl, rfl, rfl, trivial⟩ ?_
        | refine Chk.mk ⟨rfl, rfl, rfl, rfl, trivial⟩ ?_
        | refine Chk.mk ⟨rfl, rfl, rfl, rfl, rfl, trivial⟩ ?_
        | refine Chk.mk ⟨rfl, rfl, rfl, rfl, rfl, rfl, trivial⟩ ?_)
      exact Done.mk rfl
end Go.Proofs.Ytbpdbgcndfcilaa

/- Texts of this claim laid together: Wi, ScanP, Written, Rf10c, Rf4c, Rf4d, Rf4e, Rf4f, Rf4g, Rf4h, Do, Rf10d, Ref03b, Ref03c, Rf10a, Image, JournalNumbers, ReplayNumbers, ReplayTells, Same9, ScanAny, Open, Open9. -/
import Derived.Test.YtbpdbgcndfcilaaBScanAny3
import Derived.Test.YtbpdbgcndfcilaaBScanAny2
import Derived.Test.YtbpdbgcndfcilaaBScanAny1
import Derived.Test.YtbpdbgcndfcilaaRows
namespace Go.Proofs.Ytbpdbgcndfcilaa
open Go.RowKit Go.Sl
set_option maxRecDepth 20000

/-! ### where writes go -/
theorem put_get {d : DSt} {p : Nat} {n : Nat} {b : Dat} (h : n ≠ p) : (d.put (n : Int) b).now[p]? = d.now[p]? := by
  show (d.now.set _ _)[p]? = _
  rw [Int.toNat_natCast, List.getElem?_set_ne h]
theorem put_hit {d : DSt} {p : Nat} {b : Dat} (h : p < d.now.length) : (d.put (p : Int) b).now[p]? = some b := by
  show (d.now.set _ _)[p]? = _
  rw [Int.toNat_natCast, List.getElem?_set_self h]
theorem wrD_miss (f : Nat → Nat) (p : Nat) : ∀ (bs : List Dat) (i : Nat) (d : DSt), (∀ k, k < bs.length → f (i + k) ≠ p) → (wrD (fun k => (f k : Int)) bs i d).now[p]? = d.now[p]?
  | [], _, _, _ => rfl
  | b :: bs, i, d, h => by
    rw [wrD, wrD_miss f p bs (i + 1) _ (fun k hk => by have := h (k + 1) (by simp; omega); rwa [show i + (k + 1) = i + 1 + k by omega] at this)]
    exact put_get (h 0 (by simp))
theorem wrD_hit (f : Nat → Nat) (p : Nat) : ∀ (bs : List Dat) (i : Nat) (d : DSt) (k : Nat), (hk : k < bs.length) → f (i + k) = p → (∀ k', k < k' → k' < bs.length → f (i + k') ≠ p) → p < d.now.length → (wrD (fun k => (f k : Int)) bs i d).now[p]? = some bs[k]
  | [], _, _, k, hk, _, _, _ => by simp at hk
  | b :: bs, i, d, 0, _, hf, hno, hp => by
    rw [wrD, wrD_miss f p bs (i + 1) _ (fun k' hk' => by have := hno (k' + 1) (by omega) (by simp; omega); rwa [show i + (k' + 1) = i + 1 + k' by omega] at this)]
    have hf : f i = p := hf
    show (d.put (f i : Int) b).now[p]? = _
    rw [hf, put_hit hp]; rfl
  | b :: bs, i, d, k + 1, hk, hf, hno, hp => by
    rw [wrD]
    have := wrD_hit f p bs (i + 1) (d.put (f i : Int) b) k (by simpa using hk) (by rw [show i + 1 + k = i + (k + 1) by omega]; exact hf) (fun k' h1 h2 => by have := hno (k' + 1) (by omega) (by simp; omega); rwa [show i + (k' + 1) = i + 1 + k' by omega] at this) (by rw [DSt.put_len]; exact hp)
    simpa using this
/-! ### the ring's blocks -/
def usedP (l : List (List PImg)) : Nat := (l.map fun g => g.length + 1).sum
def ringB (ep : Nat) : Nat → List (List PImg) → List Dat
  | _, [] => []
  | sq, g :: l => putP ep sq g ++ ringB ep (sq + 1) l
theorem ringB_length (ep : Nat) : ∀ (l : List (List PImg)) (sq : Nat), (ringB ep sq l).length = usedP l
  | [], _ => rfl
  | g :: l, sq => by rw [ringB, List.length_append, putP_length, ringB_length ep l]; simp [usedP]
theorem ringB_snoc (ep : Nat) : ∀ (l : List (List PImg)) (sq : Nat) (g : List PImg), ringB ep sq (l ++ [g]) = ringB ep sq l ++ putP ep (sq + l.length) g
  | [], sq, g => by simp [ringB]
  | x :: l, sq, g => by
    rw [List.cons_append, ringB, ringB_snoc ep l, ringB, List.append_assoc, List.length_cons, show sq + 1 + l.length = sq + (l.length + 1) by omega]
theorem usedP_snoc (l : List (List PImg)) (g : List PImg) : usedP (l ++ [g]) = usedP l + (g.length + 1) := by simp [usedP]
structure WI (ep tail : Nat) (z : Nat → Dat) (j : JSt) (d : DSt) (all : List (List PImg)) : Prop where
  s : j.s = 16
  t : j.t = tail
  u : j.u = (usedP all : Nat)
  h : j.h = 0
  epoch : j.epoch = ep
  next : j.next = (all.length + 1 : Nat)
  groups : j.groups.length = all.length
  broken : j.broken = false
  log : j.lay.l = 2
  wf : j.Wf
  calm : d.Calm
  dwf : d.Wf
  len : d.now.length = 64
  few : d.Few (usedP all)
  used : usedP all ≤ 16
  right : ∀ (i : Nat) (h : i < all.length), RightP ep ((i + 1 : Nat) : Int) all[i]
  ring : ∀ o, o < 16 → rbP d 2 16 (tail + o) = (ringB ep 1 all).getD o (z o)
theorem usedP_ge (l : List (List PImg)) : l.length ≤ usedP l := by
  unfold usedP
  induction l with
  | nil => simp
  | cons g l ih => simp; omega
theorem DSt.Wf.put {d : DSt} (h : d.Wf) (hc : d.Calm) {n : Int} {b : Dat} (hn : 0 ≤ n ∧ n < d.now.length) (hb : b.length = 4096) : (d.put n b).Wf := by
  have := h.write n b
  rwa [DSt.write_calm hc hn hb] at this
theorem wrD_wf (f : Nat → Int) : ∀ (bs : List Dat) (i : Nat) (d : DSt), d.Wf → d.Calm → (∀ b ∈ bs, b.length = 4096) → (∀ k, 0 ≤ f k ∧ f k < d.now.length) → (wrD f bs i d).Wf
  | [], _, _, h, _, _, _ => h
  | b :: bs, i, d, h, hc, hb, hf => wrD_wf f bs (i + 1) _ (h.put hc (hf i) (hb b (by simp))) (hc.put _ _) (fun x hx => hb x (by simp [hx])) (by rw [DSt.put_len]; exact hf)
/-- a group is appended, or there is no room -/
theorem WI.append {ep tail : Nat} {z : Nat → Dat} {j : JSt} {d : DSt} {all : List (List PImg)} (w : WI ep tail z j d all) {l : List PImg} (hR : RightP ep ((all.length + 1 : Nat) : Int) l) :
    (usedP all + (l.length + 1) ≤ 16 ∧ WI ep tail z (j.appendB d l false).1 (j.appendB d l false).2.1 (all ++ [l]) ∧ (j.appendB d l false).2.2.2 = 0) ∨
    (16 < usedP all + (l.length + 1) ∧ (j.appendB d l false).1 = j ∧ (j.appendB d l false).2.1 = d ∧ (j.appendB d l false).2.2.2 ≠ 0) := by
  have hge := usedP_ge all
  have hu := w.used
  have hll := hR.2.2.2.2.2.1
  have hR' : RightP j.epoch j.next l := by rw [w.epoch, w.next]; exact hR
  have hok := w.wf.ring
  have hokd : Ok 16 tail (usedP all : Nat) 0 := by have := hok; rw [w.s, w.t, w.u, w.h] at this; exact this
  have htl : (tail : Int) < 16 := hokd.2.2.2.1
  rcases Nat.lt_or_ge 16 (usedP all + (l.length + 1)) with hf | hf
  · right
    refine ⟨hf, ?_⟩
    unfold JSt.appendB JSt.append
    rw [if_neg (by rw [w.broken]; simp), if_neg (by simpa using hR')]
    by_cases hs : j.s < (l.length : Int) + 1
    · rw [if_pos hs]; exact ⟨rfl, rfl, by simp⟩
    rw [if_neg hs]
    have hp : putS j.s j.t j.u j.h ((l.length : Int) + 1) (if false = true then (l.length : Int) + 1 else 0) = ((0, 0, 0, 0, 5), 0) := by
      rw [w.s, w.t, w.u, w.h]
      unfold putS
      rw [if_neg (by simp only [Bool.false_eq_true, if_false]; rintro (h | h | h | h | h); exact h hokd; omega; omega; omega; omega), if_pos (by simp only [Bool.false_eq_true, if_false]; omega)]
    rw [hp]
    exact ⟨rfl, rfl, by simp⟩
  · left
    refine ⟨hf, ?_⟩
    have hp : putS j.s j.t j.u j.h ((l.length : Int) + 1) (if false = true then (l.length : Int) + 1 else 0) = ((j.s, (tail : Int), ((usedP all : Nat) : Int) + ((l.length : Int) + 1), 0, 0), ((tail : Int) + (usedP all : Nat)) % 16) := by
      rw [w.s, w.t, w.u, w.h]
      unfold putS
      rw [if_neg (by simp only [Bool.false_eq_true, if_false]; rintro (h | h | h | h | h); exact h hokd; omega; omega; omega; omega), if_neg (by simp only [Bool.false_eq_true, if_false]; omega)]
      simp only [Bool.false_eq_true, if_false, Int.sub_zero]
    have hlen16 : j.s + 2 ≤ d.now.length := by rw [w.s, w.len]; decide
    have hs1 : (l.length : Int) + 1 ≤ j.s := by rw [w.s]; omega
    obtain ⟨j', a, f1, f2, f3, f4, f5, f6, f7, f8, f9, f10, w'⟩ := JSt.append_next w.wf (by rw [w.groups]; omega) w.broken hR' hs1 w.calm hlen16 hp
    rw [a]
    have hB := putP_len (e := j.epoch.toNat) (s := j.next.toNat) hll hR.lens
    have hfl : ∀ k : Nat, (0 : Int) ≤ 2 + (((tail : Int) + (usedP all : Nat)) % 16 + k) % j.s ∧ 2 + (((tail : Int) + (usedP all : Nat)) % 16 + k) % j.s < d.now.length := by
      intro k
      rw [w.s, w.len]
      have := Int.emod_nonneg (((tail : Int) + (usedP all : Nat)) % 16 + k) (b := 16) (by decide)
      have := Int.emod_lt_of_pos (((tail : Int) + (usedP all : Nat)) % 16 + k) (b := 16) (by decide)
      omega
    have hff : (fun k : Nat => (2 : Int) + (((tail : Int) + (usedP all : Nat)) % 16 + k) % j.s) = fun k : Nat => ((2 + (tail + usedP all + k) % 16 : Nat) : Int) := by
      funext k
      rw [w.s]; omega
    refine ⟨⟨by rw [f2, w.s], f3, by rw [f4, usedP_snoc]; omega, f5, by rw [f6, w.epoch], by rw [f7, w.next, List.length_append]; rfl, by rw [f9]; simp [w.groups], f10, by rw [f1, w.log], w', wrD_calm _ _ _ _ w.calm, wrD_wf _ _ _ _ w.dwf w.calm hB hfl, by rw [wrD_len, w.len], ?_, by rw [usedP_snoc]; exact hf, ?_, ?_⟩, rfl⟩
    · have := wrD_few (fun i : Nat => (2 : Int) + (((tail : Int) + (usedP all : Nat)) % 16 + i) % j.s) (putP j.epoch.toNat j.next.toNat l) 0 d _ w.few
      rw [putP_length] at this
      rw [usedP_snoc]; exact this
    · intro i hi
      rw [List.getElem_append]
      split
      · rename_i h; exact w.right i h
      · rename_i h
        simp only [List.length_append, List.length_singleton] at hi
        obtain rfl : i = all.length := by omega
        simpa using hR
    · intro o ho
      rw [hff, ringB_snoc]
      have hrl := ringB_length ep all 1
      have he1 : j.epoch.toNat = ep := by rw [w.epoch]; rfl
      have he2 : j.next.toNat = 1 + all.length := by rw [w.next]; omega
      rw [he1, he2]
      have hpl := putP_length ep (1 + all.length) l
      obtain ⟨B, hBe⟩ : ∃ B, B = putP ep (1 + all.length) l := ⟨_, rfl⟩
      rw [← hBe] at hpl ⊢
      have hw := w.ring o ho
      unfold rbP at hw ⊢
      rw [List.getD_eq_getElem?_getD] at hw ⊢
      have inj : ∀ k, k < B.length → (2 + (tail + usedP all + k) % 16 = 2 + (tail + o) % 16 ↔ usedP all + k = o) := by
        intro k hk; omega
      by_cases hin : usedP all ≤ o ∧ o < usedP all + B.length
      · have := wrD_hit (fun k => 2 + (tail + usedP all + k) % 16) (2 + (tail + o) % 16) B 0 d (o - usedP all) (by omega) (by have := (inj (o - usedP all) (by omega)).2 (by omega); simpa using this)
          (fun k' h1 h2 h3 => by have := (inj k' h2).1 (by simpa using h3); omega) (by rw [w.len]; omega)
        rw [this, List.getD_eq_getElem?_getD, List.getElem?_append_right (by omega), hrl, List.getElem?_eq_getElem (by omega)]; rfl
      · have := wrD_miss (fun k => 2 + (tail + usedP all + k) % 16) (2 + (tail + o) % 16) B 0 d (fun k hk h3 => by have := (inj k hk).1 (by simpa using h3); omega)
        rw [this, hw]
        rw [List.getD_eq_getElem?_getD, List.getD_eq_getElem?_getD]
        rcases Nat.lt_or_ge o (usedP all) with g | g
        · rw [List.getElem?_append_left (by omega)]
        · rw [List.getElem?_eq_none (by omega), List.getElem?_eq_none (by rw [List.length_append]; omega)]
end Go.Proofs.Ytbpdbgcndfcilaa
namespace Go.Proofs.Ytbpdbgcndfcilaa
open Go.RowKit Go.Sl
set_option maxRecDepth 20000

def gsP (ep : Nat) : Nat → List (List PImg) → List G3
  | _, [] => []
  | sq, g :: l => (ep, sq, g) :: gsP ep (sq + 1) l
theorem gsP_length (ep : Nat) : ∀ (l : List (List PImg)) (sq : Nat), (gsP ep sq l).length = l.length
  | [], _ => rfl
  | _ :: l, sq => by rw [gsP, List.length_cons, gsP_length ep l, List.length_cons]
theorem gsP_sum (ep : Nat) : ∀ (l : List (List PImg)) (sq : Nat), ((gsP ep sq l).map fun g => g.2.2.length + 1).sum = usedP l
  | [], _ => rfl
  | g :: l, sq => by rw [gsP, List.map_cons, List.sum_cons, gsP_sum ep l]; simp [usedP]
theorem grpP_put {rb : Nat → Dat} {at_ room ep sq : Nat} {l : List PImg} (hR : RightP ep sq l) (hroom : l.length + 1 ≤ room) (hrb : ∀ (k : Nat) (h : k < (putP ep sq l).length), rb (at_ + k) = (putP ep sq l)[k]) : grpP rb at_ room = some (ep, sq, l) := by
  have h0 : rb at_ = hblk ep sq l := by have := hrb 0 (by rw [putP_length]; omega); simpa [putP_eq] using this
  unfold grpP
  rw [h0, hdP_put hR]
  dsimp only
  rw [List.length_map, if_pos hroom]
  have : ((List.range (l.length + 1)).map fun i => rb (at_ + i)) = putP ep sq l := by
    refine getElem_eq_of (by rw [putP_length]; simp) fun i h1 h2 => ?_
    simp only [List.getElem_map, List.getElem_range]
    exact hrb i h2
  rw [this, getP_put hR]
theorem scan_prefix (rb : Nat → Dat) (ep : Nat) : ∀ (all : List (List PImg)) (f at_ sq room : Nat), (∀ (i : Nat) (h : i < all.length), RightP ep ((sq + i : Nat) : Int) all[i]) → usedP all ≤ room → all.length ≤ f → (∀ (k : Nat) (h : k < (ringB ep sq all).length), rb (at_ + k) = (ringB ep sq all)[k]) →
    scanK rb ep f at_ sq room = gsP ep sq all ++ scanK rb ep (f - all.length) (at_ + usedP all) ((sq + all.length : Nat) : Int) (room - usedP all)
  | [], f, at_, sq, room, _, _, _, _ => by simp [gsP, usedP]
  | g :: l, 0, _, _, _, _, _, h, _ => by simp at h
  | g :: l, f + 1, at_, sq, room, hR, hu, hf, hrb => by
    have e : usedP (g :: l) = g.length + 1 + usedP l := by simp [usedP]
    have hg : grpP rb at_ room = some (ep, sq, g) := by
      refine grpP_put (hR 0 (by simp)) (by omega) fun k hk => ?_
      have := hrb k (by rw [ringB, List.length_append]; omega)
      simp only [ringB] at this
      rw [List.getElem_append_left hk] at this
      exact this
    rw [scanK, hg]
    dsimp only
    rw [if_pos ⟨rfl, rfl⟩, gsP, List.cons_append]
    congr 1
    have ih := scan_prefix rb ep l f (at_ + (g.length + 1)) (sq + 1) (room - (g.length + 1)) (fun i hi => by
        have := hR (i + 1) (by simpa using hi)
        rw [show sq + (i + 1) = sq + 1 + i by omega] at this
        simpa using this) (by omega) (by simpa using hf) (fun k hk => by
        have hpl := putP_length ep sq g
        have := hrb (g.length + 1 + k) (by rw [ringB, List.length_append, hpl]; omega)
        simp only [ringB] at this
        rw [List.getElem_append_right (by omega)] at this
        rw [show at_ + (g.length + 1) + k = at_ + (g.length + 1 + k) by omega, this]
        congr 1
        omega)
    rw [show ((sq : Nat) : Int) + 1 = ((sq + 1 : Nat) : Int) by omega, ih, List.length_cons]
    rw [show f + 1 - (l.length + 1) = f - l.length by omega, show at_ + (g.length + 1) + usedP l = at_ + usedP (g :: l) by omega, show sq + 1 + l.length = sq + (l.length + 1) by omega, show room - (g.length + 1) - usedP l = room - usedP (g :: l) by omega]
/-- where no group follows -/
theorem scan_stop {rb : Nat → Dat} {ep : Int} {f at_ room : Nat} {seq : Int} (h : ∀ e s l, grpP rb at_ room = some (e, s, l) → ¬ ((e : Int) = ep ∧ (s : Int) = seq)) : scanK rb ep f at_ seq room = [] := by
  cases f with
  | zero => rfl
  | succ f =>
    rw [scanK]
    cases hg : grpP rb at_ room with
    | none => rfl
    | some p =>
      obtain ⟨e, s, l⟩ := p
      dsimp only
      rw [if_neg (h e s l hg)]
theorem hd_noughts : hdP noughts = none := by
  have h0 : (numV noughts 0 8).1 = 0 := by
    unfold numV noughts
    rw [if_neg (by rw [List.length_replicate]; omega)]
    simp [nb]
  unfold hdP hbE
  rw [h0, if_neg (fun h => by have := h.1.1; simp at this)]
theorem grpP_none {rb : Nat → Dat} {at_ room : Nat} (h : hdP (rb at_) = none) : grpP rb at_ room = none := by unfold grpP; rw [h]
theorem grpP_zero {rb : Nat → Dat} {at_ : Nat} : grpP rb at_ 0 = none := by
  unfold grpP
  split
  · rfl
  · rw [if_neg (by omega)]
theorem layL64 : layL (64 : Int) = 16 := by decide
/-- a new ring that was written tells what was appended -/
theorem WI.scan {ep tail : Nat} {j : JSt} {d : DSt} {all : List (List PImg)} (w : WI ep tail (fun _ => noughts) j d all) (b : Int) : scanL d ⟨b, ep, 1, tail⟩ = gsP ep 1 all ∧ placeP 16 tail (scanL d ⟨b, ep, 1, tail⟩) = (tail + usedP all) % 16 := by
  have e : scanL d ⟨b, ep, 1, tail⟩ = gsP ep 1 all := by
    unfold scanL
    rw [w.len]
    show scanK (rbP d 2 (layL (64 : Int)).toNat) ep ((layL (64 : Int)).toNat + 1) ((tail : Nat) : Int).toNat 1 (layL (64 : Int)).toNat = _
    rw [layL64]
    show scanK (rbP d 2 16) ep 17 tail ((1 : Nat) : Int) 16 = _
    have hu := w.used
    have hge := usedP_ge all
    have hrl := ringB_length ep all 1
    rw [scan_prefix (rbP d 2 16) ep all 17 tail 1 16 (fun i hi => by have := w.right i hi; rwa [show 1 + i = i + 1 by omega]) hu (by omega) (fun k hk => by
      rw [w.ring k (by omega), List.getD_eq_getElem?_getD, List.getElem?_eq_getElem hk]; rfl)]
    rw [scan_stop, List.append_nil]
    intro e s l hg
    exfalso
    rcases Nat.lt_or_ge (usedP all) 16 with g | g
    · have := w.ring (usedP all) g
      rw [List.getD_eq_getElem?_getD, List.getElem?_eq_none (by omega)] at this
      have h2 : grpP (rbP d 2 16) (tail + usedP all) (16 - usedP all) = none := grpP_none (by rw [this]; exact hd_noughts)
      rw [h2] at hg; cases hg
    · rw [show 16 - usedP all = 0 by omega, grpP_zero] at hg; cases hg
  refine ⟨e, ?_⟩
  rw [e]
  unfold placeP
  rw [gsP_sum]
theorem WI.fresh {ep tail : Nat} (hep : 1 ≤ ep ∧ ep ≤ 8388608) (ht : tail < 16) : WI ep tail (fun _ => noughts) (openJ 64 ep 1 tail) (DSt.of (List.replicate 64 noughts)) [] := by
  have hlen : (List.replicate 64 noughts).length = 64 := List.length_replicate ..
  have hmem : ∀ b ∈ List.replicate 64 noughts, b.length = 4096 := fun b hb => by rw [(List.mem_replicate.1 hb).2]; exact noughts_length
  have hw : (DSt.of (List.replicate 64 noughts)).Wf := ⟨rfl, by show 1 ≤ (List.replicate 64 noughts).length ∧ (List.replicate 64 noughts).length ≤ 512; omega, hmem, hmem, fun w hw => (List.not_mem_nil hw).elim, fun h => (Bool.false_ne_true h).elim, fun h => (Bool.false_ne_true h).elim⟩
  refine ⟨layL_64', rfl, rfl, rfl, rfl, rfl, rfl, rfl, rfl, openJ_wf 64 (by omega) ⟨rfl, by omega, by omega, by omega, by omega, by omega, by rw [layL_64']; omega⟩, fresh_calm _, hw, hlen, DSt.of_few _, by simp [usedP], fun i h => by simp at h, ?_⟩
  intro o ho
  unfold rbP
  show (List.replicate 64 noughts).getD _ [] = _
  rw [List.getD_eq_getElem?_getD, List.getElem?_replicate, if_pos (by omega)]; rfl
theorem im9_pick {ep : Nat} (hep : 1 ≤ ep ∧ ep ≤ 8388608) (sz : Int) (k : Nat) (hk : k ≤ 16) : RightP ep ((k + 1 : Nat) : Int) (im9 (1 + pickS sz 5).toNat sz) := by
  have := pickS_range (n := sz) (m := 5) (by decide)
  exact im9_right ⟨by omega, by omega⟩ ⟨by omega, by omega⟩ _ (by omega) _
theorem WI.step {ep tail : Nat} {z : Nat → Dat} (hep : 1 ≤ ep ∧ ep ≤ 8388608) {j : JSt} {d : DSt} {all : List (List PImg)} (w : WI ep tail z j d all) (sz : Int) : WI ep tail z (wrtStep j d all sz).1 (wrtStep j d all sz).2.1 (wrtStep j d all sz).2.2 := by
  have hge := usedP_ge all
  have hu := w.used
  unfold wrtStep
  rcases w.append (im9_pick hep sz all.length (by omega)) with ⟨_, h1, h2⟩ | ⟨_, h1, h2, h3⟩
  · dsimp only; rw [if_pos h2]; exact h1
  · dsimp only; rw [if_neg h3, h1, h2]; exact w
theorem WI.all {ep tail : Nat} {z : Nat → Dat} (hep : 1 ≤ ep ∧ ep ≤ 8388608) : ∀ (l : List Int) (x : JSt × DSt × List (List PImg)), WI ep tail z x.1 x.2.1 x.2.2 → WI ep tail z (wrtK x l).1 (wrtK x l).2.1 (wrtK x l).2.2
  | [], _, h => h
  | s :: l, _, h => WI.all hep l _ (h.step hep s)
end Go.Proofs.Ytbpdbgcndfcilaa
namespace Go.Proofs.Ytbpdbgcndfcilaa
open Go.RowKit Go.Sl
set_option maxRecDepth 20000

structure ImsAt (J : Imm) (aS : Option Addr) (ms : List Ims) (all : List (List PImg)) : Prop where
  rd : Rds J aS ms.length (ms.map Ims.cell)
  each : ∀ m ∈ ms, ImgsOk J m.a m.gs
  pr : ms.map Ims.pr = all
theorem ImsAt.mono {I J : Imm} {aS : Option Addr} {ms : List Ims} {all : List (List PImg)} (h : ImsAt I aS ms all) (hJ : I.le J) : ImsAt J aS ms all := ⟨h.rd.mono hJ, fun m hm => (h.each m hm).mono hJ, h.pr⟩
theorem wrtP_wi {ep tail : Nat} (hep : 1 ≤ ep ∧ ep ≤ 8388608) (ht : tail < 16) (l : List Int) : WI ep tail (fun _ => noughts) (wrtP ep tail l).1 (wrtP ep tail l).2.1 (wrtP ep tail l).2.2 := WI.all hep _ _ (WI.fresh hep ht)
set_option maxHeartbeats 4000000 in
theorem written9 (I : Imm) (ep tail : Nat) (hep : 1 ≤ ep ∧ ep ≤ 8388608) (ht : tail < 16) (aZ : Option Addr) (n capZ : Nat) (z : List Int) (hz : z.length = n) (hz2 : ∀ x ∈ z, In64 x) (hZ : Rds I aZ n (ints z)) :
    Tri Try.prog 32 #[.int .i64 ep, .int .i64 tail, .slice aZ n capZ] I [] fun v J S' => ∃ bD chD aS capS, ∃ ms : List Ims, v = .tuple #[.pointer (some ⟨bD, 0, none⟩), .slice aS ms.length capS, .bool true] ∧ Dk J bD (wrtP ep tail z).2.1 chD ∧ ImsAt J aS ms (wrtP ep tail z).2.2 ∧ ms.length ≤ capS ∧ S' = [chD] := by
  refine Tri.drop (Tri.fixed (Q := fun v J S' => ∃ bD chD aS capS chS, ∃ ms : List Ims, v = .tuple #[.pointer (some ⟨bD, 0, none⟩), .slice aS ms.length capS, .bool true] ∧ Dk J bD (wrtP ep tail z).2.1 chD ∧ OwnC chS 1 aS ms.length capS (ms.map Ims.cell) ∧ (∀ m ∈ ms, ImgsOk J m.a m.gs) ∧ ms.map Ims.pr = (wrtP ep tail z).2.2 ∧ S' = [chD, chS]) ?_
    (K := fun v J S' => ∃ bD chD aS capS, ∃ ms : List Ims, v = .tuple #[.pointer (some ⟨bD, 0, none⟩), .slice aS ms.length capS, .bool true] ∧ Dk J bD (wrtP ep tail z).2.1 chD ∧ ImsAt J aS ms (wrtP ep tail z).2.2 ∧ ms.length ≤ capS ∧ S' = [chD, []]) ?_) ?_
  rotate_left
  · rintro v J S' hJ ⟨bD, chD, aS, capS, chS, ms, rfl, hD, hS, hms, hp, rfl⟩
    exact ⟨1, chS, rfl, fun J' hJ' hm => ⟨bD, chD, aS, capS, ms, rfl, hD.mono hJ', ⟨Rds.of_own hS hm, fun m hm => (hms m hm).mono hJ', hp⟩, hS.le, rfl⟩⟩
  · rintro v J S' hJ ⟨bD, chD, aS, capS, ms, rfl, hD, hms, hle, rfl⟩
    exact ⟨[chD], Drop.pick [0] _ rfl, bD, chD, aS, capS, ms, rfl, hD, hms, hle, rfl⟩
  refine Tri.drop ?_ (fun _ _ _ _ h => h)
  refine Tri.of (args := [.int .i64 ep, .int .i64 tail, .slice aZ n capZ]) tabOk Try.func32 rfl (by kernel_rfl) (by kernel_rfl) ?_
  refine Tri.frameX (dk_New I 64 (by omega)) [] rfl rfl ?_
  rintro v J1 A' hJ1 ⟨bD, chD, rfl, hD, rfl⟩
  refine Tri.free (ref_Of 64 J1) ?_
  rintro v J2 _ hJ2 ⟨rfl, rfl⟩
  rw [layA, if_neg (by omega)]
  conv => whnf
  intro b11
  repeat (first
    | refine LoadD.own 0 rfl _ rfl rfl ?_
    | refine LoadD.own 1 rfl _ rfl rfl ?_
    | refine LoadD.own 2 rfl _ rfl rfl ?_
    | refine LoadP.at 0 rfl _ rfl rfl ?_
    | refine LoadP.at 1 rfl _ rfl rfl ?_
    | refine LoadP.at 2 rfl _ rfl rfl ?_
    | refine StoreD.st 0 rfl rfl rfl ?_
    | refine StoreD.st 1 rfl rfl rfl ?_
    | refine StoreD.st 2 rfl rfl rfl ?_
    | refine CmpD.yes rfl ?_
    | refine CmpD.yes (by decide) ?_
    | refine CmpD.no (by decide) ?_
    | refine Chk.mk ⟨rfl, trivial⟩ ?_
    | refine Chk.mk ⟨rfl, rfl, trivial⟩ ?_
    | refine Chk.mk ⟨rfl, rfl, rfl, trivial⟩ ?_
    | refine Chk.mk ⟨rfl, rfl, rfl, rfl, trivial⟩ ?_
    | refine Chk.mk ⟨rfl, rfl, rfl, rfl, rfl, trivial⟩ ?_
    | refine Chk.mk ⟨rfl, rfl, rfl, rfl, rfl, rfl, trivial⟩ ?_)
  refine Tri.frame (jk_Open hD 64 List.length_replicate (by omega) (layOf 64) ep 1 tail (by unfold In64; omega)) [0] rfl rfl ?_
  have hok : OpenOk 64 (layOf 64) ep 1 tail := ⟨rfl, by omega, by omega, by omega, by omega, by omega, by rw [layL_64']; omega⟩
  rintro v J3 A' hJ3 (⟨hno, _⟩ | ⟨_, rfl, bJ, chJ, rfl, hJk, rfl⟩)
  · exact absurd hok hno
  refine ⟨by simp, ?_⟩
  repeat (first
    | refine LoadD.own 0 rfl _ rfl rfl ?_
    | refine LoadD.own 1 rfl _ rfl rfl ?_
    | refine LoadD.own 2 rfl _ rfl rfl ?_
    | refine LoadP.at 0 rfl _ rfl rfl ?_
    | refine LoadP.at 1 rfl _ rfl rfl ?_
    | refine LoadP.at 2 rfl _ rfl rfl ?_
    | refine StoreD.st 0 rfl rfl rfl ?_
    | refine StoreD.st 1 rfl rfl rfl ?_
    | refine StoreD.st 2 rfl rfl rfl ?_
    | refine CmpD.yes rfl ?_
    | refine CmpD.yes (by decide) ?_
    | refine CmpD.no (by decide) ?_
    | refine Chk.mk ⟨rfl, trivial⟩ ?_
    | refine Chk.mk ⟨rfl, rfl, trivial⟩ ?_
    | refine Chk.mk ⟨rfl, rfl, rfl, trivial⟩ ?_
    | refine Chk.mk ⟨rfl, rfl, rfl, rfl, trivial⟩ ?_
    | refine Chk.mk ⟨rfl, rfl, rfl, rfl, rfl, trivial⟩ ?_
    | refine Chk.mk ⟨rfl, rfl, rfl, rfl, rfl, rfl, trivial⟩ ?_)
  have hw0 := WI.fresh hep ht
  refine CodeF.loopD [2, 9, 13, 15, 16] (fun vs J' S' => ∃ (i : Nat) (x : JSt × DSt × List (List PImg)) (chD chJ chS : List Blk) (aS : Option Addr) (capS : Nat) (ms : List Ims), i ≤ z.length ∧ i ≤ 12 ∧ x = wrtK (wrt0 ep tail) (z.take i) ∧ Dk J' bD x.2.1 chD ∧ Jk bJ bD x.1 chJ ∧ OwnC chS 1 aS ms.length capS (ms.map Ims.cell) ∧ (∀ m ∈ ms, ImgsOk J' m.a m.gs) ∧ ms.map Ims.pr = x.2.2 ∧ J1.le J' ∧
      vs = [.slice aZ n capZ, .pointer (some ⟨bD, 0, none⟩), .pointer (some ⟨bJ, 0, none⟩), .slice aS ms.length capS, .int .i64 i] ∧ S' = [chD, chJ, chS])
    (fun vs _ _ => match vs with | [_, _, _, _, .int _ i] => ((n : Int) - i).toNat | _ => 0) ?_ ?_
  · exact ⟨_, Drop.and (Drop.pick [0, 2] _ rfl), 0, _, chD, chJ, [], none, 0, [], by omega, by omega, rfl, hD, hJk, OwnC.nil _ _, by simp, rfl, Imm.le_refl _, rfl, rfl⟩
  rintro vs gE J' S' hJ' ⟨i, ⟨j, d, all⟩, chD, chJ, chS, aS, capS, ms, hi, hi12, hx, hD, hJk, hS, hms, hmp, hle, rfl, rfl⟩
  have hw : WI ep tail (fun _ => noughts) j d all := by have := WI.all hep (z.take i) (wrt0 ep tail) hw0; rw [← hx] at this; exact this
  have hge := usedP_ge all
  have hu := hw.used
  dsimp only at hD hJk hmp
  have hml : ms.length = all.length := by rw [← hmp, List.length_map]
  have stop : z.take i = z.take 12 → ∃ S'', Drop [chD, chJ, chS] S'' ∧ ∃ bD' chD' aS' capS' chS', ∃ ms' : List Ims, Value.tuple #[.pointer (some ⟨bD, 0, none⟩), .slice aS ms.length capS, .bool true] = .tuple #[.pointer (some ⟨bD', 0, none⟩), .slice aS' ms'.length capS', .bool true] ∧ Dk J' bD' (wrtP ep tail z).2.1 chD' ∧ OwnC chS' 1 aS' ms'.length capS' (ms'.map Ims.cell) ∧ (∀ m ∈ ms', ImgsOk J' m.a m.gs) ∧ ms'.map Ims.pr = (wrtP ep tail z).2.2 ∧ S'' = [chD', chS'] := by
    intro h
    have e : wrtP ep tail z = (j, d, all) := by unfold wrtP; rw [← h, ← hx]
    rw [e]
    exact ⟨[chD, chS], Drop.pick [0, 2] _ rfl, bD, chD, aS, capS, chS, ms, rfl, hD, hS, hms, hmp, rfl⟩
  refine CmpD.split (fun c1 => ?_) (fun c1 => ?_)
  rotate_left
  · repeat (first
      | refine LoadD.own 0 rfl _ rfl rfl ?_
      | refine LoadD.own 1 rfl _ rfl rfl ?_
      | refine LoadD.own 2 rfl _ rfl rfl ?_
      | refine LoadP.at 0 rfl _ rfl rfl ?_
      | refine LoadP.at 1 rfl _ rfl rfl ?_
      | refine LoadP.at 2 rfl _ rfl rfl ?_
      | refine StoreD.st 0 rfl rfl rfl ?_
      | refine StoreD.st 1 rfl rfl rfl ?_
      | refine StoreD.st 2 rfl rfl rfl ?_
      | refine CmpD.yes rfl ?_
      | refine CmpD.yes (by decide) ?_
      | refine CmpD.no (by decide) ?_
      | refine Chk.mk ⟨rfl, trivial⟩ ?_
      | refine Chk.mk ⟨rfl, rfl, trivial⟩ ?_
      | refine Chk.mk ⟨rfl, rfl, rfl, trivial⟩ ?_
      | refine Chk.mk ⟨rfl, rfl, rfl, rfl, trivial⟩ ?_
      | refine Chk.mk ⟨rfl, rfl, rfl, rfl, rfl, trivial⟩ ?_
      | refine Chk.mk ⟨rfl, rfl, rfl, rfl, rfl, rfl, trivial⟩ ?_)
    exact Done.mk (stop (by rw [List.take_of_length_le (by omega), List.take_of_length_le (by omega)]))
  repeat (first
    | refine LoadD.own 0 rfl _ rfl rfl ?_
    | refine LoadD.own 1 rfl _ rfl rfl ?_
    | refine LoadD.own 2 rfl _ rfl rfl ?_
    | refine LoadP.at 0 rfl _ rfl rfl ?_
    | refine LoadP.at 1 rfl _ rfl rfl ?_
    | refine LoadP.at 2 rfl _ rfl rfl ?_
    | refine StoreD.st 0 rfl rfl rfl ?_
    | refine StoreD.st 1 rfl rfl rfl ?_
    | refine StoreD.st 2 rfl rfl rfl ?_
    | refine CmpD.yes rfl ?_
    | refine CmpD.yes (by decide) ?_
    | refine CmpD.no (by decide) ?_
    | refine Chk.mk ⟨rfl, trivial⟩ ?_
    | refine Chk.mk ⟨rfl, rfl, trivial⟩ ?_
    | refine Chk.mk ⟨rfl, rfl, rfl, trivial⟩ ?_
    | refine Chk.mk ⟨rfl, rfl, rfl, rfl, trivial⟩ ?_
    | refine Chk.mk ⟨rfl, rfl, rfl, rfl, rfl, trivial⟩ ?_
    | refine Chk.mk ⟨rfl, rfl, rfl, rfl, rfl, rfl, trivial⟩ ?_)
  refine CmpD.split (fun c2 => ?_) (fun c2 => ?_)
  rotate_left
  · repeat (first
      | refine LoadD.own 0 rfl _ rfl rfl ?_
      | refine LoadD.own 1 rfl _ rfl rfl ?_
      | refine LoadD.own 2 rfl _ rfl rfl ?_
      | refine LoadP.at 0 rfl _ rfl rfl ?_
      | refine LoadP.at 1 rfl _ rfl rfl ?_
      | refine LoadP.at 2 rfl _ rfl rfl ?_
      | refine StoreD.st 0 rfl rfl rfl ?_
      | refine StoreD.st 1 rfl rfl rfl ?_
      | refine StoreD.st 2 rfl rfl rfl ?_
      | refine CmpD.yes rfl ?_
      | refine CmpD.yes (by decide) ?_
      | refine CmpD.no (by decide) ?_
      | refine Chk.mk ⟨rfl, trivial⟩ ?_
      | refine Chk.mk ⟨rfl, rfl, trivial⟩ ?_
      | refine Chk.mk ⟨rfl, rfl, rfl, trivial⟩ ?_
      | refine Chk.mk ⟨rfl, rfl, rfl, rfl, trivial⟩ ?_
      | refine Chk.mk ⟨rfl, rfl, rfl, rfl, rfl, trivial⟩ ?_
      | refine Chk.mk ⟨rfl, rfl, rfl, rfl, rfl, rfl, trivial⟩ ?_)
    exact Done.mk (stop (by rw [show i = 12 by omega]))
  have hlt : i < z.length := by omega
  have htk : z.take (i + 1) = z.take i ++ [z[i]] := by rw [List.take_add_one, List.getElem?_eq_getElem hlt]; rfl
  have hz64 := hz2 _ (List.getElem_mem hlt)
  have hcell : (ints z)[i]? = some (.int .i64 z[i]) := ints_get (List.getElem?_eq_getElem hlt)
  have hpk := pickS_range (n := z[i]) (m := 5) (by decide)
  have hR := im9_pick hep z[i] all.length (by omega)
  have hxi : wrtK (wrt0 ep tail) (z.take (i + 1)) = wrtStep j d all z[i] := by rw [htk]; unfold wrtK at hx ⊢; rw [List.foldl_append, ← hx]; rfl
  rcases hZ.mem with q0 | ⟨bZ, oZ, cZ, TZ, fZ, rfl, hIZ, hcZ⟩
  · omega
  have hIZ2 := (Imm.le_trans hJ1 hle) _ _ hIZ
  generalize z[i] = sz at *
  obtain ⟨ln, hln⟩ : ∃ ln : Nat, 1 + pickS sz 5 = ln := ⟨(1 + pickS sz 5).toNat, by omega⟩
  have hln2 : (1 + pickS sz 5).toNat = ln := by omega
  repeat (first
    | refine LoadD.own 0 rfl _ rfl rfl ?_
    | refine LoadD.own 1 rfl _ rfl rfl ?_
    | refine LoadD.own 2 rfl _ rfl rfl ?_
    | refine LoadP.at 0 rfl _ rfl rfl ?_
    | refine LoadP.at 1 rfl _ rfl rfl ?_
    | refine LoadP.at 2 rfl _ rfl rfl ?_
    | refine StoreD.st 0 rfl rfl rfl ?_
    | refine StoreD.st 1 rfl rfl rfl ?_
    | refine StoreD.st 2 rfl rfl rfl ?_
    | refine CmpD.yes rfl ?_
    | refine CmpD.yes (by decide) ?_
    | refine CmpD.no (by decide) ?_
    | refine Chk.mk ⟨rfl, trivial⟩ ?_
    | refine Chk.mk ⟨rfl, rfl, trivial⟩ ?_
    | refine Chk.mk ⟨rfl, rfl, rfl, trivial⟩ ?_
    | refine Chk.mk ⟨rfl, rfl, rfl, rfl, trivial⟩ ?_
    | refine Chk.mk ⟨rfl, rfl, rfl, rfl, rfl, trivial⟩ ?_
    | refine Chk.mk ⟨rfl, rfl, rfl, rfl, rfl, rfl, trivial⟩ ?_)
  refine CodeF.sched [[], [], [0, 1], [0, 1, 2], [0, 1, 2, 3], [0, 1, 2, 3, 4], [], [], [6, 7], [6, 7, 8], [0, 1, 2, 3, 4, 5, 6, 7, 8, 9], [0, 1, 2, 3, 4, 5, 6, 7, 8, 9, 10]] [0, 1, 2, 3, 6, 7, 8, 9, 4, 5, 10, 11] (by kernel_rfl) ?_
  refine Chk.mk (by omega) ?_
  refine LoadP.imm [.int .i64 sz] ⟨cZ, TZ, fZ, .imm hIZ2, take_get hcZ hcell, rfl⟩ ?_
  refine Chk.mk (by omega) ?_
  refine LoadP.imm [.int .i64 sz] ⟨cZ, TZ, fZ, .imm hIZ2, take_get hcZ hcell, rfl⟩ ?_
  refine Tri.free (low_Pick sz 5 J' hz64 (by unfold In64; omega)) ?_
  rintro v _ _ hJ4 ⟨rfl, rfl⟩
  repeat (first
    | refine LoadD.own 0 rfl _ rfl rfl ?_
    | refine LoadD.own 1 rfl _ rfl rfl ?_
    | refine LoadD.own 2 rfl _ rfl rfl ?_
    | refine LoadP.at 0 rfl _ rfl rfl ?_
    | refine LoadP.at 1 rfl _ rfl rfl ?_
    | refine LoadP.at 2 rfl _ rfl rfl ?_
    | refine StoreD.st 0 rfl rfl rfl ?_
    | refine StoreD.st 1 rfl rfl rfl ?_
    | refine StoreD.st 2 rfl rfl rfl ?_
    | refine CmpD.yes rfl ?_
    | refine CmpD.yes (by decide) ?_
    | refine CmpD.no (by decide) ?_
    | refine Chk.mk ⟨rfl, trivial⟩ ?_
    | refine Chk.mk ⟨rfl, rfl, trivial⟩ ?_
    | refine Chk.mk ⟨rfl, rfl, rfl, trivial⟩ ?_
    | refine Chk.mk ⟨rfl, rfl, rfl, rfl, trivial⟩ ?_
    | refine Chk.mk ⟨rfl, rfl, rfl, rfl, rfl, trivial⟩ ?_
    | refine Chk.mk ⟨rfl, rfl, rfl, rfl, rfl, rfl, trivial⟩ ?_)
  refine ToD.to (ln : Int) (by rw [wrap_i64 (by omega) (by omega)]; exact hln) ?_
  refine Tri.free (images9 ln (by omega) sz J') ?_
  rintro v J5 _ hJ5 ⟨aI, capI, gs, rfl, hgs, hgp⟩
  have hgl : gs.length = ln := by have := congrArg List.length hgp; simpa [im9_length] using this
  repeat (first
    | refine LoadD.own 0 rfl _ rfl rfl ?_
    | refine LoadD.own 1 rfl _ rfl rfl ?_
    | refine LoadD.own 2 rfl _ rfl rfl ?_
    | refine LoadP.at 0 rfl _ rfl rfl ?_
    | refine LoadP.at 1 rfl _ rfl rfl ?_
    | refine LoadP.at 2 rfl _ rfl rfl ?_
    | refine StoreD.st 0 rfl rfl rfl ?_
    | refine StoreD.st 1 rfl rfl rfl ?_
    | refine StoreD.st 2 rfl rfl rfl ?_
    | refine CmpD.yes rfl ?_
    | refine CmpD.yes (by decide) ?_
    | refine CmpD.no (by decide) ?_
    | refine Chk.mk ⟨rfl, trivial⟩ ?_
    | refine Chk.mk ⟨rfl, rfl, trivial⟩ ?_
    | refine Chk.mk ⟨rfl, rfl, rfl, trivial⟩ ?_
    | refine Chk.mk ⟨rfl, rfl, rfl, rfl, trivial⟩ ?_
    | refine Chk.mk ⟨rfl, rfl, rfl, rfl, rfl, trivial⟩ ?_
    | refine Chk.mk ⟨rfl, rfl, rfl, rfl, rfl, rfl, trivial⟩ ?_)
  refine Tri.frame (jk_Append hJk hw.wf (hD.mono hJ5) (hw.few.mono (by omega)) (by rw [hw.groups]; omega) aI capI gs hgs (by omega) false) [1, 0] rfl rfl ?_
  rw [hgp]
  rw [← hln2] at hgp ⊢
  have hxi1 := congrArg (·.1) hxi
  have hxi2 := congrArg (·.2.1) hxi
  have hxi3 := congrArg (·.2.2) hxi
  unfold wrtStep at hxi1 hxi2 hxi3
  dsimp only at hxi1 hxi2 hxi3
  generalize j.appendB d (im9 (1 + pickS sz 5).toNat sz) false = ap at *
  obtain ⟨j2, d2, sq2, e2⟩ := ap
  dsimp only at hxi1 hxi2 hxi3 ⊢
  rintro v J6 A' hJ6 ⟨rfl, chJ2, chD2, hJ2, hD2, rfl⟩
  refine ⟨Nat.le_refl _, ?_⟩
  have hle6 := Imm.le_trans hle (Imm.le_trans hJ5 hJ6)
  have hms6 : ∀ m ∈ ms, ImgsOk J6 m.a m.gs := fun m hm => (hms m hm).mono (Imm.le_trans hJ5 hJ6)
  repeat (first
    | refine LoadD.own 0 rfl _ rfl rfl ?_
    | refine LoadD.own 1 rfl _ rfl rfl ?_
    | refine LoadD.own 2 rfl _ rfl rfl ?_
    | refine LoadP.at 0 rfl _ rfl rfl ?_
    | refine LoadP.at 1 rfl _ rfl rfl ?_
    | refine LoadP.at 2 rfl _ rfl rfl ?_
    | refine StoreD.st 0 rfl rfl rfl ?_
    | refine StoreD.st 1 rfl rfl rfl ?_
    | refine StoreD.st 2 rfl rfl rfl ?_
    | refine CmpD.yes rfl ?_
    | refine CmpD.yes (by decide) ?_
    | refine CmpD.no (by decide) ?_
    | refine Chk.mk ⟨rfl, trivial⟩ ?_
    | refine Chk.mk ⟨rfl, rfl, trivial⟩ ?_
    | refine Chk.mk ⟨rfl, rfl, rfl, trivial⟩ ?_
    | refine Chk.mk ⟨rfl, rfl, rfl, rfl, trivial⟩ ?_
    | refine Chk.mk ⟨rfl, rfl, rfl, rfl, rfl, trivial⟩ ?_
    | refine Chk.mk ⟨rfl, rfl, rfl, rfl, rfl, rfl, trivial⟩ ?_)
  refine CmpD.split (fun c3 => ?_) (fun c3 => ?_)
  · repeat (first
      | refine LoadD.own 0 rfl _ rfl rfl ?_
      | refine LoadD.own 1 rfl _ rfl rfl ?_
      | refine LoadD.own 2 rfl _ rfl rfl ?_
      | refine LoadP.at 0 rfl _ rfl rfl ?_
      | refine LoadP.at 1 rfl _ rfl rfl ?_
      | refine LoadP.at 2 rfl _ rfl rfl ?_
      | refine StoreD.st 0 rfl rfl rfl ?_
      | refine StoreD.st 1 rfl rfl rfl ?_
      | refine StoreD.st 2 rfl rfl rfl ?_
      | refine CmpD.yes rfl ?_
      | refine CmpD.yes (by decide) ?_
      | refine CmpD.no (by decide) ?_
      | refine Chk.mk ⟨rfl, trivial⟩ ?_
      | refine Chk.mk ⟨rfl, rfl, trivial⟩ ?_
      | refine Chk.mk ⟨rfl, rfl, rfl, trivial⟩ ?_
      | refine Chk.mk ⟨rfl, rfl, rfl, rfl, trivial⟩ ?_
      | refine Chk.mk ⟨rfl, rfl, rfl, rfl, rfl, trivial⟩ ?_
      | refine Chk.mk ⟨rfl, rfl, rfl, rfl, rfl, rfl, trivial⟩ ?_)
    conv => whnf
    intro bN
    refine appendD tabOk rfl rfl rfl rfl rfl rfl rfl 2 rfl hS (SrcOk.slice (n := 1) (news := [Ims.cell ⟨aI, capI, gs⟩]) tabOk rfl ((OwnC.whole (len := 1) (size := 1) rfl).slC 3 rfl) (by intro v hv; simp only [List.mem_singleton] at hv; subst hv; rfl)) rfl (by show (ms.length + 1) * 24 ≤ _; omega) (by omega) ?_
    intro a2 cap2 ch2 hO2
    refine ToD.i64 (by omega) (by omega) ?_
    have hml3 : (ms ++ [⟨aI, capI, gs⟩] : List Ims).length = ms.length + 1 := by simp
    refine ⟨_, Drop.pick [0, 1, 2] _ rfl, ⟨i + 1, _, chD2, chJ2, ch2, a2, cap2, ms ++ [⟨aI, capI, gs⟩], by omega, by omega, rfl, by rw [hxi2]; exact hD2, by rw [hxi1]; exact hJ2, by rw [hml3, List.map_append]; exact hO2, ?_, ?_, hle6, by rw [hml3]; rfl, rfl⟩, ?_⟩
    · intro m hm
      rcases List.mem_append.1 hm with hm | hm
      · exact hms6 m hm
      · simp only [List.mem_singleton] at hm
        subst hm
        exact hgs.mono hJ6
    · rw [hxi3, if_pos c3, List.map_append, hmp]
      show _ ++ [gs.map Img.pr] = _
      rw [hgp]
    · show ((n : Int) - ((i : Int) + 1)).toNat < ((n : Int) - (i : Int)).toNat; omega
  · repeat (first
      | refine LoadD.own 0 rfl _ rfl rfl ?_
      | refine LoadD.own 1 rfl _ rfl rfl ?_
      | refine LoadD.own 2 rfl _ rfl rfl ?_
      | refine LoadP.at 0 rfl _ rfl rfl ?_
      | refine LoadP.at 1 rfl _ rfl rfl ?_
      | refine LoadP.at 2 rfl _ rfl rfl ?_
      | refine StoreD.st 0 rfl rfl rfl ?_
      | refine StoreD.st 1 rfl rfl rfl ?_
      | refine StoreD.st 2 rfl rfl rfl ?_
      | refine CmpD.yes rfl ?_
      | refine CmpD.yes (by decide) ?_
      | refine CmpD.no (by decide) ?_
      | refine Chk.mk ⟨rfl, trivial⟩ ?_
      | refine Chk.mk ⟨rfl, rfl, trivial⟩ ?_
      | refine Chk.mk ⟨rfl, rfl, rfl, trivial⟩ ?_
      | refine Chk.mk ⟨rfl, rfl, rfl, rfl, trivial⟩ ?_
      | refine Chk.mk ⟨rfl, rfl, rfl, rfl, rfl, trivial⟩ ?_
      | refine Chk.mk ⟨rfl, rfl, rfl, rfl, rfl, rfl, trivial⟩ ?_)
    refine ToD.i64 (by omega) (by omega) ?_
    refine ⟨_, Drop.pick [0, 1, 2] _ rfl, ⟨i + 1, _, chD2, chJ2, chS, aS, capS, ms, by omega, by omega, rfl, by rw [hxi2]; exact hD2, by rw [hxi1]; exact hJ2, hS, hms6, by rw [hxi3, if_neg c3]; exact hmp, hle6, rfl, rfl⟩, ?_⟩
    show ((n : Int) - ((i : Int) + 1)).toNat < ((n : Int) - (i : Int)).toNat; omega
end Go.Proofs.Ytbpdbgcndfcilaa
namespace Go.Proofs.Ytbpdbgcndfcilaa
open Go.RowKit Go.Sl
set_option maxRecDepth 20000

end Go.Proofs.Ytbpdbgcndfcilaa
namespace Go.Proofs.Ytbpdbgcndfcilaa
open Go.RowKit Go.Sl
set_option maxRecDepth 20000

structure RDk (I : Imm) (v : Value) (d : DSt) : Prop where
  wf : d.Wf
  snd : ∀ i, i < d.safe.length → d.now[i]? = some (atP (d.safe.getD i []) d.writes i)
  ex : ∃ (s w : Hd) (bS : List Bk) (gs : List Img), v = rV s w d.count d.down (gv d.arm) (gv d.fault) ∧ Rds I s.a s.len (bS.map Bk.cell) ∧ (∀ b ∈ bS, BkOk I b) ∧ bS.map Bk.data = d.safe ∧ ImgsOk I w.a gs ∧ w.len = gs.length ∧ gs.map Img.pr = d.writes
theorem RDk.mono {I J : Imm} {v : Value} {d : DSt} (h : RDk I v d) (hJ : I.le J) : RDk J v d := by
  obtain ⟨s, w, bS, gs, e, h1, h2, h3, h4, h5, h6⟩ := h.ex
  exact ⟨h.wf, h.snd, s, w, bS, gs, e, h1.mono hJ, fun b hb => (h2 b hb).mono hJ, h3, h4.mono hJ, h5, h6⟩
theorem RDk.stop {I : Imm} {s w : Hd} {d : DSt} {bS : List Bk} {gs : List Img} (h : d.Wf) (hs : ∀ i, i < d.safe.length → d.now[i]? = some (atP (d.safe.getD i []) d.writes i)) (h1 : Rds I s.a s.len (bS.map Bk.cell)) (h2 : ∀ b ∈ bS, BkOk I b) (h3 : bS.map Bk.data = d.safe) (h4 : ImgsOk I w.a gs) (h5 : w.len = gs.length) (h6 : gs.map Img.pr = d.writes) :
    RDk I (rV s w d.count d.stop.1.down (gv d.stop.1.arm) (gv d.stop.1.fault)) d.stop.1 := by
  obtain ⟨e1, e2, e3, e4⟩ := d.stop_same
  exact ⟨h.stop, by rw [e1, e2, e3]; exact hs, s, w, bS, gs, by rw [e4], h1, h2, by rw [e1]; exact h3, h4, h5, by rw [e3]; exact h6⟩
end Go.Proofs.Ytbpdbgcndfcilaa
namespace Go.Proofs.Ytbpdbgcndfcilaa
open Go.RowKit Go.Sl
set_option maxRecDepth 20000

end Go.Proofs.Ytbpdbgcndfcilaa
namespace Go.Proofs.Ytbpdbgcndfcilaa
open Go.RowKit Go.Sl
set_option maxRecDepth 20000

end Go.Proofs.Ytbpdbgcndfcilaa
namespace Go.Proofs.Ytbpdbgcndfcilaa
open Go.RowKit Go.Sl
set_option maxRecDepth 20000

end Go.Proofs.Ytbpdbgcndfcilaa
namespace Go.Proofs.Ytbpdbgcndfcilaa
open Go.RowKit Go.Sl
set_option maxRecDepth 20000

end Go.Proofs.Ytbpdbgcndfcilaa
namespace Go.Proofs.Ytbpdbgcndfcilaa
open Go.RowKit Go.Sl
set_option maxRecDepth 20000

end Go.Proofs.Ytbpdbgcndfcilaa
namespace Go.Proofs.Ytbpdbgcndfcilaa
open Go.RowKit Go.Sl
set_option maxRecDepth 20000

def DoOk (d : DSt) (l : List PImg) : Prop := ∀ g ∈ l, 2 ≤ g.1 ∧ g.1 < d.now.length ∧ g.2.length = 4096
instance (d : DSt) (l : List PImg) : Decidable (DoOk d l) := by unfold DoOk; infer_instance
end Go.Proofs.Ytbpdbgcndfcilaa
namespace Go.Proofs.Ytbpdbgcndfcilaa
open Go.RowKit Go.Sl
set_option maxRecDepth 20000

@[reducible] def rBox (b : Nat) (s w : Hd) (count : Int) (down : Bool) (arm fault : Int) : List Blk := [(b, row [s.v, w.v, .int .i64 count, .bool down, .int .i64 arm, .int .i64 fault] 79)]
@[reducible] def sBox (b : Nat) (s : Sup) : List Blk := [(b, row [.int .i64 s.blocks, .int .i64 s.epoch, .int .i64 s.seq, .int .i64 s.tail] 56)]
end Go.Proofs.Ytbpdbgcndfcilaa
namespace Go.Proofs.Ytbpdbgcndfcilaa
open Go.RowKit Go.Sl
set_option maxRecDepth 20000

end Go.Proofs.Ytbpdbgcndfcilaa
namespace Go.Proofs.Ytbpdbgcndfcilaa
open Go.RowKit Go.Sl
set_option maxRecDepth 20000

end Go.Proofs.Ytbpdbgcndfcilaa
namespace Go.Proofs.Ytbpdbgcndfcilaa
open Go.RowKit Go.Sl
set_option maxRecDepth 20000

end Go.Proofs.Ytbpdbgcndfcilaa
namespace Go.Proofs.Ytbpdbgcndfcilaa
open Go.RowKit Go.Sl
set_option maxRecDepth 20000

end Go.Proofs.Ytbpdbgcndfcilaa
namespace Go.Proofs.Ytbpdbgcndfcilaa
open Go.RowKit Go.Sl
set_option maxRecDepth 20000

end Go.Proofs.Ytbpdbgcndfcilaa
namespace Go.Proofs.Ytbpdbgcndfcilaa
open Go.RowKit Go.Sl
set_option maxRecDepth 20000

end Go.Proofs.Ytbpdbgcndfcilaa
namespace Go.Proofs.Ytbpdbgcndfcilaa
open Go.RowKit Go.Sl
set_option maxRecDepth 20000

theorem imgsR_of {I : Imm} {S : St} {a : Option Addr} {gs : List Img} (h : ImgsOk I a gs) : ImgsR I S a gs := ⟨h.1.slC, fun g hg => ⟨(h.2 g hg).2.slC⟩⟩
end Go.Proofs.Ytbpdbgcndfcilaa
namespace Go.Proofs.Ytbpdbgcndfcilaa
open Go.RowKit Go.Sl
set_option maxRecDepth 20000

theorem gsP_get (ep : Nat) : ∀ (l : List (List PImg)) (sq i : Nat) (h : i < l.length) (h' : i < (gsP ep sq l).length), (gsP ep sq l)[i] = (ep, sq + i, l[i])
  | [], _, i, h, _ => by simp at h
  | g :: l, sq, 0, _, _ => rfl
  | g :: l, sq, i + 1, h, h' => by
    simp only [gsP, List.getElem_cons_succ]
    rw [gsP_get ep l (sq + 1) i (by simpa using h), show sq + 1 + i = sq + (i + 1) by omega]
theorem grpCells_0 {l : List Grp} {i : Nat} (h : i < l.length) : (grpCells l)[i * 3]? = some (.int .i64 l[i].e) := by
  have := congrArg (·[0]?) (grpCells_at h)
  simpa using this
theorem grpCells_1 {l : List Grp} {i : Nat} (h : i < l.length) : (grpCells l)[i * 3 + 1]? = some (.int .i64 l[i].s) := by
  have := congrArg (·[1]?) (grpCells_at h)
  simpa using this
theorem grpCells_2 {l : List Grp} {i : Nat} (h : i < l.length) : (grpCells l)[i * 3 + 2]? = some (.slice l[i].a l[i].gs.length l[i].cap) := by
  have := congrArg (·[2]?) (grpCells_at h)
  simpa using this
set_option maxHeartbeats 1000000 in
theorem same9 (I : Imm) (aO : Option Addr) (capO : Nat) (gl : List Grp) (L : List G3) (hO : Rds I aO (gl.length * 3) (grpCells gl)) (hg : GrpsOk I gl L) (aS : Option Addr) (capS : Nat) (ms : List Ims) (all : List (List PImg)) (hms : ImsAt I aS ms all) (ep : Nat) (hL : L = gsP ep 1 all) (hfew : all.length ≤ 1000 ∧ ∀ g ∈ all, g.length ≤ 1000) :
    Tri Try.prog 41 #[.slice aO gl.length capO, .slice aS ms.length capS, .int .i64 ep] I [] fun v _ _ => v = .bool true := by
  have hl1 := hg.len
  have hl2 : ms.length = all.length := by rw [← hms.pr, List.length_map]
  rw [hL, gsP_length] at hl1
  refine Tri.of (args := [.slice aO gl.length capO, .slice aS ms.length capS, .int .i64 ep]) tabOk Try.func41 rfl (by kernel_rfl) (by kernel_rfl) ?_
  refine CmpD.yes (by omega) ?_
  refine CodeF.loopD [0, 1, 2, 7] (fun vs J' S' => ∃ i : Nat, i ≤ gl.length ∧ vs = [.slice aO gl.length capO, .slice aS ms.length capS, .int .i64 ep, .int .i64 i] ∧ I = J' ∧ S' = [])
    (fun vs _ _ => match vs with | [_, _, _, .int _ i] => ((gl.length : Int) - i).toNat | _ => 0) ?_ ?_
  · exact ⟨_, Drop.refl _, 0, by omega, rfl, rfl, rfl⟩
  rintro vs gE J' S' hJ' ⟨i, hi, rfl, rfl, rfl⟩
  refine CmpD.split (fun c1 => ?_) (fun c1 => ?_)
  · have hlt : i < gl.length := by omega
    have hlt2 : i < ms.length := by omega
    have k0 := grpCells_0 hlt
    have k1 := grpCells_1 hlt
    have k2 := grpCells_2 hlt
    have hm : (ms.map Ims.cell)[i]? = some ms[i].cell := by rw [List.getElem?_map, List.getElem?_eq_getElem hlt2]; rfl
    have hmo := hms.each _ (List.getElem_mem hlt2)
    have hgo := hg.each _ (List.getElem_mem hlt)
    have hmp : ms[i].gs.map Img.pr = all[i]'(by omega) := by
      have : (ms.map Ims.pr)[i]'(by rw [List.length_map]; exact hlt2) = all[i]'(by omega) := by simp only [hms.pr]
      rw [List.getElem_map] at this; exact this
    have hfi := hfew.2 _ (List.getElem_mem (by omega : i < all.length))
    have hg3 : gl[i].g3 = up3 (ep, 1 + i, all[i]'(by omega)) := by
      have h3 := hg.g3
      have : (gl.map Grp.g3)[i]'(by rw [List.length_map]; exact hlt) = (L.map up3)[i]'(by rw [← h3, List.length_map]; exact hlt) := by simp only [h3]
      rw [List.getElem_map, List.getElem_map] at this
      rw [this]
      congr 1
      have h4 : L[i]'(by rw [hL, gsP_length]; omega) = (gsP ep 1 all)[i]'(by rw [gsP_length]; omega) := by simp only [hL]
      rw [h4, gsP_get ep all 1 i (by omega)]
    rcases hO.mem with q0 | ⟨bO, oO, cO, TO, fO, rfl, hIO, hcO⟩
    · omega
    rcases hms.rd.mem with q0 | ⟨bS, oS, cS, TS, fS, rfl, hIS, hcS⟩
    · omega
    generalize gl[i] = g at *
    generalize ms[i] = m at *
    generalize all[i]'(by omega) = al at *
    unfold Grp.g3 up3 at hg3
    simp only [Prod.mk.injEq] at hg3
    obtain ⟨g1, g2, g3⟩ := hg3
    have hml : m.gs.length = al.length := by rw [← hmp, List.length_map]
    have hgl : g.gs.length = al.length := by rw [← g3, List.length_map]
    have t0 : (cO.drop (oO + i * 3)).take 1 = [.int .i64 g.e] := take_get hcO k0
    have t1 : (cO.drop (oO + (i * 3 + 1))).take 1 = [.int .i64 g.s] := take_get hcO k1
    have t2 : (cO.drop (oO + (i * 3 + 2))).take 1 = [.slice g.a g.gs.length g.cap] := take_get hcO k2
    refine CodeF.sched [[], [], [0, 1], [0, 1, 2], [0, 1, 2, 3], [], [0, 1, 2, 3, 4, 5], [0, 1, 2, 3, 4, 5, 6], [0, 1, 2, 3, 4, 5, 6, 7], [0, 1, 2, 3, 4, 5, 6, 7], [0, 1, 2, 3, 4, 5, 6, 7, 8, 9], [0, 1, 2, 3, 4, 5, 6, 7, 8, 9, 10], [0, 1, 2, 3, 4, 5, 6, 7, 8, 9, 10, 11], [0, 1, 2, 3, 4, 5, 6, 7], [0, 1, 2, 3, 4, 5, 6, 7, 13], [0, 1, 2, 3, 4, 5, 6, 7, 8, 9, 10, 11, 12, 13, 14], [0, 1, 2, 3, 4, 5, 6, 7, 8, 9, 10, 11, 12, 13, 14, 15], [0, 1, 2, 3, 4, 5, 6, 7, 8, 9, 10, 11, 12, 13, 14, 15, 16], [0, 1, 2, 3, 4, 5, 6, 7, 8, 9, 10, 11, 12, 13, 14, 15, 16, 17], [0, 1, 2, 3, 4, 5, 6, 7, 8, 9, 10, 11, 12, 13, 14, 15, 16, 17], [0, 1, 2, 3, 4, 5, 6, 7, 8, 9, 10, 11, 12, 13, 14, 15, 16, 17, 18, 19], [0, 1, 2, 3, 4, 5, 6, 7, 8, 9, 10, 11, 12, 13, 14, 15, 16, 17, 18, 19, 20], [0, 1, 2, 3, 4, 5, 6, 7, 8, 9, 10, 11, 12, 13, 14, 15, 16, 17, 18, 19, 20, 21], [0, 1, 2, 3, 4, 5, 6, 7, 8, 9, 10, 11, 12, 13, 14, 15, 16, 17], [0, 1, 2, 3, 4, 5, 6, 7, 8, 9, 10, 11, 12, 13, 14, 15, 16, 17], [0, 1, 2, 3, 4, 5, 6, 7, 8, 9, 10, 11, 12, 13, 14, 15, 16, 17, 23, 24], [0, 1, 2, 3, 4, 5, 6, 7, 8, 9, 10, 11, 12, 13, 14, 15, 16, 17, 23, 24, 25], [0, 1, 2, 3, 4, 5, 6, 7, 8, 9, 10, 11, 12, 13, 14, 15, 16, 17, 18, 19, 20, 21, 22, 23, 24, 25, 26], [0, 1, 2, 3, 4, 5, 6, 7, 8, 9, 10, 11, 12, 13, 14, 15, 16, 17, 18, 19, 20, 21, 22, 23, 24, 25, 26, 27], [0, 1, 2, 3, 4, 5, 6, 7, 8, 9, 10, 11, 12, 13, 14, 15, 16, 17, 18, 19, 20, 21, 22, 23, 24, 25, 26, 27, 28]] [0, 1, 2, 3, 4, 5, 6, 7, 8, 9, 10, 11, 12, 13, 14, 15, 16, 17, 18, 19, 20, 21, 22, 23, 24, 25, 26, 27, 28, 29] (by kernel_rfl) ?_
    refine Chk.mk (by omega) ?_
    refine LoadP.imm [.int .i64 g.e] ⟨cO, TO, fO, .imm hIO, t0, rfl⟩ ?_
    refine CmpD.yes g1 ?_
    refine Chk.mk (by omega) ?_
    refine LoadP.imm [.int .i64 g.s] ⟨cO, TO, fO, .imm hIO, t1, rfl⟩ ?_
    refine ToD.i64 (by omega) (by omega) ?_
    refine CmpD.yes (by rw [g2]; omega) ?_
    refine Chk.mk (by omega) ?_
    refine LoadP.imm [.slice g.a g.gs.length g.cap] ⟨cO, TO, fO, .imm hIO, t2, rfl⟩ ?_
    refine Chk.mk (by omega) ?_
    refine LoadP.imm [m.cell] ⟨cS, TS, fS, .imm hIS, take_get hcS hm, rfl⟩ ?_
    refine Tri.free (same_imgs (S := []) (imgsR_of hgo) (imgsR_of hmo) (by omega)) ?_
    rintro v _ _ _ ⟨rfl, rfl, rfl⟩
    rw [decide_eq_true (g3.trans hmp.symm)]
    repeat (first
      | refine LoadD.own 0 rfl _ rfl rfl ?_
      | refine LoadP.at 0 rfl _ rfl rfl ?_
      | refine StoreD.st 0 rfl rfl rfl ?_
      | refine CmpD.yes rfl ?_
      | refine CmpD.yes (by decide) ?_
      | refine CmpD.no (by decide) ?_
      | refine Chk.mk ⟨rfl, trivial⟩ ?_
      | refine Chk.mk ⟨rfl, rfl, trivial⟩ ?_
      | refine Chk.mk ⟨rfl, rfl, rfl, trivial⟩ ?_
      | refine Chk.mk ⟨rfl, rfl, rfl, rfl, trivial⟩ ?_
      | refine Chk.mk ⟨rfl, rfl, rfl, rfl, rfl, trivial⟩ ?_
      | refine Chk.mk ⟨rfl, rfl, rfl, rfl, rfl, rfl, trivial⟩ ?_)
    refine ToD.i64 (by omega) (by omega) ?_
    refine ⟨_, Drop.refl _, ⟨i + 1, by omega, rfl, rfl, rfl⟩, ?_⟩
    show ((gl.length : Int) - ((i : Int) + 1)).toNat < ((gl.length : Int) - (i : Int)).toNat
    omega
  · exact Done.mk rfl
theorem WI.fewA {ep tail : Nat} {z : Nat → Dat} {j : JSt} {d : DSt} {all : List (List PImg)} (w : WI ep tail z j d all) : all.length ≤ 1000 ∧ ∀ g ∈ all, g.length ≤ 1000 := by
  have := usedP_ge all
  have := w.used
  refine ⟨by omega, fun g hg => ?_⟩
  obtain ⟨i, hi, rfl⟩ := List.mem_iff_getElem.1 hg
  have := (w.right i hi).2.2.2.2.2.1
  omega
theorem scanOk64 {b ep sq tail : Int} (hb : b = 64) (h1 : 1 ≤ ep ∧ ep ≤ 8388608) (h2 : 1 ≤ sq ∧ sq ≤ 549755813888) (h3 : 0 ≤ tail ∧ tail < 16) : ScanOk 64 (layOf 64) ⟨b, ep, sq, tail⟩ :=
  ⟨by omega, rfl, hb, h3.1, by show tail < layL ((64 : Nat) : Int); rw [layL_64']; exact h3.2, h1.1, h1.2, h2.1, h2.2⟩
def addK (all : List (List PImg)) (sz : Int) : List (List PImg) := if usedP all + ((1 + pickS sz 5).toNat + 1) ≤ 16 then all ++ [im9 (1 + pickS sz 5).toNat sz] else all
theorem WI.addK {ep tail : Nat} {z : Nat → Dat} (hep : 1 ≤ ep ∧ ep ≤ 8388608) {j : JSt} {d : DSt} {all : List (List PImg)} (w : WI ep tail z j d all) (sz : Int) : (wrtStep j d all sz).2.2 = addK all sz := by
  have hge := usedP_ge all
  have hu := w.used
  unfold wrtStep Go.Proofs.Ytbpdbgcndfcilaa.addK
  rcases w.append (im9_pick hep sz all.length (by omega)) with ⟨h0, _, h2⟩ | ⟨h0, _, _, h3⟩
  · rw [im9_length] at h0
    dsimp only; rw [if_pos h2, if_pos h0]
  · rw [im9_length] at h0
    dsimp only; rw [if_neg h3, if_neg (by omega)]
theorem WI.adds {ep tail : Nat} {z : Nat → Dat} (hep : 1 ≤ ep ∧ ep ≤ 8388608) : ∀ (l : List Int) (x : JSt × DSt × List (List PImg)), WI ep tail z x.1 x.2.1 x.2.2 → (wrtK x l).2.2 = l.foldl Go.Proofs.Ytbpdbgcndfcilaa.addK x.2.2
  | [], _, _ => rfl
  | s :: l, x, h => by
    have := WI.adds hep l (wrtStep x.1 x.2.1 x.2.2 s) (h.step hep s)
    rw [h.addK hep s] at this
    exact this
theorem wrt_all {ep tail : Nat} (hep : 1 ≤ ep ∧ ep ≤ 8388608) (ht : tail < 16) (l : List Int) : (wrtP ep tail l).2.2 = (l.take 12).foldl addK [] := WI.adds hep _ _ (WI.fresh hep ht)
theorem addK_yes {all : List (List PImg)} {sz : Int} {n u : Nat} (hn : (1 + pickS sz 5).toNat = n) (hu : usedP all = u) (h : u + (n + 1) ≤ 16) : addK all sz = all ++ [im9 n sz] := by unfold addK; rw [hn, hu, if_pos h]
/-- the examples of chapter 9 -/
theorem adds01 : [0, 1].foldl addK [] = [im9 1 0, im9 2 1] := by
  show addK (addK [] 0) 1 = _
  have h0 : addK [] 0 = [im9 1 0] := addK_yes (n := 1) (u := 0) (by decide) rfl (by decide)
  rw [h0, addK_yes (n := 2) (u := 2) (by decide) (by simp [usedP, im9_length]) (by decide)]; rfl
theorem awk9 : (wrtP ((1 : Nat) : Int) ((14 : Nat) : Int) [0, 1]).2.2 = [im9 1 0, im9 2 1] := by
  rw [wrt_all (by decide) (by decide)]; exact adds01
set_option maxHeartbeats 1000000 in
theorem awake09 (I : Imm) (S : St) : Tri Try.prog 38 #[] I S fun v _ _ => v = .bool true := by
  refine Tri.free (Q := fun v _ _ => v = .bool true) ?_ (fun v J _ _ h => h)
  refine Tri.of (args := []) tabOk Try.func38 rfl (by kernel_rfl) (by kernel_rfl) ?_
  conv => whnf
  intro bZ
  refine Tri.fix 0 rfl fun I1 hI1 hm => ?_
  have hZ : Rds I1 (some ⟨bZ, 0, none⟩) 2 (ints [0, 1]) := Rds.of_own (cap := 2) (OwnC.whole rfl) hm
  refine Tri.frameX (written9 I1 1 14 (by decide) (by decide) _ 2 2 [0, 1] rfl (by intro x hx; simp at hx; unfold In64; omega) hZ) [] rfl rfl ?_
  rintro v J1 A' hJ1 ⟨bD, chD, aS, capS, ms, rfl, hD, hms, hle, rfl⟩
  have w := wrtP_wi (ep := 1) (tail := 14) (by decide) (by decide) [0, 1]
  have hsc := w.scan 64
  have hfew := w.fewA
  have hcalm := w.calm
  have hlen := w.len
  rw [awk9] at hsc hms hfew
  have hml : ms.length = 2 := by have := congrArg List.length hms.pr; simpa using this
  generalize (wrtP 1 14 [0, 1]).2.1 = d at *
  rw [show usedP [im9 1 0, im9 2 1] = 5 from by simp [usedP, im9_length]] at hsc
  repeat (first
    | refine LoadD.own 0 rfl _ rfl rfl ?_
    | refine LoadD.own 1 rfl _ rfl rfl ?_
    | refine LoadD.own 2 rfl _ rfl rfl ?_
    | refine LoadP.at 0 rfl _ rfl rfl ?_
    | refine LoadP.at 1 rfl _ rfl rfl ?_
    | refine LoadP.at 2 rfl _ rfl rfl ?_
    | refine StoreD.st 0 rfl rfl rfl ?_
    | refine StoreD.st 1 rfl rfl rfl ?_
    | refine StoreD.st 2 rfl rfl rfl ?_
    | refine CmpD.yes rfl ?_
    | refine CmpD.yes (by decide) ?_
    | refine CmpD.no (by decide) ?_
    | refine Chk.mk ⟨rfl, trivial⟩ ?_
    | refine Chk.mk ⟨rfl, rfl, trivial⟩ ?_
    | refine Chk.mk ⟨rfl, rfl, rfl, trivial⟩ ?_
    | refine Chk.mk ⟨rfl, rfl, rfl, rfl, trivial⟩ ?_
    | refine Chk.mk ⟨rfl, rfl, rfl, rfl, rfl, trivial⟩ ?_
    | refine Chk.mk ⟨rfl, rfl, rfl, rfl, rfl, rfl, trivial⟩ ?_)
  refine CmpD.yes (by omega) ?_
  repeat (first
    | refine LoadD.own 0 rfl _ rfl rfl ?_
    | refine LoadD.own 1 rfl _ rfl rfl ?_
    | refine LoadD.own 2 rfl _ rfl rfl ?_
    | refine LoadP.at 0 rfl _ rfl rfl ?_
    | refine LoadP.at 1 rfl _ rfl rfl ?_
    | refine LoadP.at 2 rfl _ rfl rfl ?_
    | refine StoreD.st 0 rfl rfl rfl ?_
    | refine StoreD.st 1 rfl rfl rfl ?_
    | refine StoreD.st 2 rfl rfl rfl ?_
    | refine CmpD.yes rfl ?_
    | refine CmpD.yes (by decide) ?_
    | refine CmpD.no (by decide) ?_
    | refine Chk.mk ⟨rfl, trivial⟩ ?_
    | refine Chk.mk ⟨rfl, rfl, trivial⟩ ?_
    | refine Chk.mk ⟨rfl, rfl, rfl, trivial⟩ ?_
    | refine Chk.mk ⟨rfl, rfl, rfl, rfl, trivial⟩ ?_
    | refine Chk.mk ⟨rfl, rfl, rfl, rfl, rfl, trivial⟩ ?_
    | refine Chk.mk ⟨rfl, rfl, rfl, rfl, rfl, rfl, trivial⟩ ?_)
  refine Tri.free (layout9 J1) ?_
  rintro v _ _ _ ⟨rfl, rfl⟩
  repeat (first
    | refine LoadD.own 0 rfl _ rfl rfl ?_
    | refine LoadD.own 1 rfl _ rfl rfl ?_
    | refine LoadD.own 2 rfl _ rfl rfl ?_
    | refine LoadP.at 0 rfl _ rfl rfl ?_
    | refine LoadP.at 1 rfl _ rfl rfl ?_
    | refine LoadP.at 2 rfl _ rfl rfl ?_
    | refine StoreD.st 0 rfl rfl rfl ?_
    | refine StoreD.st 1 rfl rfl rfl ?_
    | refine StoreD.st 2 rfl rfl rfl ?_
    | refine CmpD.yes rfl ?_
    | refine CmpD.yes (by decide) ?_
    | refine CmpD.no (by decide) ?_
    | refine Chk.mk ⟨rfl, trivial⟩ ?_
    | refine Chk.mk ⟨rfl, rfl, trivial⟩ ?_
    | refine Chk.mk ⟨rfl, rfl, rfl, trivial⟩ ?_
    | refine Chk.mk ⟨rfl, rfl, rfl, rfl, trivial⟩ ?_
    | refine Chk.mk ⟨rfl, rfl, rfl, rfl, rfl, trivial⟩ ?_
    | refine Chk.mk ⟨rfl, rfl, rfl, rfl, rfl, rfl, trivial⟩ ?_)
  refine Tri.frame1 1 rfl (scan_Groups hD (layOf 64) ⟨64, 1, 1, 14⟩) ?_
  have hok : ScanOk d.now.length (layOf 64) ⟨64, 1, 1, 14⟩ := by rw [hlen]; exact scanOk64 rfl (by decide) (by decide) (by decide)
  rintro v J2 A' hJ2 ⟨rfl, ⟨h, _⟩ | ⟨_, h, _⟩ | ⟨_, _, aO, capO, gl, rfl, hO, hg⟩⟩
  · exact absurd hok h
  · rw [hcalm.1] at h; cases h
  refine ⟨_, rfl, ?_⟩
  have hpl : placeP (layL d.now.length).toNat ((14 : Int)).toNat (scanL d ⟨64, 1, 1, 14⟩) = 3 := by
    rw [hlen]
    show placeP (layL (64 : Int)).toNat 14 (scanL d ⟨64, ((1 : Nat) : Int), 1, ((14 : Nat) : Int)⟩) = 3
    rw [layL64]
    exact hsc.2
  rw [hpl]
  repeat (first
    | refine LoadD.own 0 rfl _ rfl rfl ?_
    | refine LoadD.own 1 rfl _ rfl rfl ?_
    | refine LoadD.own 2 rfl _ rfl rfl ?_
    | refine LoadP.at 0 rfl _ rfl rfl ?_
    | refine LoadP.at 1 rfl _ rfl rfl ?_
    | refine LoadP.at 2 rfl _ rfl rfl ?_
    | refine StoreD.st 0 rfl rfl rfl ?_
    | refine StoreD.st 1 rfl rfl rfl ?_
    | refine StoreD.st 2 rfl rfl rfl ?_
    | refine CmpD.yes rfl ?_
    | refine CmpD.yes (by decide) ?_
    | refine CmpD.no (by decide) ?_
    | refine Chk.mk ⟨rfl, trivial⟩ ?_
    | refine Chk.mk ⟨rfl, rfl, trivial⟩ ?_
    | refine Chk.mk ⟨rfl, rfl, rfl, trivial⟩ ?_
    | refine Chk.mk ⟨rfl, rfl, rfl, rfl, trivial⟩ ?_
    | refine Chk.mk ⟨rfl, rfl, rfl, rfl, rfl, trivial⟩ ?_
    | refine Chk.mk ⟨rfl, rfl, rfl, rfl, rfl, rfl, trivial⟩ ?_)
  refine Tri.free (same9 J2 aO capO gl _ hO hg aS capS ms _ (hms.mono hJ2) 1 hsc.1 hfew) ?_
  rintro v _ _ _ rfl
  repeat (first
    | refine LoadD.own 0 rfl _ rfl rfl ?_
    | refine LoadD.own 1 rfl _ rfl rfl ?_
    | refine LoadD.own 2 rfl _ rfl rfl ?_
    | refine LoadP.at 0 rfl _ rfl rfl ?_
    | refine LoadP.at 1 rfl _ rfl rfl ?_
    | refine LoadP.at 2 rfl _ rfl rfl ?_
    | refine StoreD.st 0 rfl rfl rfl ?_
    | refine StoreD.st 1 rfl rfl rfl ?_
    | refine StoreD.st 2 rfl rfl rfl ?_
    | refine CmpD.yes rfl ?_
    | refine CmpD.yes (by decide) ?_
    | refine CmpD.no (by decide) ?_
    | refine Chk.mk ⟨rfl, trivial⟩ ?_
    | refine Chk.mk ⟨rfl, rfl, trivial⟩ ?_
    | refine Chk.mk ⟨rfl, rfl, rfl, trivial⟩ ?_
    | refine Chk.mk ⟨rfl, rfl, rfl, rfl, trivial⟩ ?_
    | refine Chk.mk ⟨rfl, rfl, rfl, rfl, rfl, trivial⟩ ?_
    | refine Chk.mk ⟨rfl, rfl, rfl, rfl, rfl, rfl, trivial⟩ ?_)
  exact Done.mk rfl
end Go.Proofs.Ytbpdbgcndfcilaa
namespace Go.Proofs.Ytbpdbgcndfcilaa
open Go.RowKit Go.Sl
set_option maxRecDepth 20000

/-- bytes, as they lie -/
structure Bs where
  a : Option Addr
  len : Nat
  cap : Nat
  data : Dat
@[reducible] def Bs.cell (b : Bs) : Value := .slice b.a b.len b.cap
theorem scanK_get {rb : Nat → Dat} {ep : Int} : ∀ (f at_ : Nat) (seq : Int) (room : Nat) (i : Nat) (h : i < (scanK rb ep f at_ seq room).length), (((scanK rb ep f at_ seq room)[i]).1 : Int) = ep ∧ (((scanK rb ep f at_ seq room)[i]).2.1 : Int) = seq + i
  | 0, _, _, _, i, h => by simp [scanK] at h
  | f + 1, at_, seq, room, i, h => by
    have key : scanK rb ep (f + 1) at_ seq room = (match grpP rb at_ room with
      | none => []
      | some (e, s, l) => if (e : Int) = ep ∧ (s : Int) = seq then (e, s, l) :: scanK rb ep f (at_ + (l.length + 1)) (seq + 1) (room - (l.length + 1)) else []) := rfl
    revert h
    rw [key]
    cases hg : grpP rb at_ room with
    | none => intro h; simp at h
    | some p =>
      obtain ⟨e, s, l⟩ := p
      dsimp only
      split
      · rename_i hc
        intro h
        cases i with
        | zero => exact ⟨hc.1, by simpa using hc.2⟩
        | succ i =>
          have := scanK_get (rb := rb) (ep := ep) f (at_ + (l.length + 1)) (seq + 1) (room - (l.length + 1)) i (by simpa using h)
          simp only [List.getElem_cons_succ]
          refine ⟨this.1, by rw [this.2]; omega⟩
      · intro h; simp at h
theorem sup_right {d : DSt} {s : Sup} (i : Nat) (h : i < (scanL d s).length) : (((scanL d s)[i]).1 : Int) = s.epoch ∧ (((scanL d s)[i]).2.1 : Int) = s.seq + i := scanK_get _ _ _ _ i h
theorem GrpsOk.at' {J : Imm} {gl : List Grp} {L : List G3} (h : GrpsOk J gl L) (i : Nat) (hi : i < gl.length) : ∃ hl : i < L.length, gl[i].e = (L[i].1 : Int) ∧ gl[i].s = (L[i].2.1 : Int) ∧ gl[i].gs.map Img.pr = L[i].2.2 := by
  have hl : i < L.length := by rw [← h.len]; exact hi
  refine ⟨hl, ?_⟩
  have h3 := h.g3
  have : (gl.map Grp.g3)[i]'(by rw [List.length_map]; exact hi) = (L.map up3)[i]'(by rw [List.length_map]; exact hl) := by simp only [h3]
  rw [List.getElem_map, List.getElem_map] at this
  unfold Grp.g3 up3 at this
  simp only [Prod.mk.injEq] at this
  exact this
def grpSum (gl : List Grp) : Nat := (gl.map fun g => g.gs.length + 1).sum
theorem grpSum_eq {J : Imm} {gl : List Grp} {L : List G3} (h : GrpsOk J gl L) : grpSum gl = (L.map fun g => g.2.2.length + 1).sum := by
  unfold grpSum
  congr 1
  refine getElem_eq_of (by simp [h.len]) fun k k1 k2 => ?_
  rw [List.length_map] at k1
  obtain ⟨hl, _, _, h3⟩ := h.at' k k1
  simp only [List.getElem_map]
  have := congrArg List.length h3
  rw [List.length_map] at this
  omega
theorem grpSum_take (gl : List Grp) (k : Nat) : grpSum (gl.take k) ≤ grpSum gl := by
  unfold grpSum
  have e : gl.map (fun g => g.gs.length + 1) = (gl.take k).map (fun g => g.gs.length + 1) ++ (gl.drop k).map (fun g => g.gs.length + 1) := by rw [← List.map_append, List.take_append_drop]
  rw [e, List.sum_append]; omega
theorem grpSum_succ (gl : List Grp) (k : Nat) (h : k < gl.length) : grpSum (gl.take (k + 1)) = grpSum (gl.take k) + (gl[k].gs.length + 1) := by
  unfold grpSum
  rw [List.take_add_one, List.getElem?_eq_getElem h, List.map_append, List.sum_append]; simp
set_option maxHeartbeats 4000000 in
theorem scanAny_walk {I : Imm} (aF : Option Addr) (n capF : Nat) (ls : List Bs) (hln : ls.length = n) (hF : Rds I aF n (ls.map Bs.cell)) (hls : ∀ b ∈ ls, Rds I b.a b.len (bts b.data) ∧ b.len ≤ 140737488351232) (s : Sup) (_hs1 : In64 s.blocks) (hs2 : In64 s.epoch) (hs3 : In64 s.seq) (hs4 : In64 s.tail) :
    Tri Try.prog 5 #[.slice aF n capF, s.v] I [] fun v _ _ => v = .bool true := by
  obtain ⟨s1, s2, s3, s4⟩ := s
  dsimp only at hs2 hs3 hs4
  refine Tri.of (args := [.slice aF n capF, (⟨s1, s2, s3, s4⟩ : Sup).v]) tabOk Try.func5 rfl (by kernel_rfl) (by kernel_rfl) ?_
  conv => whnf
  intro b3
  refine Tri.frameX (written9 I 1 0 (by decide) (by decide) none 0 0 [] rfl (by simp) ⟨rfl, .inl rfl⟩) [] rfl rfl ?_
  rintro v J1 A' hJ1 ⟨bD, chD, aS, capS, ms, rfl, hD, hms, hle, rfl⟩
  have w := wrtP_wi (ep := 1) (tail := 0) (by decide) (by decide) []
  have hcalm := w.calm
  have hlen := w.len
  have hfew := w.few
  have hused := w.used
  have hfew16 := hfew.mono (m := 16) hused
  clear hfew hused w hms
  generalize (wrtP ((1 : Nat) : Int) ((0 : Nat) : Int) []).2.1 = d at *
  repeat (first
    | refine LoadD.own 0 rfl _ rfl rfl ?_
    | refine LoadD.own 1 rfl _ rfl rfl ?_
    | refine LoadD.own 2 rfl _ rfl rfl ?_
    | refine LoadP.at 0 rfl _ rfl rfl ?_
    | refine LoadP.at 1 rfl _ rfl rfl ?_
    | refine LoadP.at 2 rfl _ rfl rfl ?_
    | refine StoreD.st 0 rfl rfl rfl ?_
    | refine StoreD.st 1 rfl rfl rfl ?_
    | refine StoreD.st 2 rfl rfl rfl ?_
    | refine CmpD.yes rfl ?_
    | refine CmpD.yes (by decide) ?_
    | refine CmpD.no (by decide) ?_
    | refine Chk.mk ⟨rfl, trivial⟩ ?_
    | refine Chk.mk ⟨rfl, rfl, trivial⟩ ?_
    | refine Chk.mk ⟨rfl, rfl, rfl, trivial⟩ ?_
    | refine Chk.mk ⟨rfl, rfl, rfl, rfl, trivial⟩ ?_
    | refine Chk.mk ⟨rfl, rfl, rfl, rfl, rfl, trivial⟩ ?_
    | refine Chk.mk ⟨rfl, rfl, rfl, rfl, rfl, rfl, trivial⟩ ?_)
  refine CodeF.loopD [0, 3, 5, 8] (fun vs J' S' => ∃ (i : Nat) (d : DSt) (chD : List Blk), i ≤ n ∧ i ≤ 18 ∧ Dk J' bD d chD ∧ d.Calm ∧ d.now.length = 64 ∧ d.Few (16 + i) ∧ J1.le J' ∧
      vs = [.slice aF n capF, .pointer (some ⟨b3, 0, none⟩), .pointer (some ⟨bD, 0, none⟩), .int .i64 i] ∧ S' = [sBoxS b3 ⟨s1, s2, s3, s4⟩, chD])
    (fun vs _ _ => match vs with | [_, _, _, .int _ i] => ((n : Int) - i).toNat | _ => 0) ?_ ?_
  · exact ⟨_, Drop.pick [0, 1] _ rfl, 0, d, chD, by omega, by omega, hD, hcalm, hlen, hfew16, Imm.le_refl _, rfl, rfl⟩
  clear hD hcalm hlen hfew16
  rintro vs gE J' S' hJ' ⟨i, d, chD, hi, hi18, hD, hcalm, hlen, hfew, hle2, rfl, rfl⟩
  refine CmpD.split (fun c1 => ?_) (fun c1 => ?_)
  focus
    repeat (first
      | refine LoadD.own 0 rfl _ rfl rfl ?_
      | refine LoadD.own 1 rfl _ rfl rfl ?_
      | refine LoadD.own 2 rfl _ rfl rfl ?_
      | refine LoadP.at 0 rfl _ rfl rfl ?_
      | refine LoadP.at 1 rfl _ rfl rfl ?_
      | refine LoadP.at 2 rfl _ rfl rfl ?_
      | refine StoreD.st 0 rfl rfl rfl ?_
      | refine StoreD.st 1 rfl rfl rfl ?_
      | refine StoreD.st 2 rfl rfl rfl ?_
      | refine CmpD.yes rfl ?_
      | refine CmpD.yes (by decide) ?_
      | refine CmpD.no (by decide) ?_
      | refine Chk.mk ⟨rfl, trivial⟩ ?_
      | refine Chk.mk ⟨rfl, rfl, trivial⟩ ?_
      | refine Chk.mk ⟨rfl, rfl, rfl, trivial⟩ ?_
      | refine Chk.mk ⟨rfl, rfl, rfl, rfl, trivial⟩ ?_
      | refine Chk.mk ⟨rfl, rfl, rfl, rfl, rfl, trivial⟩ ?_
      | refine Chk.mk ⟨rfl, rfl, rfl, rfl, rfl, rfl, trivial⟩ ?_)
    refine CmpD.split (fun c2 => ?_) (fun c2 => ?_)
    · have hlt : i < ls.length := by omega
      have hcell : (ls.map Bs.cell)[i]? = some ls[i].cell := by rw [List.getElem?_map, List.getElem?_eq_getElem hlt]; rfl
      have hb := hls _ (List.getElem_mem hlt)
      rcases hF.mem with q0 | ⟨bF, oF, cF, TF, fF, rfl, hIF, hcF⟩
      · omega
      generalize ls[i] = b at *
      have hIJ := Imm.le_trans hJ1 hle2
      repeat (first
        | refine LoadD.own 0 rfl _ rfl rfl ?_
        | refine LoadD.own 1 rfl _ rfl rfl ?_
        | refine LoadD.own 2 rfl _ rfl rfl ?_
        | refine LoadP.at 0 rfl _ rfl rfl ?_
        | refine LoadP.at 1 rfl _ rfl rfl ?_
        | refine LoadP.at 2 rfl _ rfl rfl ?_
        | refine StoreD.st 0 rfl rfl rfl ?_
        | refine StoreD.st 1 rfl rfl rfl ?_
        | refine StoreD.st 2 rfl rfl rfl ?_
        | refine CmpD.yes rfl ?_
        | refine CmpD.yes (by decide) ?_
        | refine CmpD.no (by decide) ?_
        | refine Chk.mk ⟨rfl, trivial⟩ ?_
        | refine Chk.mk ⟨rfl, rfl, trivial⟩ ?_
        | refine Chk.mk ⟨rfl, rfl, rfl, trivial⟩ ?_
        | refine Chk.mk ⟨rfl, rfl, rfl, rfl, trivial⟩ ?_
        | refine Chk.mk ⟨rfl, rfl, rfl, rfl, rfl, trivial⟩ ?_
        | refine Chk.mk ⟨rfl, rfl, rfl, rfl, rfl, rfl, trivial⟩ ?_)
      refine Chk.mk (by omega) ?_
      refine LoadD.imm (hIJ _ _ hIF) [b.cell] (take_get hcF hcell) rfl ?_
      refine Tri.frame (copy_own J' b.a b.len b.cap b.data (hb.1.mono hIJ) (by omega)) [] rfl rfl ?_
      rintro v J2 A' hJ2 ⟨aC, capC, chC, rfl, hC, rfl, rfl⟩
      refine ⟨by simp, ?_⟩
      refine appendZD tabOk rfl rfl rfl rfl rfl rfl rfl rfl 2 rfl hC 4096 rfl rfl (by decide) (by intro v hv; have hv : v ∈ [Value.int .u8 0] := hv; simp at hv; subst hv; rfl) (by show (b.len + 4096) * 1 ≤ _; omega) (by omega) ?_
      intro a2 cap2 ch2 hO2
      have hle3 := hO2.le
      refine sliceD tabOk rfl rfl rfl rfl 0 4096 cap2 rfl ⟨_, rfl⟩ rfl (.inl rfl) (by omega) ?_
      have hp := hO2.part 0 4096 (by omega) (by omega)
      have e0 : bts b.data ++ rows 4096 [Value.int .u8 0] = bts (b.data ++ noughts) := by rw [rows_noughts, bts_append]
      have hp : OwnC ch2 1 (slAddr a2 0 cap2 1) 4096 cap2 (bts ((b.data ++ noughts).take 4096)) := by
        have e1 : List.take ((4096 - 0) * 1) (List.drop (0 * 1) (bts b.data ++ rows 4096 [Value.int .u8 0])) = bts ((b.data ++ noughts).take 4096) := by
          rw [e0]; simp [bts, List.map_take]
        rw [← e1]; exact hp
      repeat (first
        | refine LoadD.own 0 rfl _ rfl rfl ?_
        | refine LoadD.own 1 rfl _ rfl rfl ?_
        | refine LoadD.own 2 rfl _ rfl rfl ?_
        | refine LoadP.at 0 rfl _ rfl rfl ?_
        | refine LoadP.at 1 rfl _ rfl rfl ?_
        | refine LoadP.at 2 rfl _ rfl rfl ?_
        | refine StoreD.st 0 rfl rfl rfl ?_
        | refine StoreD.st 1 rfl rfl rfl ?_
        | refine StoreD.st 2 rfl rfl rfl ?_
        | refine CmpD.yes rfl ?_
        | refine CmpD.yes (by decide) ?_
        | refine CmpD.no (by decide) ?_
        | refine Chk.mk ⟨rfl, trivial⟩ ?_
        | refine Chk.mk ⟨rfl, rfl, trivial⟩ ?_
        | refine Chk.mk ⟨rfl, rfl, rfl, trivial⟩ ?_
        | refine Chk.mk ⟨rfl, rfl, rfl, rfl, trivial⟩ ?_
        | refine Chk.mk ⟨rfl, rfl, rfl, rfl, rfl, trivial⟩ ?_
        | refine Chk.mk ⟨rfl, rfl, rfl, rfl, rfl, rfl, trivial⟩ ?_)
      refine Tri.fix 2 (ch := ch2) rfl fun I3 hI3 hm => ?_
      have hbl : ((b.data ++ noughts).take 4096).length = 4096 := by rw [List.length_take, List.length_append, noughts_length]; omega
      refine Tri.frame1 1 rfl (dk_Write (hD.mono hI3) (hfew.mono (by omega)) i _ 4096 cap2 _ (Rds.of_own hp hm)) ?_
      rw [DSt.write_calm hcalm (n := (i : Int)) (by omega) hbl]
      rintro v J4 A' hJ4 ⟨rfl, chD4, hD4, rfl⟩
      refine ⟨_, rfl, ?_⟩
      repeat (first
        | refine LoadD.own 0 rfl _ rfl rfl ?_
        | refine LoadD.own 1 rfl _ rfl rfl ?_
        | refine LoadD.own 2 rfl _ rfl rfl ?_
        | refine LoadP.at 0 rfl _ rfl rfl ?_
        | refine LoadP.at 1 rfl _ rfl rfl ?_
        | refine LoadP.at 2 rfl _ rfl rfl ?_
        | refine StoreD.st 0 rfl rfl rfl ?_
        | refine StoreD.st 1 rfl rfl rfl ?_
        | refine StoreD.st 2 rfl rfl rfl ?_
        | refine CmpD.yes rfl ?_
        | refine CmpD.yes (by decide) ?_
        | refine CmpD.no (by decide) ?_
        | refine Chk.mk ⟨rfl, trivial⟩ ?_
        | refine Chk.mk ⟨rfl, rfl, trivial⟩ ?_
        | refine Chk.mk ⟨rfl, rfl, rfl, trivial⟩ ?_
        | refine Chk.mk ⟨rfl, rfl, rfl, rfl, trivial⟩ ?_
        | refine Chk.mk ⟨rfl, rfl, rfl, rfl, rfl, trivial⟩ ?_
        | refine Chk.mk ⟨rfl, rfl, rfl, rfl, rfl, rfl, trivial⟩ ?_)
      refine ToD.i64 (by omega) (by omega) ?_
      refine ⟨_, Drop.pick [0, 1] _ rfl, ⟨i + 1, _, chD4, by omega, by omega, hD4, hcalm, by rw [DSt.put_len]; exact hlen, ?_, Imm.le_trans hle2 (Imm.le_trans hI3 hJ4), rfl, rfl⟩, ?_⟩
      · obtain ⟨h1, h2, h3⟩ := hfew
        exact ⟨by show (d.writes ++ [_]).length ≤ _; simp; omega, by show 0 ≤ d.count + 1; omega, by show d.count + 1 ≤ _; omega⟩
      · show ((n : Int) - ((i : Int) + 1)).toNat < ((n : Int) - (i : Int)).toNat; omega
  all_goals
    repeat (first
      | refine LoadD.own 0 rfl _ rfl rfl ?_
      | refine LoadD.own 1 rfl _ rfl rfl ?_
      | refine LoadD.own 2 rfl _ rfl rfl ?_
      | refine LoadP.at 0 rfl _ rfl rfl ?_
      | refine LoadP.at 1 rfl _ rfl rfl ?_
      | refine LoadP.at 2 rfl _ rfl rfl ?_
      | refine StoreD.st 0 rfl rfl rfl ?_
      | refine StoreD.st 1 rfl rfl rfl ?_
      | refine StoreD.st 2 rfl rfl rfl ?_
      | refine CmpD.yes rfl ?_
      | refine CmpD.yes (by decide) ?_
      | refine CmpD.no (by decide) ?_
      | refine Chk.mk ⟨rfl, trivial⟩ ?_
      | refine Chk.mk ⟨rfl, rfl, trivial⟩ ?_
      | refine Chk.mk ⟨rfl, rfl, rfl, trivial⟩ ?_
      | refine Chk.mk ⟨rfl, rfl, rfl, rfl, trivial⟩ ?_
      | refine Chk.mk ⟨rfl, rfl, rfl, rfl, rfl, trivial⟩ ?_
      | refine Chk.mk ⟨rfl, rfl, rfl, rfl, rfl, rfl, trivial⟩ ?_)
    refine CodeF.sched [[], [0], [0, 1], [], [3], [0, 1, 2, 3, 4], [0, 1, 2, 3, 4, 5], [], [7], [0, 1, 2, 3, 4, 5, 7, 8], [0, 1, 2, 3, 4, 5, 7, 8, 9], [0, 1, 3, 4, 7, 8], [0, 1, 2, 3, 4, 5, 7, 8, 9, 11], [0, 1, 2, 3, 4, 5, 7, 8, 9, 11, 12], [0, 1, 2, 3, 4, 5, 7, 8, 9, 11, 12, 13], [0, 1, 2, 3, 4, 5, 6, 7, 8, 9, 11, 12, 13, 14], [0, 1, 2, 3, 4, 5, 6, 7, 8, 9, 11, 12, 13, 14, 15], [0, 1, 2, 3, 4, 5, 6, 7, 8, 9, 10, 11, 12, 13, 14, 15, 16], [0, 1, 2, 3, 4, 5, 6, 7, 8, 9, 10, 11, 12, 13, 14, 15, 16, 17]] [0, 1, 3, 4, 7, 8, 11, 2, 5, 6, 9, 10, 12, 13, 14, 15, 16, 17, 18] (by kernel_rfl) ?_
    repeat (first
      | refine LoadD.own 0 rfl _ rfl rfl ?_
      | refine LoadD.own 1 rfl _ rfl rfl ?_
      | refine LoadD.own 2 rfl _ rfl rfl ?_
      | refine LoadP.at 0 rfl _ rfl rfl ?_
      | refine LoadP.at 1 rfl _ rfl rfl ?_
      | refine LoadP.at 2 rfl _ rfl rfl ?_
      | refine StoreD.st 0 rfl rfl rfl ?_
      | refine StoreD.st 1 rfl rfl rfl ?_
      | refine StoreD.st 2 rfl rfl rfl ?_
      | refine CmpD.yes rfl ?_
      | refine CmpD.yes (by decide) ?_
      | refine CmpD.no (by decide) ?_
      | refine Chk.mk ⟨rfl, trivial⟩ ?_
      | refine Chk.mk ⟨rfl, rfl, trivial⟩ ?_
      | refine Chk.mk ⟨rfl, rfl, rfl, trivial⟩ ?_
      | refine Chk.mk ⟨rfl, rfl, rfl, rfl, trivial⟩ ?_
      | refine Chk.mk ⟨rfl, rfl, rfl, rfl, rfl, trivial⟩ ?_
      | refine Chk.mk ⟨rfl, rfl, rfl, rfl, rfl, rfl, trivial⟩ ?_)
    have hp4 := pickS_range (n := s4) (m := 16) (by decide)
    have hp2 := pickS_range (n := s2) (m := 9) (by decide)
    have hp3 := pickS_range (n := s3) (m := 9) (by decide)
    refine Tri.free (low_Pick s4 16 J' hs4 (by unfold In64; omega)) ?_
    rintro v _ _ hJ4 ⟨rfl, rfl⟩
    repeat (first
      | refine LoadD.own 0 rfl _ rfl rfl ?_
      | refine LoadD.own 1 rfl _ rfl rfl ?_
      | refine LoadD.own 2 rfl _ rfl rfl ?_
      | refine LoadP.at 0 rfl _ rfl rfl ?_
      | refine LoadP.at 1 rfl _ rfl rfl ?_
      | refine LoadP.at 2 rfl _ rfl rfl ?_
      | refine StoreD.st 0 rfl rfl rfl ?_
      | refine StoreD.st 1 rfl rfl rfl ?_
      | refine StoreD.st 2 rfl rfl rfl ?_
      | refine CmpD.yes rfl ?_
      | refine CmpD.yes (by decide) ?_
      | refine CmpD.no (by decide) ?_
      | refine Chk.mk ⟨rfl, trivial⟩ ?_
      | refine Chk.mk ⟨rfl, rfl, trivial⟩ ?_
      | refine Chk.mk ⟨rfl, rfl, rfl, trivial⟩ ?_
      | refine Chk.mk ⟨rfl, rfl, rfl, rfl, trivial⟩ ?_
      | refine Chk.mk ⟨rfl, rfl, rfl, rfl, rfl, trivial⟩ ?_
      | refine Chk.mk ⟨rfl, rfl, rfl, rfl, rfl, rfl, trivial⟩ ?_)
    refine Tri.free (low_Pick s2 9 J' hs2 (by unfold In64; omega)) ?_
    rintro v _ _ hJ5 ⟨rfl, rfl⟩
    repeat (first
      | refine LoadD.own 0 rfl _ rfl rfl ?_
      | refine LoadD.own 1 rfl _ rfl rfl ?_
      | refine LoadD.own 2 rfl _ rfl rfl ?_
      | refine LoadP.at 0 rfl _ rfl rfl ?_
      | refine LoadP.at 1 rfl _ rfl rfl ?_
      | refine LoadP.at 2 rfl _ rfl rfl ?_
      | refine StoreD.st 0 rfl rfl rfl ?_
      | refine StoreD.st 1 rfl rfl rfl ?_
      | refine StoreD.st 2 rfl rfl rfl ?_
      | refine CmpD.yes rfl ?_
      | refine CmpD.yes (by decide) ?_
      | refine CmpD.no (by decide) ?_
      | refine Chk.mk ⟨rfl, trivial⟩ ?_
      | refine Chk.mk ⟨rfl, rfl, trivial⟩ ?_
      | refine Chk.mk ⟨rfl, rfl, rfl, trivial⟩ ?_
      | refine Chk.mk ⟨rfl, rfl, rfl, rfl, trivial⟩ ?_
      | refine Chk.mk ⟨rfl, rfl, rfl, rfl, rfl, trivial⟩ ?_
      | refine Chk.mk ⟨rfl, rfl, rfl, rfl, rfl, rfl, trivial⟩ ?_)
    refine ToD.i64 (by omega) (by omega) ?_
    refine Tri.free (low_Pick s3 9 J' hs3 (by unfold In64; omega)) ?_
    rintro v _ _ hJ6 ⟨rfl, rfl⟩
    repeat (first
      | refine LoadD.own 0 rfl _ rfl rfl ?_
      | refine LoadD.own 1 rfl _ rfl rfl ?_
      | refine LoadD.own 2 rfl _ rfl rfl ?_
      | refine LoadP.at 0 rfl _ rfl rfl ?_
      | refine LoadP.at 1 rfl _ rfl rfl ?_
      | refine LoadP.at 2 rfl _ rfl rfl ?_
      | refine StoreD.st 0 rfl rfl rfl ?_
      | refine StoreD.st 1 rfl rfl rfl ?_
      | refine StoreD.st 2 rfl rfl rfl ?_
      | refine CmpD.yes rfl ?_
      | refine CmpD.yes (by decide) ?_
      | refine CmpD.no (by decide) ?_
      | refine Chk.mk ⟨rfl, trivial⟩ ?_
      | refine Chk.mk ⟨rfl, rfl, trivial⟩ ?_
      | refine Chk.mk ⟨rfl, rfl, rfl, trivial⟩ ?_
      | refine Chk.mk ⟨rfl, rfl, rfl, rfl, trivial⟩ ?_
      | refine Chk.mk ⟨rfl, rfl, rfl, rfl, rfl, trivial⟩ ?_
      | refine Chk.mk ⟨rfl, rfl, rfl, rfl, rfl, rfl, trivial⟩ ?_)
    refine ToD.i64 (by omega) (by omega) ?_
    repeat (first
      | refine LoadD.own 0 rfl _ rfl rfl ?_
      | refine LoadD.own 1 rfl _ rfl rfl ?_
      | refine LoadD.own 2 rfl _ rfl rfl ?_
      | refine LoadP.at 0 rfl _ rfl rfl ?_
      | refine LoadP.at 1 rfl _ rfl rfl ?_
      | refine LoadP.at 2 rfl _ rfl rfl ?_
      | refine StoreD.st 0 rfl rfl rfl ?_
      | refine StoreD.st 1 rfl rfl rfl ?_
      | refine StoreD.st 2 rfl rfl rfl ?_
      | refine CmpD.yes rfl ?_
      | refine CmpD.yes (by decide) ?_
      | refine CmpD.no (by decide) ?_
      | refine Chk.mk ⟨rfl, trivial⟩ ?_
      | refine Chk.mk ⟨rfl, rfl, trivial⟩ ?_
      | refine Chk.mk ⟨rfl, rfl, rfl, trivial⟩ ?_
      | refine Chk.mk ⟨rfl, rfl, rfl, rfl, trivial⟩ ?_
      | refine Chk.mk ⟨rfl, rfl, rfl, rfl, rfl, trivial⟩ ?_
      | refine Chk.mk ⟨rfl, rfl, rfl, rfl, rfl, rfl, trivial⟩ ?_)
    obtain ⟨p4, hp4e⟩ : ∃ p : Nat, pickS s4 16 = p := ⟨(pickS s4 16).toNat, by omega⟩
    obtain ⟨p2, hp2e⟩ : ∃ p : Int, 1 + pickS s2 9 = p := ⟨_, rfl⟩
    obtain ⟨p3, hp3e⟩ : ∃ p : Int, 1 + pickS s3 9 = p := ⟨_, rfl⟩
    rw [hp4e, hp2e, hp3e]
    refine CodeF.sched [[], [], [], [0, 1, 2], [0, 1, 2, 3], [0, 1, 2, 3, 4], [0, 1, 2, 3, 4], [0, 1, 2, 3, 4], [0, 1, 2, 3, 4, 5], [0, 1, 2, 3, 4, 5, 6, 8], [0, 1, 2, 3, 4, 5, 6, 7, 8, 9]] [0, 2, 1, 3, 4, 5, 6, 7, 8, 9, 10] (by kernel_rfl) ?_
    repeat (first
      | refine LoadD.own 0 rfl _ rfl rfl ?_
      | refine LoadD.own 1 rfl _ rfl rfl ?_
      | refine LoadD.own 2 rfl _ rfl rfl ?_
      | refine LoadP.at 0 rfl _ rfl rfl ?_
      | refine LoadP.at 1 rfl _ rfl rfl ?_
      | refine LoadP.at 2 rfl _ rfl rfl ?_
      | refine StoreD.st 0 rfl rfl rfl ?_
      | refine StoreD.st 1 rfl rfl rfl ?_
      | refine StoreD.st 2 rfl rfl rfl ?_
      | refine CmpD.yes rfl ?_
      | refine CmpD.yes (by decide) ?_
      | refine CmpD.no (by decide) ?_
      | refine Chk.mk ⟨rfl, trivial⟩ ?_
      | refine Chk.mk ⟨rfl, rfl, trivial⟩ ?_
      | refine Chk.mk ⟨rfl, rfl, rfl, trivial⟩ ?_
      | refine Chk.mk ⟨rfl, rfl, rfl, rfl, trivial⟩ ?_
      | refine Chk.mk ⟨rfl, rfl, rfl, rfl, rfl, trivial⟩ ?_
      | refine Chk.mk ⟨rfl, rfl, rfl, rfl, rfl, rfl, trivial⟩ ?_)
    refine Tri.free (layout9 J') ?_
    rintro v _ _ _ ⟨rfl, rfl⟩
    repeat (first
      | refine LoadD.own 0 rfl _ rfl rfl ?_
      | refine LoadD.own 1 rfl _ rfl rfl ?_
      | refine LoadD.own 2 rfl _ rfl rfl ?_
      | refine LoadP.at 0 rfl _ rfl rfl ?_
      | refine LoadP.at 1 rfl _ rfl rfl ?_
      | refine LoadP.at 2 rfl _ rfl rfl ?_
      | refine StoreD.st 0 rfl rfl rfl ?_
      | refine StoreD.st 1 rfl rfl rfl ?_
      | refine StoreD.st 2 rfl rfl rfl ?_
      | refine CmpD.yes rfl ?_
      | refine CmpD.yes (by decide) ?_
      | refine CmpD.no (by decide) ?_
      | refine Chk.mk ⟨rfl, trivial⟩ ?_
      | refine Chk.mk ⟨rfl, rfl, trivial⟩ ?_
      | refine Chk.mk ⟨rfl, rfl, rfl, trivial⟩ ?_
      | refine Chk.mk ⟨rfl, rfl, rfl, rfl, trivial⟩ ?_
      | refine Chk.mk ⟨rfl, rfl, rfl, rfl, rfl, trivial⟩ ?_
      | refine Chk.mk ⟨rfl, rfl, rfl, rfl, rfl, rfl, trivial⟩ ?_)
    refine Tri.frame1 1 rfl (scan_Groups hD (layOf 64) ⟨64, p2, p3, p4⟩) ?_
    have hok : ScanOk d.now.length (layOf 64) ⟨64, p2, p3, p4⟩ := by rw [hlen]; exact scanOk64 rfl (by omega) (by omega) (by omega)
    rintro v J2 A' hJ2 ⟨rfl, ⟨h, _⟩ | ⟨_, h, _⟩ | ⟨_, _, aO, capO, gl, rfl, hO, hg⟩⟩
    · exact absurd hok h
    · rw [hcalm.1] at h; cases h
    refine ⟨_, rfl, ?_⟩
    have hgl := hg.len
    have hsum := grpSum_eq hg
    have hbd : ((scanL d ⟨64, p2, p3, p4⟩).map fun g => g.2.2.length + 1).sum ≤ 16 ∧ (scanL d ⟨64, p2, p3, p4⟩).length ≤ 16 := by
      have h1 := scan_bound (rb := rbP d 2 (layL (d.now.length : Int)).toNat) (ep := p2) ((layL (d.now.length : Int)).toNat + 1) ((p4 : Nat) : Int).toNat p3 (layL (d.now.length : Int)).toNat
      have h2 : (layL (d.now.length : Int)).toNat = 16 := by rw [hlen]; rfl
      unfold scanL
      rw [h2] at h1 ⊢
      exact ⟨h1.2, h1.1⟩
    have hpl : placeP (layL d.now.length).toNat ((p4 : Nat) : Int).toNat (scanL d ⟨64, p2, p3, p4⟩) = (p4 + grpSum gl) % 16 := by
      unfold placeP
      rw [hlen, ← hsum]; rfl
    rw [hpl]
    rw [← hsum, ← hgl] at hbd
    have hnums := fun (k : Nat) (k1 : k < gl.length) => (hg.at' k k1)
    have hnum : ∀ (k : Nat) (k1 : k < gl.length), gl[k].e = p2 ∧ gl[k].s = p3 + k := by
      intro k k1
      obtain ⟨hl, h1, h2, _⟩ := hg.at' k k1
      have := sup_right k hl
      rw [h1, h2]
      exact this
    have hrr : (1 ≤ p3 ∧ p3 ≤ 9) ∧ (1 ≤ p2 ∧ p2 ≤ 9) ∧ p4 < 16 := by omega
    clear hnums hp4e hp2e hp3e hg
    have hsumk := grpSum_take gl
    repeat (first
      | refine LoadD.own 0 rfl _ rfl rfl ?_
      | refine LoadD.own 1 rfl _ rfl rfl ?_
      | refine LoadD.own 2 rfl _ rfl rfl ?_
      | refine LoadP.at 0 rfl _ rfl rfl ?_
      | refine LoadP.at 1 rfl _ rfl rfl ?_
      | refine LoadP.at 2 rfl _ rfl rfl ?_
      | refine StoreD.st 0 rfl rfl rfl ?_
      | refine StoreD.st 1 rfl rfl rfl ?_
      | refine StoreD.st 2 rfl rfl rfl ?_
      | refine CmpD.yes rfl ?_
      | refine CmpD.yes (by decide) ?_
      | refine CmpD.no (by decide) ?_
      | refine Chk.mk ⟨rfl, trivial⟩ ?_
      | refine Chk.mk ⟨rfl, rfl, trivial⟩ ?_
      | refine Chk.mk ⟨rfl, rfl, rfl, trivial⟩ ?_
      | refine Chk.mk ⟨rfl, rfl, rfl, rfl, trivial⟩ ?_
      | refine Chk.mk ⟨rfl, rfl, rfl, rfl, rfl, trivial⟩ ?_
      | refine Chk.mk ⟨rfl, rfl, rfl, rfl, rfl, rfl, trivial⟩ ?_)
    refine CodeF.loopD [3, 10, 11, 12, 13, 14] (fun vs J3 S' => ∃ k : Nat, k ≤ gl.length ∧ vs = [.pointer (some ⟨b3, 0, none⟩), .slice aO gl.length capO, .int .i64 ((p4 + grpSum gl) % 16 : Nat), .int .i64 0, .int .i64 (grpSum (gl.take k) : Nat), .int .i64 k] ∧ J2 = J3 ∧ S' = [sBoxS b3 ⟨64, p2, p3, p4⟩])
      (fun vs _ _ => match vs with | [_, _, _, _, _, .int _ k] => ((gl.length : Int) - k).toNat | _ => 0) ?_ ?_
    · exact ⟨_, Drop.pick [0] _ rfl, 0, by omega, rfl, rfl, rfl⟩
    rintro vs gE2 J3 S3 hJ3 ⟨k, hk, rfl, rfl, rfl⟩
    have hsk := hsumk k
    refine CmpD.split (fun c3 => ?_) (fun c3 => ?_)
    · have hlt : k < gl.length := by omega
      have k0 := grpCells_0 hlt
      have k1 := grpCells_1 hlt
      have k2 := grpCells_2 hlt
      obtain ⟨n1, n2⟩ := hnum k hlt
      have htk : gl.take (k + 1) = gl.take k ++ [gl[k]] := by rw [List.take_add_one, List.getElem?_eq_getElem hlt]; rfl
      have hs1 := grpSum_succ gl k hlt
      have hsk1 := hsumk (k + 1)
      rw [hs1] at hsk1
      rcases hO.mem with q0 | ⟨bO, oO, cO, TO, fO, rfl, hIO, hcO⟩
      · omega
      generalize gl[k] = g at *
      have t0 : (cO.drop (oO + k * 3)).take 1 = [.int .i64 g.e] := take_get hcO k0
      have t1 : (cO.drop (oO + (k * 3 + 1))).take 1 = [.int .i64 g.s] := take_get hcO k1
      have t2 : (cO.drop (oO + (k * 3 + 2))).take 1 = [.slice g.a g.gs.length g.cap] := take_get hcO k2
      refine Chk.mk (by omega) ?_
      refine LoadD.imm hIO [.slice g.a g.gs.length g.cap] t2 rfl ?_
      refine ToD.i64 (by omega) (by omega) ?_
      refine ToD.to ((grpSum (gl.take (k + 1)) : Nat) : Int) (by rw [wrap_i64 (by omega) (by omega), hs1]; omega) ?_
      refine CodeF.sched [[], [], [0, 1], [0, 1, 2], [0, 1, 2, 3], [], [5], [0, 1, 2, 3, 4, 5, 6], [0, 1, 2, 3, 4, 5, 6, 7], [0, 1, 2, 3, 4, 5, 6, 7, 8], [0, 1, 2, 3, 4, 5, 6, 7, 8], [0, 1, 2, 3, 4, 5, 6, 7, 8, 9, 10], [0, 1, 2, 3, 4, 5, 6, 7, 8, 9, 10, 11], [0, 1, 2, 3, 4, 5, 6, 7, 8, 9, 10, 11, 12], [0, 1, 2, 3, 4, 5, 6, 7, 8], [0, 1, 2, 3, 4, 5, 6, 7, 8, 14], [0, 1, 2, 3, 4, 5, 6, 7, 8], [0, 1, 2, 3, 4, 5, 6, 7, 8, 14, 15, 16], [0, 1, 2, 3, 4, 5, 6, 7, 8, 9, 10, 11, 12, 13, 14, 15, 16, 17], [0, 1, 2, 3, 4, 5, 6, 7, 8, 9, 10, 11, 12, 13, 14, 15, 16, 17, 18]] [0, 1, 2, 3, 4, 5, 6, 7, 8, 9, 10, 11, 12, 13, 14, 15, 16, 17, 18, 19] (by kernel_rfl) ?_
      repeat (first
        | refine LoadD.own 0 rfl _ rfl rfl ?_
        | refine LoadP.at 0 rfl _ rfl rfl ?_
        | refine StoreD.st 0 rfl rfl rfl ?_
        | refine CmpD.yes rfl ?_
        | refine CmpD.yes (by decide) ?_
        | refine CmpD.no (by decide) ?_
        | refine Chk.mk ⟨rfl, trivial⟩ ?_
        | refine Chk.mk ⟨rfl, rfl, trivial⟩ ?_
        | refine Chk.mk ⟨rfl, rfl, rfl, trivial⟩ ?_
        | refine Chk.mk ⟨rfl, rfl, rfl, rfl, trivial⟩ ?_
        | refine Chk.mk ⟨rfl, rfl, rfl, rfl, rfl, trivial⟩ ?_
        | refine Chk.mk ⟨rfl, rfl, rfl, rfl, rfl, rfl, trivial⟩ ?_)
      refine Chk.mk (by omega) ?_
      refine LoadP.imm [.int .i64 g.e] ⟨cO, TO, fO, .imm hIO, t0, rfl⟩ ?_
      repeat (first
        | refine LoadD.own 0 rfl _ rfl rfl ?_
        | refine LoadP.at 0 rfl _ rfl rfl ?_
        | refine StoreD.st 0 rfl rfl rfl ?_
        | refine CmpD.yes rfl ?_
        | refine CmpD.yes (by decide) ?_
        | refine CmpD.no (by decide) ?_
        | refine Chk.mk ⟨rfl, trivial⟩ ?_
        | refine Chk.mk ⟨rfl, rfl, trivial⟩ ?_
        | refine Chk.mk ⟨rfl, rfl, rfl, trivial⟩ ?_
        | refine Chk.mk ⟨rfl, rfl, rfl, rfl, trivial⟩ ?_
        | refine Chk.mk ⟨rfl, rfl, rfl, rfl, rfl, trivial⟩ ?_
        | refine Chk.mk ⟨rfl, rfl, rfl, rfl, rfl, rfl, trivial⟩ ?_)
      refine CmpD.yes n1 ?_
      repeat (first
        | refine LoadD.own 0 rfl _ rfl rfl ?_
        | refine LoadP.at 0 rfl _ rfl rfl ?_
        | refine StoreD.st 0 rfl rfl rfl ?_
        | refine CmpD.yes rfl ?_
        | refine CmpD.yes (by decide) ?_
        | refine CmpD.no (by decide) ?_
        | refine Chk.mk ⟨rfl, trivial⟩ ?_
        | refine Chk.mk ⟨rfl, rfl, trivial⟩ ?_
        | refine Chk.mk ⟨rfl, rfl, rfl, trivial⟩ ?_
        | refine Chk.mk ⟨rfl, rfl, rfl, rfl, trivial⟩ ?_
        | refine Chk.mk ⟨rfl, rfl, rfl, rfl, rfl, trivial⟩ ?_
        | refine Chk.mk ⟨rfl, rfl, rfl, rfl, rfl, rfl, trivial⟩ ?_)
      refine Chk.mk (by omega) ?_
      refine LoadP.imm [.int .i64 g.s] ⟨cO, TO, fO, .imm hIO, t1, rfl⟩ ?_
      repeat (first
        | refine LoadD.own 0 rfl _ rfl rfl ?_
        | refine LoadP.at 0 rfl _ rfl rfl ?_
        | refine StoreD.st 0 rfl rfl rfl ?_
        | refine CmpD.yes rfl ?_
        | refine CmpD.yes (by decide) ?_
        | refine CmpD.no (by decide) ?_
        | refine Chk.mk ⟨rfl, trivial⟩ ?_
        | refine Chk.mk ⟨rfl, rfl, trivial⟩ ?_
        | refine Chk.mk ⟨rfl, rfl, rfl, trivial⟩ ?_
        | refine Chk.mk ⟨rfl, rfl, rfl, rfl, trivial⟩ ?_
        | refine Chk.mk ⟨rfl, rfl, rfl, rfl, rfl, trivial⟩ ?_
        | refine Chk.mk ⟨rfl, rfl, rfl, rfl, rfl, rfl, trivial⟩ ?_)
      refine ToD.to (p3 + k) (by show IntKind.i64.wrap (p3 + (k : Int)) = _; exact wrap_i64 (by omega) (by omega)) ?_
      refine CmpD.yes n2 ?_
      repeat (first
        | refine LoadD.own 0 rfl _ rfl rfl ?_
        | refine LoadP.at 0 rfl _ rfl rfl ?_
        | refine StoreD.st 0 rfl rfl rfl ?_
        | refine CmpD.yes rfl ?_
        | refine CmpD.yes (by decide) ?_
        | refine CmpD.no (by decide) ?_
        | refine Chk.mk ⟨rfl, trivial⟩ ?_
        | refine Chk.mk ⟨rfl, rfl, trivial⟩ ?_
        | refine Chk.mk ⟨rfl, rfl, rfl, trivial⟩ ?_
        | refine Chk.mk ⟨rfl, rfl, rfl, rfl, trivial⟩ ?_
        | refine Chk.mk ⟨rfl, rfl, rfl, rfl, rfl, trivial⟩ ?_
        | refine Chk.mk ⟨rfl, rfl, rfl, rfl, rfl, rfl, trivial⟩ ?_)
      refine ToD.i64 (by omega) (by omega) ?_
      refine ⟨_, Drop.pick [0] _ rfl, ⟨k + 1, by omega, rfl, rfl, rfl⟩, ?_⟩
      show ((gl.length : Int) - ((k : Int) + 1)).toNat < ((gl.length : Int) - (k : Int)).toNat; omega
    · obtain rfl : k = gl.length := by omega
      rw [List.take_length]
      repeat (first
        | refine LoadD.own 0 rfl _ rfl rfl ?_
        | refine LoadP.at 0 rfl _ rfl rfl ?_
        | refine StoreD.st 0 rfl rfl rfl ?_
        | refine CmpD.yes rfl ?_
        | refine CmpD.yes (by decide) ?_
        | refine CmpD.no (by decide) ?_
        | refine Chk.mk ⟨rfl, trivial⟩ ?_
        | refine Chk.mk ⟨rfl, rfl, trivial⟩ ?_
        | refine Chk.mk ⟨rfl, rfl, rfl, trivial⟩ ?_
        | refine Chk.mk ⟨rfl, rfl, rfl, rfl, trivial⟩ ?_
        | refine Chk.mk ⟨rfl, rfl, rfl, rfl, rfl, trivial⟩ ?_
        | refine Chk.mk ⟨rfl, rfl, rfl, rfl, rfl, rfl, trivial⟩ ?_)
      refine CmpD.yes (by omega) ?_
      repeat (first
        | refine LoadD.own 0 rfl _ rfl rfl ?_
        | refine LoadP.at 0 rfl _ rfl rfl ?_
        | refine StoreD.st 0 rfl rfl rfl ?_
        | refine CmpD.yes rfl ?_
        | refine CmpD.yes (by decide) ?_
        | refine CmpD.no (by decide) ?_
        | refine Chk.mk ⟨rfl, trivial⟩ ?_
        | refine Chk.mk ⟨rfl, rfl, trivial⟩ ?_
        | refine Chk.mk ⟨rfl, rfl, rfl, trivial⟩ ?_
        | refine Chk.mk ⟨rfl, rfl, rfl, rfl, trivial⟩ ?_
        | refine Chk.mk ⟨rfl, rfl, rfl, rfl, rfl, trivial⟩ ?_
        | refine Chk.mk ⟨rfl, rfl, rfl, rfl, rfl, rfl, trivial⟩ ?_)
      refine ToD.to ((p4 + grpSum gl : Nat) : Int) (by show IntKind.i64.wrap ((p4 : Int) + _) = _; rw [wrap_i64 (by omega) (by omega)]; omega) ?_
      refine Chk.mk (by decide) ?_
      refine ToD.to (((p4 + grpSum gl) % 16 : Nat) : Int) (tmod_nat _ 16) ?_
      refine CmpD.yes rfl ?_
      repeat (first
        | refine LoadD.own 0 rfl _ rfl rfl ?_
        | refine LoadP.at 0 rfl _ rfl rfl ?_
        | refine StoreD.st 0 rfl rfl rfl ?_
        | refine CmpD.yes rfl ?_
        | refine CmpD.yes (by decide) ?_
        | refine CmpD.no (by decide) ?_
        | refine Chk.mk ⟨rfl, trivial⟩ ?_
        | refine Chk.mk ⟨rfl, rfl, trivial⟩ ?_
        | refine Chk.mk ⟨rfl, rfl, rfl, trivial⟩ ?_
        | refine Chk.mk ⟨rfl, rfl, rfl, rfl, trivial⟩ ?_
        | refine Chk.mk ⟨rfl, rfl, rfl, rfl, rfl, trivial⟩ ?_
        | refine Chk.mk ⟨rfl, rfl, rfl, rfl, rfl, rfl, trivial⟩ ?_)
      refine Tri.mono (awake09 _ _) ?_
      rintro v J4 S4 hJ4 rfl
      repeat (first
        | refine LoadD.own 0 rfl _ rfl rfl ?_
        | refine LoadP.at 0 rfl _ rfl rfl ?_
        | refine StoreD.st 0 rfl rfl rfl ?_
        | refine CmpD.yes rfl ?_
        | refine CmpD.yes (by decide) ?_
        | refine CmpD.no (by decide) ?_
        | refine Chk.mk ⟨rfl, trivial⟩ ?_
        | refine Chk.mk ⟨rfl, rfl, trivial⟩ ?_
        | refine Chk.mk ⟨rfl, rfl, rfl, trivial⟩ ?_
        | refine Chk.mk ⟨rfl, rfl, rfl, rfl, trivial⟩ ?_
        | refine Chk.mk ⟨rfl, rfl, rfl, rfl, rfl, trivial⟩ ?_
        | refine Chk.mk ⟨rfl, rfl, rfl, rfl, rfl, rfl, trivial⟩ ?_)
      exact Done.mk rfl
end Go.Proofs.Ytbpdbgcndfcilaa
namespace Go.Proofs.Ytbpdbgcndfcilaa
open Go.RowKit Go.Sl
set_option maxRecDepth 20000

theorem bulk_one {H : Type} (d : DataW H) : 1 ≤ Rows.uptoBulk d := by
  cases d with
  | lit l => cases l <;> simp [Rows.uptoBulk]
  | nil => simp [Rows.uptoBulk]
  | ptr d => simp [Rows.uptoBulk]
  | slice elems spare => simp [Rows.uptoBulk]
  | agg parts => simp [Rows.uptoBulk]
  | iface t d => simp [Rows.uptoBulk]
  | map entries => simp [Rows.uptoBulk]
  | held h => simp [Rows.uptoBulk]
theorem bulk_append {H : Type} (l r : List (DataW H)) : Rows.uptoBulkAll (l ++ r) = Rows.uptoBulkAll l + Rows.uptoBulkAll r := by
  induction l with
  | nil => simp [Rows.uptoBulkAll]
  | cons x l ih => simp only [List.cons_append, Rows.uptoBulkAll, ih]; omega
theorem bulk_sum {H : Type} (D : Nat → DataW H) (F : Nat → Nat) : ∀ n, (∀ i, i < n → F i ≤ Rows.uptoBulk (D i)) → ((List.range n).map F).sum ≤ Rows.uptoBulkAll ((List.range n).map D)
  | 0, _ => by simp
  | n + 1, h => by
    have := bulk_sum D F n (fun i hi => h i (by omega))
    have := h n (by omega)
    rw [List.range_succ, List.map_append, List.map_append, List.sum_append, bulk_append]
    simp [Rows.uptoBulkAll]
    omega
theorem bulk_slice {H : Type} {d : DataW H} {len : Nat} {D : Nat → DataW H} (h : (d = .nil ∧ len = 0) ∨ ∃ R, d = .slice ((List.range len).map D) R) (F : Nat → Nat) (hF : ∀ i, i < len → F i ≤ Rows.uptoBulk (D i)) : ((List.range len).map F).sum + 1 ≤ Rows.uptoBulk d := by
  rcases h with ⟨rfl, rfl⟩ | ⟨R, rfl⟩
  · simp [Rows.uptoBulk]
  · have := bulk_sum D F len hF
    simp only [Rows.uptoBulk]
    omega
section
variable {H : Type} {enc : TypeId × Value → H} {W : World} {held : Bool} {fuel : Nat}
theorem open_bytes {c0 : Value} {x : DataW H × List MemPlace} (h : DataW.trod enc Try.prog W 0 (fun _ => true) held fuel 60 [c0] = some x) :
    ∃ (a : Option Addr) (len cap : Nat) (l : Dat), c0 = .slice a len cap ∧ len ≤ cap ∧ cap ≤ maxLen ∧ l.length = len ∧ Rds (base W) a len (bts l) ∧ len + 1 ≤ Rows.uptoBulk x.1 := by
  obtain ⟨a, len, cap, vs, D, rfl, hlc, hcm, hel, hR, hD⟩ := open_elems Try.underlying60 (k := 1) (by kernel_rfl) (by omega) h
  obtain ⟨z, hz⟩ := Go.Deep.choose_lt (α := UInt8) (n := len) (p := fun i z => vs i = [byte z]) (fun i hi => by
    obtain ⟨hl, n, Pl, ht⟩ := hel i hi
    obtain ⟨m, h1, _, hw⟩ := DataW.trod_int Try.underlying5 ht
    have : 0 ≤ m ∧ m < 256 := by simp [Lit.wf, IntKind.min, IntKind.max, IntKind.signed, IntKind.bits] at hw; omega
    refine ⟨UInt8.ofNat m.toNat, ?_⟩
    rw [h1]
    simp only [byte, UInt8.toNat_ofNat']
    congr 2
    omega)
  refine ⟨a, len, cap, (List.range len).map z, rfl, hlc, hcm, by simp, ?_, ?_⟩
  · rw [Nat.mul_one] at hR
    have e : (List.range len).flatMap vs = bts ((List.range len).map z) := by
      rw [Go.Deep.flatMap_congr_range (fun i hi => hz i hi)]
      unfold bts
      rw [List.map_map]
      induction List.range len with
      | nil => rfl
      | cons y l ih => simp [ih]
    rw [← e]; exact hR
  · have h1 := bulk_slice hD (fun _ => 1) (fun i _ => bulk_one _)
    have h2 : ((List.range len).map fun _ => 1).sum = len := by
      have : ∀ n : Nat, ((List.range n).map fun _ => 1).sum = n := by
        intro n
        induction n with
        | zero => rfl
        | succ n ih => rw [List.range_succ, List.map_append, List.sum_append, ih]; rfl
      exact this len
    omega
instance : Inhabited Img := ⟨⟨0, none, 0, 0, []⟩⟩
end
end Go.Proofs.Ytbpdbgcndfcilaa
namespace Go.Proofs.Ytbpdbgcndfcilaa
open Go.RowKit Go.Sl
set_option maxRecDepth 20000

theorem weightsAll_mem {H : Type} {P : Program} {e : TypeId} : ∀ (l : List (DataW H)), (DataW.weightsAll P e l).all (· ≤ reachBytes) = true → ∀ d ∈ l, (d.weights P e).all (· ≤ reachBytes) = true
  | [], _, d, hd => by simp at hd
  | x :: l, h, d, hd => by
    simp only [DataW.weightsAll, List.all_append, Bool.and_eq_true] at h
    rcases List.mem_cons.1 hd with rfl | hd
    · exact h.1
    · exact weightsAll_mem l h.2 d hd
theorem slice_weights {H : Type} {P : Program} {t e : TypeId} (ht : P.underlying t = some (.slice e)) {d : DataW H} {len : Nat} {D : Nat → DataW H} (hD : (d = .nil ∧ len = 0) ∨ ∃ R, d = .slice ((List.range len).map D) R) (h : (d.weights P t).all (· ≤ reachBytes) = true) :
    len * P.bytesOf e ≤ reachBytes ∧ ∀ i, i < len → ((D i).weights P e).all (· ≤ reachBytes) = true := by
  rcases hD with ⟨rfl, rfl⟩ | ⟨R, rfl⟩
  · exact ⟨by rw [Nat.zero_mul]; exact Nat.zero_le _, fun i hi => by omega⟩
  · simp only [DataW.weights, ht, List.all_cons, List.all_append, Bool.and_eq_true, List.length_map, List.length_range, decide_eq_true_eq] at h
    refine ⟨Nat.le_trans (Nat.mul_le_mul_right _ (Nat.le_add_right _ _)) h.1, fun i hi => weightsAll_mem _ h.2.1 _ (List.mem_map_of_mem (List.mem_range.2 hi))⟩
section
variable {H : Type} {enc : TypeId × Value → H} {W : World} {held : Bool} {fuel : Nat}
theorem bytes_weights {a : Option Addr} {len cap : Nat} {x : DataW H × List MemPlace} (h : DataW.trod enc Try.prog W 0 (fun _ => true) held fuel 60 [.slice a len cap] = some x) (hw : (x.1.weights Try.prog 60).all (· ≤ reachBytes) = true) : len ≤ reachBytes := by
  obtain ⟨a', len', cap', vs, D, e, _, _, _, _, hD⟩ := open_elems Try.underlying60 (k := 1) (by kernel_rfl) (by omega) h
  cases e
  have := (slice_weights Try.underlying60 hD hw).1
  rwa [show Try.prog.bytesOf 5 = 1 from by kernel_rfl, Nat.mul_one] at this
theorem open_lists {c0 : Value} {x : DataW H × List MemPlace} (h : DataW.trod enc Try.prog W 0 (fun _ => true) held fuel 54 [c0] = some x) :
    ∃ (a : Option Addr) (len cap : Nat) (ls : List Bs), c0 = .slice a len cap ∧ len ≤ cap ∧ ls.length = len ∧ Rds (base W) a len (ls.map Bs.cell) ∧ (∀ b ∈ ls, Rds (base W) b.a b.len (bts b.data)) ∧ ((x.1.weights Try.prog 54).all (· ≤ reachBytes) = true → ∀ b ∈ ls, b.len ≤ reachBytes) := by
  obtain ⟨a, len, cap, vs, D, rfl, hlc, hcm, hel, hR, hD⟩ := open_elems Try.underlying54 (k := 1) (by kernel_rfl) (by omega) h
  have : Inhabited Bs := ⟨⟨none, 0, 0, []⟩⟩
  obtain ⟨z, hz⟩ := Go.Deep.choose_lt (α := Bs) (n := len) (p := fun i b => vs i = [b.cell] ∧ Rds (base W) b.a b.len (bts b.data) ∧ (((D i).weights Try.prog 60).all (· ≤ reachBytes) = true → b.len ≤ reachBytes)) (fun i hi => by
    obtain ⟨hl, n, Pl, ht⟩ := hel i hi
    match hv : vs i, hl with
    | [v0], _ =>
    rw [hv] at ht
    obtain ⟨a1, len1, cap1, l1, rfl, _, _, hl1, hR1, _⟩ := open_bytes ht
    exact ⟨⟨a1, len1, cap1, l1⟩, rfl, hR1, fun hw => bytes_weights ht hw⟩)
  refine ⟨a, len, cap, (List.range len).map z, rfl, hlc, by simp, ?_, ?_, ?_⟩
  · rw [Nat.mul_one] at hR
    have e : (List.range len).flatMap vs = ((List.range len).map z).map Bs.cell := by
      rw [Go.Deep.flatMap_congr_range (fun i hi => (hz i hi).1), List.map_map]
      induction List.range len with
      | nil => rfl
      | cons y l ih => simp [ih]
    rw [← e]; exact hR
  · intro b hb
    obtain ⟨i, hi, rfl⟩ := List.mem_map.1 hb
    exact (hz i (List.mem_range.1 hi)).2.1
  · intro hw b hb
    obtain ⟨i, hi, rfl⟩ := List.mem_map.1 hb
    have hi := List.mem_range.1 hi
    exact (hz i hi).2.2 ((slice_weights Try.underlying54 hD hw).2 i hi)
end
end Go.Proofs.Ytbpdbgcndfcilaa

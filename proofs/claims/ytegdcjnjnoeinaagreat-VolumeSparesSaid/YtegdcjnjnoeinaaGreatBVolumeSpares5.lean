/- Texts of this claim laid together: Wi, ScanP, WhP, WhL, Mount, Ckpt, Rf10c, Rf4c, Rf4d, Rf4e, Rf4f, Rf4g, Rf4h, Rf10d, Ref03b, Ref03c, Rf10a, Image, JournalNumbers, ReplayNumbers, ReplayTells, R6a, R6b, R6g, R6c, R6d, R6e, R6f, R9a, Written, Same9, ScanAny, SameG, Num9, Torn, Crash, KeptP, AgainP, AgainL, Mount2, Format, Commit, AwP, Img11, Awake11, SpA, MarkB, Apart, ApartP, ApartA. -/
import Derived.Test.YtegdcjnjnoeinaaGreatBVolumeSpares4
import Derived.Test.YtegdcjnjnoeinaaGreatBVolumeSpares2
import Derived.Test.YtegdcjnjnoeinaaGreatBVolumeSpares3
import Derived.Test.YtegdcjnjnoeinaaGreatBVolumeSpares1
namespace Go.Proofs.YtegdcjnjnoeinaaGreat
open Go.RowKit Go.Sl
set_option maxRecDepth 20000

/-! ### where writes go -/
theorem put_get {d : DSt} {p : Nat} {n : Nat} {b : Dat} (h : n ≠ p) : (d.put (n : Int) b).now[p]? = d.now[p]? := by
  show (d.now.set _ _)[p]? = _
  rw [Int.toNat_natCast, List.getElem?_set_ne h]
theorem put_hit {d : DSt} {p : Nat} {b : Dat} (h : p < d.now.length) : (d.put (p : Int) b).now[p]? = some b := by
  show (d.now.set _ _)[p]? = _
  rw [Int.toNat_natCast, List.getElem?_set_self h]
theorem wrD_miss (f : Nat → Nat) (p : Nat) : ∀ (bs : List Dat) (i : Nat) (d : DSt), (∀ k, k < bs.length → f (i + k) ≠ p) → (wrD (fun k => (f k : Int)) bs i d).now[p]? = d.now[p]?
  | [], _, _, _ => rfl
  | b :: bs, i, d, h => by
    rw [wrD, wrD_miss f p bs (i + 1) _ (fun k hk => by have := h (k + 1) (by simp; omega); rwa [show i + (k + 1) = i + 1 + k by omega] at this)]
    exact put_get (h 0 (by simp))
theorem wrD_hit (f : Nat → Nat) (p : Nat) : ∀ (bs : List Dat) (i : Nat) (d : DSt) (k : Nat), (hk : k < bs.length) → f (i + k) = p → (∀ k', k < k' → k' < bs.length → f (i + k') ≠ p) → p < d.now.length → (wrD (fun k => (f k : Int)) bs i d).now[p]? = some bs[k]
  | [], _, _, k, hk, _, _, _ => by simp at hk
  | b :: bs, i, d, 0, _, hf, hno, hp => by
    rw [wrD, wrD_miss f p bs (i + 1) _ (fun k' hk' => by have := hno (k' + 1) (by omega) (by simp; omega); rwa [show i + (k' + 1) = i + 1 + k' by omega] at this)]
    have hf : f i = p := hf
    show (d.put (f i : Int) b).now[p]? = _
    rw [hf, put_hit hp]; rfl
  | b :: bs, i, d, k + 1, hk, hf, hno, hp => by
    rw [wrD]
    have := wrD_hit f p bs (i + 1) (d.put (f i : Int) b) k (by simpa using hk) (by rw [show i + 1 + k = i + (k + 1) by omega]; exact hf) (fun k' h1 h2 => by have := hno (k' + 1) (by omega) (by simp; omega); rwa [show i + (k' + 1) = i + 1 + k' by omega] at this) (by rw [DSt.put_len]; exact hp)
    simpa using this
/-! ### the ring's blocks -/
def usedP (l : List (List PImg)) : Nat := (l.map fun g => g.length + 1).sum
def ringB (ep : Nat) : Nat → List (List PImg) → List Dat
  | _, [] => []
  | sq, g :: l => putP ep sq g ++ ringB ep (sq + 1) l
theorem ringB_length (ep : Nat) : ∀ (l : List (List PImg)) (sq : Nat), (ringB ep sq l).length = usedP l
  | [], _ => rfl
  | g :: l, sq => by rw [ringB, List.length_append, putP_length, ringB_length ep l]; simp [usedP]
theorem ringB_snoc (ep : Nat) : ∀ (l : List (List PImg)) (sq : Nat) (g : List PImg), ringB ep sq (l ++ [g]) = ringB ep sq l ++ putP ep (sq + l.length) g
  | [], sq, g => by simp [ringB]
  | x :: l, sq, g => by
    rw [List.cons_append, ringB, ringB_snoc ep l, ringB, List.append_assoc, List.length_cons, show sq + 1 + l.length = sq + (l.length + 1) by omega]
theorem usedP_snoc (l : List (List PImg)) (g : List PImg) : usedP (l ++ [g]) = usedP l + (g.length + 1) := by simp [usedP]
structure WI (ep tail : Nat) (z : Nat → Dat) (j : JSt) (d : DSt) (all : List (List PImg)) : Prop where
  s : j.s = 16
  t : j.t = tail
  u : j.u = (usedP all : Nat)
  h : j.h = 0
  epoch : j.epoch = ep
  next : j.next = (all.length + 1 : Nat)
  groups : j.groups.length = all.length
  broken : j.broken = false
  log : j.lay.l = 2
  wf : j.Wf
  calm : d.Calm
  dwf : d.Wf
  len : d.now.length = 64
  few : d.Few (usedP all)
  used : usedP all ≤ 16
  right : ∀ (i : Nat) (h : i < all.length), RightP ep ((i + 1 : Nat) : Int) all[i]
  ring : ∀ o, o < 16 → rbP d 2 16 (tail + o) = (ringB ep 1 all).getD o (z o)
theorem usedP_ge (l : List (List PImg)) : l.length ≤ usedP l := by
  unfold usedP
  induction l with
  | nil => simp
  | cons g l ih => simp; omega
theorem DSt.Wf.put {d : DSt} (h : d.Wf) (hc : d.Calm) {n : Int} {b : Dat} (hn : 0 ≤ n ∧ n < d.now.length) (hb : b.length = 4096) : (d.put n b).Wf := by
  have := h.write n b
  rwa [DSt.write_calm hc hn hb] at this
theorem wrD_wf (f : Nat → Int) : ∀ (bs : List Dat) (i : Nat) (d : DSt), d.Wf → d.Calm → (∀ b ∈ bs, b.length = 4096) → (∀ k, 0 ≤ f k ∧ f k < d.now.length) → (wrD f bs i d).Wf
  | [], _, _, h, _, _, _ => h
  | b :: bs, i, d, h, hc, hb, hf => wrD_wf f bs (i + 1) _ (h.put hc (hf i) (hb b (by simp))) (hc.put _ _) (fun x hx => hb x (by simp [hx])) (by rw [DSt.put_len]; exact hf)
/-- a group is appended, or there is no room -/
theorem WI.append {ep tail : Nat} {z : Nat → Dat} {j : JSt} {d : DSt} {all : List (List PImg)} (w : WI ep tail z j d all) {l : List PImg} (hR : RightP ep ((all.length + 1 : Nat) : Int) l) :
    (usedP all + (l.length + 1) ≤ 16 ∧ WI ep tail z (j.appendB d l false).1 (j.appendB d l false).2.1 (all ++ [l]) ∧ (j.appendB d l false).2.2.2 = 0) ∨
    (16 < usedP all + (l.length + 1) ∧ (j.appendB d l false).1 = j ∧ (j.appendB d l false).2.1 = d ∧ (j.appendB d l false).2.2.2 ≠ 0) := by
  have hge := usedP_ge all
  have hu := w.used
  have hll := hR.2.2.2.2.2.1
  have hR' : RightP j.epoch j.next l := by rw [w.epoch, w.next]; exact hR
  have hok := w.wf.ring
  have hokd : Ok 16 tail (usedP all : Nat) 0 := by have := hok; rw [w.s, w.t, w.u, w.h] at this; exact this
  have htl : (tail : Int) < 16 := hokd.2.2.2.1
  rcases Nat.lt_or_ge 16 (usedP all + (l.length + 1)) with hf | hf
  · right
    refine ⟨hf, ?_⟩
    unfold JSt.appendB JSt.append
    rw [if_neg (by rw [w.broken]; simp), if_neg (by simpa using hR')]
    by_cases hs : j.s < (l.length : Int) + 1
    · rw [if_pos hs]; exact ⟨rfl, rfl, by simp⟩
    rw [if_neg hs]
    have hp : putS j.s j.t j.u j.h ((l.length : Int) + 1) (if false = true then (l.length : Int) + 1 else 0) = ((0, 0, 0, 0, 5), 0) := by
      rw [w.s, w.t, w.u, w.h]
      unfold putS
      rw [if_neg (by simp only [Bool.false_eq_true, if_false]; rintro (h | h | h | h | h); exact h hokd; omega; omega; omega; omega), if_pos (by simp only [Bool.false_eq_true, if_false]; omega)]
    rw [hp]
    exact ⟨rfl, rfl, by simp⟩
  · left
    refine ⟨hf, ?_⟩
    have hp : putS j.s j.t j.u j.h ((l.length : Int) + 1) (if false = true then (l.length : Int) + 1 else 0) = ((j.s, (tail : Int), ((usedP all : Nat) : Int) + ((l.length : Int) + 1), 0, 0), ((tail : Int) + (usedP all : Nat)) % 16) := by
      rw [w.s, w.t, w.u, w.h]
      unfold putS
      rw [if_neg (by simp only [Bool.false_eq_true, if_false]; rintro (h | h | h | h | h); exact h hokd; omega; omega; omega; omega), if_neg (by simp only [Bool.false_eq_true, if_false]; omega)]
      simp only [Bool.false_eq_true, if_false, Int.sub_zero]
    have hlen16 : j.s + 2 ≤ d.now.length := by rw [w.s, w.len]; decide
    have hs1 : (l.length : Int) + 1 ≤ j.s := by rw [w.s]; omega
    obtain ⟨j', a, f1, f2, f3, f4, f5, f6, f7, f8, f9, f10, w'⟩ := JSt.append_next w.wf (by rw [w.groups]; omega) w.broken hR' hs1 w.calm hlen16 hp
    rw [a]
    have hB := putP_len (e := j.epoch.toNat) (s := j.next.toNat) hll hR.lens
    have hfl : ∀ k : Nat, (0 : Int) ≤ 2 + (((tail : Int) + (usedP all : Nat)) % 16 + k) % j.s ∧ 2 + (((tail : Int) + (usedP all : Nat)) % 16 + k) % j.s < d.now.length := by
      intro k
      rw [w.s, w.len]
      have := Int.emod_nonneg (((tail : Int) + (usedP all : Nat)) % 16 + k) (b := 16) (by decide)
      have := Int.emod_lt_of_pos (((tail : Int) + (usedP all : Nat)) % 16 + k) (b := 16) (by decide)
      omega
    have hff : (fun k : Nat => (2 : Int) + (((tail : Int) + (usedP all : Nat)) % 16 + k) % j.s) = fun k : Nat => ((2 + (tail + usedP all + k) % 16 : Nat) : Int) := by
      funext k
      rw [w.s]; omega
    refine ⟨⟨by rw [f2, w.s], f3, by rw [f4, usedP_snoc]; omega, f5, by rw [f6, w.epoch], by rw [f7, w.next, List.length_append]; rfl, by rw [f9]; simp [w.groups], f10, by rw [f1, w.log], w', wrD_calm _ _ _ _ w.calm, wrD_wf _ _ _ _ w.dwf w.calm hB hfl, by rw [wrD_len, w.len], ?_, by rw [usedP_snoc]; exact hf, ?_, ?_⟩, rfl⟩
    · have := wrD_few (fun i : Nat => (2 : Int) + (((tail : Int) + (usedP all : Nat)) % 16 + i) % j.s) (putP j.epoch.toNat j.next.toNat l) 0 d _ w.few
      rw [putP_length] at this
      rw [usedP_snoc]; exact this
    · intro i hi
      rw [List.getElem_append]
      split
      · rename_i h; exact w.right i h
      · rename_i h
        simp only [List.length_append, List.length_singleton] at hi
        obtain rfl : i = all.length := by omega
        simpa using hR
    · intro o ho
      rw [hff, ringB_snoc]
      have hrl := ringB_length ep all 1
      have he1 : j.epoch.toNat = ep := by rw [w.epoch]; rfl
      have he2 : j.next.toNat = 1 + all.length := by rw [w.next]; omega
      rw [he1, he2]
      have hpl := putP_length ep (1 + all.length) l
      obtain ⟨B, hBe⟩ : ∃ B, B = putP ep (1 + all.length) l := ⟨_, rfl⟩
      rw [← hBe] at hpl ⊢
      have hw := w.ring o ho
      unfold rbP at hw ⊢
      rw [List.getD_eq_getElem?_getD] at hw ⊢
      have inj : ∀ k, k < B.length → (2 + (tail + usedP all + k) % 16 = 2 + (tail + o) % 16 ↔ usedP all + k = o) := by
        intro k hk; omega
      by_cases hin : usedP all ≤ o ∧ o < usedP all + B.length
      · have := wrD_hit (fun k => 2 + (tail + usedP all + k) % 16) (2 + (tail + o) % 16) B 0 d (o - usedP all) (by omega) (by have := (inj (o - usedP all) (by omega)).2 (by omega); simpa using this)
          (fun k' h1 h2 h3 => by have := (inj k' h2).1 (by simpa using h3); omega) (by rw [w.len]; omega)
        rw [this, List.getD_eq_getElem?_getD, List.getElem?_append_right (by omega), hrl, List.getElem?_eq_getElem (by omega)]; rfl
      · have := wrD_miss (fun k => 2 + (tail + usedP all + k) % 16) (2 + (tail + o) % 16) B 0 d (fun k hk h3 => by have := (inj k hk).1 (by simpa using h3); omega)
        rw [this, hw]
        rw [List.getD_eq_getElem?_getD, List.getD_eq_getElem?_getD]
        rcases Nat.lt_or_ge o (usedP all) with g | g
        · rw [List.getElem?_append_left (by omega)]
        · rw [List.getElem?_eq_none (by omega), List.getElem?_eq_none (by rw [List.length_append]; omega)]
end Go.Proofs.YtegdcjnjnoeinaaGreat
namespace Go.Proofs.YtegdcjnjnoeinaaGreat
open Go.RowKit Go.Sl
set_option maxRecDepth 20000

def gsP (ep : Nat) : Nat → List (List PImg) → List G3
  | _, [] => []
  | sq, g :: l => (ep, sq, g) :: gsP ep (sq + 1) l
theorem grpP_put {rb : Nat → Dat} {at_ room ep sq : Nat} {l : List PImg} (hR : RightP ep sq l) (hroom : l.length + 1 ≤ room) (hrb : ∀ (k : Nat) (h : k < (putP ep sq l).length), rb (at_ + k) = (putP ep sq l)[k]) : grpP rb at_ room = some (ep, sq, l) := by
  have h0 : rb at_ = hblk ep sq l := by have := hrb 0 (by rw [putP_length]; omega); simpa [putP_eq] using this
  unfold grpP
  rw [h0, hdP_put hR]
  dsimp only
  rw [List.length_map, if_pos hroom]
  have : ((List.range (l.length + 1)).map fun i => rb (at_ + i)) = putP ep sq l := by
    refine getElem_eq_of (by rw [putP_length]; simp) fun i h1 h2 => ?_
    simp only [List.getElem_map, List.getElem_range]
    exact hrb i h2
  rw [this, getP_put hR]
theorem scan_prefix (rb : Nat → Dat) (ep : Nat) : ∀ (all : List (List PImg)) (f at_ sq room : Nat), (∀ (i : Nat) (h : i < all.length), RightP ep ((sq + i : Nat) : Int) all[i]) → usedP all ≤ room → all.length ≤ f → (∀ (k : Nat) (h : k < (ringB ep sq all).length), rb (at_ + k) = (ringB ep sq all)[k]) →
    scanK rb ep f at_ sq room = gsP ep sq all ++ scanK rb ep (f - all.length) (at_ + usedP all) ((sq + all.length : Nat) : Int) (room - usedP all)
  | [], f, at_, sq, room, _, _, _, _ => by simp [gsP, usedP]
  | g :: l, 0, _, _, _, _, _, h, _ => by simp at h
  | g :: l, f + 1, at_, sq, room, hR, hu, hf, hrb => by
    have e : usedP (g :: l) = g.length + 1 + usedP l := by simp [usedP]
    have hg : grpP rb at_ room = some (ep, sq, g) := by
      refine grpP_put (hR 0 (by simp)) (by omega) fun k hk => ?_
      have := hrb k (by rw [ringB, List.length_append]; omega)
      simp only [ringB] at this
      rw [List.getElem_append_left hk] at this
      exact this
    rw [scanK, hg]
    dsimp only
    rw [if_pos ⟨rfl, rfl⟩, gsP, List.cons_append]
    congr 1
    have ih := scan_prefix rb ep l f (at_ + (g.length + 1)) (sq + 1) (room - (g.length + 1)) (fun i hi => by
        have := hR (i + 1) (by simpa using hi)
        rw [show sq + (i + 1) = sq + 1 + i by omega] at this
        simpa using this) (by omega) (by simpa using hf) (fun k hk => by
        have hpl := putP_length ep sq g
        have := hrb (g.length + 1 + k) (by rw [ringB, List.length_append, hpl]; omega)
        simp only [ringB] at this
        rw [List.getElem_append_right (by omega)] at this
        rw [show at_ + (g.length + 1) + k = at_ + (g.length + 1 + k) by omega, this]
        congr 1
        omega)
    rw [show ((sq : Nat) : Int) + 1 = ((sq + 1 : Nat) : Int) by omega, ih, List.length_cons]
    rw [show f + 1 - (l.length + 1) = f - l.length by omega, show at_ + (g.length + 1) + usedP l = at_ + usedP (g :: l) by omega, show sq + 1 + l.length = sq + (l.length + 1) by omega, show room - (g.length + 1) - usedP l = room - usedP (g :: l) by omega]
/-- where no group follows -/
theorem scan_stop {rb : Nat → Dat} {ep : Int} {f at_ room : Nat} {seq : Int} (h : ∀ e s l, grpP rb at_ room = some (e, s, l) → ¬ ((e : Int) = ep ∧ (s : Int) = seq)) : scanK rb ep f at_ seq room = [] := by
  cases f with
  | zero => rfl
  | succ f =>
    rw [scanK]
    cases hg : grpP rb at_ room with
    | none => rfl
    | some p =>
      obtain ⟨e, s, l⟩ := p
      dsimp only
      rw [if_neg (h e s l hg)]
theorem hd_noughts : hdP noughts = none := by
  have h0 : (numV noughts 0 8).1 = 0 := by
    unfold numV noughts
    rw [if_neg (by rw [List.length_replicate]; omega)]
    simp [nb]
  unfold hdP hbE
  rw [h0, if_neg (fun h => by have := h.1.1; simp at this)]
theorem grpP_none {rb : Nat → Dat} {at_ room : Nat} (h : hdP (rb at_) = none) : grpP rb at_ room = none := by unfold grpP; rw [h]
theorem layL64 : layL (64 : Int) = 16 := by decide
theorem WI.fresh {ep tail : Nat} (hep : 1 ≤ ep ∧ ep ≤ 8388608) (ht : tail < 16) : WI ep tail (fun _ => noughts) (openJ 64 ep 1 tail) (DSt.of (List.replicate 64 noughts)) [] := by
  have hlen : (List.replicate 64 noughts).length = 64 := List.length_replicate ..
  have hmem : ∀ b ∈ List.replicate 64 noughts, b.length = 4096 := fun b hb => by rw [(List.mem_replicate.1 hb).2]; exact noughts_length
  have hw : (DSt.of (List.replicate 64 noughts)).Wf := ⟨rfl, by show 1 ≤ (List.replicate 64 noughts).length ∧ (List.replicate 64 noughts).length ≤ 512; omega, hmem, hmem, fun w hw => (List.not_mem_nil hw).elim, fun h => (Bool.false_ne_true h).elim, fun h => (Bool.false_ne_true h).elim⟩
  refine ⟨layL_64', rfl, rfl, rfl, rfl, rfl, rfl, rfl, rfl, openJ_wf 64 (by omega) ⟨rfl, by omega, by omega, by omega, by omega, by omega, by rw [layL_64']; omega⟩, fresh_calm _, hw, hlen, DSt.of_few _, by simp [usedP], fun i h => by simp at h, ?_⟩
  intro o ho
  unfold rbP
  show (List.replicate 64 noughts).getD _ [] = _
  rw [List.getD_eq_getElem?_getD, List.getElem?_replicate, if_pos (by omega)]; rfl
theorem im9_pick {ep : Nat} (hep : 1 ≤ ep ∧ ep ≤ 8388608) (sz : Int) (k : Nat) (hk : k ≤ 16) : RightP ep ((k + 1 : Nat) : Int) (im9 (1 + pickS sz 5).toNat sz) := by
  have := pickS_range (n := sz) (m := 5) (by decide)
  exact im9_right ⟨by omega, by omega⟩ ⟨by omega, by omega⟩ _ (by omega) _
theorem WI.step {ep tail : Nat} {z : Nat → Dat} (hep : 1 ≤ ep ∧ ep ≤ 8388608) {j : JSt} {d : DSt} {all : List (List PImg)} (w : WI ep tail z j d all) (sz : Int) : WI ep tail z (wrtStep j d all sz).1 (wrtStep j d all sz).2.1 (wrtStep j d all sz).2.2 := by
  have hge := usedP_ge all
  have hu := w.used
  unfold wrtStep
  rcases w.append (im9_pick hep sz all.length (by omega)) with ⟨_, h1, h2⟩ | ⟨_, h1, h2, h3⟩
  · dsimp only; rw [if_pos h2]; exact h1
  · dsimp only; rw [if_neg h3, h1, h2]; exact w
theorem WI.all {ep tail : Nat} {z : Nat → Dat} (hep : 1 ≤ ep ∧ ep ≤ 8388608) : ∀ (l : List Int) (x : JSt × DSt × List (List PImg)), WI ep tail z x.1 x.2.1 x.2.2 → WI ep tail z (wrtK x l).1 (wrtK x l).2.1 (wrtK x l).2.2
  | [], _, h => h
  | s :: l, _, h => WI.all hep l _ (h.step hep s)
end Go.Proofs.YtegdcjnjnoeinaaGreat
namespace Go.Proofs.YtegdcjnjnoeinaaGreat
open Go.RowKit Go.Sl
set_option maxRecDepth 20000

def grL : Nat → List (List PImg) → List (Int × Int)
  | _, [] => []
  | sq, l :: ls => ((sq : Int), ((l.length : Int) + 1)) :: grL (sq + 1) ls
theorem grL_length : ∀ (ls : List (List PImg)) (sq : Nat), (grL sq ls).length = ls.length
  | [], _ => rfl
  | _ :: ls, sq => by rw [grL, List.length_cons, grL_length ls, List.length_cons]
theorem grL_snoc : ∀ (ls : List (List PImg)) (sq : Nat) (l : List PImg), grL sq (ls ++ [l]) = grL sq ls ++ [(((sq + ls.length : Nat) : Int), ((l.length : Int) + 1))]
  | [], sq, l => rfl
  | x :: ls, sq, l => by
    rw [List.cons_append, grL, grL_snoc ls, grL, List.length_cons, show sq + 1 + ls.length = sq + (ls.length + 1) by omega]; rfl
structure WJ (t0 sq : Nat) (j : JSt) (d : DSt) (ls : List (List PImg)) (k : Nat) : Prop where
  s : j.s = 16
  t : j.t = ((t0 % 16 : Nat) : Int)
  u : j.u = (usedP ls : Nat)
  epoch : j.epoch = 1
  next : j.next = ((sq + ls.length : Nat) : Int)
  pos : 1 ≤ sq
  groups : j.groups = grL sq ls
  broken : j.broken = false
  wf : j.Wf
  calm : d.Calm
  dwf : d.Wf
  len : d.now.length = 64
  few : d.Few k
  used : usedP ls ≤ 16
  right : ∀ (i : Nat) (h : i < ls.length), RightP 1 ((sq + i : Nat) : Int) ls[i]
  ring : ∀ (o : Nat) (h : o < (ringB 1 sq ls).length), rbP d 2 16 (t0 + o) = (ringB 1 sq ls)[o]
theorem WJ.mono {t0 sq : Nat} {j : JSt} {d : DSt} {ls : List (List PImg)} {k m : Nat} (w : WJ t0 sq j d ls k) (h : k ≤ m) : WJ t0 sq j d ls m := { w with few := w.few.mono h }
theorem WJ.room {t0 sq : Nat} {j : JSt} {d : DSt} {ls : List (List PImg)} {k : Nat} (w : WJ t0 sq j d ls k) : Ok 16 ((t0 % 16 : Nat) : Int) (usedP ls : Nat) j.h := by
  have := w.wf.ring; rw [w.s, w.t, w.u] at this; exact this
theorem WJ.fresh (t0 : Nat) (ht : t0 < 16) : WJ t0 1 (openJ 64 1 1 t0) (DSt.of (List.replicate 64 noughts)) [] 0 :=
  ⟨layL_64', by show (t0 : Int) = _; rw [Nat.mod_eq_of_lt ht], rfl, rfl, rfl, Nat.le_refl _, rfl, rfl, openJ_wf64 t0 (by omega), fresh_calm _, (WI.fresh (ep := 1) (by omega) ht).dwf, List.length_replicate, DSt.of_few _, by simp [usedP], fun i h => by simp at h, fun o h => by simp [ringB] at h⟩
/-- a group is appended, or nothing changes -/
theorem WJ.append {t0 sq : Nat} {j : JSt} {d : DSt} {ls : List (List PImg)} {k : Nat} (w : WJ t0 sq j d ls k) {l : List PImg} (hR : RightP 1 ((sq + ls.length : Nat) : Int) l) (held : Bool) (hh : held = true → (l.length : Int) + 1 ≤ j.h) :
    (WJ t0 sq (j.appendB d l held).1 (j.appendB d l held).2.1 (ls ++ [l]) (k + 16) ∧ (j.appendB d l held).2.2.1 = ((sq + ls.length : Nat) : Int) ∧ (j.appendB d l held).2.2.2 = 0 ∧ (held = false → (j.appendB d l held).1.h = j.h)) ∨
    (held = false ∧ (j.appendB d l held).1 = j ∧ (j.appendB d l held).2.1 = d ∧ (j.appendB d l held).2.2.2 ≠ 0) := by
  have hge := usedP_ge ls
  have hu := w.used
  have hll := hR.2.2.2.2.2.1
  have hR' : RightP j.epoch j.next l := by rw [w.epoch, w.next]; exact hR
  have hokd := w.room
  have hok := hokd
  unfold Ok at hok
  obtain ⟨kk, hkk⟩ : ∃ kk : Int, kk = (if held = true then (l.length : Int) + 1 else 0) := ⟨_, rfl⟩
  have hk0 : 0 ≤ kk ∧ kk ≤ (l.length : Int) + 1 ∧ kk ≤ j.h := by
    rw [hkk]
    split
    · rename_i h; have := hh h; omega
    · omega
  by_cases hf : 16 - (usedP ls : Int) - j.h < (l.length : Int) + 1 - kk
  · right
    have hheld : held = false := by
      cases held with
      | false => rfl
      | true => rw [if_pos rfl] at hkk; omega
    refine ⟨hheld, ?_⟩
    unfold JSt.appendB JSt.append
    rw [if_neg (by rw [w.broken]; simp), if_neg (by simpa using hR')]
    by_cases hs : j.s < (l.length : Int) + 1
    · rw [if_pos hs]; exact ⟨rfl, rfl, by simp⟩
    rw [if_neg hs]
    have hp : putS j.s j.t j.u j.h ((l.length : Int) + 1) (if held = true then (l.length : Int) + 1 else 0) = ((0, 0, 0, 0, 5), 0) := by
      rw [w.s, w.t, w.u, ← hkk]
      unfold putS
      rw [if_neg (by rintro (h | h | h | h | h); exact h hokd; omega; omega; omega; omega), if_pos (by omega)]
    rw [hp]
    exact ⟨rfl, rfl, by simp⟩
  · left
    have hp : putS j.s j.t j.u j.h ((l.length : Int) + 1) (if held = true then (l.length : Int) + 1 else 0) = ((j.s, ((t0 % 16 : Nat) : Int), ((usedP ls : Nat) : Int) + ((l.length : Int) + 1), j.h - kk, 0), (((t0 % 16 : Nat) : Int) + (usedP ls : Nat)) % 16) := by
      rw [w.s, w.t, w.u, ← hkk]
      unfold putS
      rw [if_neg (by rintro (h | h | h | h | h); exact h hokd; omega; omega; omega; omega), if_neg (by omega)]
    have hlen16 : j.s + 2 ≤ d.now.length := by rw [w.s, w.len]; decide
    have hs1 : (l.length : Int) + 1 ≤ j.s := by rw [w.s]; omega
    have hgl : j.groups.length = ls.length := by rw [w.groups, grL_length]
    obtain ⟨j', a, f1, f2, f3, f4, f5, f6, f7, f8, f9, f10, w'⟩ := JSt.append_next w.wf (by rw [hgl]; omega) w.broken hR' hs1 w.calm hlen16 hp
    rw [a]
    have hB := putP_len (e := j.epoch.toNat) (s := j.next.toNat) hll hR.lens
    have hff : (fun k : Nat => (2 : Int) + ((((t0 % 16 : Nat) : Int) + (usedP ls : Nat)) % 16 + k) % j.s) = fun k : Nat => ((2 + (t0 + usedP ls + k) % 16 : Nat) : Int) := by
      funext k
      rw [w.s]; omega
    have hfl : ∀ k : Nat, (0 : Int) ≤ ((2 + (t0 + usedP ls + k) % 16 : Nat) : Int) ∧ ((2 + (t0 + usedP ls + k) % 16 : Nat) : Int) < d.now.length := by
      intro k
      rw [w.len]; omega
    have hroom : usedP ls + (l.length + 1) ≤ 16 := by
      have := w'.ring
      unfold Ok at this
      rw [f2, w.s, f4] at this
      omega
    rw [hff]
    refine ⟨⟨by rw [f2, w.s], f3, by rw [f4, usedP_snoc]; omega, by rw [f6, w.epoch], by rw [f7, w.next, List.length_append]; show _ = (((sq + (ls.length + 1) : Nat)) : Int); omega, w.pos, by rw [f9, w.groups, w.next, grL_snoc], f10, w', wrD_calm _ _ _ _ w.calm, wrD_wf _ _ _ _ w.dwf w.calm hB hfl, by rw [wrD_len, w.len], ?_, by rw [usedP_snoc]; exact hroom, ?_, ?_⟩, w.next, rfl, fun h => by rw [f5, hkk, h]; simp⟩
    · have := wrD_few (fun k : Nat => ((2 + (t0 + usedP ls + k) % 16 : Nat) : Int)) (putP j.epoch.toNat j.next.toNat l) 0 d _ w.few
      rw [putP_length] at this
      exact this.mono (by omega)
    · intro i hi
      rw [List.getElem_append]
      split
      · rename_i h; exact w.right i h
      · rename_i h
        simp only [List.length_append, List.length_singleton] at hi
        obtain rfl : i = ls.length := by omega
        simpa using hR
    · intro o ho
      have hrl := ringB_length 1 ls sq
      have he1 : j.epoch.toNat = 1 := by rw [w.epoch]; rfl
      have he2 : j.next.toNat = sq + ls.length := by rw [w.next]; omega
      have hsn := ringB_snoc 1 ls sq l
      have hpl := putP_length 1 (sq + ls.length) l
      obtain ⟨B, hBe⟩ : ∃ B, B = putP 1 (sq + ls.length) l := ⟨_, rfl⟩
      rw [he1, he2]
      rw [← hBe] at hpl hsn ⊢
      have ho2 : o < usedP ls + B.length := by rw [hsn, List.length_append, hrl] at ho; exact ho
      have e0 : (ringB 1 sq (ls ++ [l]))[o]? = (ringB 1 sq ls ++ B)[o]? := by rw [hsn]
      rw [List.getElem?_eq_getElem ho] at e0
      unfold rbP
      rw [List.getD_eq_getElem?_getD]
      have inj : ∀ k, k < B.length → (2 + (t0 + usedP ls + k) % 16 = 2 + (t0 + o) % 16 ↔ usedP ls + k = o) := by
        intro k hk; omega
      by_cases hin : usedP ls ≤ o
      · have := wrD_hit (fun k => 2 + (t0 + usedP ls + k) % 16) (2 + (t0 + o) % 16) B 0 d (o - usedP ls) (by omega) (by have := (inj (o - usedP ls) (by omega)).2 (by omega); simpa using this)
          (fun k' h1 h2 h3 => by have := (inj k' h2).1 (by simpa using h3); omega) (by rw [w.len]; omega)
        rw [this]
        rw [List.getElem?_append_right (by omega), hrl, List.getElem?_eq_getElem (by omega)] at e0
        exact (Option.some.inj e0).symm
      · have := wrD_miss (fun k => 2 + (t0 + usedP ls + k) % 16) (2 + (t0 + o) % 16) B 0 d (fun k hk h3 => by have := (inj k hk).1 (by simpa using h3); omega)
        rw [this]
        rw [List.getElem?_append_left (by omega), List.getElem?_eq_getElem (by omega)] at e0
        have hw := w.ring o (by omega)
        unfold rbP at hw
        rw [List.getD_eq_getElem?_getD] at hw
        rw [hw]
        exact (Option.some.inj e0).symm
theorem WJ.flush {t0 sq : Nat} {j : JSt} {d : DSt} {ls : List (List PImg)} {k : Nat} (w : WJ t0 sq j d ls k) :
    WJ t0 sq (j.flush d).1 (j.flush d).2.1 ls k ∧ (j.flush d).2.2 = 0 ∧ (j.flush d).1.synced = j.next - 1 ∧ (j.flush d).1.h = j.h := by
  obtain ⟨j', a, f1, f2, f3, f4, f5, f6, f7, f8, f9, f10, w'⟩ := JSt.flush_next w.wf w.broken w.calm
  have hc := w.calm
  have hdw : (j.flush d).2.1.Wf := by
    have := w.dwf.flush
    unfold JSt.flush
    rw [if_neg (by rw [w.broken]; simp)]
    split <;> exact this
  rw [a] at hdw ⊢
  refine ⟨⟨by rw [f2, w.s], by rw [f3, w.t], by rw [f4, w.u], by rw [f6, w.epoch], by rw [f7, w.next], w.pos, by rw [f9, w.groups], f10, w', hc, hdw, w.len, ?_, w.used, w.right, w.ring⟩, rfl, f8, f5⟩
  obtain ⟨h1, h2, h3⟩ := w.few
  exact ⟨by simp, h2, h3⟩
theorem ringB_drop (ep : Nat) : ∀ (ls : List (List PImg)) (sq m : Nat), (ringB ep sq ls).drop (usedP (ls.take m)) = ringB ep (sq + m) (ls.drop m)
  | ls, sq, 0 => by simp [usedP]
  | [], sq, m + 1 => by simp [ringB, usedP]
  | l :: ls, sq, m + 1 => by
    have e : usedP ((l :: ls).take (m + 1)) = (putP ep sq l).length + usedP (ls.take m) := by rw [putP_length]; simp [usedP]
    rw [e, ringB, ← List.drop_drop, List.drop_left, ringB_drop ep ls (sq + 1) m, List.drop_succ_cons, show sq + 1 + m = sq + (m + 1) by omega]
theorem usedP_split (ls : List (List PImg)) (m : Nat) : usedP ls = usedP (ls.take m) + usedP (ls.drop m) := by
  unfold usedP
  rw [← List.sum_append, ← List.map_append, List.take_append_drop]
theorem rel_gr : ∀ (m : Nat) (ls : List (List PImg)) (sq t0 : Nat) (u h : Int), m < ls.length → (usedP ls : Int) = u → Ok 16 ((t0 % 16 : Nat) : Int) u h →
    relAll ((sq + m : Nat) : Int) (grL sq ls) 16 ((t0 % 16 : Nat) : Int) u h = (grL (sq + (m + 1)) (ls.drop (m + 1)), (16, (((t0 + usedP (ls.take (m + 1))) % 16 : Nat) : Int), ((usedP (ls.drop (m + 1)) : Nat) : Int), h, 0))
  | m, [], _, _, _, _, hm, _, _ => by simp at hm
  | m, l :: ls, sq, t0, u, h, hm, hu, hr => by
    have hul : usedP (l :: ls) = (l.length + 1) + usedP ls := by simp [usedP]
    have hr2 := hr
    unfold Ok at hr2
    rw [grL, relAll, if_pos (by show ((sq : Nat) : Int) ≤ _; omega)]
    have hd : dropS 16 ((t0 % 16 : Nat) : Int) u h ((l.length : Int) + 1) = (16, (((t0 + (l.length + 1)) % 16 : Nat) : Int), ((usedP ls : Nat) : Int), h, 0) := by
      unfold dropS
      rw [if_neg (by rintro (h | h | h); exact h hr; omega; omega)]
      congr 1
      congr 1
      · omega
      · congr 1; omega
    dsimp only
    rw [hd]
    dsimp only
    rw [if_pos rfl]
    cases m with
    | zero =>
      rw [show (l :: ls).take (0 + 1) = [l] by rfl, show (l :: ls).drop (0 + 1) = ls by rfl, show usedP [l] = l.length + 1 by simp [usedP]]
      cases ls with
      | nil => rfl
      | cons x ls =>
        rw [grL, relAll, if_neg (by show ¬ (((sq + 1 : Nat) : Int) ≤ ((sq + 0 : Nat) : Int)); omega)]
    | succ m =>
      have ih := rel_gr m ls (sq + 1) (t0 + (l.length + 1)) ((usedP ls : Nat) : Int) h (by simpa using hm) rfl (by unfold Ok; omega)
      rw [show sq + (m + 1) = sq + 1 + m by omega, ih]
      rw [show (l :: ls).take (m + 1 + 1) = l :: ls.take (m + 1) by rfl, show (l :: ls).drop (m + 1 + 1) = ls.drop (m + 1) by rfl, show usedP (l :: ls.take (m + 1)) = (l.length + 1) + usedP (ls.take (m + 1)) by simp [usedP], Nat.add_assoc t0]
      rw [show sq + 1 + (m + 1) = sq + 1 + m + 1 by omega, show sq + (m + 1 + 1) = sq + 1 + m + 1 by omega]
theorem WJ.release {t0 sq : Nat} {j : JSt} {d : DSt} {ls : List (List PImg)} {k : Nat} (w : WJ t0 sq j d ls k) (hsy : j.synced = j.next - 1) (m : Nat) (hm : m < ls.length) :
    WJ (t0 + usedP (ls.take (m + 1))) (sq + (m + 1)) (j.release ((sq + m : Nat) : Int)).1 d (ls.drop (m + 1)) k ∧ (j.release ((sq + m : Nat) : Int)).2 = 0 ∧ (j.release ((sq + m : Nat) : Int)).1.h = j.h := by
  have hu := w.used
  have hsp := usedP_split ls (m + 1)
  have hr : relAll ((sq + m : Nat) : Int) j.groups j.s j.t j.u j.h = (grL (sq + (m + 1)) (ls.drop (m + 1)), (16, (((t0 + usedP (ls.take (m + 1))) % 16 : Nat) : Int), ((usedP (ls.drop (m + 1)) : Nat) : Int), j.h, 0)) := by
    rw [w.groups, w.s, w.t, w.u]; exact rel_gr m ls sq t0 ((usedP ls : Nat) : Int) j.h hm rfl w.room
  obtain ⟨j', a, f1, f2, f3, f4, f5, f6, f7, f8, f9, f10, w'⟩ := JSt.release_next w.wf (seq := ((sq + m : Nat) : Int)) w.broken (by rw [hsy, w.next]; omega) hr
  rw [a]
  refine ⟨⟨by rw [f2], f3, f4, by rw [f6, w.epoch], ?_, by have := w.pos; omega, f9, f10, w', w.calm, w.dwf, w.len, w.few, by omega, ?_, ?_⟩, rfl, f5⟩
  · rw [f7, w.next, List.length_drop]; omega
  · intro i hi
    rw [List.getElem_drop]
    have := w.right (m + 1 + i) (by rw [List.length_drop] at hi; omega)
    rwa [show sq + (m + 1 + i) = sq + (m + 1) + i by omega] at this
  · intro o ho
    have e := ringB_drop 1 ls sq (m + 1)
    have ho2 : usedP (ls.take (m + 1)) + o < (ringB 1 sq ls).length := by rw [← e, List.length_drop] at ho; omega
    have hw := w.ring _ ho2
    have e1 : (ringB 1 (sq + (m + 1)) (ls.drop (m + 1)))[o]? = ((ringB 1 sq ls).drop (usedP (ls.take (m + 1))))[o]? := by rw [e]
    rw [List.getElem?_eq_getElem ho, List.getElem?_drop, List.getElem?_eq_getElem ho2] at e1
    rw [Nat.add_assoc, hw]
    exact (Option.some.inj e1).symm
theorem WJ.turn {t0 sq : Nat} {j : JSt} {d : DSt} {ls : List (List PImg)} {k : Nat} (w : WJ t0 sq j d ls k) (h : Int) (hh : 0 ≤ h ∧ (usedP ls : Int) + h ≤ 16) : WJ t0 sq { j with h := h } d ls k := by
  refine ⟨w.s, w.t, w.u, w.epoch, w.next, w.pos, w.groups, w.broken, ⟨w.wf.log, ?_, w.wf.epoch, w.wf.next, w.wf.synced, w.wf.few, w.wf.groups⟩, w.calm, w.dwf, w.len, w.few, w.used, w.right, w.ring⟩
  have := w.wf.ring
  unfold Ok at this ⊢
  show 1 ≤ j.s ∧ j.s ≤ 512 ∧ 0 ≤ j.t ∧ j.t < j.s ∧ 0 ≤ j.u ∧ 0 ≤ h ∧ j.u + h ≤ j.s
  rw [w.s, w.u] at this ⊢
  omega
end Go.Proofs.YtegdcjnjnoeinaaGreat
namespace Go.Proofs.YtegdcjnjnoeinaaGreat
open Go.RowKit Go.Sl
set_option maxRecDepth 20000

theorem WJ.blk {t0 sq : Nat} {j : JSt} {d : DSt} {ls : List (List PImg)} {k : Nat} (w : WJ t0 sq j d ls k) (i : Nat) (hi : i < ls.length) (b : Nat) (hb : b < (putP 1 (sq + i) ls[i]).length) :
    d.now.getD (2 + ((t0 + usedP (ls.take i)) % 16 + b) % 16) [] = (putP 1 (sq + i) ls[i])[b] := by
  have e := ringB_drop 1 ls sq i
  rw [List.drop_eq_getElem_cons hi, ringB] at e
  have e1 : (ringB 1 sq ls)[usedP (ls.take i) + b]? = some (putP 1 (sq + i) ls[i])[b] := by
    rw [← List.getElem?_drop, e, List.getElem?_append_left hb, List.getElem?_eq_getElem hb]
  obtain ⟨h1, h2⟩ := List.getElem?_eq_some_iff.1 e1
  have := w.ring _ h1
  unfold rbP at this
  rw [h2] at this
  rw [← this, show 2 + ((t0 + usedP (ls.take i)) % 16 + b) % 16 = 2 + (t0 + (usedP (ls.take i) + b)) % 16 by omega]
structure LineOk (J : Imm) (t0 sq : Nat) (l : List Grp) (ls : List (List PImg)) : Prop where
  pr : l.map (fun g => g.gs.map Img.pr) = ls
  each : ∀ (i : Nat) (g : Grp), l[i]? = some g → g.e = ((sq + i : Nat) : Int) ∧ g.s = (((t0 + usedP (ls.take i)) % 16 : Nat) : Int) ∧ ImgsOk J g.a g.gs
theorem LineOk.mono {I J : Imm} {t0 sq : Nat} {l : List Grp} {ls : List (List PImg)} (h : LineOk I t0 sq l ls) (hJ : I.le J) : LineOk J t0 sq l ls :=
  ⟨h.pr, fun i g hg => ⟨(h.each i g hg).1, (h.each i g hg).2.1, (h.each i g hg).2.2.mono hJ⟩⟩
theorem LineOk.len {J : Imm} {t0 sq : Nat} {l : List Grp} {ls : List (List PImg)} (h : LineOk J t0 sq l ls) : l.length = ls.length := by rw [← h.pr, List.length_map]
theorem LineOk.nil (J : Imm) (t0 sq : Nat) : LineOk J t0 sq [] [] := ⟨rfl, fun i g h => by simp at h⟩
theorem LineOk.snoc {J : Imm} {t0 sq : Nat} {l : List Grp} {ls : List (List PImg)} (h : LineOk J t0 sq l ls) {g : Grp} (h1 : g.e = ((sq + ls.length : Nat) : Int)) (h2 : g.s = (((t0 + usedP ls) % 16 : Nat) : Int)) (h3 : ImgsOk J g.a g.gs) : LineOk J t0 sq (l ++ [g]) (ls ++ [g.gs.map Img.pr]) := by
  have hl := h.len
  refine ⟨by rw [List.map_append, h.pr]; rfl, fun i x hx => ?_⟩
  rcases Nat.lt_or_ge i l.length with c | c
  · rw [List.getElem?_append_left c] at hx
    rw [List.take_append_of_le_length (by omega)]
    exact h.each i x hx
  · rw [List.getElem?_append_right c] at hx
    obtain ⟨q1, q2⟩ := List.getElem?_eq_some_iff.1 hx
    simp at q1
    obtain rfl : i = ls.length := by omega
    have : x = g := by simpa using q2.symm
    subst this
    rw [List.take_append_of_le_length (by omega), List.take_length]
    exact ⟨h1, h2, h3⟩
theorem LineOk.drop {J : Imm} {t0 sq : Nat} {l : List Grp} {ls : List (List PImg)} (h : LineOk J t0 sq l ls) (m : Nat) : LineOk J (t0 + usedP (ls.take m)) (sq + m) (l.drop m) (ls.drop m) := by
  refine ⟨by rw [List.map_drop, h.pr], fun i x hx => ?_⟩
  rw [List.getElem?_drop] at hx
  obtain ⟨q1, q2, q3⟩ := h.each _ _ hx
  refine ⟨by rw [q1]; omega, ?_, q3⟩
  rw [q2]
  have e : usedP (ls.take (m + i)) = usedP (ls.take m) + usedP ((ls.drop m).take i) := by
    rw [List.take_add]
    simp [usedP]
  rw [e, Nat.add_assoc]
theorem dk_ReadK {I : Imm} {bD : Nat} {st : DSt} {ch : List Blk} (h : Dk I bD st ch) (hdn : st.down = false) (k : Nat) (hk : k < st.now.length) :
    Tri Tryz.prog 39 #[.pointer (some ⟨bD, 0, none⟩), .int .i64 k] I [ch] fun v J S' => ∃ bk : Bk, v = .tuple #[bk.cell, .int .i64 0] ∧ bk.data = st.now.getD k [] ∧ BkOk J bk ∧ 4096 ≤ bk.cap ∧ Dk J bD st ch ∧ S' = [ch] := by
  have hb4 : (st.now.getD k []).length = 4096 := by
    rw [List.getD_eq_getElem?_getD, List.getElem?_eq_getElem hk]
    exact h.wf.now _ (List.getElem_mem _)
  have hr := dk_Read h (k : Int)
  rw [read_up h.wf hdn hk] at hr
  refine Tri.drop (Tri.fixed hr (K := fun v J S' => ∃ bk : Bk, v = .tuple #[bk.cell, .int .i64 0] ∧ bk.data = st.now.getD k [] ∧ BkOk J bk ∧ 4096 ≤ bk.cap ∧ Dk J bD st ch ∧ S' = [ch, []]) ?_) ?_
  · rintro v J S' hJ ⟨a, cap, chB, rfl, hB, rfl, rfl⟩
    dsimp only at hB ⊢
    rw [hb4] at hB
    refine ⟨1, chB, rfl, fun J' hJ' hm => ⟨⟨a, cap, st.now.getD k []⟩, by rw [hb4], rfl, Rds.of_own hB hm, hB.le, h.mono hJ', rfl⟩⟩
  · rintro v J S' hJ ⟨bk, h1, h2, h3, h4, h5, rfl⟩
    exact ⟨[ch], Drop.pick [0] _ rfl, bk, h1, h2, h3, h4, h5, rfl⟩
end Go.Proofs.YtegdcjnjnoeinaaGreat
namespace Go.Proofs.YtegdcjnjnoeinaaGreat
open Go.RowKit Go.Sl
set_option maxRecDepth 20000

theorem dk_ReadDown {I : Imm} {bD : Nat} {st : DSt} {ch : List Blk} (h : Dk I bD st ch) (hdn : st.down = true) (k : Nat) (hk : k < st.now.length) :
    Tri Tryz.prog 39 #[.pointer (some ⟨bD, 0, none⟩), .int .i64 k] I [ch] fun v J S' => ∃ a cap, v = .tuple #[.slice a 0 cap, .int .i64 6] ∧ I = J ∧ S' = [ch] := by
  have hr := dk_Read h (k : Int)
  rw [read_down h.wf hdn hk] at hr
  refine Tri.drop hr ?_
  rintro v J S' hJ ⟨a, cap, chB, rfl, hB, rfl, rfl⟩
  exact ⟨[ch], Drop.pick [0] _ rfl, a, cap, rfl, rfl, rfl⟩
theorem get_data_len {d : DSt} (h : d.Wf) {k : Nat} (hk : k < d.now.length) : (d.now.getD k []).length = 4096 := by
  rw [List.getD_eq_getElem?_getD, List.getElem?_eq_getElem hk]
  exact h.now _ (List.getElem_mem _)
theorem v_found {I : Imm} {bD : Nat} {d : DSt} {chD : List Blk} (hD : Dk I bD d chD) (hlen : 64 ≤ d.now.length) :
    Tri Tryz.prog 106 #[.pointer (some ⟨bD, 0, none⟩), (layOf d.now.length).v] I [chD] fun r J S' => r = .tuple #[(foundP d).1.v, .int .i64 (foundP d).2.1, .int .i64 (foundP d).2.2] ∧ Dk J bD d chD ∧ S' = [chD] := by
  have hr := hD.wf.range
  refine Tri.drop ?_ (fun _ _ _ _ h => h)
  refine Tri.of (args := [.pointer (some ⟨bD, 0, none⟩), (layOf d.now.length).v]) tabOk Tryz.func106 rfl (by kernel_rfl) (by kernel_rfl) ?_
  conv => whnf
  intro b3
  conv => whnf
  intro b4
  unfold foundP
  by_cases hdn : d.down = true
  · rw [if_pos hdn]
    refine Tri.frame1 0 rfl (dk_ReadDown hD hdn 0 (by omega)) ?_
    rintro r _ A' hJ ⟨a, cap, rfl, rfl, rfl⟩
    refine ⟨_, rfl, ?_⟩
    repeat (first | refine LoadD.own 2 rfl _ rfl rfl ?_ | refine StoreD.st 2 rfl rfl rfl ?_ | refine CmpD.no (by decide) ?_)
    exact Done.mk ⟨_, Drop.pick [0] _ rfl, rfl, hD, rfl⟩
  rw [if_neg hdn]
  have hdn : d.down = false := by simpa using hdn
  refine Tri.frame1 0 rfl (dk_ReadK hD hdn 0 (by omega)) ?_
  rintro r J1 A' hJ1 ⟨bk0, rfl, hd0, hk0, hc0, hD1, rfl⟩
  refine ⟨_, rfl, ?_⟩
  repeat (first | refine CmpD.yes rfl ?_)
  refine Tri.frame1 0 rfl (dk_ReadK hD1 hdn 1 (by omega)) ?_
  rintro r J2 A' hJ2 ⟨bk1, rfl, hd1, hk1, hc1, hD2, rfl⟩
  refine ⟨_, rfl, ?_⟩
  repeat (first | refine CmpD.yes rfl ?_)
  refine Tri.free (replay_Choose (hk0.mono hJ2) hk1 (by omega) (by omega)) ?_
  rintro r _ _ hJ3 ⟨rfl, rfl⟩
  rw [hd0, hd1]
  generalize chooseP (getS (d.now.getD 0 [])) (getS (d.now.getD 1 [])) = cp
  obtain ⟨⟨s1, s2, s3, s4⟩, slot, ok⟩ := cp
  dsimp only
  conv => whnf
  intro b10
  repeat (first | refine StoreD.st 3 rfl rfl rfl ?_)
  refine CodeF.sched [[], [0], [0, 1], [0, 1, 2], [0, 1, 2, 3], [0, 1, 2], [0, 1, 2, 5], [0, 1, 2, 3, 4, 5, 6], [0, 1, 2, 3, 4, 5, 6, 7], [0, 1, 2, 3, 4, 5, 6, 7, 8], [0, 1, 2, 3, 4, 5, 6, 7, 8, 9], [0, 1, 2, 3, 4, 5, 6, 7, 8, 9, 10], [0, 1, 2, 3, 4, 5, 6, 7, 8, 9], [0, 1, 2, 3, 4, 5, 6, 7, 8, 9, 12], [0, 1, 2, 3, 4, 5, 6, 7, 8, 9, 10, 11, 12, 13], [0, 1, 2, 3, 4, 5, 6, 7, 8, 9, 10, 11, 12, 13, 14], [0, 1, 2, 3, 4, 5, 6, 7, 8, 9, 10, 11, 12, 13, 14, 15], [0, 1, 2, 3, 4, 5, 6, 7, 8, 9, 10, 11, 12, 13, 14, 15, 16], [0, 1, 2, 3, 4, 5, 6, 7, 8, 9, 10, 11, 12, 13, 14, 15, 16, 17], [0, 1, 2, 3, 4, 5, 6, 7, 8, 9, 10, 11, 12, 13, 14, 15, 16, 17, 18], [0, 1, 2, 3, 4, 5, 6, 7, 8, 9, 10, 11, 12, 13, 14, 15, 16, 17, 18, 19]] [0, 1, 2, 3, 4, 5, 6, 7, 8, 9, 10, 11, 12, 13, 14, 15, 16, 17, 18, 19, 20] (by kernel_rfl) ?_
  have hl7 : (layOf (d.now.length : Int)).lb = layL d.now.length := rfl
  cases ok
  · rw [if_pos (.inl rfl)]
    repeat (first | refine LoadD.own 2 rfl _ rfl rfl ?_ | refine StoreD.st 2 rfl rfl rfl ?_)
    exact Done.mk ⟨_, Drop.pick [0] _ rfl, rfl, hD2, rfl⟩
  repeat (first | refine LoadP.at 3 rfl _ rfl rfl ?_)
  refine Tri.frame1 0 rfl (dk_Size hD2) ?_
  rintro r _ A' hJ4 ⟨rfl, rfl, rfl⟩
  refine ⟨_, rfl, ?_⟩
  repeat (first | refine Chk.mk ⟨rfl, trivial⟩ ?_)
  refine CmpD.split (fun (c1 : s1 = (d.now.length : Int)) => ?_) (fun (c1 : ¬ s1 = (d.now.length : Int)) => ?_)
  rotate_left
  · rw [if_pos (.inr (.inl c1))]
    repeat (first | refine LoadD.own 2 rfl _ rfl rfl ?_ | refine StoreD.st 2 rfl rfl rfl ?_)
    exact Done.mk ⟨_, Drop.pick [0] _ rfl, rfl, hD2, rfl⟩
  repeat (first | refine LoadP.at 1 rfl _ rfl rfl ?_ | refine LoadP.at 3 rfl _ rfl rfl ?_)
  refine CmpD.split (fun (c2 : layL d.now.length ≤ s4) => ?_) (fun (c2 : ¬ layL d.now.length ≤ s4) => ?_)
  · rw [if_pos (.inr (.inr (.inl c2)))]
    repeat (first | refine LoadD.own 2 rfl _ rfl rfl ?_ | refine StoreD.st 2 rfl rfl rfl ?_)
    exact Done.mk ⟨_, Drop.pick [0] _ rfl, rfl, hD2, rfl⟩
  repeat (first | refine LoadP.at 3 rfl _ rfl rfl ?_)
  refine CmpD.split (fun (c3 : 8388608 ≤ s2) => ?_) (fun (c3 : ¬ 8388608 ≤ s2) => ?_)
  · rw [if_pos (.inr (.inr (.inr c3)))]
    repeat (first | refine LoadD.own 2 rfl _ rfl rfl ?_ | refine StoreD.st 2 rfl rfl rfl ?_)
    exact Done.mk ⟨_, Drop.pick [0] _ rfl, rfl, hD2, rfl⟩
  rw [if_neg (by rintro (h | h | h | h); exact Bool.noConfusion h; exact h c1; exact c2 h; exact c3 h)]
  repeat (first | refine LoadD.own 2 rfl _ rfl rfl ?_ | refine LoadD.own 3 rfl _ rfl rfl ?_ | refine StoreD.st 2 rfl rfl rfl ?_)
  exact Done.mk ⟨_, Drop.pick [0] _ rfl, rfl, hD2, rfl⟩
end Go.Proofs.YtegdcjnjnoeinaaGreat
namespace Go.Proofs.YtegdcjnjnoeinaaGreat
open Go.RowKit Go.Sl
set_option maxRecDepth 20000

theorem rel_lay (j : JSt) (q : Int) : (j.release q).1.lay = j.lay := by
  unfold JSt.release
  split
  · rfl
  · split <;> rfl
theorem ckS_lay (v : VSt) (d : DSt) : (v.ckS d).2.1.lay = v.j.lay := by
  unfold VSt.ckS
  split
  · exact flush_lay _ _
  · split
    · exact flush_lay _ _
    · show (JSt.release _ _).1.lay = _
      rw [rel_lay, flush_lay]
theorem jflush_few {j : JSt} {d : DSt} {k : Nat} (h : d.Few k) : (j.flush d).2.1.Few k := by
  unfold JSt.flush
  split
  · exact h
  · split <;> exact h.flush
theorem ck1 {I : Imm} {bV bD bJ bM b1 b4 b8 : Nat} {x : Lay} {ep sl : Int} {br : Bool} {d : DSt} {chD : List Blk} (hD : Dk I bD d chD) (hf : d.Few 800000) (aI : Option Addr) (capI : Nat) (outs : List Img) (hi : ImgsOk I aI outs) (hol : outs.length ≤ 1000) (s : Sup) :
    Tri Tryz.prog 92 #[.pointer (some ⟨b1, 0, none⟩), .pointer (some ⟨b4, 0, none⟩), .pointer (some ⟨b8, 0, none⟩)] I [vChunk bV bD bJ bM x ep sl br, pBox b1 (.pointer (some ⟨bV, 0, none⟩)) 23, pBox b4 (.slice aI outs.length capI) 26, [(b8, row [.int .i64 s.blocks, .int .i64 s.epoch, .int .i64 s.seq, .int .i64 s.tail] 143)], chD]
      fun r J S' => r = .int .i64 (doP d (outs.map Img.pr) s sl).2 ∧ ∃ chD', Dk J bD (doP d (outs.map Img.pr) s sl).1 chD' ∧ S' = [vChunk bV bD bJ bM x ep sl br, pBox b1 (.pointer (some ⟨bV, 0, none⟩)) 23, pBox b4 (.slice aI outs.length capI) 26, [(b8, row [.int .i64 s.blocks, .int .i64 s.epoch, .int .i64 s.seq, .int .i64 s.tail] 143)], chD'] := by
  obtain ⟨l1, l2, l3, l4, l5, l6, l7⟩ := x
  refine Tri.of (args := [.pointer (some ⟨b1, 0, none⟩), .pointer (some ⟨b4, 0, none⟩), .pointer (some ⟨b8, 0, none⟩)]) tabOk Tryz.func92 rfl (by kernel_rfl) (by kernel_rfl) ?_
  refine CodeF.sched [[], [0], [0, 1], [0, 1, 2], [], [], [], [6], [6, 7], [6, 7, 8], [0, 1, 2, 3, 4, 5, 6, 7, 8, 9], [0, 1, 2, 3, 4, 5, 6, 7, 8, 9, 10]] [0, 1, 2, 3, 4, 5, 6, 7, 8, 9, 10, 11] (by kernel_rfl) ?_
  repeat (first | refine LoadP.at 0 rfl _ rfl rfl ?_ | refine LoadP.at 1 rfl _ rfl rfl ?_ | refine LoadP.at 2 rfl _ rfl rfl ?_ | refine LoadP.at 3 rfl _ rfl rfl ?_)
  refine Tri.frame1 4 rfl (dk_Do hD 800000 hf aI capI outs hi (by omega) s sl) ?_
  rintro r J A' hJ ⟨rfl, chD2, hD2, rfl⟩
  refine ⟨_, rfl, ?_⟩
  exact Done.mk ⟨rfl, chD2, hD2, rfl⟩
theorem ck2 {I : Imm} {bV bD bJ bM b1 : Nat} {x : Lay} {ep sl : Int} {br : Bool} {j : JSt} {chJ : List Blk} (hj : Jk bJ bD j chJ) (hw : j.Wf) :
    Tri Tryz.prog 94 #[.pointer (some ⟨b1, 0, none⟩)] I [vChunk bV bD bJ bM x ep sl br, pBox b1 (.pointer (some ⟨bV, 0, none⟩)) 23, chJ]
      fun r J S' => I = J ∧ r = .int .i64 (j.release j.synced).2 ∧ ∃ chJ', Jk bJ bD (j.release j.synced).1 chJ' ∧ S' = [vChunk bV bD bJ bM x ep sl br, pBox b1 (.pointer (some ⟨bV, 0, none⟩)) 23, chJ'] := by
  obtain ⟨l1, l2, l3, l4, l5, l6, l7⟩ := x
  refine Tri.of (args := [.pointer (some ⟨b1, 0, none⟩)]) tabOk Tryz.func94 rfl (by kernel_rfl) (by kernel_rfl) ?_
  refine CodeF.sched [[], [0], [0, 1], [0, 1, 2], [], [4], [4, 5], [4, 5, 6], [4, 5, 6, 7], [0, 1, 2, 3, 4, 5, 6, 7, 8], [0, 1, 2, 3, 4, 5, 6, 7, 8, 9]] [0, 1, 2, 3, 4, 5, 6, 7, 8, 9, 10] (by kernel_rfl) ?_
  repeat (first | refine LoadP.at 0 rfl _ rfl rfl ?_ | refine LoadP.at 1 rfl _ rfl rfl ?_)
  refine Tri.frame1 2 rfl (jk_Synced hj I) ?_
  rintro r _ A' hJ ⟨rfl, rfl, rfl⟩
  refine ⟨_, rfl, ?_⟩
  repeat (first | refine Chk.mk ⟨rfl, rfl, trivial⟩ ?_)
  refine Tri.frame1 2 rfl (jk_Release hj hw j.synced I) ?_
  rintro r _ A' hJ ⟨rfl, rfl, chJ2, hj2, rfl⟩
  refine ⟨_, rfl, ?_⟩
  skip
  exact Done.mk ⟨rfl, rfl, chJ2, hj2, rfl⟩
set_option maxHeartbeats 8000000 in
theorem vk_Checkpoint {bV bD : Nat} {v : VSt} {ch : List Blk} {I : Imm} (h : Vk I bV bD v ch) (hw : v.j.Wf) (hsl : 0 ≤ v.slot ∧ v.slot ≤ 1) (hfr : v.fresh.length ≤ 1000) {d : DSt} {chD : List Blk} (hD : Dk I bD d chD) (hf : d.Few 800000) :
    Tri Tryz.prog 24 #[.pointer (some ⟨bV, 0, none⟩)] I [ch, chD] fun r J S' => r = .int .i64 (v.ckpt d).2.2 ∧ ∃ ch' chD', Vk J bV bD (v.ckpt d).1 ch' ∧ Dk J bD (v.ckpt d).2.1 chD' ∧ S' = [ch', chD'] := by
  have h0 := h
  obtain ⟨bJ, bM, ob, chJ, gs, rfl, hj, hM, hg, hp⟩ := h
  have hgl : gs.length ≤ 1000 := by rw [← hp, List.length_map] at hfr; exact hfr
  refine Tri.lay (S2 := [vChunk bV bD bJ bM v.j.lay v.epoch v.slot v.broken, [(bM, ob)], chJ, chD]) (vk_lay2 ..) ?_
  refine Tri.drop ?_ (fun _ _ _ _ h => h)
  refine Tri.of (args := [.pointer (some ⟨bV, 0, none⟩)]) tabOk Tryz.func24 rfl (by kernel_rfl) (by kernel_rfl) ?_
  conv => whnf
  intro b1
  repeat (first | refine LoadD.own 4 rfl _ rfl rfl ?_)
  refine Tri.nf (v_wrong bV bD bJ bM _ _ _ _ I _ 0 rfl) ?_
  rintro r _ _ hJ ⟨rfl, rfl, rfl⟩
  cases hb : v.broken
  rotate_left
  · repeat (first | refine CmpD.no (by decide) ?_)
    unfold VSt.ckpt
    rw [if_pos hb]
    exact Done.mk ⟨_, (Drop.pick [0, 1, 2, 3] _ rfl).trans (Drop.flat (by simp [St.at, hb])), rfl, _, chD, h0, hD, rfl⟩
  repeat (first | refine CmpD.yes rfl ?_)
  conv => whnf
  intro b4
  repeat (first | refine LoadD.own 0 rfl _ rfl rfl ?_ | refine LoadD.own 4 rfl _ rfl rfl ?_)
  refine Tri.nf (keys_of bM I _) ?_
  rintro r _ S' hJ2 ⟨bk, rfl, rfl, rfl⟩
  refine Tri.frameX (sorted_keys bk bM ob (gs.map hdr) hM (by rw [List.length_map]; omega) I) [6, 1] rfl rfl ?_
  rintro r JK A' hJK ⟨aK, capK, chK, rfl, hK, hleK, rfl⟩
  rw [List.length_map] at hK ⊢
  have hkl : (keysOf (gs.map hdr)).length = gs.length := by rw [keysOf_length, List.length_map]
  have hkm : ∀ n ∈ keysOf (gs.map hdr), n ∈ gs.map Img.blk := by
    intro n hn
    unfold keysOf at hn
    have := (sortI_perm _).mem_iff.1 hn
    rw [List.map_map] at this; exact this
  have hkf : keysOf (gs.map hdr) = sortI (v.fresh.map Prod.fst) := by
    unfold keysOf
    rw [← hp, List.map_map, List.map_map]; rfl
  obtain ⟨KS, hKS⟩ : ∃ KS, KS = keysOf (gs.map hdr) := ⟨_, rfl⟩
  rw [← hKS] at hK hkl hkm hkf
  obtain ⟨n, hn⟩ : ∃ n, n = gs.length := ⟨_, rfl⟩
  rw [← hn] at hK hkl hgl ⊢
  have hg := fun g hgm => (hg g hgm).mono hJK
  have hD := hD.mono hJK
  refine CodeF.loopD [1, 4, 20, 21, 22] (fun vs J' S' => ∃ (k : Nat) (aI : Option Addr) (capI : Nat) (chI : List Blk) (outs : List Img), k ≤ n ∧ outs.length = k ∧ OwnC chI 2 aI k capI (imgCells outs) ∧ (∀ g ∈ outs, ImgOk JK g) ∧ outs.map Img.pr = (KS.take k).map (fun n => (n, (v.fresh.lookup n).getD [])) ∧
      vs = [.pointer (some ⟨b1, 0, none⟩), .pointer (some ⟨b4, 0, none⟩), .slice aK n capK, .int .i64 n, .int .i64 k] ∧ JK = J' ∧ S' = [vChunk bV bD bJ bM v.j.lay v.epoch v.slot false, chJ, chD, pBox b1 (.pointer (some ⟨bV, 0, none⟩)) 23, pBox b4 (.slice aI k capI) 26, [(bM, ob)], chK, chI])
    (fun vs _ _ => match vs with | [_, _, _, _, .int _ k] => ((n : Int) - k).toNat | _ => 0) ?_ ?_
  · exact ⟨_, Drop.and (Drop.pick [0, 2, 3, 4, 5, 7, 8] _ rfl), 0, none, 0, [], [], by omega, rfl, OwnC.nil _ _, by simp, rfl, rfl, rfl, rfl⟩
  rintro vs gE J' S' hJ' ⟨k, aI, capI, chI, outs, hk, hol, hO, hoI, hpr, rfl, rfl, rfl⟩
  refine CmpD.split (fun (c3 : (k : Int) < n) => ?_) (fun (c3 : ¬ (k : Int) < n) => ?_)
  · have hkK : k < KS.length := by omega
    have htk : KS.take (k + 1) = KS.take k ++ [KS[k]] := by rw [List.take_add_one, List.getElem?_eq_getElem hkK]; rfl
    obtain ⟨g, hgm, hgb, hget, hlk⟩ := lookup_both gs KS[k] (hkm _ (List.getElem_mem hkK))
    rw [hp] at hlk
    have hgR := hg g hgm
    have hcell : (ints KS)[k]? = some (.int .i64 KS[k]) := ints_get (List.getElem?_eq_getElem hkK)
    generalize hnk : KS[k] = m at *
    rcases hK.at' with q0 | ⟨bK, pre, post, TK, rfl, rfl, hpost⟩
    · have := hK.le; omega
    refine Chk.mk (by omega) ?_
    refine LoadD.own 6 rfl [.int .i64 m] (take_get (own_take pre (ints KS) post) hcell) rfl ?_
    refine CodeF.sched [[], [], [], [2], [2, 3], [2, 3, 4], [], [2, 3, 4, 5, 6], [1, 2, 3, 4, 5, 6, 7], [1, 2, 3, 4, 5, 6, 7, 8], [0, 1, 2, 3, 4, 5, 6, 7, 8, 9], [0, 1, 2, 3, 4, 5, 6, 7, 8, 9, 10]] [0, 1, 2, 3, 4, 5, 6, 7, 8, 9, 10, 11] (by kernel_rfl) ?_
    repeat (first | refine LoadP.at 0 rfl _ rfl rfl ?_ | refine LoadP.at 3 rfl _ rfl rfl ?_ | refine LoadP.at 4 rfl _ rfl rfl ?_)
    refine lookupD tabOk rfl rfl rfl rfl rfl rfl 5 rfl hM ?_
    rw [hget]
    repeat (first | refine Chk.mk ⟨rfl, trivial⟩ ?_)
    conv => whnf
    intro bN
    repeat (first | refine Chk.mk ⟨rfl, trivial⟩ ?_)
    refine appendD tabOk rfl rfl rfl rfl rfl rfl rfl 7 rfl hO (SrcOk.slice (n := 1) (news := imgCells [⟨m, g.a, g.len, g.cap, g.data⟩]) tabOk rfl ((OwnC.whole (len := 1) (size := 2) rfl).slC 8 rfl) (by intro v hv; simp [imgCells] at hv; rcases hv with rfl | rfl <;> rfl)) rfl (by show (k + 1) * 32 ≤ _; omega) (by omega) ?_
    intro a2 cap2 ch2 hO2
    repeat (first | refine StoreD.st 4 rfl rfl rfl ?_)
    refine ToD.i64 (by omega) (by omega) ?_
    refine ⟨_, Drop.pick [0, 1, 2, 3, 4, 5, 6, 7] _ rfl, ⟨k + 1, a2, cap2, ch2, outs ++ [⟨m, g.a, g.len, g.cap, g.data⟩], by omega, by simp [hol], by rw [imgCells_snoc]; exact hO2, ?_, ?_, rfl, rfl, rfl⟩, ?_⟩
    · intro y hy
      rcases List.mem_append.1 hy with hy | hy
      · exact hoI y hy
      · simp only [List.mem_singleton] at hy
        subst hy
        rw [← hgb]
        exact hgR
    · rw [htk, List.map_append, List.map_append, hpr]
      simp [hlk]
    · show ((n : Int) - ((k : Int) + 1)).toNat < ((n : Int) - (k : Int)).toNat; omega
  obtain rfl : k = n := by omega
  rw [List.take_of_length_le (by omega), hkf] at hpr
  have hpr : outs.map Img.pr = sortP v.fresh := hpr
  repeat (first | refine LoadD.own 0 rfl _ rfl rfl ?_ | refine LoadD.own 3 rfl _ rfl rfl ?_)
  have hring := hw.ring
  unfold Ok at hring
  refine Tri.frame1 1 rfl (jk_Ring hj JK) ?_
  rintro r _ A' hJ3 ⟨rfl, rfl, rfl⟩
  refine ⟨_, rfl, ?_⟩
  conv => whnf
  intro b7
  refine StoreD.st 8 rfl rfl rfl ?_
  refine CodeF.cutD [1, 4, 8] (fun vs J' S' => ∃ b8, JK = J' ∧ vs = [.pointer (some ⟨b1, 0, none⟩), .pointer (some ⟨b4, 0, none⟩), .pointer (some ⟨b8, 0, none⟩)] ∧
      S' = [vChunk bV bD bJ bM v.j.lay v.epoch v.slot false, chJ, chD, pBox b1 (.pointer (some ⟨bV, 0, none⟩)) 23, pBox b4 (.slice aI k capI) 26, [(bM, ob)], chI, [(b8, row [.int .i64 v.sup.blocks, .int .i64 v.sup.epoch, .int .i64 v.sup.seq, .int .i64 v.sup.tail] 143)]]) ?_ ?_
  · refine CodeF.schedT [[], [0], [0, 1], [0, 1, 2], [0, 1, 2, 3], [], [5], [5, 6], [5, 6, 7], [], [9], [9, 10], [9, 10, 11], [9, 10, 11, 12], [], [14], [], [16], [14, 15, 16, 17], [], [19], [14, 15, 16, 17, 18, 19, 20], [0, 1, 2, 3, 4, 5, 6, 7, 8, 9, 10, 11, 12, 13, 14, 15, 16, 17, 18, 19, 20, 21], [], [0, 1, 2, 3, 4, 5, 6, 7, 8, 9, 10, 11, 12, 13, 14, 15, 16, 17, 18, 19, 20, 21, 22, 23]] (.rd 0 (.rd 1 (.rd 2 (.rd 3 (.rd 4 (.rd 5 (.rd 6 (.rd 7 (.rd 8 (.rd 9 (.rd 10 (.rd 11 (.rd 12 (.rd 14 (.rd 15 (.rd 16 (.rd 17 (.rd 18 (.rd 19 (.rd 20 (.rd 21 (.alt (.ef 13 (.rd 22 (.ef 23 (.ef 24 .nil)))) (.ef 23 (.ef 13 (.rd 22 (.ef 24 .nil)))))))))))))))))))))))))) (by kernel_rfl) ?_
    repeat (first | refine LoadP.at 0 rfl _ rfl rfl ?_ | refine LoadP.at 3 rfl _ rfl rfl ?_ | refine LoadP.at 8 rfl _ rfl rfl ?_)
    refine ToD.to (v.j.t + v.j.u) (wrap_i64 (by omega) (by omega)) ?_
    repeat (first | refine LoadP.at 8 rfl _ rfl rfl ?_)
    refine Chk.mk (by show v.j.s ≠ 0; omega) ?_
    refine ToD.to ((v.j.t + v.j.u) % v.j.s) (Int.tmod_eq_emod_of_nonneg (by omega)) ?_
    have fin : ∀ b8, ∃ S0, Drop [vChunk bV bD bJ bM v.j.lay v.epoch v.slot false, chJ, chD, pBox b1 (.pointer (some ⟨bV, 0, none⟩)) 23, pBox b4 (.slice aI k capI) 26, [(bM, ob)], chK, chI, [(b7, row [.int .i64 v.j.s, .int .i64 v.j.t, .int .i64 v.j.u, .int .i64 v.j.h] 83)], [(b8, row [.int .i64 v.j.lay.b, .int .i64 v.epoch, .int .i64 v.j.next, .int .i64 ((v.j.t + v.j.u) % v.j.s)] 143)]] S0 ∧ ∃ b, JK = JK ∧ [Value.pointer (some ⟨b1, 0, none⟩), .pointer (some ⟨b4, 0, none⟩), .pointer (some ⟨b8, 0, none⟩)] = [.pointer (some ⟨b1, 0, none⟩), .pointer (some ⟨b4, 0, none⟩), .pointer (some ⟨b, 0, none⟩)] ∧
        S0 = [vChunk bV bD bJ bM v.j.lay v.epoch v.slot false, chJ, chD, pBox b1 (.pointer (some ⟨bV, 0, none⟩)) 23, pBox b4 (.slice aI k capI) 26, [(bM, ob)], chI, [(b, row [.int .i64 v.sup.blocks, .int .i64 v.sup.epoch, .int .i64 v.sup.seq, .int .i64 v.sup.tail] 143)]] :=
      fun b8 => ⟨_, Drop.pick [0, 1, 2, 3, 4, 5, 7, 9] _ rfl, b8, rfl, rfl, rfl⟩
    refine And.intro ?_ ?_
    · skip
      refine Tri.frame1 1 rfl (jk_Next hj JK) ?_
      rintro r _ A' hJ4 ⟨rfl, rfl, rfl⟩
      refine ⟨_, rfl, ?_⟩
      repeat (first | refine Chk.mk ⟨rfl, rfl, rfl, rfl, rfl, rfl, rfl, trivial⟩ ?_)
      conv => whnf
      intro b8
      repeat (first | refine StoreD.st 9 rfl rfl rfl ?_ | refine Chk.mk ⟨rfl, rfl, rfl, rfl, rfl, rfl, rfl, rfl, rfl, trivial⟩ ?_)
      exact fin b8
    · skip
      conv => whnf
      intro b8
      repeat (first | refine Chk.mk ⟨rfl, rfl, rfl, rfl, rfl, rfl, rfl, rfl, rfl, trivial⟩ ?_)
      refine Tri.frame1 1 rfl (jk_Next hj JK) ?_
      rintro r _ A' hJ4 ⟨rfl, rfl, rfl⟩
      refine ⟨_, rfl, ?_⟩
      repeat (first | refine StoreD.st 9 rfl rfl rfl ?_ | refine Chk.mk ⟨rfl, rfl, rfl, rfl, rfl, rfl, rfl, trivial⟩ ?_)
      exact fin b8
  rintro vs gE2 J2 S2 hJ2 ⟨b8, rfl, rfl, rfl⟩
  repeat (first | refine LoadD.own 0 rfl _ rfl rfl ?_ | refine LoadD.own 3 rfl _ rfl rfl ?_)
  conv => whnf
  intro bS
  refine Tri.fix 6 (ch := chI) rfl fun I5 hI5 hIm => ?_
  refine Tri.fix 8 rfl fun I6 hI6 hSm => ?_
  have hfs : Rds I6 (some ⟨bS, 0, none⟩) 3 [.func (.func 88) #[.pointer (some ⟨bJ, 0, none⟩)] #[], .func (.func 92) #[] #[.pointer (some ⟨b1, 0, none⟩), .pointer (some ⟨b4, 0, none⟩), .pointer (some ⟨b8, 0, none⟩)], .func (.func 94) #[] #[.pointer (some ⟨b1, 0, none⟩)]] :=
    ⟨rfl, .inr ⟨bS, 0, _, _, _, rfl, hSm _ (List.mem_singleton.2 rfl), rfl⟩⟩
  have hI56 := Imm.le_trans hI5 hI6
  have himg : ImgsOk I6 aI outs := ⟨by rw [hol]; exact (Rds.of_ownS hO hIm).mono hI6, fun g hgm => (hoI g hgm).mono hI56⟩
  have hD := hD.mono hI56
  have hg := fun g hgm => (hg g hgm).mono hI56
  refine (vol_first (K := fun r J S' => ∃ chJ2 chD2, r = .int .i64 (v.ckS d).1 ∧ Jk bJ bD (v.ckS d).2.1 chJ2 ∧ Dk J bD (v.ckS d).2.2 chD2 ∧ S' = [vChunk bV bD bJ bM v.j.lay v.epoch v.slot false, chJ2, chD2, pBox b1 (.pointer (some ⟨bV, 0, none⟩)) 23, pBox b4 (.slice aI k capI) 26, [(bM, ob)], [], [(b8, row [.int .i64 v.sup.blocks, .int .i64 v.sup.epoch, .int .i64 v.sup.seq, .int .i64 v.sup.tail] 143)], []]) (some ⟨bS, 0, none⟩) 3 3 _ (by omega) hfs ?_).mono ?_
  · refine ⟨_, [.pointer (some ⟨bJ, 0, none⟩)], [], rfl, ?_⟩
    refine Tri.frame (jk_Flush hj hw hD) [1, 2] rfl rfl ?_
    have hfl := jflush_few (j := v.j) hf
    have hjw := hw.flush d
    unfold VSt.ckS
    rintro r J3 A' hJ3 ⟨rfl, chJ2, chD2, hj2, hD2, rfl⟩
    refine ⟨Nat.le_refl _, ?_⟩
    refine ⟨_, rfl, fun he => ?_, fun he => ?_⟩
    · rw [if_pos he]
      exact ⟨chJ2, chD2, rfl, hj2, hD2, rfl⟩
    rw [if_neg (by simpa using he)]
    refine ⟨_, [], [.pointer (some ⟨b1, 0, none⟩), .pointer (some ⟨b4, 0, none⟩), .pointer (some ⟨b8, 0, none⟩)], rfl, ?_⟩
    rw [← hol]
    refine Tri.frame (ck1 hD2 hfl aI capI outs (himg.mono hJ3) (by omega) v.sup) [0, 3, 4, 7, 2] rfl rfl ?_
    rw [hpr]
    rintro r J4 A' hJ4 ⟨rfl, chD3, hD3, rfl⟩
    refine ⟨Nat.le_refl _, ?_⟩
    refine ⟨_, rfl, fun he2 => ?_, fun he2 => ?_⟩
    · rw [if_pos he2]
      exact ⟨chJ2, chD3, rfl, hj2, hD3, rfl⟩
    rw [if_neg (by simpa using he2)]
    refine ⟨_, [], [.pointer (some ⟨b1, 0, none⟩)], rfl, ?_⟩
    refine Tri.frame (ck2 hj2 hjw) [0, 3, 1] rfl rfl ?_
    rintro r _ A' hJ5 ⟨rfl, rfl, chJ3, hj3, rfl⟩
    refine ⟨Nat.le_refl _, ?_⟩
    refine ⟨_, rfl, fun he3 => ?_, fun he3 => ?_⟩
    · exact ⟨chJ3, chD3, rfl, hj3, hD3, rfl⟩
    · refine ⟨chJ3, chD3, ?_, hj3, hD3, rfl⟩
      show Value.int .i64 0 = .int .i64 _
      rw [he3]
  rintro r J7 S7 hJ7 ⟨chJ2, chD2, rfl, hj2, hD2, rfl⟩
  have hlay := ckS_lay v d
  have hg7 := fun g hgm => (hg g hgm).mono hJ7
  repeat (first | refine LoadD.own 3 rfl _ rfl rfl ?_)
  refine Tri.frame1 0 rfl (v_did bV bD bJ bM v.j.lay v.epoch v.slot false J7 (v.ckS d).1) ?_
  rintro r _ A' hJ8 ⟨rfl, rfl, rfl⟩
  refine ⟨_, rfl, ?_⟩
  unfold VSt.ckpt
  rw [if_neg (by rw [hb]; simp)]
  refine CmpD.split (fun c4 => ?_) (fun c4 => ?_)
  · have c4 : (v.ckS d).1 = 0 := c4
    rw [if_neg (by rw [c4]; simp)]
    refine CodeF.sched [[], [], [1], [1, 2], [1, 2, 3], [1, 2, 3, 4], [0, 1, 2, 3, 4, 5], [0, 1, 2, 3, 4, 5, 6], [0, 1, 2, 3, 4, 5, 6, 7]] [0, 1, 2, 3, 4, 5, 6, 7, 8] (by kernel_rfl) ?_
    repeat (first | refine LoadP.at 0 rfl _ rfl rfl ?_ | refine LoadP.at 3 rfl _ rfl rfl ?_)
    refine ToD.to (1 - v.slot) (wrap_i64 (by omega) (by omega)) ?_
    repeat (first | refine LoadD.own 0 rfl _ rfl rfl ?_ | refine LoadD.own 3 rfl _ rfl rfl ?_ | refine StoreD.st 0 rfl rfl rfl ?_)
    refine clearMapD tabOk rfl rfl rfl rfl rfl rfl 5 rfl hM ?_
    intro ob' hM'
    refine Done.mk ⟨[vChunk bV bD bJ bM v.j.lay v.epoch (1 - v.slot) v.broken ++ ((bM, ob') :: chJ2), chD2], (Drop.pick [0, 5, 1, 2] _ rfl).trans (Drop.flat ?_), rfl, _, chD2, ⟨bJ, bM, ob', chJ2, [], by rw [hlay], hj2, hM', by simp, rfl⟩, hD2, rfl⟩
    rw [hb, c4]
    simp [St.at]
    rfl
  · have c4 : (v.ckS d).1 ≠ 0 := c4
    rw [if_pos c4]
    skip
    refine Done.mk ⟨[vChunk bV bD bJ bM v.j.lay v.epoch v.slot true ++ ((bM, ob) :: chJ2), chD2], (Drop.pick [0, 5, 1, 2] _ rfl).trans (Drop.flat ?_), rfl, _, chD2, ⟨bJ, bM, ob, chJ2, gs, by rw [hlay], hj2, hM, hg7, hp⟩, hD2, rfl⟩
    rw [decide_eq_true c4]
    simp [St.at]
end Go.Proofs.YtegdcjnjnoeinaaGreat
namespace Go.Proofs.YtegdcjnjnoeinaaGreat
open Go.RowKit Go.Sl
set_option maxRecDepth 20000

end Go.Proofs.YtegdcjnjnoeinaaGreat
namespace Go.Proofs.YtegdcjnjnoeinaaGreat
open Go.RowKit Go.Sl
set_option maxRecDepth 20000

structure RDk (I : Imm) (v : Value) (d : DSt) : Prop where
  wf : d.Wf
  snd : ∀ i, i < d.safe.length → d.now[i]? = some (atP (d.safe.getD i []) d.writes i)
  ex : ∃ (s w : Hd) (bS : List Bk) (gs : List Img), v = rV s w d.count d.down (gv d.arm) (gv d.fault) ∧ Rds I s.a s.len (bS.map Bk.cell) ∧ (∀ b ∈ bS, BkOk I b) ∧ bS.map Bk.data = d.safe ∧ ImgsOk I w.a gs ∧ w.len = gs.length ∧ gs.map Img.pr = d.writes
theorem RDk.mono {I J : Imm} {v : Value} {d : DSt} (h : RDk I v d) (hJ : I.le J) : RDk J v d := by
  obtain ⟨s, w, bS, gs, e, h1, h2, h3, h4, h5, h6⟩ := h.ex
  exact ⟨h.wf, h.snd, s, w, bS, gs, e, h1.mono hJ, fun b hb => (h2 b hb).mono hJ, h3, h4.mono hJ, h5, h6⟩
theorem RDk.stop {I : Imm} {s w : Hd} {d : DSt} {bS : List Bk} {gs : List Img} (h : d.Wf) (hs : ∀ i, i < d.safe.length → d.now[i]? = some (atP (d.safe.getD i []) d.writes i)) (h1 : Rds I s.a s.len (bS.map Bk.cell)) (h2 : ∀ b ∈ bS, BkOk I b) (h3 : bS.map Bk.data = d.safe) (h4 : ImgsOk I w.a gs) (h5 : w.len = gs.length) (h6 : gs.map Img.pr = d.writes) :
    RDk I (rV s w d.count d.stop.1.down (gv d.stop.1.arm) (gv d.stop.1.fault)) d.stop.1 := by
  obtain ⟨e1, e2, e3, e4⟩ := d.stop_same
  exact ⟨h.stop, by rw [e1, e2, e3]; exact hs, s, w, bS, gs, by rw [e4], h1, h2, by rw [e1]; exact h3, h4, h5, by rw [e3]; exact h6⟩
end Go.Proofs.YtegdcjnjnoeinaaGreat
namespace Go.Proofs.YtegdcjnjnoeinaaGreat
open Go.RowKit Go.Sl
set_option maxRecDepth 20000

end Go.Proofs.YtegdcjnjnoeinaaGreat
namespace Go.Proofs.YtegdcjnjnoeinaaGreat
open Go.RowKit Go.Sl
set_option maxRecDepth 20000

end Go.Proofs.YtegdcjnjnoeinaaGreat
namespace Go.Proofs.YtegdcjnjnoeinaaGreat
open Go.RowKit Go.Sl
set_option maxRecDepth 20000

end Go.Proofs.YtegdcjnjnoeinaaGreat
namespace Go.Proofs.YtegdcjnjnoeinaaGreat
open Go.RowKit Go.Sl
set_option maxRecDepth 20000

end Go.Proofs.YtegdcjnjnoeinaaGreat
namespace Go.Proofs.YtegdcjnjnoeinaaGreat
open Go.RowKit Go.Sl
set_option maxRecDepth 20000

end Go.Proofs.YtegdcjnjnoeinaaGreat
namespace Go.Proofs.YtegdcjnjnoeinaaGreat
open Go.RowKit Go.Sl
set_option maxRecDepth 20000

@[reducible] def rBox (b : Nat) (s w : Hd) (count : Int) (down : Bool) (arm fault : Int) : List Blk := [(b, row [s.v, w.v, .int .i64 count, .bool down, .int .i64 arm, .int .i64 fault] 76)]
@[reducible] def sBox (b : Nat) (s : Sup) : List Blk := [(b, row [.int .i64 s.blocks, .int .i64 s.epoch, .int .i64 s.seq, .int .i64 s.tail] 143)]
end Go.Proofs.YtegdcjnjnoeinaaGreat
namespace Go.Proofs.YtegdcjnjnoeinaaGreat
open Go.RowKit Go.Sl
set_option maxRecDepth 20000

end Go.Proofs.YtegdcjnjnoeinaaGreat
namespace Go.Proofs.YtegdcjnjnoeinaaGreat
open Go.RowKit Go.Sl
set_option maxRecDepth 20000

end Go.Proofs.YtegdcjnjnoeinaaGreat
namespace Go.Proofs.YtegdcjnjnoeinaaGreat
open Go.RowKit Go.Sl
set_option maxRecDepth 20000

end Go.Proofs.YtegdcjnjnoeinaaGreat
namespace Go.Proofs.YtegdcjnjnoeinaaGreat
open Go.RowKit Go.Sl
set_option maxRecDepth 20000

end Go.Proofs.YtegdcjnjnoeinaaGreat
namespace Go.Proofs.YtegdcjnjnoeinaaGreat
open Go.RowKit Go.Sl
set_option maxRecDepth 20000

end Go.Proofs.YtegdcjnjnoeinaaGreat
namespace Go.Proofs.YtegdcjnjnoeinaaGreat
open Go.RowKit Go.Sl
set_option maxRecDepth 20000

theorem flush_calm {d : DSt} (h : d.Calm) : d.flush = ({ d with safe := d.now, writes := [] }, 0) := by
  unfold DSt.flush; rw [DSt.stop_calm h]; simp
end Go.Proofs.YtegdcjnjnoeinaaGreat
namespace Go.Proofs.YtegdcjnjnoeinaaGreat
open Go.RowKit Go.Sl
set_option maxRecDepth 20000

theorem own_mem : ∀ {cs : List (List Blk)} {gs : List Img} {J : Imm}, OwnImgs cs gs → (∀ x ∈ cs.flatten, J x.1 = some x.2) → ∀ g ∈ gs, Rds J g.a g.len (bts g.data)
  | [], [], _, _, _, g, hg => by simp at hg
  | c :: cs, x :: gs, J, h, hm, g, hg => by
    rcases List.mem_cons.1 hg with rfl | hg
    · exact Rds.of_own h.1 fun y hy => hm y (by simp [hy])
    · exact own_mem h.2 (fun y hy => hm y (by rw [List.flatten_cons]; exact List.mem_append_right _ hy)) g hg
  | [], _ :: _, _, h, _, _, _ => h.elim
  | _ :: _, [], _, h, _, _, _ => h.elim
/-- Home's answer, fixed -/
theorem home_fix {I : Imm} {aG : Option Addr} {capG : Nat} {l : List Grp} (hG : GrpsR I [] aG l) (hl : l.length ≤ 1000000) (hall : (allI l).length ≤ 1000000) (hfew : ∀ g ∈ allI l, g.len ≤ 100000000) (x : Lay) :
    Tri Tryz.prog 108 #[x.v, .slice aG l.length capG] I [] fun v J _ =>
      ((¬ LayOk x ∧ v = .tuple #[.slice none 0 0, .int .i64 2]) ∨
       (LayOk x ∧ ¬ HomeOk x (allP l) ∧ v = .tuple #[.slice none 0 0, .int .i64 90]) ∨
       (LayOk x ∧ HomeOk x (allP l) ∧ ∃ (aO : Option Addr) (capO : Nat) (outs : List Img), v = .tuple #[.slice aO outs.length capO, .int .i64 0] ∧ ImgsR J [] aO outs ∧ outs.map Img.pr = homeP (allP l))) := by
  refine Tri.fixed (Q := fun v _ S' => ∃ ch, S' = [ch] ∧
      ((¬ LayOk x ∧ v = .tuple #[.slice none 0 0, .int .i64 2]) ∨
       (LayOk x ∧ ¬ HomeOk x (allP l) ∧ v = .tuple #[.slice none 0 0, .int .i64 90]) ∨
       (LayOk x ∧ HomeOk x (allP l) ∧ ∃ (aO : Option Addr) (capO : Nat) (chO : List Blk) (chs : List (List Blk)) (outs : List Img), v = .tuple #[.slice aO outs.length capO, .int .i64 0] ∧ OwnC chO 2 aO outs.length capO (imgCells outs) ∧ OwnImgs chs outs ∧ outs.map Img.pr = homeP (allP l) ∧ ch = chO ++ chs.flatten))) ?_ ?_
  · refine Tri.drop (home_any hG hl hall hfew x) ?_
    rintro v J S' hJ (⟨h, rfl, rfl⟩ | ⟨h1, h2, rfl, rfl⟩ | ⟨h1, h2, aO, capO, chO, chs, outs, rfl, hO, hcs, hpr, rfl⟩)
    · exact ⟨[[]], Drop.flat rfl, [], rfl, .inl ⟨h, rfl⟩⟩
    · exact ⟨[[]], Drop.flat rfl, [], rfl, .inr (.inl ⟨h1, h2, rfl⟩)⟩
    · exact ⟨[chO ++ chs.flatten], Drop.flat (by simp), _, rfl, .inr (.inr ⟨h1, h2, aO, capO, chO, chs, outs, rfl, hO, hcs, hpr, rfl⟩)⟩
  · rintro v J S' hJ ⟨ch, rfl, h⟩
    refine ⟨0, ch, rfl, fun J' hJ' hm => ?_⟩
    rcases h with ⟨h, rfl⟩ | ⟨h1, h2, rfl⟩ | ⟨h1, h2, aO, capO, chO, chs, outs, rfl, hO, hcs, hpr, rfl⟩
    · exact .inl ⟨h, rfl⟩
    · exact .inr (.inl ⟨h1, h2, rfl⟩)
    · refine .inr (.inr ⟨h1, h2, aO, capO, outs, rfl, ⟨(Rds.of_ownS hO fun y hy => hm y (List.mem_append_left _ hy)).slC, fun g hg => ⟨(own_mem hcs (fun y hy => hm y (List.mem_append_right _ hy)) g hg).slC⟩⟩, hpr⟩)
theorem doP_few {d : DSt} {k : Nat} (h : d.Few k) (l : List PImg) (s : Sup) (slot : Int) : (doP d l s slot).1.Few (k + l.length + 1) := by
  have h1 := wrImgs_few l d k h
  unfold doP
  split
  · exact h.mono (by omega)
  split
  · exact h1.mono (by omega)
  split
  · exact h1.flush.mono (by omega)
  unfold lastWr
  split
  · exact h1.flush.write _ _
  · exact (h1.flush.write _ _).flush
end Go.Proofs.YtegdcjnjnoeinaaGreat
namespace Go.Proofs.YtegdcjnjnoeinaaGreat
open Go.RowKit Go.Sl
set_option maxRecDepth 20000

end Go.Proofs.YtegdcjnjnoeinaaGreat
namespace Go.Proofs.YtegdcjnjnoeinaaGreat
open Go.RowKit Go.Sl
set_option maxRecDepth 20000

end Go.Proofs.YtegdcjnjnoeinaaGreat
namespace Go.Proofs.YtegdcjnjnoeinaaGreat
open Go.RowKit Go.Sl
set_option maxRecDepth 20000

theorem bts_set {x y : Dat} {p : Nat} {v : UInt8} (hp : p < x.length) (h : y = x.set p v) : bts y = (bts x).take p ++ [byte v] ++ (bts x).drop (p + 1) := by
  subst h
  rw [List.set_eq_take_append_cons_drop, if_pos hp]
  simp [bts, List.map_take, List.map_drop]
def gen (f g : Nat → UInt8) (q : Nat) : Dat := (List.range 4096).map fun j => if j < q then f j else g j
theorem gen_length (f g : Nat → UInt8) (q : Nat) : (gen f g q).length = 4096 := by simp [gen]
theorem gen_get (f g : Nat → UInt8) (q : Nat) {j : Nat} (h : j < 4096) : (gen f g q)[j]? = some (if j < q then f j else g j) := by simp [gen, h]
theorem getD_get {l : Dat} {j : Nat} (h : j < l.length) : l[j]? = some (l.getD j 0) := by
  rw [List.getD_eq_getElem?_getD, List.getElem?_eq_getElem h]; rfl
theorem gen_zero (f : Nat → UInt8) {l : Dat} (hl : l.length = 4096) : gen f (fun j => l.getD j 0) 0 = l := by
  refine ext4096 (gen_length _ _ _) hl fun j hj => ?_
  rw [gen_get _ _ _ hj, if_neg (by omega), getD_get (by omega)]
theorem gen_step (f g : Nat → UInt8) {q : Nat} (hq : q < 4096) : gen f g (q + 1) = (gen f g q).set q (f q) := by
  apply List.ext_getElem?
  intro j
  rcases Nat.lt_or_ge j 4096 with hj | hj
  · rw [gen_get _ _ _ hj]
    by_cases h2 : q = j
    · subst h2; rw [List.getElem?_set_self (by rw [gen_length]; exact hq), if_pos (by omega)]
    · rw [List.getElem?_set_ne h2, gen_get _ _ _ hj]
      by_cases h1 : j < q
      · rw [if_pos h1, if_pos (by omega)]
      · rw [if_neg h1, if_neg (by omega)]
  · rw [List.getElem?_eq_none (by rw [gen_length]; exact hj), List.getElem?_eq_none (by rw [List.length_set, gen_length]; exact hj)]
theorem noughts_get {j : Nat} (h : j < 4096) : noughts[j]? = some 0 := by
  unfold noughts
  rw [List.getElem?_replicate, if_pos h]
end Go.Proofs.YtegdcjnjnoeinaaGreat
namespace Go.Proofs.YtegdcjnjnoeinaaGreat
open Go.RowKit Go.Sl
set_option maxRecDepth 20000

theorem ImgsR.imm {I J : Imm} {S : St} {a : Option Addr} {gs : List Img} (h : ImgsR I S a gs) (hJ : I.le J) : ImgsR J S a gs := ⟨h.sl.imm hJ, fun g hg => ⟨(h.each g hg).rd.imm hJ⟩⟩
theorem ImgsR.mores {I : Imm} {S : St} {a : Option Addr} {gs : List Img} (h : ImgsR I S a gs) (L : St) : ImgsR I (S ++ L) a gs := ⟨h.sl.mores L, fun g hg => ⟨(h.each g hg).rd.mores L⟩⟩
def BkIn (ch : List Blk) (b : Bk) : Prop := ∃ bz pre post T, b.a = some ⟨bz, pre.length, none⟩ ∧ (bz, row (pre ++ bts b.data ++ post) T) ∈ ch ∧ b.data.length = 4096
theorem BkIn.ok {ch : List Blk} {b : Bk} (h : BkIn ch b) {J : Imm} (hm : ∀ x ∈ ch, J x.1 = some x.2) : BkOk J b := by
  obtain ⟨bz, pre, post, T, ha, hx, hl⟩ := h
  have hl' : (bts b.data).length = 4096 := by rw [bts_length, hl]
  refine ⟨hl', .inr ⟨bz, pre.length, _, T, (0, 0), ha, hm _ hx, ?_⟩⟩
  rw [List.append_assoc, List.drop_left, ← hl', List.take_left]
theorem BkIn.of {ch : List Blk} {a : Option Addr} {cap : Nat} {l : Dat} (h : OwnB ch a 4096 cap l) : BkIn ch ⟨a, cap, l⟩ := by
  have hl : l.length = 4096 := by have := h.n; rw [bts_length] at this; omega
  rcases h.at' with q0 | ⟨b6, pre, post, T6, h1, h2, _⟩
  · have := h.le; omega
  · exact ⟨b6, pre, post, T6, h1, by rw [h2]; simp, hl⟩
theorem BkIn.more {ch : List Blk} {b : Bk} (h : BkIn ch b) (c2 : List Blk) : BkIn (ch ++ c2) b := by
  obtain ⟨bz, pre, post, T, ha, hx, hl⟩ := h
  exact ⟨bz, pre, post, T, ha, List.mem_append_left _ hx, hl⟩
end Go.Proofs.YtegdcjnjnoeinaaGreat
namespace Go.Proofs.YtegdcjnjnoeinaaGreat
open Go.RowKit Go.Sl
set_option maxRecDepth 20000

/-- an image whose data lies in a block of its own -/
structure DI where
  blk : Int
  b : Nat
  data : Dat
end Go.Proofs.YtegdcjnjnoeinaaGreat
namespace Go.Proofs.YtegdcjnjnoeinaaGreat
open Go.RowKit Go.Sl
set_option maxRecDepth 20000

end Go.Proofs.YtegdcjnjnoeinaaGreat
namespace Go.Proofs.YtegdcjnjnoeinaaGreat
open Go.RowKit Go.Sl
set_option maxRecDepth 20000

end Go.Proofs.YtegdcjnjnoeinaaGreat
namespace Go.Proofs.YtegdcjnjnoeinaaGreat
open Go.RowKit Go.Sl
set_option maxRecDepth 20000

end Go.Proofs.YtegdcjnjnoeinaaGreat
namespace Go.Proofs.YtegdcjnjnoeinaaGreat
open Go.RowKit Go.Sl
set_option maxRecDepth 20000

structure ImsAt (J : Imm) (aS : Option Addr) (ms : List Ims) (all : List (List PImg)) : Prop where
  rd : Rds J aS ms.length (ms.map Ims.cell)
  each : ∀ m ∈ ms, ImgsOk J m.a m.gs
  pr : ms.map Ims.pr = all
theorem ImsAt.mono {I J : Imm} {aS : Option Addr} {ms : List Ims} {all : List (List PImg)} (h : ImsAt I aS ms all) (hJ : I.le J) : ImsAt J aS ms all := ⟨h.rd.mono hJ, fun m hm => (h.each m hm).mono hJ, h.pr⟩
end Go.Proofs.YtegdcjnjnoeinaaGreat
namespace Go.Proofs.YtegdcjnjnoeinaaGreat
open Go.RowKit Go.Sl
set_option maxRecDepth 20000

end Go.Proofs.YtegdcjnjnoeinaaGreat
namespace Go.Proofs.YtegdcjnjnoeinaaGreat
open Go.RowKit Go.Sl
set_option maxRecDepth 20000

/-- bytes, as they lie -/
structure Bs where
  a : Option Addr
  len : Nat
  cap : Nat
  data : Dat
@[reducible] def Bs.cell (b : Bs) : Value := .slice b.a b.len b.cap
theorem GrpsOk.at' {J : Imm} {gl : List Grp} {L : List G3} (h : GrpsOk J gl L) (i : Nat) (hi : i < gl.length) : ∃ hl : i < L.length, gl[i].e = (L[i].1 : Int) ∧ gl[i].s = (L[i].2.1 : Int) ∧ gl[i].gs.map Img.pr = L[i].2.2 := by
  have hl : i < L.length := by rw [← h.len]; exact hi
  refine ⟨hl, ?_⟩
  have h3 := h.g3
  have : (gl.map Grp.g3)[i]'(by rw [List.length_map]; exact hi) = (L.map up3)[i]'(by rw [List.length_map]; exact hl) := by simp only [h3]
  rw [List.getElem_map, List.getElem_map] at this
  unfold Grp.g3 up3 at this
  simp only [Prod.mk.injEq] at this
  exact this
end Go.Proofs.YtegdcjnjnoeinaaGreat
namespace Go.Proofs.YtegdcjnjnoeinaaGreat
open Go.RowKit Go.Sl
set_option maxRecDepth 20000

end Go.Proofs.YtegdcjnjnoeinaaGreat
namespace Go.Proofs.YtegdcjnjnoeinaaGreat
open Go.RowKit Go.Sl
set_option maxRecDepth 20000

theorem scanL64 {d : DSt} (hlen : d.now.length = 64) (s : Sup) : scanL d s = scanK (rbP d 2 16) s.epoch 17 s.tail.toNat s.seq 16 := by
  unfold scanL
  rw [hlen]
  show scanK (rbP d 2 (layL (64 : Int)).toNat) s.epoch ((layL (64 : Int)).toNat + 1) s.tail.toNat s.seq (layL (64 : Int)).toNat = _
  rw [layL64]; rfl
@[reducible] def nA : List PImg := im9 1 0
@[reducible] def nB : List PImg := im9 2 1
theorem nA_right : RightP ((1 : Nat) : Int) ((1 : Nat) : Int) nA := im9_right (by decide) (by decide) 1 (by decide) 0
theorem nB_right : RightP ((1 : Nat) : Int) ((2 : Nat) : Int) nB := im9_right (by decide) (by decide) 2 (by decide) 1
theorem nA_len : nA.length = 1 := im9_length _ _
structure Two (rb : Nat → Dat) : Prop where
  a : ∀ (k : Nat) (h : k < (putP 1 1 nA).length), rb (14 + k) = (putP 1 1 nA)[k]
  b : ∀ (k : Nat) (h : k < (putP 1 2 nB).length), rb (0 + k) = (putP 1 2 nB)[k]
  n : rb 3 = noughts
theorem usedB : usedP [nB] = 3 := by simp [usedP, im9_length]
theorem Two.grpA {rb : Nat → Dat} (h : Two rb) : grpP rb 14 16 = some (1, 1, nA) := grpP_put nA_right (by rw [nA_len]; omega) h.a
theorem Two.m {d : DSt} (h : Two (rbP d 2 16)) (hlen : d.now.length = 64) : scanL d ⟨64, 1, 2, 0⟩ = [(1, 2, nB)] := by
  rw [scanL64 hlen]
  show scanK (rbP d 2 16) ((1 : Nat) : Int) 17 0 ((2 : Nat) : Int) 16 = _
  have e : ringB 1 2 [nB] = putP 1 2 nB := by simp [ringB]
  rw [scan_prefix (rbP d 2 16) 1 [nB] 17 0 2 16 (fun i hi => by
      have : i = 0 := by simpa using hi
      subst this; exact nB_right) (by rw [usedB]; omega) (by simp) (fun k hk => by
      have := h.b k (by rw [← e]; exact hk)
      rw [this]; simp only [e])]
  rw [scan_stop, List.append_nil]; · rfl
  intro e s l hg
  rw [usedB, grpP_none (by rw [show 0 + 3 = 3 from rfl, h.n]; exact hd_noughts)] at hg
  cases hg
theorem Two.no {d : DSt} (h : Two (rbP d 2 16)) (hlen : d.now.length = 64) : scanL d ⟨64, 1, 2, 14⟩ = [] := by
  rw [scanL64 hlen]
  refine scan_stop fun e s l hg h' => ?_
  have hg : grpP (rbP d 2 16) 14 16 = some (e, s, l) := hg
  rw [h.grpA] at hg
  cases hg
  have : ((1 : Nat) : Int) = 2 := h'.2
  omega
end Go.Proofs.YtegdcjnjnoeinaaGreat
namespace Go.Proofs.YtegdcjnjnoeinaaGreat
open Go.RowKit Go.Sl
set_option maxRecDepth 20000

theorem shr_nat8 (v s : Nat) (hs : s ≤ 8) : (v : Int).fdiv (2 ^ (min ((s : Int)).toNat IntKind.u8.bits)) = ((v / 2 ^ s : Nat) : Int) := by
  have e : min ((s : Int)).toNat IntKind.u8.bits = s := by
    show min s 8 = s; omega
  rw [e, Int.fdiv_eq_ediv_of_nonneg _ (by exact_mod_cast Nat.zero_le _)]
  norm_cast
def put5 (l m : Dat) (i : Nat) : Dat := l.take (i * 512) ++ m ++ l.drop (i * 512 + 512)
def tornK (old new : Dat) (sec : Nat) : Nat → Dat
  | 0 => old
  | k + 1 => if sec / 2 ^ k % 2 = 1 then put5 (tornK old new sec k) ((new.drop (k * 512)).take 512) k else tornK old new sec k
def tornP (old new : Dat) (sec : Nat) : Dat := tornK old new sec 8
theorem tornK_succ (old new : Dat) (sec k : Nat) : tornK old new sec (k + 1) = if sec / 2 ^ k % 2 = 1 then put5 (tornK old new sec k) ((new.drop (k * 512)).take 512) k else tornK old new sec k := rfl
theorem tornK_length {old new : Dat} (h1 : old.length = 4096) (h2 : new.length = 4096) (sec : Nat) : ∀ k, k ≤ 8 → (tornK old new sec k).length = 4096
  | 0, _ => h1
  | k + 1, h => by
    have ih := tornK_length h1 h2 sec k (by omega)
    rw [tornK_succ]
    split
    · simp only [put5, List.length_append, List.length_take, List.length_drop, ih, h2]; omega
    · exact ih
attribute [irreducible] tornK
theorem bts_put5 (l m : Dat) (i : Nat) : bts (put5 l m i) = (bts l).take (i * 512) ++ bts m ++ (bts l).drop (i * 512 + 512) := by
  simp [bts, put5, List.map_take, List.map_drop]
theorem sector_of (I : Imm) (S : St) (b off cap i : Nat) (hi : i < 8) (hcap : 4096 ≤ cap) :
    Tri Tryz.prog 167 #[.slice (some ⟨b, off, none⟩) 4096 cap, .int .i64 i] I S fun v J S' => v = .slice (some ⟨b, off + i * 512, none⟩) 512 512 ∧ I = J ∧ S' = S := by
  refine Tri.of (args := [.slice (some ⟨b, off, none⟩) 4096 cap, .int .i64 i]) tabOk Tryz.func167 rfl (by kernel_rfl) (by kernel_rfl) ?_
  refine ToD.to ((i * 512 : Nat) : Int) (by rw [wrap_i64 (by omega) (by omega)]; omega) ?_
  refine ToD.to ((i + 1 : Nat) : Int) (by rw [wrap_i64 (by omega) (by omega)]; omega) ?_
  refine ToD.to ((i * 512 + 512 : Nat) : Int) (by rw [wrap_i64 (by omega) (by omega)]; omega) ?_
  refine ToD.to ((i + 1 : Nat) : Int) (by rw [wrap_i64 (by omega) (by omega)]; omega) ?_
  refine ToD.to ((i * 512 + 512 : Nat) : Int) (by rw [wrap_i64 (by omega) (by omega)]; omega) ?_
  refine sliceD tabOk rfl rfl rfl rfl (i * 512) (i * 512 + 512) (i * 512 + 512) ⟨_, rfl⟩ ⟨_, rfl⟩ ⟨_, rfl⟩ (.inr (by simp)) (by omega) ?_
  refine Done.mk ⟨?_, rfl, rfl⟩
  show Value.slice (slAddr (some ⟨b, off, none⟩) (i * 512) (i * 512 + 512) 1) (i * 512 + 512 - i * 512) (i * 512 + 512 - i * 512) = _
  unfold slAddr
  rw [if_neg (by omega), show i * 512 + 512 - i * 512 = 512 by omega]
  simp [add_none]
set_option maxHeartbeats 4000000 in
theorem torn_own (I : Imm) (a1 : Option Addr) (cap1 : Nat) (old : Dat) (h1 : Rds I a1 4096 (bts old)) (a2 : Option Addr) (cap2 : Nat) (new : Dat) (h2 : Rds I a2 4096 (bts new)) (hc2 : 4096 ≤ cap2) (sec : Nat) (hsec : sec < 256) :
    Tri Tryz.prog 101 #[.slice a1 4096 cap1, .slice a2 4096 cap2, .int .u8 sec] I [] fun v J S' => ∃ a cap ch, v = .slice a 4096 cap ∧ OwnB ch a 4096 cap (tornP old new sec) ∧ I = J ∧ S' = [ch] := by
  have hl1 : old.length = 4096 := by rw [← bts_length, h1.len]
  have hl2 : new.length = 4096 := by rw [← bts_length, h2.len]
  refine Tri.drop ?_ (fun _ _ _ _ h => h)
  refine Tri.of (args := [.slice a1 4096 cap1, .slice a2 4096 cap2, .int .u8 sec]) tabOk Tryz.func101 rfl (by kernel_rfl) (by kernel_rfl) ?_
  refine Tri.nf (clone_bytes I [] a1 4096 cap1 (bts old) (by rw [Nat.mul_one]; exact h1.slC) (bts_plain old) (by omega)) ?_
  rintro v J S' hJ ⟨aO, capO, chO, rfl, hO, rfl, rfl⟩
  have hcO := hO.le
  rcases hO.at' with q0 | ⟨bO, pre, post, TO, rfl, rfl, hpost⟩
  · omega
  rcases h2.mem with q0 | ⟨bN, oN, cN, TN, fN, rfl, hIN, hcN⟩
  · omega
  refine CodeF.loopD [1, 2, 7, 11] (fun vs J' S' => ∃ (k : Nat), k ≤ 8 ∧ vs = [.slice (some ⟨bN, oN, none⟩) 4096 cap2, .int .u8 sec, .slice (some ⟨bO, pre.length, none⟩) 4096 capO, .int .i64 k] ∧ I = J' ∧ S' = [[(bO, row (pre ++ bts (tornK old new sec k) ++ post) TO)]])
    (fun vs _ _ => match vs with | [_, _, _, .int _ k] => ((8 : Int) - k).toNat | _ => 0) ?_ ?_
  · exact ⟨_, Drop.refl _, 0, by omega, rfl, rfl, by unfold tornK; rfl⟩
  rintro vs gE J' S' hJ' ⟨k, hk, rfl, rfl, rfl⟩
  have hkl := tornK_length hl1 hl2 sec k hk
  refine CmpD.split (fun c1 => ?_) (fun c1 => ?_)
  · have hdv : sec / 2 ^ k ≤ sec := Nat.div_le_self _ _
    refine Chk.mk (by omega) ?_
    refine ToD.to ((sec / 2 ^ k : Nat) : Int) (shr_nat8 sec k (by omega)) ?_
    refine ToD.to ((sec / 2 ^ k % 2 : Nat) : Int) (by rw [show (1 : Int) = ((1 : Nat) : Int) from rfl, u8_and_nat _ 1 (by omega) (by omega), Nat.and_one_is_mod]) ?_
    refine CmpD.split (fun (c2 : ((sec / 2 ^ k % 2 : Nat) : Int) = 1) => ?_) (fun (c2 : ¬ ((sec / 2 ^ k % 2 : Nat) : Int) = 1) => ?_)
    · refine Tri.nf (sector_of I _ bO pre.length capO k (by omega) hcO) ?_
      rintro v J S' hJ ⟨rfl, rfl, rfl⟩
      refine Tri.nf (sector_of I _ bN oN cap2 k (by omega) hc2) ?_
      rintro v J S' hJ ⟨rfl, rfl, rfl⟩
      have hm : ((new.drop (k * 512)).take 512).length = 512 := by rw [List.length_take, List.length_drop]; omega
      refine copyD tabOk rfl rfl rfl rfl rfl rfl rfl 0 rfl (SrcOk.slice (n := 512) (news := bts ((new.drop (k * 512)).take 512)) tabOk rfl (Rds_part h2 (k * 512) 512 (by omega)).slC (bts_plain _)) (Nat.le_refl _) (by simp only [List.length_append, bts_length, hkl]; show pre.length + k * 512 + 512 * 1 ≤ _; omega) (Nat.le_refl _) ?_
      have hsp : splice (pre ++ bts (tornK old new sec k) ++ post) (pre.length + k * 512) (bts ((new.drop (k * 512)).take 512)) = pre ++ bts (tornK old new sec (k + 1)) ++ post := by
        rw [splice_mid _ _ _ _ _ (by rw [bts_length, bts_length, hkl, hm]; omega), tornK_succ, if_pos (by omega), bts_put5, bts_length, hm]
      rw [hsp]
      refine ToD.i64 (by omega) (by omega) ?_
      refine ⟨_, Drop.refl _, ⟨k + 1, by omega, rfl, rfl, rfl⟩, ?_⟩
      show ((8 : Int) - ((k : Int) + 1)).toNat < ((8 : Int) - (k : Int)).toNat
      omega
    · refine ToD.i64 (by omega) (by omega) ?_
      refine ⟨_, Drop.refl _, ⟨k + 1, by omega, rfl, rfl, by rw [tornK_succ, if_neg (by omega)]⟩, ?_⟩
      show ((8 : Int) - ((k : Int) + 1)).toNat < ((8 : Int) - (k : Int)).toNat
      omega
  · obtain rfl : k = 8 := by omega
    refine Done.mk ⟨_, Drop.refl _, some ⟨bO, pre.length, none⟩, capO, _, rfl, ⟨by rw [bts_length]; exact hkl, hcO, .inr ⟨bO, pre, post, TO, rfl, rfl, hpost⟩⟩, rfl, rfl⟩
theorem torn_fix (I : Imm) (a1 : Option Addr) (cap1 : Nat) (old : Dat) (h1 : Rds I a1 4096 (bts old)) (a2 : Option Addr) (cap2 : Nat) (new : Dat) (h2 : Rds I a2 4096 (bts new)) (hc2 : 4096 ≤ cap2) (sec : Nat) (hsec : sec < 256) :
    Tri Tryz.prog 101 #[.slice a1 4096 cap1, .slice a2 4096 cap2, .int .u8 sec] I [] fun v J _ => ∃ a cap, v = .slice a 4096 cap ∧ Rds J a 4096 (bts (tornP old new sec)) := by
  refine Tri.fixed (torn_own I a1 cap1 old h1 a2 cap2 new h2 hc2 sec hsec) ?_
  rintro v J S' hJ ⟨a, cap, ch, rfl, hO, rfl, rfl⟩
  exact ⟨0, ch, rfl, fun J' hJ' hm => ⟨a, cap, rfl, Rds.of_own hO hm⟩⟩
end Go.Proofs.YtegdcjnjnoeinaaGreat
namespace Go.Proofs.YtegdcjnjnoeinaaGreat
open Go.RowKit Go.Sl
set_option maxRecDepth 20000

/-- what a crash leaves of the blocks -/
def crash1 (keep : List Bool) (tn : Int) (sec i : Nat) (n : Nat) (b : Dat) (s : List Dat) : List Dat :=
  if (i : Int) = tn then s.set n (tornP (s.getD n []) b sec) else if keep.getD i false then s.set n b else s
def crashK (keep : List Bool) (tn : Int) (sec : Nat) : Nat → List (Int × Dat) → List Dat → List Dat
  | _, [], s => s
  | i, w :: ws, s => crashK keep tn sec (i + 1) ws (crash1 keep tn sec i w.1.toNat w.2 s)
theorem crashK_snoc (keep : List Bool) (tn : Int) (sec : Nat) : ∀ (ws : List (Int × Dat)) (i : Nat) (s : List Dat) (w : Int × Dat), crashK keep tn sec i (ws ++ [w]) s = crash1 keep tn sec (i + ws.length) w.1.toNat w.2 (crashK keep tn sec i ws s)
  | [], i, s, w => by simp [crashK]
  | x :: ws, i, s, w => by
    rw [List.cons_append, crashK, crashK_snoc keep tn sec ws, crashK, List.length_cons, show i + 1 + ws.length = i + (ws.length + 1) by omega]
theorem crash1_length (keep : List Bool) (tn : Int) (sec i n : Nat) (b : Dat) (s : List Dat) : (crash1 keep tn sec i n b s).length = s.length := by
  unfold crash1; split
  · simp
  · split <;> simp
theorem crash1_mem {keep : List Bool} {tn : Int} {sec i n : Nat} {b : Dat} {s : List Dat} (hb : b.length = 4096) (hs : ∀ x ∈ s, x.length = 4096) (hn : n < s.length) : ∀ x ∈ crash1 keep tn sec i n b s, x.length = 4096 := by
  intro x hx
  unfold crash1 at hx
  split at hx
  · rcases List.mem_or_eq_of_mem_set hx with hx | rfl
    · exact hs x hx
    · refine tornK_length ?_ hb sec 8 (by omega)
      rw [List.getD_eq_getElem?_getD, List.getElem?_eq_getElem hn]
      exact hs _ (List.getElem_mem hn)
  · split at hx
    · rcases List.mem_or_eq_of_mem_set hx with hx | rfl
      · exact hs x hx
      · exact hb
    · exact hs x hx
theorem crashK_length (keep : List Bool) (tn : Int) (sec : Nat) : ∀ (ws : List (Int × Dat)) (i : Nat) (s : List Dat), (crashK keep tn sec i ws s).length = s.length
  | [], _, _ => rfl
  | w :: ws, i, s => by rw [crashK, crashK_length keep tn sec ws, crash1_length]
theorem crashK_mem {keep : List Bool} {tn : Int} {sec : Nat} : ∀ (ws : List (Int × Dat)) (i : Nat) (s : List Dat), (∀ w ∈ ws, w.1.toNat < s.length ∧ w.2.length = 4096) → (∀ x ∈ s, x.length = 4096) → ∀ x ∈ crashK keep tn sec i ws s, x.length = 4096
  | [], _, _, _, hs => hs
  | w :: ws, i, s, hw, hs => by
    have h1 := hw w (by simp)
    exact crashK_mem ws (i + 1) _ (fun y hy => by rw [crash1_length]; exact hw y (by simp [hy])) (crash1_mem h1.2 hs h1.1)
def DSt.crash (d : DSt) (keep : List Bool) (tn : Int) (sec : Nat) : DSt := ⟨crashK keep tn sec 0 d.writes d.safe, crashK keep tn sec 0 d.writes d.safe, [], d.count, false, ⟨false, 0⟩, ⟨false, 0⟩⟩
theorem DSt.Wf.crash {d : DSt} (h : d.Wf) (keep : List Bool) (tn : Int) (sec : Nat) : (d.crash keep tn sec).Wf := by
  have hl := crashK_length keep tn sec d.writes 0 d.safe
  have hm := crashK_mem (keep := keep) (tn := tn) (sec := sec) d.writes 0 d.safe (fun w hw => by have h1 := h.writes w hw; have h2 := h.len; exact ⟨by omega, h1.2.2⟩) h.safe
  have h1 := h.len
  have h2 := h.range
  exact ⟨rfl, by show 1 ≤ (crashK keep tn sec 0 d.writes d.safe).length ∧ (crashK keep tn sec 0 d.writes d.safe).length ≤ 512; omega, hm, hm, fun w hw => (List.not_mem_nil hw).elim, fun h => (Bool.false_ne_true h).elim, fun h => (Bool.false_ne_true h).elim⟩
def bools (l : List Bool) : List Value := l.map Value.bool
theorem bools_get {l : List Bool} {i : Nat} (h : i < l.length) : (bools l)[i]? = some (.bool (l.getD i false)) := by
  rw [List.getD_eq_getElem?_getD, List.getElem?_eq_getElem h]
  simp [bools, h]
set_option maxHeartbeats 4000000 in
theorem disk_Crash (b : Nat) (d : DRec) (hnl : 1 ≤ d.now.len) (hsl : d.safe.len ≤ 1000000) (hwl : d.writes.len ≤ 1000000) (chS chN chW : List Blk) (safe now : List Bk) (ws : List (Int × Bk)) (I : Imm) (hD : DiskAt I d chS chN chW safe now ws) (hws : ∀ w ∈ ws, 0 ≤ w.1 ∧ w.1 < d.safe.len)
    (aK : Option Addr) (nK capK : Nat) (keep : List Bool) (hK : Rds I aK nK (bools keep)) (tn : Int) (sec : Nat) (hsec : sec < 256) :
    Tri Tryz.prog 34 #[.pointer (some ⟨b, 0, none⟩), .slice aK nK capK, .int .i64 tn, .int .u8 sec] I [dChunk b d, chS, chN, chW] fun v J S' =>
      v = .int .i64 0 ∧ ∃ (hS hN : Hd) (chS' chN' : List Blk) (bks : List Bk), bks.map Bk.data = crashK keep tn sec 0 (ws.map fun w => (w.1, w.2.data)) (safe.map Bk.data) ∧
        S' = [dChunk b ⟨hS, hN, ⟨none, 0, 0⟩, d.count, false, ⟨false, 0⟩, ⟨false, 0⟩⟩, chS', chN', []] ∧ DiskAt J ⟨hS, hN, ⟨none, 0, 0⟩, d.count, false, ⟨false, 0⟩, ⟨false, 0⟩⟩ chS' chN' [] bks bks [] := by
  refine Tri.drop ?_ (fun _ _ _ _ h => h)
  refine Tri.of (args := [.pointer (some ⟨b, 0, none⟩), .slice aK nK capK, .int .i64 tn, .int .u8 sec]) tabOk Tryz.func34 rfl (by kernel_rfl) (by kernel_rfl) ?_
  refine Tri.frame1 0 rfl (disk_none b d I) ?_
  rintro v J S' hJ ⟨rfl, rfl, rfl⟩
  refine ⟨_, rfl, ?_⟩
  rw [decide_eq_false (show ¬ d.now.len = 0 by omega)]
  have hKl : keep.length = nK := by have := hK.len; simpa [bools] using this
  obtain ⟨hSo, hNo, hWo, hokS, _, hokW⟩ := hD
  obtain ⟨⟨sa, sl, sc⟩, ⟨na, nl, nc⟩, ⟨wa, wl, wc⟩, count, down, ⟨ao, al⟩, ⟨fo, fl⟩⟩ := d
  dsimp only at hnl hsl hwl hSo hNo hWo hws
  have hwn : ws.length = wl := by have := hWo.n; rw [wCells_length] at this; omega
  refine LoadD.own 0 rfl [.slice wa wl wc] rfl rfl ?_
  refine CodeF.loopD [0, 1, 2, 3, 16, 17, 18] (fun vs J' S' => ∃ (i : Nat) (chS : List Blk) (bks : List Bk), i ≤ wl ∧ OwnC chS 1 sa sl sc (bks.map Bk.cell) ∧ bks.map Bk.data = crashK keep tn sec 0 ((ws.take i).map fun w => (w.1, w.2.data)) (safe.map Bk.data) ∧ (∀ b ∈ bks, BkOk J' b) ∧ I.le J' ∧
      vs = [.pointer (some ⟨b, 0, none⟩), .slice aK nK capK, .int .i64 tn, .int .u8 sec, .slice wa wl wc, .int .i64 wl, .int .i64 i] ∧ S' = [dChunk b ⟨⟨sa, sl, sc⟩, ⟨na, nl, nc⟩, ⟨wa, wl, wc⟩, count, down, ⟨ao, al⟩, ⟨fo, fl⟩⟩, chS, chN, chW])
    (fun vs _ _ => match vs with | [_, _, _, _, _, _, .int _ i] => ((wl : Int) - i).toNat | _ => 0) ?_ ?_
  · exact ⟨_, Drop.refl _, 0, chS, safe, by omega, hSo, rfl, hokS, Imm.le_refl _, rfl, rfl⟩
  rintro vs gE J' S' hJ' ⟨i, chS, bks, hi, hS, hdat, hbok, hle, rfl, rfl⟩
  have hbl : bks.length = sl := by have := hS.n; rw [List.length_map] at this; omega
  refine CmpD.split (fun (c1 : (i : Int) < wl) => ?_) (fun (c1 : ¬ (i : Int) < wl) => ?_)
  · have hil : i < ws.length := by omega
    have hwi := hws _ (List.getElem_mem hil)
    obtain ⟨hwo, hwc⟩ := hokW _ (List.getElem_mem hil)
    have hcell := wCells_at hil
    have htake : ws.take (i + 1) = ws.take i ++ [ws[i]] := by rw [List.take_add_one, List.getElem?_eq_getElem hil]; rfl
    have hlt : (ws.take i).length = i := by rw [List.length_take]; omega
    obtain ⟨bW, oW, rfl, hcW⟩ := SlC.cells (hWo.slC (I := J') (S := [dChunk b ⟨⟨sa, sl, sc⟩, ⟨na, nl, nc⟩, ⟨wa, wl, wc⟩, count, down, ⟨ao, al⟩, ⟨fo, fl⟩⟩, chS, chN, chW]) 3 rfl) (by omega)
    generalize ws[i] = w at *
    obtain ⟨wn, wb⟩ := w
    dsimp only at hwi hwo hwc hcell
    obtain ⟨n, rfl⟩ : ∃ n : Nat, wn = n := ⟨wn.toNat, by omega⟩
    have hwo' := BkOk.mono hwo hle
    have hnew : ∀ bks' : List Bk, bks'.map Bk.data = crash1 keep tn sec i n wb.data (bks.map Bk.data) → bks'.map Bk.data = crashK keep tn sec 0 ((ws.take (i + 1)).map fun w => (w.1, w.2.data)) (safe.map Bk.data) := by
      intro bks' h
      rw [htake, List.map_append, List.map_singleton, crashK_snoc, List.length_map, hlt, Nat.zero_add, ← hdat, h]; rfl
    refine Chk.mk (by omega) ?_
    refine LoadD.mk [.int .i64 n, wb.cell] (by have := hcW.part (i := i * 2) (m := 2) (by omega); rw [hcell] at this; exact this) ?_
    conv => whnf
    intro b10
    refine StoreD.st 4 rfl rfl rfl ?_
    rcases hS.at' with q0 | ⟨bX, pre, post, TX, rfl, rfl, hpost⟩
    · have := hS.le; omega
    have hnb : n < bks.length := by omega
    have hset : ∀ bk : Bk, splice (pre ++ bks.map Bk.cell ++ post) (pre.length + n) [bk.cell] = pre ++ (bks.set n bk).map Bk.cell ++ post := by
      intro bk
      rw [splice_mid _ _ _ _ _ (by simp; omega), List.map_set, List.set_eq_take_append_cons_drop, if_pos (by simp; omega)]
      simp
    have hown : ∀ bk : Bk, OwnC [(bX, row (pre ++ (bks.set n bk).map Bk.cell ++ post) TX)] 1 (some ⟨bX, pre.length, none⟩) sl sc ((bks.set n bk).map Bk.cell) := fun bk => ⟨by simp [hbl], hS.le, .inr ⟨bX, pre, post, TX, rfl, rfl, hpost⟩⟩
    have hXc : Cells J' [[(bX, row (pre ++ bks.map Bk.cell ++ post) TX)]] bX pre.length sl (bks.map Bk.cell) := ⟨_, TX, (0, 0), .one 0 rfl, by have := own_take pre (bks.map Bk.cell) post; rwa [List.length_map, hbl] at this, by rw [List.length_map, hbl]⟩
    refine CmpD.split (fun (c2 : (i : Int) = tn) => ?_) (fun (c2 : ¬ (i : Int) = tn) => ?_)
    · refine CodeF.sched [[], [0], [0, 1], [0, 1, 2], [], [4], [], [6], [6, 7], [6, 7, 8], [], [10], [6, 7, 8, 9, 10, 11], [6, 7, 8, 9, 10, 11, 12], [], [14], [], [6, 7, 8, 9, 10, 11, 12, 13, 14, 15, 16], [0, 1, 2, 3, 4, 5, 6, 7, 8, 9, 10, 11, 12, 13, 14, 15, 16, 17], [0, 1, 2, 3, 4, 5, 6, 7, 8, 9, 10, 11, 12, 13, 14, 15, 16, 17, 18]] [0, 1, 2, 3, 4, 5, 6, 7, 8, 9, 10, 11, 12, 13, 14, 15, 16, 17, 18, 19] (by kernel_rfl) ?_
      repeat (first | refine LoadP.at 0 rfl _ rfl rfl ?_ | refine LoadP.at 4 rfl _ rfl rfl ?_)
      refine Chk.mk (by omega) ?_
      refine LoadP.own 1 [(bks[n]).cell] (hXc.at (by rw [Int.toNat_natCast, List.getElem?_map, List.getElem?_eq_getElem hnb]; rfl)) ?_
      repeat (first | refine LoadP.at 4 rfl _ rfl rfl ?_)
      have hbo := hbok _ (List.getElem_mem hnb)
      refine Tri.free (torn_fix J' (bks[n]).a (bks[n]).cap (bks[n]).data hbo wb.a wb.cap wb.data hwo' hwc sec hsec) ?_
      rintro v J2 _ hJ2 ⟨aT, capT, rfl, hT⟩
      repeat (first | refine Chk.mk ⟨rfl, rfl, trivial⟩ ?_)
      refine Chk.mk (by omega) ?_
      refine StoreD.to 1 rfl _ (hset ⟨aT, capT, tornP (bks[n]).data wb.data sec⟩) (by simp only [List.length_append, List.length_map, hbl]; show pre.length + n + 1 ≤ _; omega) (.inr (.inr (Nat.le_refl _))) _ rfl ?_
      refine ToD.i64 (by omega) (by omega) ?_
      refine ⟨_, Drop.pick [0, 1, 2, 3] _ rfl, ⟨i + 1, _, bks.set n ⟨aT, capT, tornP (bks[n]).data wb.data sec⟩, by omega, hown _, hnew _ ?_, ?_, Imm.le_trans hle hJ2, rfl, rfl⟩, ?_⟩
      · rw [crash1, if_pos c2, List.map_set, List.getD_eq_getElem?_getD, List.getElem?_map, List.getElem?_eq_getElem hnb]; rfl
      · intro y hy
        rcases List.mem_or_eq_of_mem_set hy with hy | rfl
        · exact (hbok y hy).mono hJ2
        · exact hT
      · show ((wl : Int) - ((i : Int) + 1)).toNat < ((wl : Int) - (i : Int)).toNat; omega
    · have hskip : keep.getD i false = false → bks.map Bk.data = crash1 keep tn sec i n wb.data (bks.map Bk.data) := fun h => by rw [crash1, if_neg c2, h]; rfl
      refine CmpD.split (fun (c3 : (i : Int) < nK) => ?_) (fun (c3 : ¬ (i : Int) < nK) => ?_)
      · have hkb := bools_get (l := keep) (i := i) (by omega)
        rcases hK.mem with q0 | ⟨bK, oK, cK, TK, fK, rfl, hIK, hcK⟩
        · omega
        refine Chk.mk (by omega) ?_
        refine LoadD.imm (hle _ _ hIK) [.bool (keep.getD i false)] (take_get hcK hkb) rfl ?_
        cases hkv : keep.getD i false with
        | true =>
          skip
          refine CodeF.sched [[], [0], [0, 1], [0, 1, 2], [], [4], [], [6], [0, 1, 2, 3, 4, 5, 6, 7], [0, 1, 2, 3, 4, 5, 6, 7, 8]] [0, 1, 2, 3, 4, 5, 6, 7, 8, 9] (by kernel_rfl) ?_
          repeat (first | refine LoadP.at 0 rfl _ rfl rfl ?_ | refine LoadP.at 4 rfl _ rfl rfl ?_)
          refine Chk.mk (by omega) ?_
          refine StoreD.to 1 rfl _ (hset wb) (by simp only [List.length_append, List.length_map, hbl]; show pre.length + n + 1 ≤ _; omega) (.inr (.inr (Nat.le_refl _))) _ rfl ?_
          refine ToD.i64 (by omega) (by omega) ?_
          refine ⟨_, Drop.pick [0, 1, 2, 3] _ rfl, ⟨i + 1, _, bks.set n wb, by omega, hown _, hnew _ ?_, ?_, hle, rfl, rfl⟩, ?_⟩
          · rw [crash1, if_neg c2, hkv, if_pos rfl, List.map_set]
          · intro y hy
            rcases List.mem_or_eq_of_mem_set hy with hy | rfl
            · exact hbok y hy
            · exact hwo'
          · show ((wl : Int) - ((i : Int) + 1)).toNat < ((wl : Int) - (i : Int)).toNat; omega
        | false =>
          skip
          refine ToD.i64 (by omega) (by omega) ?_
          refine ⟨_, Drop.pick [0, 1, 2, 3] _ rfl, ⟨i + 1, _, bks, by omega, hS, hnew _ (hskip hkv), hbok, hle, rfl, rfl⟩, ?_⟩
          show ((wl : Int) - ((i : Int) + 1)).toNat < ((wl : Int) - (i : Int)).toNat; omega
      · refine ToD.i64 (by omega) (by omega) ?_
        refine ⟨_, Drop.pick [0, 1, 2, 3] _ rfl, ⟨i + 1, _, bks, by omega, hS, hnew _ (hskip (by rw [List.getD_eq_getElem?_getD, List.getElem?_eq_none (by omega)]; rfl)), hbok, hle, rfl, rfl⟩, ?_⟩
        show ((wl : Int) - ((i : Int) + 1)).toNat < ((wl : Int) - (i : Int)).toNat; omega
  · obtain rfl : i = wl := by omega
    rw [← hwn, List.take_length] at hdat
    refine LoadD.own 0 rfl [.slice sa sl sc] rfl rfl ?_
    refine (clone_blocks J' _ sa sl sc (bks.map Bk.cell) (hS.slC 1 rfl) (by intro v hv; obtain ⟨b, _, rfl⟩ := List.mem_map.1 hv; rfl) (by omega)).mono ?_
    rintro v J3 S3 hJ3 ⟨aN, capN, chN', rfl, hN', rfl, rfl⟩
    refine StoreD.st 0 rfl rfl rfl ?_
    refine StoreD.st 0 rfl rfl rfl ?_
    refine StoreD.st 0 rfl rfl rfl ?_
    refine StoreD.st 0 rfl rfl rfl ?_
    refine StoreD.st 0 rfl rfl rfl ?_
    refine Done.mk ⟨[dChunk b ⟨⟨sa, sl, sc⟩, ⟨aN, sl, capN⟩, ⟨none, 0, 0⟩, count, false, ⟨false, 0⟩, ⟨false, 0⟩⟩, chS, chN', []], Drop.and (Drop.pick [0, 1, 4] _ rfl), rfl, ⟨sa, sl, sc⟩, ⟨aN, sl, capN⟩, chS, chN', bks, hdat, rfl, ⟨hS, hN', OwnC.nil _ _, hbok, hbok, by simp⟩⟩
theorem dk_Crash {I : Imm} {bD : Nat} {st : DSt} {ch : List Blk} (h : Dk I bD st ch) (hf : st.Few 1000000) (aK : Option Addr) (nK capK : Nat) (keep : List Bool) (hK : Rds I aK nK (bools keep)) (tn : Int) (sec : Nat) (hsec : sec < 256) :
    Tri Tryz.prog 34 #[.pointer (some ⟨bD, 0, none⟩), .slice aK nK capK, .int .i64 tn, .int .u8 sec] I [ch] fun v J S' => v = .int .i64 0 ∧ ∃ ch', Dk J bD (st.crash keep tn sec) ch' ∧ S' = [ch'] := by
  have hwf := h.wf.crash keep tn sec
  obtain ⟨hw, d, chS, chN, chW, bS, bN, bW, rfl, hD, q1, q2, q3, q4, q5, q6, q7⟩ := h
  have hl := hD.hN.len1
  have hl' : st.now.length = d.now.len := by rw [← q2]; simpa using hl
  have hls := hD.hS.len1
  have hls' : st.safe.length = d.safe.len := by rw [← q1]; simpa using hls
  have hr := hw.range
  have hwl := hw.len
  have hW := hD.hW.n
  rw [wCells_length] at hW
  have hW' : st.writes.length = d.writes.len := by rw [← q3, List.length_map]; omega
  obtain ⟨f1, f2, f3⟩ := hf
  refine Tri.abs (S2 := [dChunk bD d, chS, chN, chW]) (by simp) (disk_Crash bD d (by omega) (by omega) (by omega) chS chN chW bS bN bW I hD (fun w hw2 => by
    have := hw.writes (w.1, w.2.data) (by rw [← q3]; exact List.mem_map.2 ⟨w, hw2, rfl⟩)
    dsimp only at this
    omega) aK nK capK keep hK tn sec hsec) ?_
  rintro v J S' hJ ⟨rfl, hS, hN, chS', chN', bks, hbd, rfl, hDA⟩
  rw [q1, q3] at hbd
  exact ⟨[dChunk bD ⟨hS, hN, ⟨none, 0, 0⟩, d.count, false, ⟨false, 0⟩, ⟨false, 0⟩⟩ ++ (chS' ++ (chN' ++ []))], Drop.flat (by simp), rfl, _, ⟨hwf, _, chS', chN', [], bks, bks, [], rfl, hDA, hbd, hbd, rfl, q4, rfl, rfl, rfl⟩, rfl⟩
end Go.Proofs.YtegdcjnjnoeinaaGreat
namespace Go.Proofs.YtegdcjnjnoeinaaGreat
open Go.RowKit Go.Sl
set_option maxRecDepth 20000

theorem put5_at {l m : Dat} {k j : Nat} (hm : m.length = 512) (hl : l.length = 4096) (hk : k < 8) :
    (put5 l m k)[j]? = if j / 512 = k then m[j % 512]? else l[j]? := by
  unfold put5
  have h1 : (l.take (k * 512)).length = k * 512 := by rw [List.length_take]; omega
  rw [List.append_assoc]
  rcases Nat.lt_or_ge j (k * 512) with g | g
  · rw [List.getElem?_append_left (by omega), List.getElem?_take, if_pos g, if_neg (by omega)]
  rw [List.getElem?_append_right (by omega), h1]
  rcases Nat.lt_or_ge (j - k * 512) 512 with g2 | g2
  · rw [List.getElem?_append_left (by omega), if_pos (by omega)]
    congr 1; omega
  · rw [List.getElem?_append_right (by omega), hm, List.getElem?_drop]
    have e : k * 512 + 512 + (j - k * 512 - 512) = j := by omega
    rw [e, if_neg (by omega)]
theorem tornK_at {old new : Dat} (h1 : old.length = 4096) (h2 : new.length = 4096) (sec : Nat) : ∀ (n : Nat), n ≤ 8 → ∀ j, j < 4096 → (tornK old new sec n)[j]? = if j / 512 < n ∧ sec / 2 ^ (j / 512) % 2 = 1 then new[j]? else old[j]?
  | 0, _, j, _ => by unfold tornK; rw [if_neg (by omega)]
  | n + 1, hn, j, hj => by
    have ih := tornK_at h1 h2 sec n (by omega) j hj
    have hl := tornK_length h1 h2 sec n (by omega)
    rw [tornK_succ]
    by_cases hs : sec / 2 ^ n % 2 = 1
    · rw [if_pos hs, put5_at (by rw [List.length_take, List.length_drop]; omega) hl (by omega), ih]
      by_cases hj2 : j / 512 = n
      · rw [if_pos hj2, if_pos ⟨by omega, by rw [hj2]; exact hs⟩, List.getElem?_take, if_pos (by omega), List.getElem?_drop]
        congr 1; omega
      · rw [if_neg hj2]
        by_cases h3 : j / 512 < n ∧ sec / 2 ^ (j / 512) % 2 = 1
        · rw [if_pos h3, if_pos ⟨by omega, h3.2⟩]
        · rw [if_neg h3, if_neg (fun h => h3 ⟨by omega, h.2⟩)]
    · rw [if_neg hs, ih]
      by_cases h3 : j / 512 < n ∧ sec / 2 ^ (j / 512) % 2 = 1
      · rw [if_pos h3, if_pos ⟨by omega, h3.2⟩]
      · rw [if_neg h3]
        by_cases h4 : j / 512 < n + 1 ∧ sec / 2 ^ (j / 512) % 2 = 1
        · exfalso
          by_cases hj2 : j / 512 = n
          · exact hs (hj2 ▸ h4.2)
          · exact h3 ⟨by omega, h4.2⟩
        · rw [if_neg h4]
end Go.Proofs.YtegdcjnjnoeinaaGreat
namespace Go.Proofs.YtegdcjnjnoeinaaGreat
open Go.RowKit Go.Sl
set_option maxRecDepth 20000

def supA : Dat := supL (superOf 1 7)
def supB : Dat := supL (superOf 2 9)
theorem supB_length : supB.length = 4096 := supL_length _
theorem supL_rest (s : Sup) {j : Nat} (h1 : 44 ≤ j) (h2 : j < 4096) : (supL s)[j]? = some 0 := by
  have := sup44_length s
  rw [supL, List.getElem?_append_right (by omega), List.getElem?_replicate, if_pos (by omega)]
theorem torn_sup (sec : Nat) : tornP noughts supB sec = noughts ∨ tornP noughts supB sec = supB := by
  have hat := tornK_at noughts_length supB_length sec 8 (by omega)
  have hl : (tornP noughts supB sec).length = 4096 := tornK_length noughts_length supB_length sec 8 (by omega)
  have hz : ∀ j, 512 ≤ j → j < 4096 → (tornP noughts supB sec)[j]? = some 0 := by
    intro j h1 h2
    rw [tornP, hat j h2]
    split
    · exact supL_rest _ (by omega) h2
    · exact noughts_get h2
  by_cases h0 : sec / 2 ^ 0 % 2 = 1
  · right
    refine ext4096 hl supB_length fun j hj => ?_
    rcases Nat.lt_or_ge j 512 with g | g
    · rw [tornP, hat j hj, show j / 512 = 0 by omega, if_pos ⟨by omega, h0⟩]
    · rw [hz j g hj]; exact (supL_rest _ (by omega) hj).symm
  · left
    refine ext4096 hl noughts_length fun j hj => ?_
    rcases Nat.lt_or_ge j 512 with g | g
    · rw [tornP, hat j hj, show j / 512 = 0 by omega, if_neg (fun h => h0 h.2)]
    · rw [hz j g hj, noughts_get hj]
theorem torn_same {b : Dat} (hb : b.length = 4096) (sec : Nat) : tornP b b sec = b := by
  refine ext4096 (tornK_length hb hb sec 8 (by omega)) hb fun j hj => ?_
  rw [tornP, tornK_at hb hb sec 8 (by omega) j hj]
  split <;> rfl
/-- blocks that may lie behind any cut -/
structure PB (K : List Int) (l : List Dat) : Prop where
  len : l.length = 64
  z : l[0]? = some supA
  o : l[1]? = some noughts ∨ l[1]? = some supB
  r : ∀ n : Nat, 2 ≤ n → n < 64 → (n : Int) ∉ K → l[n]? = some noughts
def WB (K : List Int) (ws : List (Int × Dat)) : Prop := ∀ w ∈ ws, (w.1 ∈ K ∧ 2 ≤ w.1) ∨ w = (1, supB)
structure QB (K : List Int) (d : DSt) : Prop where
  safe : PB K d.safe
  now : PB K d.now
  ws : WB K d.writes
theorem PB.set {K : List Int} {l : List Dat} (h : PB K l) {n : Int} (hn : n ∈ K ∧ 2 ≤ n) (b : Dat) : PB K (l.set n.toNat b) := by
  refine ⟨by rw [List.length_set]; exact h.len, by rw [List.getElem?_set_ne (by omega)]; exact h.z, ?_, fun m h1 h2 h3 => ?_⟩
  · rw [List.getElem?_set_ne (by omega)]; exact h.o
  · have : n.toNat ≠ m := by
      intro e
      apply h3
      rw [show ((m : Nat) : Int) = n by omega]; exact hn.1
    rw [List.getElem?_set_ne this]; exact h.r m h1 h2 h3
theorem PB.set1 {K : List Int} {l : List Dat} (h : PB K l) {b : Dat} (hb : b = noughts ∨ b = supB) : PB K (l.set 1 b) := by
  have hl := h.len
  refine ⟨by rw [List.length_set]; exact h.len, by rw [List.getElem?_set_ne (by omega)]; exact h.z, ?_, fun m h1 h2 h3 => ?_⟩
  · rw [List.getElem?_set_self (by omega)]
    rcases hb with rfl | rfl
    · exact .inl rfl
    · exact .inr rfl
  · rw [List.getElem?_set_ne (by omega)]; exact h.r m h1 h2 h3
theorem PB.wr {K : List Int} {l : List Dat} (h : PB K l) {n : Int} {b : Dat} (hw : (n ∈ K ∧ 2 ≤ n) ∨ (n, b) = (1, supB)) : PB K (l.set n.toNat b) := by
  rcases hw with hw | hw
  · exact h.set hw b
  · cases hw
    exact h.set1 (.inr rfl)
theorem QB.stop {K : List Int} {d : DSt} (h : QB K d) : QB K d.stop.1 := by
  obtain ⟨e1, e2, e3, _⟩ := d.stop_same
  exact ⟨by rw [e1]; exact h.safe, by rw [e2]; exact h.now, by rw [e3]; exact h.ws⟩
theorem QB.write {K : List Int} {d : DSt} (h : QB K d) {n : Int} {b : Dat} (hw : (n ∈ K ∧ 2 ≤ n) ∨ (n, b) = (1, supB)) : QB K (d.write n b).1 := by
  unfold DSt.write
  split
  · exact h
  split
  · exact h
  split
  · exact h.stop
  obtain ⟨e1, _, _, _⟩ := d.stop_same
  refine ⟨by show PB K d.stop.1.safe; rw [e1]; exact h.safe, h.now.wr hw, ?_⟩
  intro w hm
  have hm : w ∈ d.writes ++ [(n, b)] := hm
  rcases List.mem_append.1 hm with hm | hm
  · exact h.ws w hm
  · simp only [List.mem_singleton] at hm
    subst hm; exact hw
theorem QB.flush {K : List Int} {d : DSt} (h : QB K d) : QB K d.flush.1 := by
  unfold DSt.flush
  split
  · exact h.stop
  obtain ⟨_, e2, _, _⟩ := d.stop_same
  exact ⟨h.now, by show PB K d.stop.1.now; rw [e2]; exact h.now, fun w hm => (List.not_mem_nil hm).elim⟩
theorem QB.imgs {K : List Int} : ∀ (l : List PImg) (d : DSt), QB K d → (∀ g ∈ l, g.1 ∈ K ∧ 2 ≤ g.1) → QB K (wrImgs l d).1
  | [], _, h, _ => h
  | g :: l, d, h, hl => by
    have h1 := h.write (b := g.2) (.inl (hl g (by simp)))
    rw [wrImgs]
    split
    · exact h1
    · exact QB.imgs l _ h1 fun x hx => hl x (by simp [hx])
theorem QB.last {K : List Int} {d : DSt} (h : QB K d) : QB K (lastWr d 1 (superOf 2 9)).1 := by
  have h1 := h.write (n := 1) (b := supB) (.inr rfl)
  unfold lastWr
  split
  · exact h1
  · exact h1.flush
theorem QB.doP {K : List Int} {d : DSt} (h : QB K d) {l : List PImg} (hl : ∀ g ∈ l, g.1 ∈ K ∧ 2 ≤ g.1) : QB K (doP d l (superOf 2 9) 1).1 := by
  have h1 := QB.imgs l d h hl
  unfold Go.Proofs.YtegdcjnjnoeinaaGreat.doP
  split
  · exact h
  split
  · exact h1
  split
  · exact h1.flush
  · exact h1.flush.last
theorem PB.crash {K : List Int} (keep : List Bool) (tn : Int) (sec : Nat) : ∀ (ws : List (Int × Dat)) (i : Nat) (s : List Dat), PB K s → WB K ws → PB K (crashK keep tn sec i ws s)
  | [], _, _, h, _ => h
  | w :: ws, i, s, h, hw => by
    rw [crashK]
    refine PB.crash keep tn sec ws (i + 1) _ ?_ fun x hx => hw x (by simp [hx])
    have h0 := hw w (by simp)
    obtain ⟨n, b⟩ := w
    unfold crash1
    dsimp only at h0 ⊢
    split
    · rcases h0 with h0 | h0
      · exact h.set h0 _
      · cases h0
        refine h.set1 ?_
        rw [show (1 : Int).toNat = 1 from rfl, List.getD_eq_getElem?_getD]
        rcases h.o with ho | ho
        · rw [ho]; exact torn_sup sec
        · rw [ho]; exact .inr (torn_same supB_length sec)
    · split
      · exact h.wr h0
      · exact h
theorem QB.crash {K : List Int} {d : DSt} (h : QB K d) (keep : List Bool) (tn : Int) (sec : Nat) : QB K (d.crash keep tn sec) :=
  ⟨PB.crash keep tn sec _ _ _ h.safe h.ws, PB.crash keep tn sec _ _ _ h.safe h.ws, fun _ hm => (List.not_mem_nil hm).elim⟩
/-! ### the last time, with nothing in the way -/
end Go.Proofs.YtegdcjnjnoeinaaGreat
namespace Go.Proofs.YtegdcjnjnoeinaaGreat
open Go.RowKit Go.Sl
set_option maxRecDepth 20000

theorem lastD_mem : ∀ (l : List PImg) (n : Int) (x : Dat), lastD l n = some x → ∃ g ∈ l, g.1 = n ∧ g.2 = x := by
  intro l
  refine snoc_ind (p := fun l : List PImg => ∀ (n : Int) (x : Dat), lastD l n = some x → ∃ g ∈ l, g.1 = n ∧ g.2 = x) ?_ ?_ l
  · intro n x h; cases h
  · intro l g ih n x h
    rw [lastD_snoc] at h
    split at h
    · rename_i hg
      exact ⟨g, by simp, hg, Option.some.inj h⟩
    · obtain ⟨y, hy, h1⟩ := ih n x h
      exact ⟨y, by simp [hy], h1⟩
structure HomL (l L : List PImg) : Prop where
  ok : ∀ g ∈ L, 18 ≤ g.1 ∧ g.1 < 64 ∧ g.2.length = 4096
  last : ∀ n, lastD L n = lastD l n
  few : L.length ≤ 46
theorem getD_some {l : List Dat} {n : Nat} {x : Dat} (h : l[n]? = some x) : l.getD n [] = x := by rw [List.getD_eq_getElem?_getD, h]; rfl
end Go.Proofs.YtegdcjnjnoeinaaGreat
namespace Go.Proofs.YtegdcjnjnoeinaaGreat
open Go.RowKit Go.Sl
set_option maxRecDepth 20000

theorem scanK_right {rb : Nat → Dat} {ep : Int} : ∀ (f at_ : Nat) (seq : Int) (room : Nat), ∀ g ∈ scanK rb ep f at_ seq room, RightP g.1 g.2.1 g.2.2
  | 0, _, _, _, g, hg => by simp [scanK] at hg
  | f + 1, at_, seq, room, g, hg => by
    rw [scanK] at hg
    cases hp : grpP rb at_ room with
    | none => rw [hp] at hg; simp at hg
    | some p =>
      obtain ⟨e, s, l⟩ := p
      rw [hp] at hg
      dsimp only at hg
      split at hg
      · rcases List.mem_cons.1 hg with rfl | hg
        · unfold grpP at hp
          split at hp
          · cases hp
          · split at hp
            · exact (getP_some hp).1
            · cases hp
        · exact scanK_right f _ _ _ g hg
      · simp at hg
theorem home_mem {l : List PImg} {g : PImg} (h : g ∈ homeP l) : g ∈ l := by
  unfold homeP at h
  obtain ⟨n, hn, rfl⟩ := List.mem_map.1 h
  have h1 := (sortI_perm _).mem_iff.1 hn
  have h2 := (mem_lastP l n).1 h1
  rw [lookup_lastP]
  cases hd : lastD l n with
  | none => rw [hd] at h2; simp at h2
  | some x =>
    obtain ⟨g, hg, h3, h4⟩ := lastD_mem l n x hd
    show (n, x) ∈ l
    rw [← h3, ← h4]
    exact hg
theorem homeP_len (l : List PImg) : (homeP l).length ≤ l.length := by
  have e2 : (homeP l).length = (lastP l).length := by unfold homeP; rw [List.length_map, (sortI_perm _).length_eq, List.length_map]
  have h : ∀ (l ms : List PImg), (l.foldl pput ms).length ≤ ms.length + l.length := by
    intro l
    induction l with
    | nil => intro ms; simp
    | cons g l ih =>
      intro ms
      have h1 := ih (pput ms g)
      have h2 : (pput ms g).length ≤ ms.length + 1 := by unfold pput; split <;> simp
      rw [List.foldl_cons, List.length_cons]; omega
  have := h l []
  rw [e2]; simpa [lastP] using this
theorem choose_right {a b : Option Sup} {s : Sup} {slot : Int} (ha : ∀ x, a = some x → RightS x) (hb : ∀ x, b = some x → RightS x) (h : chooseP a b = (s, slot, true)) : RightS s ∧ (slot = 0 ∨ slot = 1) := by
  cases a with
  | none =>
    cases b with
    | none => simp [chooseP] at h
    | some y =>
      simp only [chooseP, Prod.mk.injEq] at h
      obtain ⟨rfl, rfl, _⟩ := h
      exact ⟨hb _ rfl, .inr rfl⟩
  | some x =>
    cases b with
    | none =>
      simp only [chooseP, Prod.mk.injEq] at h
      obtain ⟨rfl, rfl, _⟩ := h
      exact ⟨ha _ rfl, .inl rfl⟩
    | some y =>
      simp only [chooseP] at h
      split at h
      · simp only [Prod.mk.injEq] at h
        obtain ⟨rfl, rfl, _⟩ := h
        exact ⟨ha _ rfl, .inl rfl⟩
      · simp only [Prod.mk.injEq] at h
        obtain ⟨rfl, rfl, _⟩ := h
        exact ⟨hb _ rfl, .inr rfl⟩
theorem getS_right (b : Dat) : ∀ x, getS b = some x → RightS x := fun _ h => (getS_some.1 h).1
theorem found_ok {d : DSt} (h : (foundP d).2.2 = 0) : d.down = false ∧ RightS (foundP d).1 ∧ ((foundP d).2.1 = 0 ∨ (foundP d).2.1 = 1) ∧ (foundP d).1.blocks = d.now.length ∧ (foundP d).1.tail < layL d.now.length ∧ (foundP d).1.epoch < 8388608 := by
  have hc := @choose_right (getS (d.now.getD 0 [])) (getS (d.now.getD 1 [])) 
  unfold foundP at h ⊢
  generalize chooseP (getS (d.now.getD 0 [])) (getS (d.now.getD 1 [])) = cp at *
  obtain ⟨s, slot, ok⟩ := cp
  by_cases hd : d.down = true
  · rw [if_pos hd] at h; simp at h
  rw [if_neg hd] at h ⊢
  dsimp only at h ⊢
  split at h
  · simp at h
  · rename_i hn
    rw [if_neg hn]
    have h1 : ok = true := by
      cases ok
      · exact absurd (.inl rfl) hn
      · rfl
    subst h1
    obtain ⟨r1, r2⟩ := hc (getS_right _) (getS_right _) rfl
    refine ⟨by simpa using hd, r1, r2, ?_, ?_, ?_⟩
    · exact Classical.byContradiction fun h => hn (.inr (.inl h))
    · exact Classical.byContradiction fun h => hn (.inr (.inr (.inl (by have h : ¬ s.tail < layL d.now.length := h; omega))))
    · exact Classical.byContradiction fun h => hn (.inr (.inr (.inr (by have h : ¬ s.epoch < 8388608 := h; omega))))
theorem allP_allG {J : Imm} {gl : List Grp} {l : List G3} (h : GrpsOk J gl l) : allP gl = allG l := by
  have e := congrArg (fun x => x.flatMap fun p : Int × Int × List PImg => p.2.2) h.g3
  simp only [List.flatMap_map] at e
  exact e
theorem DSt.stop_len (d : DSt) : d.stop.1.now.length = d.now.length := by rw [d.stop_same.2.1]
theorem DSt.write_len (d : DSt) (n : Int) (b : Dat) : (d.write n b).1.now.length = d.now.length := by
  unfold DSt.write
  split
  · rfl
  · split
    · rfl
    · split
      · exact d.stop_len
      · show (d.now.set _ _).length = _; rw [List.length_set]
theorem DSt.flush_len (d : DSt) : d.flush.1.now.length = d.now.length := by
  unfold DSt.flush
  split
  · exact d.stop_len
  · exact d.stop_len
theorem wrImgs_len : ∀ (l : List PImg) (d : DSt), (wrImgs l d).1.now.length = d.now.length
  | [], _ => rfl
  | g :: l, d => by
    rw [wrImgs]
    split
    · exact d.write_len _ _
    · rw [wrImgs_len l, d.write_len]
theorem doP_len (d : DSt) (l : List PImg) (s : Sup) (slot : Int) : (doP d l s slot).1.now.length = d.now.length := by
  unfold doP
  split
  · rfl
  split
  · exact wrImgs_len _ _
  split
  · rw [DSt.flush_len, wrImgs_len]
  · unfold lastWr
    split
    · rw [DSt.write_len, DSt.flush_len, wrImgs_len]
    · rw [DSt.flush_len, DSt.write_len, DSt.flush_len, wrImgs_len]
def MountQ (J : Imm) (bD : Nat) (M : DSt × Int × Option VSt) (r : Value) (S' : St) : Prop := ∃ chD', Dk J bD M.1 chD' ∧
  ((M.2.1 ≠ 0 ∧ M.2.2 = none ∧ r = .tuple #[.pointer none, .int .i64 M.2.1] ∧ S' = [chD']) ∨
   (M.2.1 = 0 ∧ ∃ v bV chV, M.2.2 = some v ∧ r = .tuple #[.pointer (some ⟨bV, 0, none⟩), .int .i64 0] ∧ Vk J bV bD v chV ∧ S' = [chD', chV]))
set_option maxHeartbeats 4000000 in
theorem vk_Mount {I : Imm} {bD : Nat} {d : DSt} {chD : List Blk} (hD : Dk I bD d chD) (hf : d.Few 700000) :
    Tri Tryz.prog 38 #[.pointer (some ⟨bD, 0, none⟩)] I [chD] fun r J S' => MountQ J bD (mountP d) r S' := by
  have hr := hD.wf.range
  refine Tri.drop ?_ (fun _ _ _ _ h => h)
  refine Tri.of (args := [.pointer (some ⟨bD, 0, none⟩)]) tabOk Tryz.func38 rfl (by kernel_rfl) (by kernel_rfl) ?_
  refine Tri.frame1 0 rfl (dk_Size hD) ?_
  rintro r _ A' hJ ⟨rfl, rfl, rfl⟩
  refine ⟨_, rfl, ?_⟩
  refine CmpD.no (by show ((d.now.length : Nat) : Int) ≠ 0; omega) ?_
  refine Tri.frame1 0 rfl (dk_Size hD) ?_
  rintro r _ A' hJ ⟨rfl, rfl, rfl⟩
  refine ⟨_, rfl, ?_⟩
  refine Tri.free (layout_Of d.now.length I) ?_
  rintro r _ _ hJ ⟨rfl, rfl⟩
  unfold mountP
  by_cases h64 : d.now.length < 64
  · rw [if_pos h64, layA, if_pos (by omega)]
    conv => whnf
    intro b4
    repeat (first | refine StoreD.st 1 rfl rfl rfl ?_ | refine CmpD.no (by decide) ?_)
    exact Done.mk ⟨_, Drop.pick [0] _ rfl, chD, hD, .inl ⟨by simp, rfl, rfl, rfl⟩⟩
  rw [if_neg h64, layA, if_neg (by omega)]
  conv => whnf
  intro b4
  repeat (first | refine LoadD.own 1 rfl _ rfl rfl ?_ | refine StoreD.st 1 rfl rfl rfl ?_ | refine CmpD.yes rfl ?_)
  refine Tri.frame1 0 rfl (v_found hD (by omega)) ?_
  have hfo := found_ok (d := d)
  obtain ⟨fp, hfp⟩ : ∃ fp, fp = foundP d := ⟨_, rfl⟩
  rw [← hfp] at hfo ⊢
  obtain ⟨s, slot, e⟩ := fp
  dsimp only at hfo ⊢
  rintro r J1 A' hJ1 ⟨rfl, hD1, rfl⟩
  refine ⟨_, rfl, ?_⟩
  conv => whnf
  intro b6
  repeat (first | refine StoreD.st 2 rfl rfl rfl ?_)
  by_cases he : e ≠ 0
  · rw [if_pos he]
    refine CmpD.no he ?_
    skip
    exact Done.mk ⟨_, Drop.pick [0] _ rfl, chD, hD1, .inl ⟨he, rfl, rfl, rfl⟩⟩
  rw [if_neg he]
  obtain rfl : e = 0 := by omega
  obtain ⟨hdn, hR, hsl, hb, htl, hep⟩ := hfo rfl
  obtain ⟨n, hn⟩ : ∃ n, n = d.now.length := ⟨_, rfl⟩
  rw [← hn] at hr h64 hb htl ⊢
  have hR' := hR
  obtain ⟨r1, r2, r3, r4, r5, r6, r7, r8⟩ := hR'
  have hlr := layL_range (n := (n : Int)) (by omega)
  repeat (first | refine LoadD.own 1 rfl _ rfl rfl ?_ | refine LoadD.own 2 rfl _ rfl rfl ?_ | refine CmpD.yes rfl ?_)
  refine Tri.frame1 0 rfl (scan_Groups hD1 (layOf n) s) ?_
  have hsok : ScanOk d.now.length (layOf n) s := by
    rw [← hn]
    exact ⟨by omega, rfl, hb, r7, htl, r3, r4, r5, r6⟩
  have hbd := scan_bound (rb := rbP d 2 (layL (d.now.length : Int)).toNat) (ep := s.epoch) ((layL (d.now.length : Int)).toNat + 1) s.tail.toNat s.seq (layL (d.now.length : Int)).toNat
  have hrt := scanK_right (rb := rbP d 2 (layL (d.now.length : Int)).toNat) (ep := s.epoch) ((layL (d.now.length : Int)).toNat + 1) s.tail.toNat s.seq (layL (d.now.length : Int)).toNat
  rw [show scanK (rbP d 2 (layL (d.now.length : Int)).toNat) s.epoch ((layL (d.now.length : Int)).toNat + 1) s.tail.toNat s.seq (layL (d.now.length : Int)).toNat = scanL d s from rfl] at hbd hrt
  rw [← hn] at hbd
  obtain ⟨L, hL⟩ : ∃ L, L = scanL d s := ⟨_, rfl⟩
  rw [← hL] at hbd hrt ⊢
  rintro r J2 A' hJ2 ⟨rfl, (⟨h, _⟩ | ⟨_, h, _⟩ | ⟨_, _, aO, capO, gl, rfl, hG, hGk⟩)⟩
  · exact absurd hsok h
  · rw [hdn] at h; exact Bool.noConfusion h
  refine ⟨_, rfl, ?_⟩
  have hpl : allP gl = allG L := allP_allG hGk
  have hgl := hGk.len
  rw [← hn]
  obtain ⟨pl, hplc⟩ : ∃ pl, pl = placeP (layL (n : Int)).toNat s.tail.toNat L := ⟨_, rfl⟩
  rw [← hplc]
  have hpl16 : pl < (layL (n : Int)).toNat := by rw [hplc]; exact Nat.mod_lt _ (by omega)
  have hsum : ∀ (l : List G3), (allG l).length ≤ (l.map fun g => g.2.2.length + 1).sum := by
    intro l
    induction l with
    | nil => simp [allG]
    | cons g l ih => simp [allG] at ih ⊢; omega
  have hall : (allI gl).length ≤ 1000 := by
    have h1 : (allP gl).length = (allI gl).length := by rw [allP_eq, List.length_map]
    have h2 := hsum L
    rw [← hpl] at h2
    omega
  have h4 : ∀ g ∈ allG L, g.2.length = 4096 := by
    intro g hg
    obtain ⟨q, hq, hgq⟩ := List.mem_flatMap.1 hg
    exact ((hrt q hq).2.2.2.2.2.2.1 g hgq).2.2
  have hIo : ∀ g ∈ allI gl, ImgOk J2 g := by
    intro g hg
    obtain ⟨q, hq, hgq⟩ := List.mem_flatMap.1 hg
    exact (hGk.each q hq).2 g hgq
  have hfew : ∀ g ∈ allI gl, g.len ≤ 100000000 := by
    intro g hg
    have h1 := (hIo g hg).2.len
    rw [bts_length] at h1
    have h2 := h4 g.pr (by rw [← hpl, allP_eq]; exact List.mem_map_of_mem hg)
    have h3 : g.data.length = 4096 := h2
    omega
  have hGR : GrpsR J2 [] aO gl := ⟨hG.slC, fun g hg => ⟨⟨(hGk.each g hg).1.slC, fun q hq => ⟨((hGk.each g hg).2 q hq).2.slC⟩⟩, by
    have : g.gs.length ≤ (allI gl).length := by
      obtain ⟨x, y, rfl⟩ := List.append_of_mem hg
      simp [allI]; omega
    omega⟩⟩
  have hgll : gl.length ≤ 64 := by omega
  repeat (first | refine LoadD.own 1 rfl _ rfl rfl ?_ | refine CmpD.yes rfl ?_)
  refine Tri.free (home_fix hGR (by omega) (by omega) hfew (layOf n)) ?_
  rw [hpl]
  have hLayOk : LayOk (layOf n) := ⟨by show (64 : Int) ≤ n; omega, by show (n : Int) ≤ 512; omega, rfl⟩
  unfold mountL
  rw [← hplc]
  rintro r J3 _ hJ3 (⟨h, _⟩ | ⟨_, hno, rfl⟩ | ⟨_, hhok, aI, capI, outs, rfl, hoR, hopr⟩)
  · exact absurd hLayOk h
  · rw [if_pos (.inl hno)]
    repeat (first | refine CmpD.no (by decide) ?_)
    exact Done.mk ⟨_, Drop.pick [0] _ rfl, chD, hD1.mono (Imm.le_trans hJ2 hJ3), .inl ⟨by simp, rfl, rfl, rfl⟩⟩
  have hle3 := Imm.le_trans hJ2 hJ3
  have hLl : L.length ≤ 64 := by omega
  rw [hgl]
  repeat (first | refine LoadD.own 2 rfl _ rfl rfl ?_ | refine CmpD.yes rfl ?_)
  refine ToD.to (549755813888 - (L.length : Int)) (wrap_i64 (by omega) (by omega)) ?_
  refine CmpD.split (fun (c1 : 549755813888 - (L.length : Int) < s.seq) => ?_) (fun (c1 : ¬ 549755813888 - (L.length : Int) < s.seq) => ?_)
  · rw [if_pos (.inr c1)]
    skip
    exact Done.mk ⟨_, Drop.pick [0] _ rfl, chD, hD1.mono hle3, .inl ⟨by simp, rfl, rfl, rfl⟩⟩
  rw [if_neg (by rintro (h | h); exact h hhok; exact c1 h)]
  repeat (first | refine LoadD.own 2 rfl _ rfl rfl ?_)
  refine ToD.to (s.epoch + 1) (wrap_i64 (by omega) (by omega)) ?_
  repeat (first | refine LoadD.own 2 rfl _ rfl rfl ?_)
  refine ToD.to (s.seq + L.length) (wrap_i64 (by omega) (by omega)) ?_
  repeat (first | refine LoadD.own 2 rfl _ rfl rfl ?_ | refine StoreD.st 2 rfl rfl rfl ?_)
  refine ToD.to (1 - slot) (wrap_i64 (by omega) (by omega)) ?_
  have hol : outs.length ≤ 1000 := by
    have h1 := homeP_len (allG L)
    rw [← hopr, List.length_map] at h1
    have h2 := hsum L
    omega
  have himg : ImgsOk J3 aI outs := by
    refine ⟨SlC.rds hoR.sl, fun g hg => ?_⟩
    have hm := home_mem (l := allG L) (g := g.pr) (by rw [← hopr]; exact List.mem_map_of_mem hg)
    have hb2 := hhok _ hm
    refine ⟨?_, SlC.rds (hoR.each g hg).rd⟩
    have e1 : (layOf (n : Int)).bi = 2 + layL n := rfl
    have e2 : (layOf (n : Int)).b = n := rfl
    rw [e1, e2] at hb2
    have e3 : g.pr.1 = g.blk := rfl
    rw [e3] at hb2
    unfold In64; omega
  refine Tri.frame1 0 rfl (dk_Do (hD1.mono hle3) 700000 hf aI capI outs himg (by omega) ⟨s.blocks, s.epoch + 1, s.seq + L.length, pl⟩ (1 - slot)) ?_
  rw [hopr]
  have hlen2 := doP_len d (homeP (allG L)) ⟨s.blocks, s.epoch + 1, s.seq + L.length, pl⟩ (1 - slot)
  rw [← hn] at hlen2
  generalize doP d (homeP (allG L)) ⟨s.blocks, s.epoch + 1, s.seq + L.length, pl⟩ (1 - slot) = dp at *
  obtain ⟨d2, e2⟩ := dp
  dsimp only at hlen2 ⊢
  rintro r J4 A' hJ4 ⟨rfl, chD2, hD2, rfl⟩
  refine ⟨_, rfl, ?_⟩
  by_cases he2 : e2 ≠ 0
  · rw [if_pos he2]
    refine CmpD.no he2 ?_
    skip
    exact Done.mk ⟨_, Drop.pick [0] _ rfl, chD2, hD2, .inl ⟨he2, rfl, rfl, rfl⟩⟩
  rw [if_neg he2]
  obtain rfl : e2 = 0 := by omega
  repeat (first | refine LoadD.own 1 rfl _ rfl rfl ?_ | refine LoadD.own 2 rfl _ rfl rfl ?_ | refine CmpD.yes rfl ?_)
  have hopk : OpenOk n (layOf n) (s.epoch + 1) (s.seq + L.length) pl := ⟨rfl, by omega, by omega, by omega, by omega, by omega, by omega⟩
  refine Tri.frameX (jk_Open hD2 n hlen2 (by omega) (layOf n) (s.epoch + 1) (s.seq + L.length) pl (by unfold In64; omega)) [0] rfl rfl ?_
  rintro r _ A' hJ5 (⟨h, _⟩ | ⟨_, rfl, bJ, chJ, rfl, hj, rfl⟩)
  · exact absurd hopk h
  repeat (first | refine LoadD.own 1 rfl _ rfl rfl ?_ | refine LoadD.own 2 rfl _ rfl rfl ?_ | refine CmpD.yes rfl ?_)
  refine makeMapD rfl ?_
  intro bM
  conv => whnf
  intro bV
  refine Done.mk ⟨[chD2, vChunk bV bD bJ bM (layOf n) (s.epoch + 1) slot false ++ ((bM, .map #[] 0) :: chJ)], (Drop.pick [3, 6, 5, 4] _ rfl).trans (Drop.flat ?_), chD2, hD2, .inr ⟨rfl, ⟨openJ n (s.epoch + 1) (s.seq + L.length) pl, s.epoch + 1, slot, [], false⟩, bV, _, rfl, rfl, ⟨bJ, bM, _, chJ, [], rfl, hj, MapR.nil, by simp, rfl⟩, rfl⟩⟩
  simp [St.at]
  rfl
end Go.Proofs.YtegdcjnjnoeinaaGreat
namespace Go.Proofs.YtegdcjnjnoeinaaGreat
open Go.RowKit Go.Sl
set_option maxRecDepth 20000

/-- noughts to the blocks from k on, n of them -/
def blankP : Nat → Nat → DSt → DSt × Int
  | 0, _, d => (d, 0)
  | n + 1, k, d => if (d.write k noughts).2 ≠ 0 then d.write k noughts else blankP n (k + 1) (d.write k noughts).1
def fmtS (m : Nat) (s : Sup) (d : DSt) : DSt × Int :=
  if (blankP m 1 d).2 ≠ 0 then blankP m 1 d else
  if (blankP m 1 d).1.flush.2 ≠ 0 then (blankP m 1 d).1.flush else
  if ((blankP m 1 d).1.flush.1.write 0 (supL s)).2 ≠ 0 then (blankP m 1 d).1.flush.1.write 0 (supL s) else
  ((blankP m 1 d).1.flush.1.write 0 (supL s)).1.flush
def formatP (d : DSt) : DSt × Int :=
  if d.now.length < 64 then (d, 2) else fmtS ((layOf d.now.length).d.toNat - 1) ⟨d.now.length, 1, 1, 0⟩ d
theorem blankP_few : ∀ (n k : Nat) (d : DSt) (q : Nat), d.Few q → (blankP n k d).1.Few (q + n)
  | 0, _, _, _, h => h
  | n + 1, k, d, q, h => by
    have h1 := h.write (k : Int) noughts
    rw [blankP]
    split
    · exact h1.mono (by omega)
    · exact (blankP_few n (k + 1) _ _ h1).mono (by omega)
theorem noughts_bts : bts noughts = rows 4096 [Value.int .u8 0] := by
  show bts (List.replicate 4096 0) = _
  exact (zeros_bts 4096).symm
theorem fmt1 {I : Imm} {b1 b2 b3 bD : Nat} {x : Lay} {d : DSt} {chD : List Blk} (hD : Dk I bD d chD) (hf : d.Few 500000) (hx : 1 ≤ x.d ∧ x.d ≤ 1000) (aN : Option Addr) (capN : Nat) (hN : Rds I aN 4096 (bts noughts)) :
    Tri Tryz.prog 123 #[.pointer (some ⟨b1, 0, none⟩), .pointer (some ⟨b2, 0, none⟩), .pointer (some ⟨b3, 0, none⟩)] I [[(b1, row x.vals 45)], pBox b2 (.pointer (some ⟨bD, 0, none⟩)) 22, pBox b3 (.slice aN 4096 capN) 32, chD]
      fun r J S' => r = .int .i64 (blankP (x.d.toNat - 1) 1 d).2 ∧ ∃ chD', Dk J bD (blankP (x.d.toNat - 1) 1 d).1 chD' ∧ S' = [[(b1, row x.vals 45)], pBox b2 (.pointer (some ⟨bD, 0, none⟩)) 22, pBox b3 (.slice aN 4096 capN) 32, chD'] := by
  obtain ⟨l1, l2, l3, l4, l5, l6, l7⟩ := x
  dsimp only at hx ⊢
  obtain ⟨e, rfl⟩ : ∃ e : Nat, l7 = e := ⟨l7.toNat, by omega⟩
  rw [Int.toNat_natCast]
  refine Tri.of (args := [.pointer (some ⟨b1, 0, none⟩), .pointer (some ⟨b2, 0, none⟩), .pointer (some ⟨b3, 0, none⟩)]) tabOk Tryz.func123 rfl (by kernel_rfl) (by kernel_rfl) ?_
  refine CodeF.loopD [0, 1, 2, 4] (fun vs J' S' => ∃ (k : Nat) (d2 : DSt) (chD2 : List Blk), 1 ≤ k ∧ k ≤ e ∧ blankP (e - 1) 1 d = blankP (e - k) k d2 ∧ d2.Few (500000 + k) ∧ Dk J' bD d2 chD2 ∧ I.le J' ∧
      vs = [.pointer (some ⟨b1, 0, none⟩), .pointer (some ⟨b2, 0, none⟩), .pointer (some ⟨b3, 0, none⟩), .int .i64 k] ∧ S' = [[(b1, row [.int .i64 l1, .int .i64 l2, .int .i64 l3, .int .i64 l4, .int .i64 l5, .int .i64 l6, .int .i64 e] 45)], pBox b2 (.pointer (some ⟨bD, 0, none⟩)) 22, pBox b3 (.slice aN 4096 capN) 32, chD2])
    (fun vs _ _ => match vs with | [_, _, _, .int _ k] => ((e : Int) - k).toNat | _ => 0) ?_ ?_
  · exact ⟨_, Drop.refl _, 1, d, chD, by omega, by omega, rfl, hf.mono (by omega), hD, Imm.le_refl _, rfl, rfl⟩
  rintro vs gE J' S' hJ' ⟨k, d2, chD2, hk1, hk, hbl, hf2, hD2, hle, rfl, rfl⟩
  repeat (first | refine LoadD.own 0 rfl _ rfl rfl ?_)
  refine CmpD.split (fun (c1 : (k : Int) < e) => ?_) (fun (c1 : ¬ (k : Int) < e) => ?_)
  · rw [show e - k = (e - (k + 1)) + 1 by omega, blankP] at hbl
    repeat (first | refine LoadD.own 1 rfl _ rfl rfl ?_ | refine LoadD.own 2 rfl _ rfl rfl ?_)
    refine Tri.frame1 3 rfl (dk_Write hD2 (hf2.mono (by omega)) k aN 4096 capN noughts (hN.mono hle)) ?_
    have hf3 := hf2.write (k : Int) noughts
    generalize d2.write (k : Int) noughts = dw at *
    obtain ⟨d3, e3⟩ := dw
    dsimp only at hbl hf3 ⊢
    rintro r J3 A' hJ3 ⟨rfl, chD3, hD3, rfl⟩
    refine ⟨_, rfl, ?_⟩
    by_cases he : e3 ≠ 0
    · rw [if_pos he] at hbl
      refine CmpD.no he ?_
      skip
      rw [hbl]
      exact Done.mk ⟨rfl, chD3, hD3, rfl⟩
    · rw [if_neg he] at hbl
      obtain rfl : e3 = 0 := by omega
      repeat (first | refine CmpD.yes rfl ?_)
      refine ToD.to (((k + 1 : Nat)) : Int) (by rw [wrap_i64 (by omega) (by omega)]; omega) ?_
      refine ⟨_, Drop.refl _, ⟨k + 1, d3, chD3, by omega, by omega, hbl, hf3.mono (by omega), hD3, Imm.le_trans hle hJ3, rfl, rfl⟩, ?_⟩
      show ((e : Int) - ((k + 1 : Nat) : Int)).toNat < ((e : Int) - (k : Int)).toNat; omega
  · obtain rfl : k = e := by omega
    skip
    rw [hbl, Nat.sub_self]
    exact Done.mk ⟨rfl, chD2, hD2, rfl⟩
theorem fmt2 {I : Imm} {b1 b2 bD : Nat} {d : DSt} {chD : List Blk} (hD : Dk I bD d chD) (hf : d.Few 900000) (aN : Option Addr) (capN : Nat) (b : Dat) (hN : Rds I aN 4096 (bts b)) :
    Tri Tryz.prog 126 #[.pointer (some ⟨b1, 0, none⟩), .pointer (some ⟨b2, 0, none⟩)] I [pBox b1 (.pointer (some ⟨bD, 0, none⟩)) 22, pBox b2 (.slice aN 4096 capN) 32, chD]
      fun r J S' => r = .int .i64 (d.write 0 b).2 ∧ ∃ chD', Dk J bD (d.write 0 b).1 chD' ∧ S' = [pBox b1 (.pointer (some ⟨bD, 0, none⟩)) 22, pBox b2 (.slice aN 4096 capN) 32, chD'] := by
  refine Tri.of (args := [.pointer (some ⟨b1, 0, none⟩), .pointer (some ⟨b2, 0, none⟩)]) tabOk Tryz.func126 rfl (by kernel_rfl) (by kernel_rfl) ?_
  repeat (first | refine LoadD.own 0 rfl _ rfl rfl ?_ | refine LoadD.own 1 rfl _ rfl rfl ?_)
  refine Tri.frame1 2 rfl (dk_Write hD (hf.mono (by omega)) 0 aN 4096 capN b hN) ?_
  rintro r J3 A' hJ3 ⟨rfl, chD3, hD3, rfl⟩
  refine ⟨_, rfl, ?_⟩
  exact Done.mk ⟨rfl, chD3, hD3, rfl⟩
theorem fmt_steps {I : Imm} {bD b1 b3 b5 b7 bN bF : Nat} {x : Lay} {s : Sup} {d : DSt} {chD : List Blk} (hD : Dk I bD d chD) (hf : d.Few 500000) (hld : 1 ≤ x.d ∧ x.d ≤ 1000) (hN : Rds I (some ⟨bN, 0, none⟩) 4096 (bts noughts)) (aS : Option Addr) (capS : Nat) (hS : Rds I aS 4096 (bts (supL s)))
    (hfs : Rds I (some ⟨bF, 0, none⟩) 4 [.func (.func 123) #[] #[.pointer (some ⟨b3, 0, none⟩), .pointer (some ⟨b1, 0, none⟩), .pointer (some ⟨b5, 0, none⟩)], .func (.func 125) #[.pointer (some ⟨bD, 0, none⟩)] #[],
      .func (.func 126) #[] #[.pointer (some ⟨b1, 0, none⟩), .pointer (some ⟨b7, 0, none⟩)], .func (.func 125) #[.pointer (some ⟨bD, 0, none⟩)] #[]]) :
    Tri Tryz.prog 91 #[.slice (some ⟨bF, 0, none⟩) 4 4] I [chD, pBox b1 (.pointer (some ⟨bD, 0, none⟩)) 22, [(b3, row x.vals 45)], pBox b5 (.slice (some ⟨bN, 0, none⟩) 4096 4096) 32, pBox b7 (.slice aS 4096 capS) 32]
      fun r J S' => r = .int .i64 (fmtS (x.d.toNat - 1) s d).2 ∧ ∃ chD' R, Dk J bD (fmtS (x.d.toNat - 1) s d).1 chD' ∧ S' = [chD', pBox b1 (.pointer (some ⟨bD, 0, none⟩)) 22, [(b3, row x.vals 45)], pBox b5 (.slice (some ⟨bN, 0, none⟩) 4096 4096) 32, pBox b7 (.slice aS 4096 capS) 32] ∧ R = chD' := by
  refine vol_first (some ⟨bF, 0, none⟩) 4 4 _ (by omega) hfs ?_
  have hf1 := blankP_few (x.d.toNat - 1) 1 d _ hf
  unfold fmtS
  refine ⟨_, [], [.pointer (some ⟨b3, 0, none⟩), .pointer (some ⟨b1, 0, none⟩), .pointer (some ⟨b5, 0, none⟩)], rfl, ?_⟩
  refine Tri.frame (fmt1 (x := x) hD hf hld (some ⟨bN, 0, none⟩) 4096 hN) [2, 1, 3, 0] rfl rfl ?_
  generalize blankP (x.d.toNat - 1) 1 d = bl at hf1 ⊢
  obtain ⟨d1, e1⟩ := bl
  dsimp only at hf1 ⊢
  rintro r J2 A' hJ2 ⟨rfl, chD1, hD1, rfl⟩
  refine ⟨Nat.le_refl _, ?_⟩
  refine ⟨_, rfl, fun he => ?_, fun he => ?_⟩
  · rw [if_pos he]
    exact ⟨rfl, chD1, _, hD1, rfl, rfl⟩
  rw [if_neg (by simpa using he)]
  refine ⟨_, [.pointer (some ⟨bD, 0, none⟩)], [], rfl, ?_⟩
  refine Tri.frame1 0 rfl (dk_Flush hD1) ?_
  have hf2 := hf1.flush
  generalize d1.flush = fl at hf2 ⊢
  obtain ⟨d2, e2⟩ := fl
  dsimp only at hf2 ⊢
  rintro r J3 A' hJ3 ⟨rfl, chD2, hD2, rfl⟩
  refine ⟨_, rfl, ?_⟩
  refine ⟨_, rfl, fun he => ?_, fun he => ?_⟩
  · rw [if_pos he]
    exact ⟨rfl, chD2, _, hD2, rfl, rfl⟩
  rw [if_neg (by simpa using he)]
  refine ⟨_, [], [.pointer (some ⟨b1, 0, none⟩), .pointer (some ⟨b7, 0, none⟩)], rfl, ?_⟩
  refine Tri.frame (fmt2 hD2 (hf2.mono (by omega)) aS capS (supL s) (hS.mono (Imm.le_trans hJ2 hJ3))) [1, 4, 0] rfl rfl ?_
  generalize d2.write 0 (supL s) = wr
  obtain ⟨d3, e3⟩ := wr
  dsimp only
  rintro r J4 A' hJ4 ⟨rfl, chD3, hD3, rfl⟩
  refine ⟨Nat.le_refl _, ?_⟩
  refine ⟨_, rfl, fun he => ?_, fun he => ?_⟩
  · rw [if_pos he]
    exact ⟨rfl, chD3, _, hD3, rfl, rfl⟩
  rw [if_neg (by simpa using he)]
  refine ⟨_, [.pointer (some ⟨bD, 0, none⟩)], [], rfl, ?_⟩
  refine Tri.frame1 0 rfl (dk_Flush hD3) ?_
  generalize d3.flush = fl
  obtain ⟨d4, e4⟩ := fl
  dsimp only
  rintro r J5 A' hJ5 ⟨rfl, chD4, hD4, rfl⟩
  refine ⟨_, rfl, ?_⟩
  refine ⟨_, rfl, fun he => ?_, fun he => ?_⟩
  · exact ⟨rfl, chD4, _, hD4, rfl, rfl⟩
  · obtain rfl := he
    exact ⟨rfl, chD4, _, hD4, rfl, rfl⟩
set_option maxHeartbeats 4000000 in
theorem vk_Format {I : Imm} {bD : Nat} {d : DSt} {chD : List Blk} (hD : Dk I bD d chD) (hf : d.Few 500000) :
    Tri Tryz.prog 55 #[.pointer (some ⟨bD, 0, none⟩)] I [chD] fun r J S' => r = .int .i64 (formatP d).2 ∧ ∃ chD', Dk J bD (formatP d).1 chD' ∧ S' = [chD'] := by
  have hr := hD.wf.range
  refine Tri.drop ?_ (fun _ _ _ _ h => h)
  refine Tri.of (args := [.pointer (some ⟨bD, 0, none⟩)]) tabOk Tryz.func55 rfl (by kernel_rfl) (by kernel_rfl) ?_
  conv => whnf
  intro b1
  repeat (first | refine LoadD.own 1 rfl _ rfl rfl ?_)
  refine Tri.frame1 0 rfl (dk_Size hD) ?_
  rintro r _ A' hJ ⟨rfl, rfl, rfl⟩
  refine ⟨_, rfl, ?_⟩
  refine CmpD.no (by show ((d.now.length : Nat) : Int) ≠ 0; omega) ?_
  repeat (first | refine LoadD.own 1 rfl _ rfl rfl ?_)
  refine Tri.frame1 0 rfl (dk_Size hD) ?_
  rintro r _ A' hJ ⟨rfl, rfl, rfl⟩
  refine ⟨_, rfl, ?_⟩
  refine Tri.free (layout_Of d.now.length I) ?_
  rintro r _ _ hJ ⟨rfl, rfl⟩
  unfold formatP
  by_cases h64 : d.now.length < 64
  · rw [if_pos h64, layA, if_pos (by omega)]
    conv => whnf
    intro b3
    repeat (first | refine StoreD.st 2 rfl rfl rfl ?_ | refine CmpD.no (by decide) ?_)
    exact Done.mk ⟨_, Drop.pick [0] _ rfl, rfl, chD, hD, rfl⟩
  rw [if_neg h64, layA, if_neg (by omega)]
  conv => whnf
  intro b3
  repeat (first | refine StoreD.st 2 rfl rfl rfl ?_ | refine CmpD.yes rfl ?_)
  refine makeH tabOk rfl rfl rfl 4096 4096 rfl rfl (Nat.le_refl _) (by show 1 * 4096 ≤ _; decide) (by decide) (by show 4096 * 1 ≤ _; decide) rfl (by decide) ?_
  intro bN NB hNB
  conv => whnf
  intro b5
  repeat (first | refine LoadD.own 2 rfl _ rfl rfl ?_ | refine StoreD.st 4 rfl rfl rfl ?_)
  obtain ⟨n, hn⟩ : ∃ n, n = d.now.length := ⟨_, rfl⟩
  rw [← hn] at hr h64 ⊢
  have hlr := layL_range (n := (n : Int)) (by omega)
  refine Tri.free (super_PutF ⟨n, 1, 1, 0⟩ I) ?_
  have hR : RightS ⟨n, 1, 1, 0⟩ := ⟨by show (64 : Int) ≤ n; omega, by show (n : Int) ≤ 512; omega, by show (1 : Int) ≤ 1; decide, by show (1 : Int) ≤ 8388608; decide, by show (1 : Int) ≤ 1; decide, by show (1 : Int) ≤ 549755813888; decide, by show (0 : Int) ≤ 0; decide, by show (0 : Int) ≤ 511; decide⟩
  rintro r J1 _ hJ1 (⟨h, _⟩ | ⟨_, aS, capS, rfl, hSup⟩)
  · exact absurd hR h
  conv => whnf
  intro b7
  repeat (first | refine LoadD.own 1 rfl _ rfl rfl ?_ | refine StoreD.st 5 rfl rfl rfl ?_)
  conv => whnf
  intro bF
  refine Tri.fix 3 rfl fun I5 hI5 hNm => ?_
  refine Tri.fix 6 rfl fun I6 hI6 hFm => ?_
  have hD := hD.mono (Imm.le_trans hJ1 (Imm.le_trans hI5 hI6))
  have hN : Rds I6 (some ⟨bN, 0, none⟩) 4096 (bts noughts) := by
    rw [noughts_bts]
    exact (Rds.of_own (cap := 4096) (by rw [hNB]; show OwnC [(bN, row (rows 4096 [Value.int .u8 0]) _)] 1 _ _ _ _; exact OwnC.whole (by rw [rows_length]; rfl)) hNm).mono hI6
  have hS6 := hSup.mono (Imm.le_trans hI5 hI6)
  have hfs : Rds I6 (some ⟨bF, 0, none⟩) 4 [.func (.func 123) #[] #[.pointer (some ⟨b3, 0, none⟩), .pointer (some ⟨b1, 0, none⟩), .pointer (some ⟨b5, 0, none⟩)], .func (.func 125) #[.pointer (some ⟨bD, 0, none⟩)] #[],
      .func (.func 126) #[] #[.pointer (some ⟨b1, 0, none⟩), .pointer (some ⟨b7, 0, none⟩)], .func (.func 125) #[.pointer (some ⟨bD, 0, none⟩)] #[]] :=
    ⟨rfl, .inr ⟨bF, 0, _, _, _, rfl, hFm _ (List.mem_singleton.2 rfl), rfl⟩⟩
  obtain ⟨x, hx⟩ : ∃ x : Lay, x = layOf (n : Int) := ⟨_, rfl⟩
  have hld : 1 ≤ x.d ∧ x.d ≤ 1000 := by rw [hx]; show 1 ≤ 3 + layL n + (n : Int) / 16 ∧ 3 + layL n + (n : Int) / 16 ≤ 1000; omega
  have hxv : row (layOf (n : Int)).vals 45 = row x.vals 45 := by rw [hx]
  obtain ⟨s, hs⟩ : ∃ s : Sup, s = ⟨n, 1, 1, 0⟩ := ⟨_, rfl⟩
  rw [← hs] at hS6
  refine Tri.frameX (fmt_steps (x := x) (s := s) hD hf hld hN aS capS hS6 hfs) [0, 1, 2, 4, 5] rfl (by rw [hx]; rfl) ?_
  rw [hx, hs]
  rintro r J A' hJ ⟨rfl, chD4, _, hD4, rfl, _⟩
  exact Done.mk ⟨_, Drop.pick [7] _ rfl, rfl, chD4, hD4, rfl⟩
end Go.Proofs.YtegdcjnjnoeinaaGreat
namespace Go.Proofs.YtegdcjnjnoeinaaGreat
open Go.RowKit Go.Sl
set_option maxRecDepth 20000

theorem sortP_length (l : List PImg) : (sortP l).length = l.length := by unfold sortP; rw [List.length_map, (sortI_perm _).length_eq, List.length_map]
theorem release_groups {j : JSt} (hw : j.Wf) (q : Int) : (j.release q).1.groups.length ≤ j.groups.length := by
  unfold JSt.release
  split
  · exact Nat.le_refl _
  split
  · exact Nat.le_refl _
  generalize hq : relAll q j.groups j.s j.t j.u j.h = w
  obtain ⟨gs, s, t, u, h, e⟩ := w
  obtain ⟨_, k, rfl⟩ := relAll_mid q _ _ _ _ _ _ _ _ _ _ _ hw.ring hq
  show (j.groups.drop k).length ≤ _
  rw [List.length_drop]; omega
theorem flush_groups (j : JSt) (d : DSt) : (j.flush d).1.groups = j.groups := by
  unfold JSt.flush
  split
  · rfl
  · split <;> rfl
theorem ckS_wf {v : VSt} {d : DSt} (hw : v.j.Wf) : (v.ckS d).2.1.Wf ∧ (v.ckS d).2.1.groups.length ≤ v.j.groups.length := by
  unfold VSt.ckS
  have h1 := hw.flush d
  have h2 := flush_groups v.j d
  split
  · exact ⟨h1, by rw [h2]; exact Nat.le_refl _⟩
  split
  · exact ⟨h1, by rw [h2]; exact Nat.le_refl _⟩
  · exact ⟨h1.release _, by have := release_groups h1 (v.j.flush d).1.synced; rw [h2] at this; exact this⟩
theorem ckS_few {v : VSt} {d : DSt} {k : Nat} (hf : d.Few k) : (v.ckS d).2.2.Few (k + v.fresh.length + 1) := by
  unfold VSt.ckS
  have h1 := jflush_few (j := v.j) hf
  have h2 := doP_few h1 (sortP v.fresh) v.sup v.slot
  rw [sortP_length] at h2
  split
  · exact h1.mono (by omega)
  split
  · exact h2
  · exact h2
theorem v_Fits (bV bD bJ bM : Nat) (v : VSt) (I : Imm) (S : St) (k : Nat) (br : Bool) (hk : S[k]? = some (vChunk bV bD bJ bM v.j.lay v.epoch v.slot br)) (n : Int) : Tri Tryz.prog 27 #[.pointer (some ⟨bV, 0, none⟩), .int .i64 n] I S fun r J S' => r = .bool (v.fits n) ∧ I = J ∧ S' = S := by
  refine Tri.of (args := [.pointer (some ⟨bV, 0, none⟩), .int .i64 n]) tabOk Tryz.func27 rfl (by kernel_rfl) (by kernel_rfl) ?_
  refine Tri.free (record_Blocks n I []) ?_
  rintro r _ _ hJ ⟨rfl, rfl, rfl⟩
  refine Tri.mono (v_none bV bD bJ bM _ _ _ _ I S k hk) ?_
  rintro r _ _ hJ ⟨rfl, rfl, rfl⟩
  unfold VSt.fits
  refine CmpD.split (fun c1 => ?_) (fun c1 => ?_)
  · refine LoadD.own k hk [.int .i64 v.j.lay.lb] rfl rfl ?_
    refine CmpD.split (fun c2 => ?_) (fun c2 => ?_)
    · rw [decide_eq_true ⟨c1, c2⟩]
      exact Done.mk ⟨rfl, rfl, rfl⟩
    · rw [decide_eq_false (fun h => c2 h.2)]
      exact Done.mk ⟨rfl, rfl, rfl⟩
  · rw [decide_eq_false (fun h => c1 h.1)]
    exact Done.mk ⟨rfl, rfl, rfl⟩
theorem append_lay (j : JSt) (d : DSt) (l : List PImg) (b : Bool) : (j.appendB d l b).1.lay = j.lay := by
  unfold JSt.appendB
  split
  · rfl
  unfold JSt.append
  split
  · rfl
  split
  · rfl
  generalize putS j.s j.t j.u j.h (l.length + 1) (if b = true then l.length + 1 else 0) = q
  obtain ⟨⟨s, t, u, h, e⟩, a⟩ := q
  dsimp only
  split
  · rfl
  split <;> rfl
/-- none of what was committed last lies in these blocks -/
def Apt (X : Nat → Prop) (gs : List Img) : Prop := ∀ g ∈ gs, ∀ b off, g.a = some ⟨b, off, none⟩ → ¬ X b
def VkX (X : Nat → Prop) (J : Imm) (bV bD : Nat) (v : VSt) (ch : List Blk) : Prop := ∃ (bJ bM : Nat) (ob : Obj) (chJ : List Blk) (gs : List Img),
  ch = vChunk bV bD bJ bM v.j.lay v.epoch v.slot v.broken ++ ((bM, ob) :: chJ) ∧ Jk bJ bD v.j chJ ∧ MapR ob (gs.map hdr) ∧ (∀ g ∈ gs, ImgOk J g) ∧ gs.map Img.pr = v.fresh ∧ Apt X gs
theorem VkX.vk {X : Nat → Prop} {J : Imm} {bV bD : Nat} {v : VSt} {ch : List Blk} : VkX X J bV bD v ch → Vk J bV bD v ch := fun ⟨bJ, bM, ob, chJ, gs, h1, h2, h3, h4, h5, _⟩ => ⟨bJ, bM, ob, chJ, gs, h1, h2, h3, h4, h5⟩
theorem Vk.all {J : Imm} {bV bD : Nat} {v : VSt} {ch : List Blk} : Vk J bV bD v ch → VkX (fun _ => False) J bV bD v ch := fun ⟨bJ, bM, ob, chJ, gs, h1, h2, h3, h4, h5⟩ => ⟨bJ, bM, ob, chJ, gs, h1, h2, h3, h4, h5, fun _ _ _ _ _ h => h⟩
theorem Vk.none {X : Nat → Prop} {J : Imm} {bV bD : Nat} {v : VSt} {ch : List Blk} (h : Vk J bV bD v ch) (hf : v.fresh = []) : VkX X J bV bD v ch := by
  obtain ⟨bJ, bM, ob, chJ, gs, h1, h2, h3, h4, h5⟩ := h
  refine ⟨bJ, bM, ob, chJ, gs, h1, h2, h3, h4, h5, ?_⟩
  rw [hf, List.map_eq_nil_iff] at h5
  subst h5
  intro g hg; cases hg
theorem own_blk {ch : List Blk} {size : Nat} {a : Option Addr} {len cap : Nat} {vs : List Value} (h : OwnC ch size a len cap vs) (hl : 0 < len) {b off : Nat} (ha : a = some ⟨b, off, none⟩) : ∃ o, (b, o) ∈ ch := by
  rcases h.at' with q | ⟨b', pre, post, T, rfl, rfl, _⟩
  · have := h.le; omega
  · cases ha
    exact ⟨_, List.mem_cons_self⟩
theorem clone_fixN (I : Imm) (a : Option Addr) (len cap : Nat) (l : List UInt8) (h : Rds I a len (bts l)) (hlen : len ≤ 100000000) (h0 : 0 < len) :
    Tri Tryz.prog 86 #[.slice a len cap] I [] fun v J _ => ∃ a' cap', v = .slice a' len cap' ∧ Rds J a' len (bts l) ∧ ∀ b off, a' = some ⟨b, off, none⟩ → I b = none := by
  refine Tri.fixedN (clone_bytes I [] a len cap (bts l) (by rw [Nat.mul_one]; exact h.slC) (bts_plain l) (by omega)) ?_
  rintro v J S' hJ ⟨a', cap', ch, rfl, hown, rfl, rfl⟩
  refine ⟨0, ch, rfl, fun J' hJ' hm => ⟨a', cap', rfl, Rds.of_own hown fun x hx => (hm x hx).1, fun b off ha => ?_⟩⟩
  obtain ⟨o, ho⟩ := own_blk hown h0 ha
  exact (hm _ ho).2
theorem Apt.iput {X : Nat → Prop} {gs : List Img} {g : Img} (h : Apt X gs) (hg : ∀ b off, g.a = some ⟨b, off, none⟩ → ¬ X b) : Apt X (iput gs g) := by
  intro y hy
  rcases iput_mem hy with rfl | hy
  · exact hg
  · exact h y hy
/-- a volume, laid out -/
structure VAt (X : Nat → Prop) (J : Imm) (bD bJ bM : Nat) (v : VSt) (ob : Obj) (chJ : List Blk) (gs : List Img) : Prop where
  j : Jk bJ bD v.j chJ
  m : MapR ob (gs.map hdr)
  ok : ∀ g ∈ gs, ImgOk J g
  pr : gs.map Img.pr = v.fresh
  ap : Apt X gs
theorem VAt.mono {X : Nat → Prop} {I J : Imm} {bD bJ bM : Nat} {v : VSt} {ob : Obj} {chJ : List Blk} {gs : List Img} (h : VAt X I bD bJ bM v ob chJ gs) (hJ : I.le J) : VAt X J bD bJ bM v ob chJ gs := ⟨h.j, h.m, fun g hg => (h.ok g hg).mono hJ, h.pr, h.ap⟩
theorem homeOk_snoc {x : Lay} {l : List PImg} {g : PImg} (h : HomeOk x l) (hg : x.bi ≤ g.1 ∧ g.1 < x.b) : HomeOk x (l ++ [g]) := by
  intro y hy
  rcases List.mem_append.1 hy with hy | hy
  · exact h y hy
  · simp only [List.mem_singleton] at hy; subst hy; exact hg
set_option maxHeartbeats 8000000 in
theorem vk_CommitX {X : Nat → Prop} {bV bD : Nat} {v : VSt} {ch : List Blk} {I : Imm} (hX : ∀ b, X b → ∃ o, I b = some o) (h : VkX X I bV bD v ch) (hw : v.j.Wf) (hep : v.epoch = v.j.epoch) (hsl : 0 ≤ v.slot ∧ v.slot ≤ 1) (hfr : v.fresh.length ≤ 1000) (hgr : v.j.groups.length ≤ 800000) {d : DSt} {chD : List Blk} (hD : Dk I bD d chD) (hf : d.Few 700000)
    (aL : Option Addr) (capL : Nat) (ls : List Img) (hi : ImgsOk I aL ls) (hll : ls.length ≤ 1000000) :
    Tri Tryz.prog 16 #[.pointer (some ⟨bV, 0, none⟩), .slice aL ls.length capL] I [ch, chD] fun r J S' =>
      r = .tuple #[.int .i64 (v.commit d (ls.map Img.pr)).2.2.1, .int .i64 (v.commit d (ls.map Img.pr)).2.2.2] ∧ ∃ ch' chD', Vk J bV bD (v.commit d (ls.map Img.pr)).1 ch' ∧ ((v.commit d (ls.map Img.pr)).2.2.2 = 0 → VkX X J bV bD (v.commit d (ls.map Img.pr)).1 ch') ∧ Dk J bD (v.commit d (ls.map Img.pr)).2.1 chD' ∧ S' = [ch', chD'] := by
  have h0 := h.vk
  obtain ⟨bJ, bM, ob, chJ, gs, rfl, hj, hM, hg, hp, hap⟩ := h
  have hA : VAt X I bD bJ bM v ob chJ gs := ⟨hj, hM, hg, hp, hap⟩
  have hring := hw.ring
  unfold Ok at hring
  have hlog := hw.log
  refine Tri.lay (S2 := [vChunk bV bD bJ bM v.j.lay v.epoch v.slot v.broken, [(bM, ob)], chJ, chD]) (vk_lay2 ..) ?_
  refine Tri.drop ?_ (fun _ _ _ _ h => h)
  refine Tri.ofF (args := [.pointer (some ⟨bV, 0, none⟩), .slice aL ls.length capL]) tabOk Tryz.func16 rfl (by kernel_rfl) (by kernel_rfl) ?_
  refine CodeF.stepD ?_
  refine CodeF.stepD ?_
  refine Tri.nf (v_wrong bV bD bJ bM _ _ _ _ I _ 0 rfl) ?_
  rintro r _ _ hJ ⟨rfl, rfl, rfl⟩
  unfold VSt.commit
  cases hb : v.broken
  rotate_left
  · repeat (first | refine CmpD.no (by decide) ?_)
    rw [if_pos rfl]
    exact Done.mk ⟨_, Drop.flat (by simp [hb]), rfl, _, chD, h0, fun h => absurd h (by simp), hD, rfl⟩
  repeat (first | refine CmpD.yes rfl ?_)
  rw [if_neg (by simp)]
  have same : ∀ (J : Imm), I.le J → ∃ ch' chD', Vk J bV bD v ch' ∧ Dk J bD d chD' ∧ [vChunk bV bD bJ bM v.j.lay v.epoch v.slot false ++ ((bM, ob) :: chJ), chD] = [ch', chD'] := fun J hJ => ⟨_, chD, by have := h0.mono hJ; rw [hb] at this; exact this, hD.mono hJ, rfl⟩
  have flat0 : ∀ (R : St), Drop ([vChunk bV bD bJ bM v.j.lay v.epoch v.slot false, [(bM, ob)], chJ, chD] ++ R) [vChunk bV bD bJ bM v.j.lay v.epoch v.slot false ++ ((bM, ob) :: chJ), chD] := fun R => ⟨R.flatten, by simp⟩
  refine CodeF.stepD ?_
  obtain ⟨n, hn⟩ : ∃ n, n = ls.length := ⟨_, rfl⟩
  rw [← hn] at hll ⊢
  refine CodeF.loopD [0, 1, 20, 21, 22] (fun vs J' S' => ∃ (i : Nat), i ≤ n ∧ HomeOk v.j.lay ((ls.map Img.pr).take i) ∧ I = J' ∧ vs = [.pointer (some ⟨bV, 0, none⟩), .slice aL n capL, .slice aL n capL, .int .i64 n, .int .i64 i] ∧ S' = [vChunk bV bD bJ bM v.j.lay v.epoch v.slot false, [(bM, ob)], chJ, chD])
    (fun vs _ _ => match vs with | [_, _, _, _, .int _ i] => ((n : Int) - i).toNat | _ => 0) ?_ ?_
  · exact ⟨_, Drop.refl _, 0, by omega, by intro g hg; simp at hg, rfl, rfl, rfl⟩
  rintro vs gE J' S' hJ' ⟨i, hi1, hho, rfl, rfl, rfl⟩
  refine CmpD.split (fun (c1 : (i : Int) < n) => ?_) (fun (c1 : ¬ (i : Int) < n) => ?_)
  · have hil : i < ls.length := by omega
    have htk : (ls.map Img.pr).take (i + 1) = (ls.map Img.pr).take i ++ [ls[i].pr] := by rw [List.take_add_one, List.getElem?_map, List.getElem?_eq_getElem hil]; rfl
    have hcell := imgCells_at hil
    have hpre : ∀ g ∈ (ls.map Img.pr).take (i + 1), g ∈ ls.map Img.pr := fun g hg => List.mem_of_mem_take hg
    rcases hi.1.mem with q0 | ⟨bL, oL, cL, TL, fL, rfl, hIL, hcL⟩
    · omega
    have hsrc : (cL.drop (oL + i * 2)).take 2 = [.int .i64 ls[i].blk, .slice ls[i].a ls[i].len ls[i].cap] := by
      rw [take_part hcL (by omega), hcell]
    refine Chk.mk (by omega) ?_
    refine LoadD.imm hIL [.int .i64 ls[i].blk, .slice ls[i].a ls[i].len ls[i].cap] hsrc rfl ?_
    conv => whnf
    intro b8
    refine StoreD.st 4 rfl rfl rfl ?_
    refine CodeF.sched [[], [0], [], [2], [2, 3], [2, 3, 4], [2, 3, 4, 5], [0, 1, 2, 3, 4, 5, 6], [0, 1, 2, 3, 4, 5, 6, 7], [0, 1, 2, 3, 4, 5, 6, 7, 8], [0, 1, 2, 3, 4, 5, 6, 7, 8, 9], [0, 1, 2, 3, 4, 5, 6, 7, 8], [0, 1, 2, 3, 4, 5, 6, 7, 8, 11], [0, 1, 2, 3, 4, 5, 6, 7, 8, 11, 12], [0, 1, 2, 3, 4, 5, 6, 7, 8, 11, 12, 13], [0, 1, 2, 3, 4, 5, 6, 7, 8, 11, 12, 13, 14], [0, 1, 2, 3, 4, 5, 6, 7, 8, 9, 10, 11, 12, 13, 14, 15], [0, 1, 2, 3, 4, 5, 6, 7, 8, 9, 10, 11, 12, 13, 14, 15, 16]] [0, 1, 2, 3, 4, 5, 6, 7, 8, 9, 10, 11, 12, 13, 14, 15, 16, 17] (by kernel_rfl) ?_
    repeat (first | refine LoadP.at 0 rfl _ rfl rfl ?_ | refine LoadP.at 4 rfl _ rfl rfl ?_)
    have bad : ¬ (v.j.lay.bi ≤ ls[i].blk ∧ ls[i].blk < v.j.lay.b) → ¬ HomeOk v.j.lay (ls.map Img.pr) := fun h hh => h (hh ls[i].pr (List.mem_map_of_mem (List.getElem_mem hil)))
    refine CmpD.split (fun (c2 : ls[i].blk < v.j.lay.bi) => ?_) (fun (c2 : ¬ ls[i].blk < v.j.lay.bi) => ?_)
    · skip
      rw [if_pos (by simpa using bad (fun h => by omega))]
      obtain ⟨ch', chD', k1, k2, k3⟩ := same I (Imm.le_refl _)
      exact Done.mk ⟨_, flat0 [_], rfl, ch', chD', k1, fun h => absurd h (by simp), k2, k3⟩
    repeat (first | refine LoadP.at 0 rfl _ rfl rfl ?_ | refine LoadP.at 4 rfl _ rfl rfl ?_)
    refine CmpD.split (fun (c3 : v.j.lay.b ≤ ls[i].blk) => ?_) (fun (c3 : ¬ v.j.lay.b ≤ ls[i].blk) => ?_)
    · skip
      rw [if_pos (by simpa using bad (fun h => by omega))]
      obtain ⟨ch', chD', k1, k2, k3⟩ := same I (Imm.le_refl _)
      exact Done.mk ⟨_, flat0 [_], rfl, ch', chD', k1, fun h => absurd h (by simp), k2, k3⟩
    refine ToD.to (((i + 1 : Nat)) : Int) (by rw [wrap_i64 (by omega) (by omega)]; omega) ?_
    refine ⟨_, Drop.pick [0, 1, 2, 3] _ rfl, ⟨i + 1, by omega, ?_, rfl, rfl, rfl⟩, ?_⟩
    · rw [htk]
      exact homeOk_snoc hho ⟨by show v.j.lay.bi ≤ ls[i].blk; omega, by show ls[i].blk < v.j.lay.b; omega⟩
    · show ((n : Int) - ((i + 1 : Nat) : Int)).toNat < ((n : Int) - (i : Int)).toNat; omega
  obtain rfl : i = n := by omega
  rw [List.take_of_length_le (by rw [List.length_map]; omega)] at hho
  rw [if_neg (by simpa using hho)]
  refine CodeF.stepD ?_
  refine CodeF.sched [[], [0], [0, 1], [0, 1, 2], [], [4], [4, 5], [4, 5, 6], [4, 5, 6, 7], [], [0, 1, 2, 3, 4, 5, 6, 7, 8, 9], [0, 1, 2, 3, 4, 5, 6, 7, 8, 9, 10], [0, 1, 2, 3, 4, 5, 6, 7, 8, 9, 10, 11], [0, 1, 2, 3, 4, 5, 6, 7, 8, 9, 10, 11, 12], [0, 1, 2, 3, 4, 5, 6, 7, 8, 9, 10, 11, 12], [0, 1, 2, 3, 4, 5, 6, 7, 8, 9, 10, 11, 12, 13], [0, 1, 2, 3, 4, 5, 6, 7, 8, 9, 10, 11, 12, 13, 14, 15]] [0, 1, 2, 3, 4, 5, 6, 7, 9, 8, 10, 11, 12, 13, 14, 15, 16] (by kernel_rfl) ?_
  repeat (first | refine LoadP.at 0 rfl _ rfl rfl ?_)
  refine Tri.frame1 2 rfl (jk_Next hj I) ?_
  rintro r _ A' hJ2 ⟨rfl, rfl, rfl⟩
  refine ⟨_, rfl, ?_⟩
  repeat (first | refine Chk.mk ⟨rfl, trivial⟩ ?_)
  rw [hn]
  refine Tri.free (put_of v.epoch v.j.next ⟨by rw [hep]; exact hw.epoch, by have := hw.next; unfold In64; omega⟩ aL capL ls I hi (by omega)) ?_
  rw [← hn]
  rintro r J2 _ hJ2 (⟨hno, rfl⟩ | ⟨hR, aO, capO, bs, rfl, _, _, _⟩)
  · rw [if_pos hno]
    skip
    refine CodeF.stepD ?_
    repeat (first | refine CmpD.no (by decide) ?_)
    obtain ⟨ch', chD', k1, k2, k3⟩ := same J2 hJ2
    exact Done.mk ⟨_, flat0 [], rfl, ch', chD', k1, fun h => absurd h (by simp), k2, k3⟩
  rw [if_neg (by simpa using hR)]
  skip
  refine CodeF.stepD ?_
  repeat (first | refine CmpD.yes rfl ?_)
  refine Tri.nf (v_Fits bV bD bJ bM v J2 _ 0 false rfl (i : Int)) ?_
  rintro r _ _ hJ3 ⟨rfl, rfl, rfl⟩
  have hll2 : (ls.map Img.pr).length = i := by rw [List.length_map, hn]
  rw [hll2]
  have hR6 := hR.2.2.2.2
  rw [hll2] at hR6
  cases hfit : v.fits (i : Int)
  · rw [if_pos rfl]
    skip
    obtain ⟨ch', chD', k1, k2, k3⟩ := same J2 hJ2
    exact Done.mk ⟨_, flat0 [], rfl, ch', chD', k1, fun h => absurd h (by simp), k2, k3⟩
  rw [if_neg (by simp)]
  skip
  have hbn : blocksN (i : Int) = (i : Int) + 1 := by unfold blocksN; rw [if_neg (by omega)]
  rw [hbn]
  obtain ⟨W, hW⟩ : ∃ W : VSt × DSt × Int × Int, W = (if v.j.s - v.j.u - v.j.h < (i : Int) + 1 then (if (v.ckpt d).2.2 ≠ 0 then ((v.ckpt d).1, (v.ckpt d).2.1, 0, (v.ckpt d).2.2) else (v.ckpt d).1.app (v.ckpt d).2.1 (ls.map Img.pr)) else v.app d (ls.map Img.pr)) := ⟨_, rfl⟩
  rw [← hW]
  refine CodeF.join [0, 1] (fun vs J3 S' => ∃ (v2 : VSt) (d2 : DSt) (bJ2 bM2 : Nat) (ob2 : Obj) (chJ2 : List Blk) (gs2 : List Img) (chD2 : List Blk), W = v2.app d2 (ls.map Img.pr) ∧ VAt X J3 bD bJ2 bM2 v2 ob2 chJ2 gs2 ∧ Dk J3 bD d2 chD2 ∧ v2.j.Wf ∧ v2.j.groups.length ≤ 800000 ∧ d2.Few 800000 ∧ v2.broken = false ∧ J2.le J3 ∧
      vs = [.pointer (some ⟨bV, 0, none⟩), .slice aL i capL] ∧ S' = [vChunk bV bD bJ2 bM2 v2.j.lay v2.epoch v2.slot false, [(bM2, ob2)], chJ2, chD2]) ?_ ?_
  · refine CodeF.den ?_
    repeat (first | refine LoadD.own 0 rfl _ rfl rfl ?_)
    refine Tri.frame1 2 rfl (jk_Ring hj J2) ?_
    rintro r _ A' hJ4 ⟨rfl, rfl, rfl⟩
    refine ⟨_, rfl, ?_⟩
    refine Tri.free (ring_Free v.j.s v.j.t v.j.u v.j.h J2 (by unfold In64; omega) (by unfold In64; omega) (by unfold In64; omega) (by unfold In64; omega)) ?_
    rintro r _ _ hJ5 ⟨rfl, rfl⟩
    rw [if_pos hw.ring]
    refine Tri.free (record_Blocks (i : Int) J2 []) ?_
    rintro r _ _ hJ6 ⟨rfl, rfl, rfl⟩
    rw [hbn]
    refine CmpD.split (fun (c1 : v.j.s - v.j.u - v.j.h < (i : Int) + 1) => ?_) (fun (c1 : ¬ v.j.s - v.j.u - v.j.h < (i : Int) + 1) => ?_)
    · rw [if_pos c1] at hW
      have hcw := ckS_wf (d := d) hw
      have hcf := ckS_few (v := v) hf
      refine Tri.lay (S2 := [vChunk bV bD bJ bM v.j.lay v.epoch v.slot false ++ ((bM, ob) :: chJ), chD]) (by simp) ?_
      refine Tri.drop (vk_Checkpoint (v := v) (by have := h0.mono hJ2; rw [hb] at this; exact this) hw hsl hfr (hD.mono hJ2) (hf.mono (by omega))) ?_
      rintro r J3 S' hJ3 ⟨rfl, ch2, chD2, ⟨bJ2, bM2, ob2, chJ2, gs2, rfl, hj2, hM2, hg2, hp2⟩, hD2, rfl⟩
      have hfz : (v.ckpt d).2.2 = 0 → (v.ckpt d).1.fresh = [] := by
        unfold VSt.ckpt
        rw [if_neg (by rw [hb]; simp)]
        split
        · intro h; exact absurd h (by assumption)
        · intro _; rfl
      have hbr : (v.ckpt d).2.2 = 0 → (v.ckpt d).1.broken = false := by
        unfold VSt.ckpt
        rw [if_neg (by rw [hb]; simp)]
        split
        · intro h; exact absurd h (by assumption)
        · intro _; exact hb
      have hcj : (v.ckpt d).1.j = (v.ckS d).2.1 ∧ (v.ckpt d).2.1 = (v.ckS d).2.2 := by
        unfold VSt.ckpt
        rw [if_neg (by rw [hb]; simp)]
        split <;> exact ⟨rfl, rfl⟩
      rw [← hcj.1] at hcw
      rw [← hcj.2] at hcf
      generalize v.ckpt d = ck at *
      obtain ⟨v3, d3, e3⟩ := ck
      dsimp only at *
      refine ⟨[vChunk bV bD bJ2 bM2 v3.j.lay v3.epoch v3.slot v3.broken, [(bM2, ob2)], chJ2, chD2], Drop.flat (by simp), ?_⟩
      by_cases he : e3 ≠ 0
      · rw [if_pos he] at hW
        refine CmpD.no he ?_
        skip
        rw [hW]
        exact Done.mk ⟨_, Drop.flat (vk_lay2 ..).symm, rfl, _, chD2, ⟨bJ2, bM2, ob2, chJ2, gs2, rfl, hj2, hM2, hg2, hp2⟩, fun h => absurd h he, hD2, rfl⟩
      · rw [if_neg he] at hW
        obtain rfl : e3 = 0 := by omega
        rw [hbr rfl]
        have hap2 : Apt X gs2 := by
          have h5 := hp2
          rw [hfz rfl, List.map_eq_nil_iff] at h5
          subst h5
          intro g hg; cases hg
        repeat (first | refine CmpD.yes rfl ?_)
        exact ⟨_, Drop.refl _, v3, d3, bJ2, bM2, ob2, chJ2, gs2, chD2, hW, ⟨hj2, hM2, hg2, hp2, hap2⟩, hD2, hcw.1, by omega, hcf.mono (by omega), hbr rfl, hJ3, rfl, rfl⟩
    · rw [if_neg c1] at hW
      exact ⟨_, Drop.refl _, v, d, bJ, bM, ob, chJ, gs, chD, hW, hA.mono hJ2, hD.mono hJ2, hw, hgr, hf.mono (by omega), hb, Imm.le_refl _, rfl, rfl⟩
  rintro vs gE3 J3 S3 hJ3 ⟨v2, d2, bJ2, bM2, ob2, chJ2, gs2, chD2, hW2, hA2, hD2, hw2, hgr2, hf2, hb2, hle3, rfl, rfl⟩
  refine CodeF.den ?_
  repeat (first | refine LoadD.own 0 rfl _ rfl rfl ?_)
  rw [hn]
  refine Tri.frame (jk_Append hA2.j hw2 hD2 (hf2.mono (by omega)) (by omega) aL capL ls (hi.mono (Imm.le_trans hJ2 hle3)) (by omega) false) [2, 3] rfl rfl ?_
  unfold VSt.app at hW2
  have hlay : (v2.j.appendB d2 (ls.map Img.pr) false).1.lay = v2.j.lay := append_lay _ _ _ _
  generalize v2.j.appendB d2 (ls.map Img.pr) false = ap at *
  obtain ⟨j4, d4, n4, e4⟩ := ap
  dsimp only at hW2 hlay ⊢
  rintro r J4 A' hJ4 ⟨rfl, chJ4, chD4, hj4, hD4, rfl⟩
  refine ⟨Nat.le_refl _, ?_⟩
  skip
  refine Tri.frame1 0 rfl (v_did bV bD bJ2 bM2 v2.j.lay v2.epoch v2.slot false J4 e4) ?_
  rintro r _ A' hJ5 ⟨rfl, rfl, rfl⟩
  refine ⟨_, rfl, ?_⟩
  have hA4 := hA2.mono hJ4
  by_cases he : e4 ≠ 0
  · rw [if_pos he] at hW2
    refine CmpD.no he ?_
    skip
    rw [hW2, decide_eq_true he]
    exact Done.mk ⟨[vChunk bV bD bJ2 bM2 v2.j.lay v2.epoch v2.slot true ++ ((bM2, ob2) :: chJ4), chD4], Drop.flat (by simp), rfl, _, chD4, ⟨bJ2, bM2, ob2, chJ4, gs2, by rw [hlay], hj4, hA4.m, hA4.ok, hA4.pr⟩, fun h => absurd h he, hD4, rfl⟩
  rw [if_neg he] at hW2
  obtain rfl : e4 = 0 := by omega
  rw [show (false || decide ((0 : Int) ≠ 0)) = false from rfl]
  repeat (first | refine CmpD.yes rfl ?_)
  rw [← hn]
  have hi4 := hi.mono (Imm.le_trans hJ2 (Imm.le_trans hle3 hJ4))
  have hlen4 : ∀ g ∈ ls, g.data.length = 4096 := fun g hg => (hR6.2.2.1 g.pr (List.mem_map_of_mem hg)).2.2
  refine CodeF.loopD [0, 12, 99, 100, 101] (fun vs J' S' => ∃ (k : Nat) (ob3 : Obj) (gs3 : List Img), k ≤ i ∧ MapR ob3 (gs3.map hdr) ∧ (∀ g ∈ gs3, ImgOk J' g) ∧ Apt X gs3 ∧ gs3.map Img.pr = ((ls.map Img.pr).take k).foldl pput v2.fresh ∧ J4.le J' ∧
      vs = [.pointer (some ⟨bV, 0, none⟩), .int .i64 n4, .slice aL i capL, .int .i64 i, .int .i64 k] ∧ S' = [vChunk bV bD bJ2 bM2 v2.j.lay v2.epoch v2.slot false, [(bM2, ob3)], chJ4, chD4])
    (fun vs _ _ => match vs with | [_, _, _, _, .int _ k] => ((i : Int) - k).toNat | _ => 0) ?_ ?_
  · exact ⟨_, Drop.refl _, 0, ob2, gs2, by omega, hA4.m, hA4.ok, hA4.ap, hA4.pr, Imm.le_refl _, rfl, rfl⟩
  rintro vs gE4 J5 S5 hJ5 ⟨k, ob3, gs3, hk, hM3, hg3, hap3, hp3, hle5, rfl, rfl⟩
  refine CmpD.split (fun (c1 : (k : Int) < i) => ?_) (fun (c1 : ¬ (k : Int) < i) => ?_)
  · have hil : k < ls.length := by omega
    have htk : (ls.map Img.pr).take (k + 1) = (ls.map Img.pr).take k ++ [ls[k].pr] := by rw [List.take_add_one, List.getElem?_map, List.getElem?_eq_getElem hil]; rfl
    have hcell := imgCells_at hil
    have hgm := List.getElem_mem hil
    have hi5 := hi4.mono hle5
    rcases hi5.1.mem with q0 | ⟨bL, oL, cL, TL, fL, rfl, hIL, hcL⟩
    · omega
    have hsrc : (cL.drop (oL + k * 2)).take 2 = [.int .i64 ls[k].blk, .slice ls[k].a ls[k].len ls[k].cap] := by
      rw [take_part hcL (by omega), hcell]
    have hgk := hi5.2 _ hgm
    have hgd := hlen4 _ hgm
    generalize ls[k] = g at *
    have hgl : g.len = 4096 := by have := hgk.2.len; rw [bts_length] at this; omega
    refine Chk.mk (by omega) ?_
    refine LoadD.imm hIL [.int .i64 g.blk, .slice g.a g.len g.cap] hsrc rfl ?_
    conv => whnf
    intro b8
    refine StoreD.st 4 rfl rfl rfl ?_
    refine CodeF.sched [[], [0], [0, 1], [0, 1, 2], [], [4], [], [6], [6, 7], [0, 1, 2, 3, 4, 5, 6, 7, 8]] [0, 1, 2, 3, 4, 5, 6, 7, 8, 9] (by kernel_rfl) ?_
    repeat (first | refine LoadP.at 0 rfl _ rfl rfl ?_ | refine LoadP.at 4 rfl _ rfl rfl ?_)
    refine Tri.free (clone_fixN J5 g.a g.len g.cap g.data hgk.2 (by omega) (by omega)) ?_
    rintro r J6 _ hJ6 ⟨a', cap', rfl, hcl, hnw⟩
    repeat (first | refine Chk.mk ⟨rfl, rfl, trivial⟩ ?_)
    refine mapUpdateD tabOk rfl rfl rfl rfl rfl 1 rfl hM3 ?_
    intro ob4 hM4
    refine ToD.to (((k + 1 : Nat)) : Int) (by rw [wrap_i64 (by omega) (by omega)]; omega) ?_
    have hM5 : MapR ob4 ((iput gs3 ⟨g.blk, a', g.len, cap', g.data⟩).map hdr) := by rw [iput_hdr]; exact hM4
    refine ⟨_, Drop.pick [0, 1, 2, 3] _ rfl, ⟨k + 1, ob4, iput gs3 ⟨g.blk, a', g.len, cap', g.data⟩, by omega, hM5, ?_, hap3.iput fun b off ha hXb => ?_, ?_, Imm.le_trans hle5 hJ6, rfl, rfl⟩, ?_⟩
    · intro y hy
      rcases iput_mem hy with rfl | hy
      · exact ⟨hgk.1, hcl⟩
      · exact (hg3 y hy).mono hJ6
    · obtain ⟨o, ho⟩ := hX b hXb
      have h5 := Imm.le_trans hJ2 (Imm.le_trans hle3 (Imm.le_trans hJ4 hle5)) b o ho
      rw [hnw b off ha] at h5; cases h5
    · rw [iput_pr, hp3, htk, List.foldl_append]; rfl
    · show ((i : Int) - ((k + 1 : Nat) : Int)).toNat < ((i : Int) - (k : Int)).toNat; omega
  obtain rfl : k = i := by omega
  rw [List.take_of_length_le (by omega)] at hp3
  skip
  rw [hW2]
  have hfin : VkX X J5 bV bD { v2 with j := j4, fresh := (ls.map Img.pr).foldl pput v2.fresh } (vChunk bV bD bJ2 bM2 v2.j.lay v2.epoch v2.slot false ++ ((bM2, ob3) :: chJ4)) := ⟨bJ2, bM2, ob3, chJ4, gs3, by rw [hlay, hb2], hj4, hM3, hg3, hp3, hap3⟩
  exact Done.mk ⟨[vChunk bV bD bJ2 bM2 v2.j.lay v2.epoch v2.slot false ++ ((bM2, ob3) :: chJ4), chD4], Drop.flat (by simp), rfl, _, chD4, hfin.vk, fun _ => hfin, hD4.mono hle5, rfl⟩
theorem vk_Commit {bV bD : Nat} {v : VSt} {ch : List Blk} {I : Imm} (h : Vk I bV bD v ch) (hw : v.j.Wf) (hep : v.epoch = v.j.epoch) (hsl : 0 ≤ v.slot ∧ v.slot ≤ 1) (hfr : v.fresh.length ≤ 1000) (hgr : v.j.groups.length ≤ 800000) {d : DSt} {chD : List Blk} (hD : Dk I bD d chD) (hf : d.Few 700000)
    (aL : Option Addr) (capL : Nat) (ls : List Img) (hi : ImgsOk I aL ls) (hll : ls.length ≤ 1000000) :
    Tri Tryz.prog 16 #[.pointer (some ⟨bV, 0, none⟩), .slice aL ls.length capL] I [ch, chD] fun r J S' =>
      r = .tuple #[.int .i64 (v.commit d (ls.map Img.pr)).2.2.1, .int .i64 (v.commit d (ls.map Img.pr)).2.2.2] ∧ ∃ ch' chD', Vk J bV bD (v.commit d (ls.map Img.pr)).1 ch' ∧ Dk J bD (v.commit d (ls.map Img.pr)).2.1 chD' ∧ S' = [ch', chD'] := by
  refine (vk_CommitX (X := fun _ => False) (fun _ h => h.elim) h.all hw hep hsl hfr hgr hD hf aL capL ls hi hll).mono ?_
  rintro r J S' hJ ⟨h1, ch', chD', h2, _, h3, h4⟩
  exact ⟨h1, ch', chD', h2, h3, h4⟩
end Go.Proofs.YtegdcjnjnoeinaaGreat
namespace Go.Proofs.YtegdcjnjnoeinaaGreat
open Go.RowKit Go.Sl
set_option maxRecDepth 20000

theorem DSt.flush_calm {d : DSt} (h : d.Calm) : d.flush = ({ d with safe := d.now, writes := [] }, 0) := by
  unfold DSt.flush
  rw [DSt.stop_calm h]
  simp
/-- noughts over noughts -/
theorem blank_calm : ∀ (n k : Nat) (d : DSt), d.Calm → k + n ≤ d.now.length → (∀ i, k ≤ i → i < k + n → d.now[i]? = some noughts) → ∃ ws, blankP n k d = ({ d with writes := ws, count := d.count + n }, 0)
  | 0, k, d, _, _, _ => ⟨d.writes, by rw [blankP]; simp⟩
  | n + 1, k, d, hc, hl, hz => by
    have hw := DSt.write_calm hc (n := (k : Int)) (b := noughts) (by omega) noughts_length
    have hset : d.now.set k noughts = d.now := by
      apply List.ext_getElem?
      intro i
      by_cases hi : k = i
      · subst hi; rw [List.getElem?_set_self (by omega), hz k (by omega) (by omega)]
      · rw [List.getElem?_set_ne hi]
    have hput : d.put (k : Int) noughts = { d with writes := d.writes ++ [((k : Int), noughts)], count := d.count + 1 } := by
      show ({ d with now := d.now.set (k : Int).toNat noughts, writes := _, count := _ } : DSt) = _
      rw [Int.toNat_natCast, hset]
    obtain ⟨ws, ih⟩ := blank_calm n (k + 1) { d with writes := d.writes ++ [((k : Int), noughts)], count := d.count + 1 } hc (by show k + 1 + n ≤ d.now.length; omega) (fun i h1 h2 => hz i (by omega) (by omega))
    refine ⟨ws, ?_⟩
    rw [blankP, hw, if_neg (by simp)]
    show blankP n (k + 1) (d.put (k : Int) noughts) = _
    rw [hput, ih]
    show (({ d with writes := ws, count := d.count + 1 + n } : DSt), (0 : Int)) = _
    congr 2
    push_cast
    omega
/-- a disk of 64 blocks: two superblocks, and noughts -/
def zL (a b : Dat) : List Dat := a :: b :: List.replicate 62 noughts
def dz (a b : Dat) (c : Int) : DSt := ⟨zL a b, zL a b, [], c, false, ⟨false, 0⟩, ⟨false, 0⟩⟩
theorem zL_length (a b : Dat) : (zL a b).length = 64 := by simp [zL]
theorem dz_calm (a b : Dat) (c : Int) : (dz a b c).Calm := ⟨rfl, rfl, rfl⟩
theorem zL_get (a b : Dat) (i : Nat) (h : 2 ≤ i) (h2 : i < 64) : (zL a b)[i]? = some noughts := by
  obtain ⟨j, rfl⟩ : ∃ j, i = j + 2 := ⟨i - 2, by omega⟩
  show (List.replicate 62 noughts)[j]? = _
  rw [List.getElem?_replicate, if_pos (by omega)]
theorem dz_wf {a b : Dat} (ha : a.length = 4096) (hb : b.length = 4096) (c : Int) : (dz a b c).Wf := by
  have hm : ∀ x ∈ zL a b, x.length = 4096 := by
    intro x hx
    rcases List.mem_cons.1 hx with rfl | hx
    · exact ha
    rcases List.mem_cons.1 hx with rfl | hx
    · exact hb
    rw [(List.mem_replicate.1 hx).2]; exact noughts_length
  exact ⟨rfl, by show 1 ≤ (zL a b).length ∧ (zL a b).length ≤ 512; rw [zL_length]; omega, hm, hm, fun w hw => (List.not_mem_nil hw).elim, fun h => (Bool.false_ne_true h).elim, fun h => (Bool.false_ne_true h).elim⟩
theorem dz_few (a b : Dat) (c : Nat) : (dz a b c).Few c := ⟨Nat.zero_le _, by show (0 : Int) ≤ c; omega, by show (c : Int) ≤ c; omega⟩
theorem format_new : formatP (DSt.of (List.replicate 64 noughts)) = (dz (supL ⟨64, 1, 1, 0⟩) noughts 23, 0) := by
  have e0 : DSt.of (List.replicate 64 noughts) = dz noughts noughts 0 := rfl
  have hc := dz_calm noughts noughts 0
  have hl : (dz noughts noughts 0).now.length = 64 := zL_length _ _
  have hall : ∀ i, 1 ≤ i → i < 1 + 22 → (dz noughts noughts 0).now[i]? = some noughts := by
    intro i h1 h2
    by_cases h : i = 1
    · subst h; rfl
    · exact zL_get _ _ i (by omega) (by omega)
  rw [e0]
  generalize hd : dz noughts noughts 0 = d0 at *
  obtain ⟨ws, hb⟩ := blank_calm 22 1 d0 hc (by omega) hall
  unfold formatP
  rw [if_neg (by omega), hl, show (layOf ((64 : Nat) : Int)).d.toNat - 1 = 22 from by decide]
  unfold fmtS
  rw [hb]
  dsimp only
  have hc1 : ({ d0 with writes := ws, count := d0.count + (22 : Nat) } : DSt).Calm := hc
  rw [if_neg (by simp), DSt.flush_calm hc1]
  dsimp only
  rw [if_neg (by simp)]
  have hc2 : ({ d0 with safe := d0.now, writes := [], count := d0.count + (22 : Nat) } : DSt).Calm := hc
  rw [DSt.write_calm (d := { d0 with safe := d0.now, writes := [], count := d0.count + (22 : Nat) }) hc2 (n := 0) (b := supL ⟨(64 : Nat), 1, 1, 0⟩) (by show (0 : Int) ≤ 0 ∧ (0 : Int) < (d0.now.length : Nat); omega) (supL_length _)]
  dsimp only
  rw [if_neg (by simp), DSt.flush_calm (by exact hc)]
  subst hd
  rfl
theorem rb_dz (a b : Dat) (c : Int) (o : Nat) : rbP (dz a b c) 2 16 o = noughts := by
  unfold rbP
  show (zL a b).getD _ _ = _
  rw [List.getD_eq_getElem?_getD, zL_get a b _ (by omega) (by omega)]; rfl
theorem scan_dz (a b : Dat) (c : Int) (s : Sup) : scanL (dz a b c) s = [] := by
  rw [scanL64 (zL_length a b)]
  refine scan_stop ?_
  intro e q l h
  rw [grpP_none (by rw [rb_dz]; exact hd_noughts)] at h
  cases h
theorem do_empty {d : DSt} (hc : d.Calm) (_hw : d.writes = [] ∧ d.safe = d.now) {s : Sup} (hR : RightS s) (slot : Nat) (hs : slot ≤ 1) (hl : 2 ≤ d.now.length) : doP d [] s slot = ({ d with safe := d.now.set slot (supL s), now := d.now.set slot (supL s), writes := [], count := d.count + 1 }, 0) := by
  have hd : DoOk d [] := by intro g hg; simp at hg
  unfold doP
  rw [if_neg (by rintro (h | h | h | h); exact h hR; omega; omega; exact h hd)]
  rw [show wrImgs [] d = (d, 0) from rfl]
  dsimp only
  rw [if_neg (by simp), DSt.flush_calm hc]
  dsimp only
  rw [if_neg (by simp)]
  unfold lastWr
  have hc2 : ({ d with safe := d.now, writes := [] } : DSt).Calm := hc
  rw [DSt.write_calm hc2 (n := (slot : Int)) (b := supL s) (by show (0 : Int) ≤ slot ∧ (slot : Int) < d.now.length; omega) (supL_length _)]
  dsimp only
  rw [if_neg (by simp), DSt.flush_calm (by exact hc)]
  show (({ d with safe := d.now.set (slot : Int).toNat (supL s), now := d.now.set (slot : Int).toNat (supL s), writes := [], count := d.count + 1 } : DSt), (0 : Int)) = _
  rw [Int.toNat_natCast]
/-- mounting a disk whose ring is empty -/
theorem mount_dz {a b : Dat} {c : Int} {s : Sup} {slot : Nat} (hch : chooseP (getS a) (getS b) = (s, (slot : Int), true)) (hR : RightS s) (hb : s.blocks = 64) (ht : s.tail < 16) (he : s.epoch < 8388608) (hs : slot ≤ 1) :
    mountP (dz a b c) = (dz (if slot = 1 then supL ⟨64, s.epoch + 1, s.seq, s.tail⟩ else a) (if slot = 1 then b else supL ⟨64, s.epoch + 1, s.seq, s.tail⟩) (c + 1), 0, some ⟨openJ 64 (s.epoch + 1) s.seq s.tail, s.epoch + 1, slot, [], false⟩) := by
  obtain ⟨sb, se, sq, st⟩ := s
  obtain ⟨r1, r2, r3, r4, r5, r6, r7, r8⟩ := hR
  dsimp only at *
  subst hb
  have hl : (dz a b c).now.length = 64 := zL_length _ _
  have hf : foundP (dz a b c) = (⟨64, se, sq, st⟩, (slot : Int), 0) := by
    unfold foundP
    rw [if_neg (by show ¬ false = true; simp), hl]
    have e1 : (dz a b c).now.getD 0 [] = a := rfl
    have e2 : (dz a b c).now.getD 1 [] = b := rfl
    rw [e1, e2, hch]
    dsimp only
    rw [if_neg (by rintro (h | h | h | h); exact Bool.noConfusion h; exact h rfl; rw [show layL ((64 : Nat) : Int) = 16 from by decide] at h; omega; omega)]
  unfold mountP
  rw [if_neg (by omega), hf]
  dsimp only
  rw [if_neg (by simp), scan_dz]
  unfold mountL
  have h16 : (layL (((dz a b c).now.length : Nat) : Int)).toNat = 16 := by rw [hl]; decide
  rw [h16]
  have hpl : ((placeP 16 st.toNat [] : Nat) : Int) = st := by
    unfold placeP
    simp only [List.map_nil, List.sum_nil, Nat.add_zero]
    omega
  rw [if_neg (by rintro (h | h); exact h (by intro g hg; simp [allG] at hg); simp at h; omega)]
  rw [hpl]
  have hdo := do_empty (d := dz a b c) (dz_calm a b c) ⟨rfl, rfl⟩ (s := ⟨64, se + 1, sq + (([] : List G3).length : Nat), st⟩) ⟨by show (64 : Int) ≤ 64; decide, by show (64 : Int) ≤ 512; decide, by show 1 ≤ se + 1; omega, by show se + 1 ≤ 8388608; omega, by show 1 ≤ sq + ((0 : Nat) : Int); omega, by show sq + ((0 : Nat) : Int) ≤ 549755813888; omega, r7, r8⟩ (1 - slot) (by omega) (by omega)
  have hsl : ((1 - slot : Nat) : Int) = 1 - (slot : Int) := by omega
  rw [hsl] at hdo
  have hho : homeP (allG []) = [] := by
    have := homeP_len (allG [])
    simp [allG] at this
    exact this
  rw [hho, hdo]
  dsimp only
  rw [if_neg (by simp), hl]
  have hsq : sq + (([] : List G3).length : Int) = sq := by simp
  rw [hsq]
  rcases Nat.eq_or_lt_of_le hs with h | h
  · subst h
    simp only [if_true]
    rfl
  · obtain rfl : slot = 0 := by omega
    rw [if_neg (by decide), if_neg (by decide)]
    rfl
theorem crash_none (sec : Nat) : ∀ (ws : List (Int × Dat)) (i : Nat) (s : List Dat), crashK [] (-1) sec i ws s = s
  | [], _, _ => rfl
  | w :: ws, i, s => by
    rw [crashK, crash_none sec ws]
    unfold crash1
    rw [if_neg (by omega), if_neg (by simp)]
end Go.Proofs.YtegdcjnjnoeinaaGreat
namespace Go.Proofs.YtegdcjnjnoeinaaGreat
open Go.RowKit Go.Sl
set_option maxRecDepth 20000
theorem images11_of (aL : Option Addr) (capL : Nat) (z : List Int) (hz : z.length ≤ 40) (hz2 : ∀ x ∈ z, In64 x) (k : Int) (hk : In64 k) (I : Imm) (hL : Rds I aL z.length (ints z)) :
    Tri Tryz.prog 15 #[.slice aL z.length capL, .int .i64 k] I [] fun v J S' => ∃ a cap ch gs, v = .slice a z.length cap ∧ OwnC ch 2 a z.length cap (imgCells gs) ∧ gs.map Img.pr = imgsP z k 0 ∧ (∀ g ∈ gs, ImgOk J g ∧ g.len = 4096) ∧ S' = [ch] := by
  refine Tri.of (args := [.slice aL z.length capL, .int .i64 k]) tabOk Tryz.func15 rfl (by kernel_rfl) (by kernel_rfl) ?_
  refine CodeF.loopD [0, 1, 5, 6] (fun vs J S' => ∃ (i : Nat) (kk : Int) (a : Option Addr) (cap : Nat) (ch : List Blk) (gs : List Img), i ≤ z.length ∧ In64 kk ∧ OwnC ch 2 a i cap (imgCells gs) ∧ gs.length = i ∧ gs.map Img.pr ++ imgsP (z.drop i) kk i = imgsP z k 0 ∧ (∀ g ∈ gs, ImgOk J g ∧ g.len = 4096) ∧ I.le J ∧
      vs = [.slice aL z.length capL, .int .i64 kk, .slice a i cap, .int .i64 i] ∧ S' = [ch])
    (fun vs _ _ => match vs with | [_, _, _, .int _ i] => ((z.length : Int) - i).toNat | _ => 0) ?_ ?_
  · exact ⟨_, Drop.and (Drop.refl _), 0, k, none, 0, [], [], by omega, hk, OwnC.nil _ _, rfl, rfl, by simp, I.le_refl, rfl, rfl⟩
  rintro vs g J S' hJ ⟨i, kk, a, cap, ch, gs, hi, hkk, hown, hgs, hbl, hok, hle, rfl, rfl⟩
  refine CmpD.split (fun c1 => ?_) (fun c1 => ?_)
  · refine CmpD.yes (by omega) ?_
    have hil : i < z.length := by omega
    rcases hL.mem with q0 | ⟨bL, oL, cL, TL, fL, rfl, hIL, hcL⟩
    · omega
    refine CodeF.sched [[], [], [], [1, 2], [1, 2, 3], [], [5], [1, 2, 3, 4, 5, 6], [1, 2, 3, 4, 5, 6, 7], [0, 1, 2, 3, 4, 5, 6, 7, 8], [0, 1, 2, 3, 4, 5, 6, 7, 8, 9]] [0, 1, 2, 3, 4, 5, 6, 7, 8, 9, 10] (by kernel_rfl) ?_
    refine Chk.mk (by omega) ?_
    refine LoadP.imm [.int .i64 z[i]] ⟨cL, TL, fL, .imm (hle _ _ hIL), take_get hcL (ints_get (List.getElem?_eq_getElem hil)), rfl⟩ ?_
    refine Tri.free (made kk 4096 (by omega) J) ?_
    have hdr : z.drop i = z[i] :: z.drop (i + 1) := List.drop_eq_getElem_cons hil
    rw [hdr, imgsP] at hbl
    rintro v J1 _ hJ1 ⟨aD, rfl, hrD⟩
    conv => whnf
    intro bN
    refine appendD tabOk rfl rfl rfl rfl rfl rfl rfl 0 rfl hown (SrcOk.slice (n := 1) (news := imgCells [⟨z[i], aD, 4096, 4096, madeL kk 4096⟩]) tabOk rfl ((OwnC.whole (len := 1) (size := 2) rfl).slC 1 rfl) (by intro v hv; simp [imgCells] at hv; rcases hv with rfl | rfl <;> rfl)) rfl (by show (i + 1) * 32 ≤ _; omega) (by omega) ?_
    intro a2 cap2 ch2 hown2
    refine Chk.mk (by omega) ?_
    have hk2 := tdiv2_range hkk
    refine ToD.i64 (by omega) (by omega) ?_
    refine ToD.i64 (by omega) (by omega) ?_
    refine ToD.i64 (by omega) (by omega) ?_
    refine ⟨_, Drop.pick [0] _ rfl, ⟨i + 1, _, a2, cap2, ch2, gs ++ [⟨z[i], aD, 4096, 4096, madeL kk 4096⟩], by omega, ?_, by rw [imgCells_snoc]; exact hown2, ?_, ?_, ?_, Imm.le_trans hle hJ1, rfl, rfl⟩, ?_⟩
    · unfold In64; omega
    · simp [hgs]
    · rw [List.map_append, List.append_assoc]; exact hbl
    · intro g hg
      rcases List.mem_append.1 hg with hg | hg
      · exact ⟨(hok g hg).1.mono hJ1, (hok g hg).2⟩
      · simp only [List.mem_singleton] at hg
        subst hg
        exact ⟨⟨hz2 _ (List.getElem_mem hil), hrD⟩, rfl⟩
    · show ((z.length : Int) - ((i : Int) + 1)).toNat < ((z.length : Int) - (i : Int)).toNat
      omega
  · obtain rfl : i = z.length := by omega
    refine Done.mk ⟨a, cap, ch, gs, rfl, hown, by rw [← hbl, List.drop_length, imgsP, List.append_nil], hok, rfl⟩
theorem images11_fix (aL : Option Addr) (capL : Nat) (z : List Int) (hz : z.length ≤ 40) (hz2 : ∀ x ∈ z, In64 x) (k : Int) (hk : In64 k) (I : Imm) (hL : Rds I aL z.length (ints z)) :
    Tri Tryz.prog 15 #[.slice aL z.length capL, .int .i64 k] I [] fun v J _ => ∃ a cap gs, v = .slice a gs.length cap ∧ ImgsOk J a gs ∧ gs.map Img.pr = imgsP z k 0 := by
  refine Tri.fixed (images11_of aL capL z hz hz2 k hk I hL) ?_
  rintro v J S' hJ ⟨a, cap, ch, gs, rfl, hown, hgs, hok, rfl⟩
  have hl : gs.length = z.length := by have := congrArg List.length hgs; rw [List.length_map, imgsP_length] at this; exact this
  refine ⟨0, ch, rfl, fun J' hJ' hm => ⟨a, cap, gs, by rw [hl], ⟨?_, fun g hg => (hok g hg).1.mono hJ'⟩, hgs⟩⟩
  rw [hl]
  exact Rds.of_ownS hown hm
end Go.Proofs.YtegdcjnjnoeinaaGreat
namespace Go.Proofs.YtegdcjnjnoeinaaGreat
open Go.RowKit Go.Sl
set_option maxRecDepth 20000

def sE (ep : Int) : Sup := ⟨64, ep, 1, 0⟩
theorem sE_right {ep : Int} (h : 1 ≤ ep ∧ ep ≤ 8388608) : RightS (sE ep) := ⟨by show (64 : Int) ≤ 64; decide, by show (64 : Int) ≤ 512; decide, h.1, h.2, by show (1 : Int) ≤ 1; decide, by show (1 : Int) ≤ 549755813888; decide, by show (0 : Int) ≤ 0; decide, by show (0 : Int) ≤ 511; decide⟩
theorem getS_noughts : getS noughts = none := by
  cases h : getS noughts with
  | none => rfl
  | some s =>
    have h2 := (getS_some.1 h).2
    have h3 := congrArg (·.head?) h2
    simp [supL, sup44, sup40, magicL, noughts] at h3
def v0 : VSt := ⟨openJ 64 2 1 0, 2, 0, [], false⟩
def dV : DSt := dz (supL (sE 1)) (supL (sE 2)) 24
theorem mount_first : mountP (dz (supL (sE 1)) noughts 23) = (dV, 0, some v0) := by
  have h := mount_dz (a := supL (sE 1)) (b := noughts) (c := 23) (s := sE 1) (slot := 0) (by rw [get_supL (sE_right (by omega)), getS_noughts]; rfl) (sE_right (by omega)) rfl (by show (0 : Int) < 16; decide) (by show (1 : Int) < 8388608; decide) (by omega)
  rw [if_neg (by decide), if_neg (by decide)] at h
  exact h
theorem mount_again (c : Int) : mountP (dz (supL (sE 1)) (supL (sE 2)) c) = (dz (supL (sE 3)) (supL (sE 2)) (c + 1), 0, some ⟨openJ 64 3 1 0, 3, 1, [], false⟩) := by
  have h := mount_dz (a := supL (sE 1)) (b := supL (sE 2)) (c := c) (s := sE 2) (slot := 1) (by rw [get_supL (sE_right (by omega)), get_supL (sE_right (by omega))]; rfl) (sE_right (by omega)) rfl (by show (0 : Int) < 16; decide) (by show (2 : Int) < 8388608; decide) (by omega)
  rw [if_pos rfl, if_pos rfl] at h
  exact h
theorem v0_wf : v0.j.Wf := openJ_wf 64 (by omega) ⟨rfl, by omega, by omega, by omega, by omega, by omega, by rw [layL_64']; omega⟩
theorem law_fresh (I : Imm) : Tri Tryz.prog 14 #[] I [] fun r J S' => ∃ bD bV chD chV, r = .tuple #[.pointer (some ⟨bD, 0, none⟩), .pointer (some ⟨bV, 0, none⟩), .bool true] ∧ Dk J bD dV chD ∧ Vk J bV bD v0 chV ∧ S' = [chV, chD] := by
  refine Tri.drop ?_ (fun _ _ _ _ h => h)
  refine Tri.of (args := []) tabOk Tryz.func14 rfl (by kernel_rfl) (by kernel_rfl) ?_
  refine Tri.frameX (dk_New I 64 (by omega)) [] rfl rfl ?_
  rintro r J1 A' hJ1 ⟨bD, chD, rfl, hD, rfl⟩
  repeat (first | refine CmpD.yes rfl ?_)
  refine Tri.frame1 0 rfl (vk_Format hD ((DSt.of_few _).mono (by omega))) ?_
  rw [format_new]
  rintro r J2 A' hJ2 ⟨rfl, chD2, hD2, rfl⟩
  refine ⟨_, rfl, ?_⟩
  repeat (first | refine CmpD.yes rfl ?_)
  have hf : (dz (supL ⟨64, 1, 1, 0⟩) noughts 23).Few 700000 := (dz_few _ _ 23).mono (by omega)
  refine Tri.frameX (vk_Mount hD2 hf) [0] rfl rfl ?_
  rw [show mountP (dz (supL ⟨64, 1, 1, 0⟩) noughts 23) = (dV, 0, some v0) from mount_first]
  rintro r J3 A' hJ3 ⟨chD3, hD3, (⟨h, _⟩ | ⟨_, v, bV, chV, hv, rfl, hV, rfl⟩)⟩
  · exact absurd rfl h
  cases hv
  repeat (first | refine CmpD.yes rfl ?_)
  exact Done.mk ⟨_, Drop.pick [2, 1] _ rfl, bD, bV, chD3, chV, rfl, hD3, hV, rfl⟩
theorem law_has {bV bD : Nat} {v : VSt} {ch : List Blk} {I : Imm} (h : Vk I bV bD v ch) {d : DSt} {chD : List Blk} (hD : Dk I bD d chD) (hfew : ∀ g ∈ v.fresh, g.2.length ≤ 1000000) (n : Int) (aB : Option Addr) (lB capB : Nat) (b : Dat) (hB : Rds I aB lB (bts b)) :
    Tri Tryz.prog 21 #[.pointer (some ⟨bV, 0, none⟩), .int .i64 n, .slice aB lB capB] I [ch, chD] fun r J S' => r = .bool (decide ((v.read d n).2 = 0 ∧ (v.read d n).1 = b)) ∧ I = J ∧ S' = [ch, chD] := by
  refine Tri.drop ?_ (fun _ _ _ _ h => h)
  refine Tri.of (args := [.pointer (some ⟨bV, 0, none⟩), .int .i64 n, .slice aB lB capB]) tabOk Tryz.func21 rfl (by kernel_rfl) (by kernel_rfl) ?_
  refine Tri.nf (vk_Read h hD hfew n) ?_
  generalize v.read d n = rd
  obtain ⟨x, e⟩ := rd
  dsimp only
  rintro r _ A' hJ ⟨a, cap, chB, rfl, hO, rfl, rfl⟩
  skip
  refine CmpD.split (fun (c1 : e = 0) => ?_) (fun (c1 : ¬ e = 0) => ?_)
  · skip
    refine Tri.mono (same_bytes (hO.slC1 2 rfl) hB.slC) ?_
    rintro r _ _ hJ ⟨rfl, rfl, rfl⟩
    by_cases hx : x = b
    · rw [decide_eq_true hx, decide_eq_true ⟨c1, hx⟩]
      exact Done.mk ⟨_, Drop.pick [0, 1] _ rfl, rfl, rfl, rfl⟩
    · rw [decide_eq_false hx, decide_eq_false (fun h => hx h.2)]
      exact Done.mk ⟨_, Drop.pick [0, 1] _ rfl, rfl, rfl, rfl⟩
  · rw [decide_eq_false (fun h => c1 h.1)]
    skip
    exact Done.mk ⟨_, Drop.pick [0, 1] _ rfl, rfl, rfl, rfl⟩
theorem wrD_rest (f : Nat → Int) : ∀ (bs : List Dat) (i : Nat) (d : DSt), (wrD f bs i d).safe = d.safe ∧ (wrD f bs i d).count = d.count + bs.length
  | [], _, _ => by simp [wrD]
  | b :: bs, i, d => by
    obtain ⟨h1, h2⟩ := wrD_rest f bs (i + 1) (d.put (f i) b)
    rw [wrD, h1, h2]
    refine ⟨rfl, ?_⟩
    show d.count + 1 + (bs.length : Int) = d.count + ((bs.length + 1 : Nat) : Int)
    omega
theorem commit_first {d : DSt} (hc : d.Calm) (hlen : d.now.length = 64) {l : List PImg} (hR : RightP 2 1 l) (hho : HomeOk (layOf 64) l) (hl : l.length + 1 ≤ 16) :
    ∃ (j : JSt) (f : Nat → Int), v0.commit d l = (⟨j, 2, 0, l.foldl pput [], false⟩, wrD f (putP 2 1 l) 0 d, 1, 0) := by
  have h1 := hR.2.2.2.2.1
  have hs : v0.j.s = 16 := layL_64'
  obtain ⟨j', a, _⟩ := JSt.append_next (j := v0.j) (held := false) v0_wf (by show 0 ≤ _; omega) rfl (d := d) (l := l) hR (by rw [hs]; omega) hc (by rw [hs, hlen]; decide) (t := 0) (u := (l.length : Int) + 1) (h := 0) (at_ := 0) (by
    rw [hs]
    show putS 16 0 0 0 ((l.length : Int) + 1) (if false = true then (l.length : Int) + 1 else 0) = _
    unfold putS
    have hok : Ok 16 0 0 0 := by unfold Ok; omega
    rw [if_neg (by simp only [Bool.false_eq_true, if_false]; rintro (h | h | h | h | h); exact h hok; omega; omega; omega; omega), if_neg (by simp only [Bool.false_eq_true, if_false]; omega)]
    simp)
  have hbn : blocksN (l.length : Int) = (l.length : Int) + 1 := by unfold blocksN; rw [if_neg (by omega)]
  refine ⟨j', fun i => 2 + (0 + (i : Int)) % v0.j.s, ?_⟩
  unfold VSt.commit
  rw [if_neg (by show ¬ false = true; simp), if_neg (fun h => h hho), if_neg (fun h => h hR)]
  have hft : v0.fits (l.length : Int) = true := by
    unfold VSt.fits
    rw [hbn]
    exact decide_eq_true ⟨by omega, by show (l.length : Int) + 1 ≤ layL ((64 : Nat) : Int); rw [layL_64']; omega⟩
  rw [if_neg (by rw [hft]; simp), hbn, if_neg (by rw [hs]; show ¬ (16 : Int) - 0 - 0 < _; omega)]
  unfold VSt.app
  rw [a]
  dsimp only
  rw [if_neg (by simp)]
  rfl
set_option maxHeartbeats 4000000 in
theorem awake11 (I : Imm) (S : St) : Tri Tryz.prog 22 #[] I S fun v _ _ => v = .bool true := by
  refine Tri.free (Q := fun v _ _ => v = .bool true) ?_ (fun v J _ _ h => h)
  refine Tri.of (args := []) tabOk Tryz.func22 rfl (by kernel_rfl) (by kernel_rfl) ?_
  refine Tri.frameX (law_fresh I) [] rfl rfl ?_
  rintro r J1 A' hJ1 ⟨bD, bV, chD, chV, rfl, hD, hV, rfl⟩
  skip
  refine Tri.frame1 0 rfl (vk_Next hV) ?_
  rintro r _ A' hJ ⟨rfl, rfl, rfl⟩
  refine ⟨_, rfl, ?_⟩
  repeat (first | refine CmpD.yes rfl ?_)
  refine Tri.frame1 0 rfl (vk_Synced hV) ?_
  rintro r _ A' hJ ⟨rfl, rfl, rfl⟩
  refine ⟨_, rfl, ?_⟩
  repeat (first | refine CmpD.yes rfl ?_)
  conv => whnf
  intro bR
  refine Tri.fix 2 rfl fun I2 hI2 hRm => ?_
  have hz : Rds I2 (some ⟨bR, 0, none⟩) 2 (ints (rowL 2)) := ⟨rfl, .inr ⟨bR, 0, _, _, _, rfl, hRm _ (List.mem_singleton.2 rfl), rfl⟩⟩
  refine Tri.free (images11_fix (some ⟨bR, 0, none⟩) 2 (rowL 2) (by decide) (rowL_in 2 (by omega)) 5 (by unfold In64; omega) I2 hz) ?_
  rintro r J3 _ hJ3 ⟨aI, capI, gs, rfl, hI, hgs⟩
  have hgl : gs.length = 2 := by have := congrArg List.length hgs; rwa [List.length_map, imgsP_length, rowL_length] at this
  have hle3 := Imm.le_trans hI2 hJ3
  have hR := right_row (e := 2) (s := 1) (by omega) (by omega) 2 (by omega) 5
  have hho : HomeOk (layOf 64) (imgsP (rowL 2) 5 0) := by
    intro g hg
    have : g.1 ∈ rowL 2 := by rw [← imgsP_fst (rowL 2) 5 0]; exact List.mem_map_of_mem hg
    simp [rowL] at this
    obtain ⟨i, hi, hgi⟩ := this
    show (18 : Int) ≤ g.1 ∧ g.1 < 64
    omega
  obtain ⟨j1, f, hcm⟩ := commit_first (d := dV) (dz_calm _ _ _) (zL_length _ _) hR hho (by rw [imgsP_length, rowL_length]; decide)
  refine Tri.frame (vk_Commit (hV.mono hle3) v0_wf rfl (by show (0 : Int) ≤ 0 ∧ (0 : Int) ≤ 1; omega) (by show 0 ≤ 1000; omega) (by show 0 ≤ _; omega) (hD.mono hle3) ((dz_few _ _ 24).mono (by omega)) aI capI gs hI (by omega)) [0, 1] rfl rfl ?_
  rw [hgs, hcm]
  dsimp only
  rintro r J4 A' hJ4 ⟨rfl, chV4, chD4, hV4, hD4, rfl⟩
  refine ⟨Nat.le_refl _, ?_⟩
  repeat (first | refine CmpD.yes rfl ?_)
  refine Tri.free (made 5 4096 (by omega) J4) ?_
  rintro r J5 _ hJ5 ⟨aM, rfl, hM⟩
  skip
  have hrow : imgsP (rowL 2) 5 0 = [(30, madeL 5 4096), (31, madeL ((5 : Int).tdiv 2 + (0 : Nat)) 4096)] := rfl
  have hfr : (imgsP (rowL 2) 5 0).foldl pput [] = imgsP (rowL 2) 5 0 := by rw [hrow]; simp [pput]
  have hfew : ∀ g ∈ (imgsP (rowL 2) 5 0).foldl pput [], g.2.length ≤ 1000000 := by rw [hfr]; intro g hg; have := imgsP_snd _ _ _ g hg; omega
  refine Tri.frame (law_has (hV4.mono hJ5) (hD4.mono hJ5) hfew 30 aM 4096 4096 (madeL 5 4096) hM) [0, 1] rfl rfl ?_
  have hrd : VSt.read ⟨j1, 2, 0, (imgsP (rowL 2) 5 0).foldl pput [], false⟩ (wrD f (putP 2 1 (imgsP (rowL 2) 5 0)) 0 dV) 30 = (madeL 5 4096, 0) := by
    unfold VSt.read
    rw [if_neg (by simp), hfr, hrow]
    rfl
  rw [hrd, decide_eq_true ⟨rfl, rfl⟩]
  rintro r _ A' hJ6 ⟨rfl, rfl, rfl⟩
  refine ⟨Nat.le_refl _, ?_⟩
  skip
  obtain ⟨hsafe, hcount⟩ := wrD_rest f (putP 2 1 (imgsP (rowL 2) 5 0)) 0 dV
  have hfew4 : (wrD f (putP 2 1 (imgsP (rowL 2) 5 0)) 0 dV).Few 1000000 := (wrD_few f _ 0 dV 24 (dz_few _ _ 24)).mono (by rw [putP_length, imgsP_length, rowL_length]; omega)
  refine Tri.frame1 1 rfl (dk_Crash (hD4.mono hJ5) hfew4 none 0 0 [] ⟨rfl, .inl rfl⟩ (-1) 0 (by omega)) ?_
  have hcr : (wrD f (putP 2 1 (imgsP (rowL 2) 5 0)) 0 dV).crash [] (-1) 0 = dz (supL (sE 1)) (supL (sE 2)) 27 := by
    unfold DSt.crash
    rw [crash_none, hsafe, hcount, putP_length, imgsP_length, rowL_length]
    rfl
  rw [hcr]
  rintro r J7 A' hJ7 ⟨rfl, chD7, hD7, rfl⟩
  refine ⟨_, rfl, ?_⟩
  repeat (first | refine CmpD.yes rfl ?_)
  refine Tri.frameX (vk_Mount hD7 ((dz_few _ _ 27).mono (by omega))) [1] rfl rfl ?_
  rw [mount_again]
  rintro r J8 A' hJ8 ⟨chD8, hD8, (⟨h, _⟩ | ⟨_, v, bV8, chV8, hv, rfl, hV8, rfl⟩)⟩
  · exact absurd rfl h
  cases hv
  repeat (first | refine CmpD.yes rfl ?_)
  refine makeH tabOk rfl rfl rfl 4096 4096 rfl rfl (Nat.le_refl _) (by show 1 * 4096 ≤ _; decide) (by decide) (by show 4096 * 1 ≤ _; decide) rfl (by decide) ?_
  intro bN NB hNB
  skip
  refine Tri.fix 5 rfl fun I9 hI9 hNm => ?_
  have hN : Rds I9 (some ⟨bN, 0, none⟩) 4096 (bts noughts) := by
    rw [noughts_bts]
    exact Rds.of_own (cap := 4096) (by rw [hNB]; show OwnC [(bN, row (rows 4096 [Value.int .u8 0]) _)] 1 _ _ _ _; exact OwnC.whole (by rw [rows_length]; rfl)) hNm
  refine Tri.frame (law_has (hV8.mono hI9) (hD8.mono hI9) (by intro g hg; simp at hg) 30 (some ⟨bN, 0, none⟩) 4096 4096 noughts hN) [4, 3] rfl rfl ?_
  have hrd2 : VSt.read ⟨openJ 64 3 1 0, 3, 1, [], false⟩ (dz (supL (sE 3)) (supL (sE 2)) (27 + 1)) 30 = (noughts, 0) := by
    unfold VSt.read
    rw [if_neg (by simp)]
    show (dz (supL (sE 3)) (supL (sE 2)) (27 + 1)).read ((30 : Nat) : Int) = _
    rw [read_up (dz_wf (supL_length _) (supL_length _) _) rfl (by show 30 < (zL _ _).length; rw [zL_length]; omega)]
    show ((zL _ _).getD 30 [], (0 : Int)) = _
    rw [List.getD_eq_getElem?_getD, zL_get _ _ 30 (by omega) (by omega)]; rfl
  rw [hrd2, decide_eq_true ⟨rfl, rfl⟩]
  rintro r _ A' hJ10 ⟨rfl, rfl, rfl⟩
  refine ⟨Nat.le_refl _, ?_⟩
  skip
  refine Tri.frame1 4 rfl (vk_Next (hV8.mono hI9)) ?_
  rintro r _ A' hJ11 ⟨rfl, rfl, rfl⟩
  refine ⟨_, rfl, ?_⟩
  repeat (first | refine CmpD.yes rfl ?_)
  exact Done.mk rfl
end Go.Proofs.YtegdcjnjnoeinaaGreat
namespace Go.Proofs.YtegdcjnjnoeinaaGreat
open Go.RowKit Go.Sl
set_option maxRecDepth 20000

theorem images11_own (aL : Option Addr) (capL : Nat) (x : Int) (k : Int) (hk : In64 k) (I : Imm) (hL : Rds I aL 1 (ints [x])) :
    Tri Tryz.prog 15 #[.slice aL (1 : Nat) capL, .int .i64 k] I [] fun v J S' => ∃ a cap ch b chD, v = .slice a 1 cap ∧ OwnC ch 2 a 1 cap (imgCells [⟨x, some ⟨b, 0, none⟩, 4096, 4096, madeL k 4096⟩]) ∧ OwnB chD (some ⟨b, 0, none⟩) 4096 4096 (madeL k 4096) ∧ I = J ∧ S' = [ch, chD] := by
  refine Tri.drop ?_ (fun _ _ _ _ h => h)
  refine Tri.of (args := [.slice aL (1 : Nat) capL, .int .i64 k]) tabOk Tryz.func15 rfl (by kernel_rfl) (by kernel_rfl) ?_
  refine CodeF.loopD [0, 1, 5, 6] (fun vs J S' => ∃ (i : Nat) (kk : Int) (a : Option Addr) (cap : Nat), In64 kk ∧ I = J ∧ ((i = 0 ∧ kk = k ∧ a = none ∧ cap = 0 ∧ S' = [[], []]) ∨ (i = 1 ∧ ∃ ch b chD, OwnC ch 2 a 1 cap (imgCells [⟨x, some ⟨b, 0, none⟩, 4096, 4096, madeL k 4096⟩]) ∧ OwnB chD (some ⟨b, 0, none⟩) 4096 4096 (madeL k 4096) ∧ S' = [ch, chD])) ∧
      vs = [.slice aL (1 : Nat) capL, .int .i64 kk, .slice a i cap, .int .i64 i])
    (fun vs _ _ => match vs with | [_, _, _, .int _ i] => ((1 : Int) - i).toNat | _ => 0) ?_ ?_
  · exact ⟨[[], []], Drop.flat rfl, 0, k, none, 0, hk, rfl, .inl ⟨rfl, rfl, rfl, rfl, rfl⟩, rfl⟩
  rintro vs g J S' hJ ⟨i, kk, a, cap, hkk, rfl, (⟨rfl, rfl, rfl, rfl, rfl⟩ | ⟨rfl, ch, b, chD, hO, hB, rfl⟩), rfl⟩
  · refine CmpD.yes (by decide) ?_
    refine CmpD.yes (by decide) ?_
    rcases hL.mem with q0 | ⟨bL, oL, cL, TL, fL, rfl, hIL, hcL⟩
    · omega
    refine CodeF.sched [[], [], [], [1, 2], [1, 2, 3], [], [5], [1, 2, 3, 4, 5, 6], [1, 2, 3, 4, 5, 6, 7], [0, 1, 2, 3, 4, 5, 6, 7, 8], [0, 1, 2, 3, 4, 5, 6, 7, 8, 9]] [0, 1, 2, 3, 4, 5, 6, 7, 8, 9, 10] (by kernel_rfl) ?_
    refine Chk.mk (by omega) ?_
    refine LoadP.imm [.int .i64 x] ⟨cL, TL, fL, .imm hIL, take_get (i := 0) hcL rfl, rfl⟩ ?_
    refine Tri.frameX (made_own kk 4096 (by omega) I) [] rfl rfl ?_
    rintro v _ A' hJ1 ⟨b, chD, rfl, hB, rfl, rfl⟩
    conv => whnf
    intro bN
    refine appendD tabOk rfl rfl rfl rfl rfl rfl rfl 0 rfl (OwnC.nil 2 none) (SrcOk.slice (n := 1) (news := imgCells [⟨x, some ⟨b, 0, none⟩, 4096, 4096, madeL kk 4096⟩]) tabOk rfl ((OwnC.whole (len := 1) (size := 2) rfl).slC 3 rfl) (by intro v hv; simp [imgCells] at hv; rcases hv with rfl | rfl <;> rfl)) rfl (by show (0 + 1) * 32 ≤ _; omega) (by omega) ?_
    intro a2 cap2 ch2 hown2
    refine Chk.mk (by omega) ?_
    have hk2 := tdiv2_range hkk
    refine ToD.i64 (by omega) (by omega) ?_
    refine ToD.i64 (by omega) (by omega) ?_
    refine ToD.i64 (by omega) (by omega) ?_
    refine ⟨_, Drop.pick [0, 2] _ rfl, ⟨1, _, a2, cap2, ?_, rfl, .inr ⟨rfl, ch2, b, chD, hown2, hB, rfl⟩, rfl⟩, ?_⟩
    · unfold In64; omega
    · show ((1 : Int) - ((0 : Int) + 1)).toNat < ((1 : Int) - (0 : Int)).toNat
      omega
  · refine CmpD.no (by decide) ?_
    exact Done.mk ⟨_, Drop.refl _, a, cap, ch, b, chD, rfl, hO, hB, rfl, rfl⟩
/-- a block that was committed last is read without its disk -/
theorem vk_ReadF {bV bD : Nat} {v : VSt} {ch : List Blk} {I : Imm} (h : Vk I bV bD v ch) (hb : v.broken = false) (n : Int) {b : Dat} (hl : v.fresh.lookup n = some b) (hle : b.length ≤ 1000000) :
    Tri Tryz.prog 17 #[.pointer (some ⟨bV, 0, none⟩), .int .i64 n] I [ch] fun r J S' => ∃ a cap chB, r = .tuple #[.slice a b.length cap, .int .i64 0] ∧ OwnB chB a b.length cap b ∧ I = J ∧ S' = [ch, chB] := by
  obtain ⟨bJ, bM, ob, chJ, gs, rfl, hj, hM, hg, hp⟩ := h
  refine Tri.lay (S2 := [vChunk bV bD bJ bM v.j.lay v.epoch v.slot v.broken, [(bM, ob)], chJ]) (vk_lay ..) ?_
  refine Tri.drop ?_ (fun _ _ _ _ h => h)
  refine Tri.of (args := [.pointer (some ⟨bV, 0, none⟩), .int .i64 n]) tabOk Tryz.func17 rfl (by kernel_rfl) (by kernel_rfl) ?_
  refine Tri.nf (v_wrong bV bD bJ bM _ _ _ _ I _ 0 rfl) ?_
  rintro r _ _ hJ ⟨rfl, rfl, rfl⟩
  have back : ∀ (x : List Blk), Drop [vChunk bV bD bJ bM v.j.lay v.epoch v.slot v.broken, [(bM, ob)], chJ, x] [vChunk bV bD bJ bM v.j.lay v.epoch v.slot v.broken ++ ((bM, ob) :: chJ), x] := fun x => Drop.flat (by simp)
  rw [hb] at back ⊢
  repeat (first | refine LoadD.own 0 rfl _ rfl rfl ?_ | refine CmpD.yes rfl ?_)
  refine lookupD tabOk rfl rfl rfl rfl rfl rfl 1 rfl hM ?_
  rcases mget_hdr gs n with ⟨h1, h2⟩ | ⟨g, hgm, h1, h2⟩
  · rw [hp, hl] at h2; cases h2
  · rw [h1]
    rw [hp, hl] at h2
    cases h2
    have hr := (hg g hgm).2
    have hl : g.data.length = g.len := by have := hr.len; rwa [bts_length] at this
    skip
    refine Tri.frameX (clone_bytes I [] g.a g.len g.cap (bts g.data) (by rw [Nat.mul_one]; exact hr.slC) (bts_plain g.data) (by omega)) [] rfl rfl ?_
    rintro r _ A' hJ ⟨a, cap, chB, rfl, hB, rfl, rfl⟩
    refine Done.mk ⟨_, back chB, a, cap, chB, ?_, ?_, rfl, rfl⟩
    · rw [← hl]; rfl
    · show OwnB chB a g.data.length cap g.data; rw [hl]; exact hB
theorem law_hasF {bV bD : Nat} {v : VSt} {ch : List Blk} {I : Imm} (h : Vk I bV bD v ch) (hb : v.broken = false) (n : Int) {b : Dat} (hl : v.fresh.lookup n = some b) (hle : b.length ≤ 1000000) (aB : Option Addr) (lB capB : Nat) (hB : Rds I aB lB (bts b)) :
    Tri Tryz.prog 21 #[.pointer (some ⟨bV, 0, none⟩), .int .i64 n, .slice aB lB capB] I [ch] fun r J S' => r = .bool true ∧ I = J ∧ S' = [ch] := by
  refine Tri.drop ?_ (fun _ _ _ _ h => h)
  refine Tri.of (args := [.pointer (some ⟨bV, 0, none⟩), .int .i64 n, .slice aB lB capB]) tabOk Tryz.func21 rfl (by kernel_rfl) (by kernel_rfl) ?_
  refine Tri.nf (vk_ReadF h hb n hl hle) ?_
  rintro r _ A' hJ ⟨a, cap, chB, rfl, hO, rfl, rfl⟩
  skip
  refine CmpD.yes rfl ?_
  refine Tri.mono (same_bytes (hO.slC1 1 rfl) hB.slC) ?_
  rintro r _ _ hJ ⟨rfl, rfl, rfl⟩
  rw [decide_eq_true rfl]
  exact Done.mk ⟨_, Drop.pick [0] _ rfl, rfl, rfl, rfl⟩
end Go.Proofs.YtegdcjnjnoeinaaGreat
namespace Go.Proofs.YtegdcjnjnoeinaaGreat
open Go.RowKit Go.Sl
set_option maxRecDepth 20000

def mkB (k i : Nat) : UInt8 := UInt8.ofNat ((1000003 * (k + 7) + i) * 11400714819323198485 % 18446744073709551616 / 72057594037927936)
theorem mark_byte (k i : Nat) (hk : k ≤ 1000000) (hi : i ≤ 1000000) (I : Imm) : Tri Tryz.prog 87 #[.int .i64 k, .int .i64 i] I [] fun v J _ => v = byte (mkB k i) ∧ I = J := by
  refine Tri.of (args := [.int .i64 k, .int .i64 i]) tabOk Tryz.func87 rfl (by kernel_rfl) (by kernel_rfl) ?_
  refine ToD.to ((k + 7 : Nat) : Int) (by rw [wrap_i64 (by omega) (by omega)]; omega) ?_
  refine ToD.to ((1000003 * (k + 7) : Nat) : Int) (by rw [wrap_i64 (by omega) (by omega)]; omega) ?_
  refine ToD.to ((1000003 * (k + 7) + i : Nat) : Int) (by rw [wrap_i64 (by omega) (by omega)]; omega) ?_
  refine ToD.to ((1000003 * (k + 7) + i : Nat) : Int) (wrap_u64 _ (by omega)) ?_
  refine ToD.to (((1000003 * (k + 7) + i) * 11400714819323198485 % 18446744073709551616 : Nat) : Int) (by simp [IntKind.wrap, IntKind.signed, IntKind.bits]) ?_
  refine Chk.mk (by decide) ?_
  obtain ⟨m, hm⟩ : ∃ m, m = (1000003 * (k + 7) + i) * 11400714819323198485 % 18446744073709551616 := ⟨_, rfl⟩
  have hml : m < 18446744073709551616 := by rw [hm]; exact Nat.mod_lt _ (by decide)
  rw [← hm]
  refine ToD.to ((m / 72057594037927936 : Nat) : Int) (shr_nat m 56 _ rfl (by omega)) ?_
  refine ToD.to ((m / 72057594037927936 : Nat) : Int) (wrap_u rfl (by omega) (by show ((m / 72057594037927936 : Nat) : Int) < 2 ^ 8; omega)) ?_
  refine Done.mk ⟨?_, rfl⟩
  show Value.int .u8 _ = byte _
  unfold byte mkB
  rw [← hm, UInt8.toNat_ofNat', Nat.mod_eq_of_lt (by omega)]
end Go.Proofs.YtegdcjnjnoeinaaGreat
namespace Go.Proofs.YtegdcjnjnoeinaaGreat
open Go.RowKit Go.Sl
set_option maxRecDepth 20000

/-- a list of 4096 bytes in a block of its own -/
structure AB where
  b : Nat
  pre : List Value
  post : List Value
  T : TypeId
  cap : Nat
  data : Dat
def AB.ch (x : AB) : List Blk := [(x.b, row (x.pre ++ bts x.data ++ x.post) x.T)]
@[reducible] def AB.cell (x : AB) : Value := .slice (some ⟨x.b, x.pre.length, none⟩) 4096 x.cap
structure AB.Ok (x : AB) : Prop where
  len : x.data.length = 4096
  cap : 4096 ≤ x.cap
  post : x.post.length = x.cap - 4096
def AB.with (x : AB) (d : Dat) : AB := { x with data := d }
def mkL (k n : Nat) : Dat := (List.range n).map (mkB k)
theorem mkL_length (k n : Nat) : (mkL k n).length = n := by simp [mkL]
theorem gen_mkL (k : Nat) (g : Nat → UInt8) : gen (mkB k) g 4096 = mkL k 4096 := by
  unfold gen mkL
  apply List.map_congr_left
  intro j hj
  rw [if_pos (List.mem_range.1 hj)]
theorem AB.own {x : AB} (h : x.Ok) : OwnB x.ch (some ⟨x.b, x.pre.length, none⟩) 4096 x.cap x.data :=
  ⟨by rw [bts_length, h.len], h.cap, .inr ⟨x.b, x.pre, x.post, x.T, rfl, rfl, by rw [h.post]; omega⟩⟩
theorem AB.of {ch : List Blk} {a : Option Addr} {cap : Nat} {l : Dat} (h : OwnB ch a 4096 cap l) : ∃ x : AB, x.Ok ∧ ch = x.ch ∧ x.cell = .slice a 4096 cap ∧ x.data = l := by
  have hle := h.le
  have hn := h.n
  rw [bts_length] at hn
  rcases h.at' with q | ⟨b, pre, post, T, rfl, rfl, hp⟩
  · omega
  · exact ⟨⟨b, pre, post, T, cap, l⟩, ⟨by show l.length = _; omega, hle, by show post.length = cap - 4096; omega⟩, rfl, rfl, rfl⟩
theorem map_get {ys : List AB} {k : Nat} (h : k < ys.length) (R : St) : (ys.map AB.ch ++ R)[k]? = some (ys[k]).ch := by
  rw [List.getElem?_append_left (by rw [List.length_map]; exact h), List.getElem?_map, List.getElem?_eq_getElem h]; rfl
theorem map_set {ys : List AB} {k : Nat} (h : k < ys.length) (R : St) (y : AB) : (ys.map AB.ch ++ R).set k y.ch = (ys.set k y).map AB.ch ++ R := by
  rw [List.set_append_left _ _ (by rw [List.length_map]; exact h), List.map_set]
end Go.Proofs.YtegdcjnjnoeinaaGreat
namespace Go.Sl
open Go.RowKit
theorem SlC.lift {I : Imm} {S S' : St} {a : Option Addr} {n : Nat} {vs : List Value} (h : SlC I S a n vs) (hS : ∀ b o, In I S b o → In I S' b o) : SlC I S' a n vs := by
  refine ⟨h.len, h.mem.imp id ?_⟩
  rintro ⟨b, off, ha, hc⟩
  obtain ⟨c, T, fr, hin, h1, h2⟩ := hc.ex
  exact ⟨b, off, ha, ⟨c, T, fr, hS _ _ hin, h1, h2⟩⟩
theorem SlC.at {I : Imm} {S : St} {c : List Blk} {a : Option Addr} {n : Nat} {vs : List Value} (h : SlC I [c] a n vs) (k : Nat) (hk : S[k]? = some c) : SlC I S a n vs := by
  refine h.lift ?_
  intro b o hin
  cases hin with
  | imm h => exact .imm h
  | own j h =>
    refine .own k ?_
    rw [List.getD_eq_getElem?_getD, hk]
    cases j with
    | zero => simpa using h
    | succ j => simp at h
theorem SlC.sub {I : Imm} {c c' : List Blk} {a : Option Addr} {n : Nat} {vs : List Value} (h : SlC I [c] a n vs) (hs : ∀ x ∈ c, x ∈ c') : SlC I [c'] a n vs := by
  refine h.lift ?_
  intro b o hin
  cases hin with
  | imm h => exact .imm h
  | own j h =>
    refine .own 0 ?_
    cases j with
    | zero => exact hs _ (by simpa using h)
    | succ j => simp at h
theorem SlC.first {I : Imm} {S : St} {a : Option Addr} {n : Nat} {vs : List Value} (h : SlC I S a n vs) {m : Nat} (hm : m ≤ n) : SlC I S a m (vs.take m) := by
  refine ⟨by rw [List.length_take, h.len]; omega, ?_⟩
  rcases h.mem with h0 | ⟨b, off, ha, hc⟩
  · left; omega
  · right
    have := hc.part (i := 0) (m := m) (by omega)
    exact ⟨b, off, ha, by simpa using this⟩
theorem Drop.mid (S : St) (x y : List Blk) : Drop (S ++ [x] ++ [y]) (S ++ [y]) := by
  refine ⟨x, ?_⟩
  simp only [List.flatten_append, List.flatten_cons, List.flatten_nil, List.append_nil, List.append_assoc]
  exact List.Perm.append_left _ List.perm_append_comm
theorem Drop.fold (S : St) (k : Nat) (c x g : List Blk) (hk : k < S.length) : Drop (S.set k c ++ [g] ++ [x]) (S.set k (c ++ x) ++ [g]) := by
  refine ⟨[], ?_⟩
  rw [List.append_nil]
  have h1 := set_flatten_perm (S.set k c) k (by rw [List.length_set]; exact hk)
  have h2 := set_flatten_perm (S.set k (c ++ x)) k (by rw [List.length_set]; exact hk)
  have e1 : (S.set k c).getD k [] = c := by simp [List.getD, hk]
  have e2 : (S.set k (c ++ x)).getD k [] = c ++ x := by simp [List.getD, hk]
  rw [e1, List.set_set] at h1
  rw [e2, List.set_set] at h2
  simp only [List.flatten_append, List.flatten_cons, List.flatten_nil, List.append_nil]
  refine (List.Perm.append_right _ (List.Perm.append_right _ h1)).trans ?_
  refine List.Perm.trans ?_ (List.Perm.append_right _ h2).symm
  simp only [List.append_assoc]
  refine List.Perm.append_left _ ?_
  generalize (S.set k []).flatten = Z
  rw [← List.append_assoc Z g x]
  exact List.perm_append_comm
end Go.Sl
namespace Go.Proofs.YtegdcjnjnoeinaaGreat
open Go.RowKit Go.Sl
set_option maxRecDepth 20000

theorem rows_rep (v : Value) : ∀ (n : Nat), rows n [v] = List.replicate n v
  | 0 => rfl
  | n + 1 => by
    have := rows_rep v n
    unfold rows at this ⊢
    rw [List.replicate_succ, List.flatten_cons, this, List.replicate_succ]; rfl
theorem splice_set {c : List Value} {k : Nat} {v : Value} (h : k < c.length) : splice c k [v] = c.set k v := by
  unfold splice
  rw [List.set_eq_take_append_cons_drop, if_pos h]; simp
theorem drop_take1 {c : List Value} {k : Nat} {v : Value} (h : c[k]? = some v) : (c.drop k).take 1 = [v] := by
  obtain ⟨h1, rfl⟩ := List.getElem?_eq_some_iff.1 h
  rw [List.drop_eq_getElem_cons h1]; rfl
theorem mkL_succ (k n : Nat) : mkL k (n + 1) = mkL k n ++ [mkB k n] := by simp [mkL, List.range_succ]
theorem mkL_take (k n m : Nat) (h : m ≤ n) : (mkL k n).take m = mkL k m := by
  unfold mkL
  rw [← List.map_take, List.take_range, Nat.min_eq_left h]
theorem mkL_get (k n i : Nat) (h : i < n) : (bts (mkL k n))[i]? = some (byte (mkB k i)) := by
  unfold mkL bts
  simp [h]
@[reducible] def AB.addr (y : AB) : Option Addr := some ⟨y.b, y.pre.length, none⟩
/-- what a list's chunk holds when it was appended to -/
def Gd (I : Imm) (k : Nat) (c : List Blk) (y : AB) (g : Value) : Prop := ∃ a cap, g = .slice a 4136 cap ∧ SlC I [c] a 4136 (bts (mkL k 4136)) ∧ SlC I [c] y.addr 4096 (bts (mkL k 4096))
/-- all lists, the first k of them appended to -/
def Gs (I : Imm) (k : Nat) (cs : St) (ys : List AB) (gv : List Value) : Prop := cs.length = ys.length ∧ gv.length = ys.length ∧
  ∀ (j : Nat) (y : AB) (c : List Blk) (g : Value), ys[j]? = some y → cs[j]? = some c → gv[j]? = some g → (j < k → Gd I j c y g) ∧ (k ≤ j → c = y.ch)
theorem Gs.start (I : Imm) (ys : List AB) : Gs I 0 (ys.map AB.ch) ys (List.replicate ys.length (.slice none 0 0)) := by
  refine ⟨by simp, by simp, fun j y c g h1 h2 h3 => ⟨fun h => by omega, fun _ => ?_⟩⟩
  rw [List.getElem?_map, h1] at h2
  exact (Option.some.inj h2).symm
theorem Gs.step {I : Imm} {k : Nat} {cs : St} {ys : List AB} {gv : List Value} (h : Gs I k cs ys gv) {y : AB} (hy : ys[k]? = some y) {c : List Blk} {g : Value} (hg : Gd I k c y g) : Gs I (k + 1) (cs.set k c) ys (gv.set k g) := by
  obtain ⟨h1, h2, h3⟩ := h
  have hk : k < ys.length := (List.getElem?_eq_some_iff.1 hy).1
  refine ⟨by rw [List.length_set, h1], by rw [List.length_set, h2], fun j y' c' g' e1 e2 e3 => ?_⟩
  by_cases hj : k = j
  · subst hj
    rw [List.getElem?_set_self (by omega)] at e2 e3
    rw [hy] at e1
    cases e1; cases e2; cases e3
    exact ⟨fun _ => hg, fun h => by omega⟩
  · rw [List.getElem?_set_ne hj] at e2 e3
    obtain ⟨q1, q2⟩ := h3 j y' c' g' e1 e2 e3
    exact ⟨fun h => q1 (by omega), fun h => q2 (by omega)⟩
theorem Gd.here {I : Imm} {k : Nat} {y : AB} {ch : List Blk} {cap : Nat} (h : OwnB ch y.addr 4136 cap (mkL k 4136)) : Gd I k ch y (.slice y.addr 4136 cap) := by
  have hs := h.slC (I := I) (S := [ch]) 0 rfl
  rw [Nat.mul_one] at hs
  refine ⟨_, _, rfl, hs, ?_⟩
  have := hs.first (m := 4096) (by omega)
  rw [show (bts (mkL k 4136)).take 4096 = bts (mkL k 4096) by rw [← mkL_take k 4136 4096 (by omega)]; unfold bts; rw [List.map_take]] at this
  exact this
theorem Gd.old {I : Imm} {k q : Nat} {y : AB} {ch : List Blk} {cap : Nat} (h : OwnB ch y.addr (4096 + q) cap (mkL k (4096 + q))) : SlC I [ch] y.addr 4096 (bts (mkL k 4096)) := by
  have hs := h.slC (I := I) (S := [ch]) 0 rfl
  have := hs.first (m := 4096) (by omega)
  rw [show (bts (mkL k (4096 + q))).take 4096 = bts (mkL k 4096) by rw [← mkL_take k (4096 + q) 4096 (by omega)]; unfold bts; rw [List.map_take]] at this
  exact this
theorem Gd.away {I : Imm} {k : Nat} {y : AB} {c : List Blk} (hc : SlC I [c] y.addr 4096 (bts (mkL k 4096))) {ch : List Blk} {a : Option Addr} {cap : Nat} (h : OwnB ch a 4136 cap (mkL k 4136)) : Gd I k (c ++ ch) y (.slice a 4136 cap) := by
  have hs := h.slC (I := I) (S := [ch]) 0 rfl
  exact ⟨_, _, rfl, hs.sub (fun x hx => List.mem_append_right _ hx), hc.sub (fun x hx => List.mem_append_left _ hx)⟩
end Go.Proofs.YtegdcjnjnoeinaaGreat
namespace Go.Proofs.YtegdcjnjnoeinaaGreat
open Go.RowKit Go.Sl
set_option maxRecDepth 20000

set_option maxHeartbeats 8000000 in
theorem apart (I : Imm) (xs : List AB) (hok : ∀ x ∈ xs, x.Ok) (aL : Option Addr) (capL : Nat) (hL : Rds I aL xs.length (xs.map AB.cell)) (hn : xs.length ≤ 1000) :
    Tri Tryz.prog 20 #[.slice aL xs.length capL] I (xs.map AB.ch) fun v _ _ => v = .bool true := by
  refine Tri.of (args := [.slice aL xs.length capL]) tabOk Tryz.func20 rfl (by kernel_rfl) (by kernel_rfl) ?_
  refine makeD tabOk rfl rfl rfl xs.length xs.length rfl rfl (Nat.le_refl _) (by show 24 * xs.length ≤ _; omega) (by omega) (by show xs.length * 1 ≤ _; omega) rfl (by decide) ?_
  intro bG
  obtain ⟨G, hG⟩ : ∃ G : List Blk, G = [(bG, row (rows xs.length [.slice none 0 0]) 32)] := ⟨_, rfl⟩
  refine CodeF.loopD [0, 3, 4] (fun vs J' S' => ∃ (k : Nat) (ys : List AB), k ≤ xs.length ∧ ys.length = xs.length ∧ ys.map AB.cell = xs.map AB.cell ∧ (∀ y ∈ ys, y.Ok) ∧ (∀ (j : Nat) (h : j < ys.length), j < k → ys[j].data = mkL j 4096) ∧ I = J' ∧
      vs = [.slice aL xs.length capL, .slice (some ⟨bG, 0, none⟩) xs.length xs.length, .int .i64 k] ∧ S' = ys.map AB.ch ++ [G])
    (fun vs _ _ => match vs with | [_, _, .int _ k] => ((xs.length : Int) - k).toNat | _ => 0) ?_ ?_
  · refine ⟨_, Drop.refl _, 0, xs, by omega, rfl, rfl, hok, fun j h h0 => by omega, rfl, rfl, ?_⟩
    rw [hG]; rfl
  rintro vs gE J' S' hJ' ⟨k, ys, hk, hyl, hyc, hyo, hyd, rfl, rfl, rfl⟩
  refine CmpD.split (fun c1 => ?_) (fun c1 => ?_)
  · have hky : k < ys.length := by omega
    have hcell : (xs.map AB.cell)[k]? = some (ys[k]).cell := by rw [← hyc, List.getElem?_map, List.getElem?_eq_getElem hky]; rfl
    have hko := hyo _ (List.getElem_mem hky)
    obtain ⟨y, hy⟩ : ∃ y, y = ys[k] := ⟨_, rfl⟩
    rw [← hy] at hcell hko
    rcases hL.mem with q0 | ⟨bL, oL, cL, TL, fL, rfl, hIL, hcL⟩
    · omega
    obtain ⟨D, hD0, hDs, hgl, hDa⟩ : ∃ D : Nat → Dat, D 0 = y.data ∧ (∀ q, q < 4096 → D (q + 1) = (D q).set q (mkB k q)) ∧ (∀ q, (D q).length = 4096) ∧ D 4096 = mkL k 4096 :=
      ⟨gen (mkB k) (fun j => y.data.getD j 0), gen_zero _ hko.len, fun q hq => gen_step _ _ hq, fun q => gen_length _ _ q, gen_mkL _ _⟩
    have hml := mkL_length k 4096
    obtain ⟨mk, hmk⟩ : ∃ mk, mk = mkL k 4096 := ⟨_, rfl⟩
    rw [← hmk] at hDa hml
    refine CodeF.loopD [0, 3, 4, 5] (fun vs J' S' => ∃ (q : Nat), q ≤ 4096 ∧ I = J' ∧
        vs = [.slice (some ⟨bL, oL, none⟩) xs.length capL, .slice (some ⟨bG, 0, none⟩) xs.length xs.length, .int .i64 k, .int .i64 q] ∧ S' = (ys.set k (y.with (D q))).map AB.ch ++ [G])
      (fun vs _ _ => match vs with | [_, _, _, .int _ q] => ((4096 : Int) - q).toNat | _ => 0) ?_ ?_
    · refine ⟨_, Drop.refl _, 0, by omega, rfl, rfl, ?_⟩
      rw [hD0, show y.with y.data = y from rfl, hy, List.set_getElem_self]
    rintro vs gE2 J' S' hJ' ⟨q, hq, rfl, rfl, rfl⟩
    refine Chk.mk (by omega) ?_
    refine LoadD.imm hIL [y.cell] (take_get hcL hcell) rfl ?_
    refine CmpD.split (fun (c2 : (q : Int) < 4096) => ?_) (fun (c2 : ¬ (q : Int) < 4096) => ?_)
    · refine CodeF.sched [[], [], [0, 1], [0, 1, 2], [], [], [], [5, 6], [0, 1, 2, 3, 4, 5, 6, 7], [0, 1, 2, 3, 4, 5, 6, 7, 8]] [0, 1, 2, 3, 4, 5, 6, 7, 8, 9] (by kernel_rfl) ?_
      refine Chk.mk (by omega) ?_
      refine LoadP.imm [y.cell] ⟨cL, TL, fL, .imm hIL, take_get hcL hcell, rfl⟩ ?_
      refine Tri.free (mark_byte k q (by omega) (by omega) I) ?_
      rintro v _ _ hJ ⟨rfl, rfl⟩
      refine Chk.mk (by omega) ?_
      have hset := hDs q (by omega)
      have hsp : splice (y.pre ++ bts (D q) ++ y.post) (y.pre.length + q) [byte (mkB k q)] = y.pre ++ bts (D (q + 1)) ++ y.post := by
        rw [splice_mid _ _ _ _ _ (by rw [bts_length, hgl]; show q + 1 ≤ _; omega), bts_set (by rw [hgl]; omega) hset]
        rfl
      refine StoreD.to k (map_get (ys := ys.set k (y.with (D q))) (by rw [List.length_set]; exact hky) [G] |>.trans (by rw [List.getElem_set_self]; rfl)) _ hsp (by simp only [List.length_append, bts_length, hgl]; show y.pre.length + q + 1 ≤ _; omega) (.inr (.inr (Nat.le_refl _))) ((ys.set k (y.with (D (q + 1)))).map AB.ch ++ [G]) ?_ ?_
      · have := map_set (ys := ys.set k (y.with (D q))) (k := k) (by rw [List.length_set]; exact hky) [G] (y.with (D (q + 1)))
        rw [List.set_set] at this
        exact this
      refine ToD.i64 (by omega) (by omega) ?_
      refine ⟨_, Drop.refl _, ⟨q + 1, by omega, rfl, rfl, rfl⟩, ?_⟩
      show ((4096 : Int) - ((q : Int) + 1)).toNat < ((4096 : Int) - (q : Int)).toNat
      omega
    · obtain rfl : q = 4096 := by omega
      rw [hDa]
      refine ToD.i64 (by omega) (by omega) ?_
      refine ⟨_, Drop.refl _, ⟨k + 1, ys.set k (y.with mk), by omega, by rw [List.length_set]; exact hyl, ?_, ?_, ?_, rfl, rfl, rfl⟩, ?_⟩
      · rw [List.map_set, hyc]
        rw [show (y.with mk).cell = y.cell from rfl]
        apply List.ext_getElem?
        intro j
        by_cases hj : k = j
        · subst hj; rw [List.getElem?_set_self (by rw [List.length_map]; omega), hcell]
        · rw [List.getElem?_set_ne hj]
      · intro x hx
        rcases List.mem_or_eq_of_mem_set hx with hx | rfl
        · exact hyo x hx
        · exact ⟨hml, hko.cap, hko.post⟩
      · intro j h hjk
        rw [List.length_set] at h
        by_cases hj : k = j
        · subst hj; rw [List.getElem_set_self]; exact hmk
        · rw [List.getElem_set_ne hj]; exact hyd j h (by omega)
      · show ((xs.length : Int) - ((k : Int) + 1)).toNat < ((xs.length : Int) - (k : Int)).toNat; omega
  · obtain rfl : k = xs.length := by omega
    have hyD : ∀ (j : Nat) (y : AB), ys[j]? = some y → y.Ok ∧ y.data = mkL j 4096 ∧ (xs.map AB.cell)[j]? = some y.cell := by
      intro j y hy
      obtain ⟨hj, rfl⟩ := List.getElem?_eq_some_iff.1 hy
      exact ⟨hyo _ (List.getElem_mem hj), hyd j hj (by omega), by rw [← hyc, List.getElem?_map, hy]; rfl⟩
    have hn : ys.length ≤ 1000 := by omega
    rw [← hyl] at hL ⊢
    rw [← hyl] at hG
    obtain ⟨n, hnl⟩ : ∃ n, n = ys.length := ⟨_, rfl⟩
    rw [← hnl] at hL hG hn ⊢
    clear hyo hyd hyc hok
    refine CodeF.loopD [0, 3, 6] (fun vs J' S' => ∃ (k : Nat) (cs : St) (gv : List Value), k ≤ n ∧ Gs I k cs ys gv ∧ I = J' ∧
        vs = [.slice aL n capL, .slice (some ⟨bG, 0, none⟩) n n, .int .i64 k] ∧ S' = cs ++ [[(bG, row gv 32)]])
      (fun vs _ _ => match vs with | [_, _, .int _ k] => ((n : Int) - k).toNat | _ => 0) ?_ ?_
    · refine ⟨_, Drop.refl _, 0, _, _, by omega, Gs.start I ys, rfl, rfl, ?_⟩
      rw [hG, ← hnl, rows_rep]
    rintro vs gE3 J' S' hJ' ⟨k, cs, gv, hk, hGs, rfl, rfl, rfl⟩
    have hcl := hGs.1
    have hgl := hGs.2.1
    refine CmpD.split (fun (c1 : (k : Int) < n) => ?_) (fun (c1 : ¬ (k : Int) < n) => ?_)
    · have hky : k < ys.length := by omega
      obtain ⟨y, hy⟩ : ∃ y, ys[k]? = some y := ⟨_, List.getElem?_eq_getElem hky⟩
      obtain ⟨hko, hkd, hcell⟩ := hyD k y hy
      obtain ⟨gk, hgk⟩ : ∃ g, gv[k]? = some g := ⟨_, List.getElem?_eq_getElem (by omega)⟩
      obtain ⟨c, hc⟩ : ∃ c, cs[k]? = some c := ⟨_, List.getElem?_eq_getElem (by omega)⟩
      have hcy : c = y.ch := (hGs.2.2 k y c gk hy hc hgk).2 (Nat.le_refl _)
      rw [hcy] at hc
      have hcset : cs.set k y.ch = cs := by
        obtain ⟨h1, h2⟩ := List.getElem?_eq_some_iff.1 hc
        rw [← h2, List.set_getElem_self]
      rcases hL.mem with q0 | ⟨bL, oL, cL, TL, fL, rfl, hIL, hcL⟩
      · omega
      refine Chk.mk (by omega) ?_
      refine LoadD.imm hIL [y.cell] (take_get hcL hcell) rfl ?_
      refine CodeF.loopD [0, 3, 6, 7, 8] (fun vs J' S' => ∃ (q m : Nat) (c' ch : List Blk) (R : St) (a : Option Addr) (cap : Nat), q ≤ 40 ∧ OwnB ch a (4096 + q) cap (mkL k (4096 + q)) ∧
            ((m = k ∧ c' = ch ∧ R = [] ∧ a = y.addr) ∨ (m = n + 1 ∧ SlC I [c'] y.addr 4096 (bts (mkL k 4096)) ∧ R = [ch])) ∧ I = J' ∧
          vs = [.slice (some ⟨bL, oL, none⟩) n capL, .slice (some ⟨bG, 0, none⟩) n n, .int .i64 k, .slice a (4096 + q) cap, .int .i64 q] ∧ S' = cs.set k c' ++ [[(bG, row gv 32)]] ++ R)
        (fun vs _ _ => match vs with | [_, _, _, _, .int _ q] => ((40 : Int) - q).toNat | _ => 0) ?_ ?_
      · refine ⟨_, Drop.refl _, 0, k, y.ch, y.ch, [], _, _, by omega, ?_, .inl ⟨rfl, rfl, rfl, rfl⟩, rfl, rfl, ?_⟩
        · have := AB.own hko
          rw [hkd] at this
          exact this
        · rw [hcset, List.append_nil]
      rintro vs gE4 J' S' hJ' ⟨q, m, c', ch, R, a, cap, hq, hO, hm, rfl, rfl, rfl⟩
      obtain ⟨S0, hS0⟩ : ∃ S0 : St, S0 = cs.set k c' ++ [[(bG, row gv 32)]] ++ R := ⟨_, rfl⟩
      have hS0m : S0[m]? = some ch := by
        rcases hm with ⟨rfl, rfl, rfl, rfl⟩ | ⟨rfl, hcs, rfl⟩
        · rw [hS0, List.append_nil, List.getElem?_append_left (by rw [List.length_set]; omega), List.getElem?_set_self (by omega)]
        · rw [hS0, List.getElem?_append_right (by simp; omega)]
          simp [hcl, ← hnl]
      have hS0l : S0.length = n + 1 + R.length := by rw [hS0]; simp; omega
      rw [← hS0]
      refine CmpD.split (fun (c2 : (q : Int) < 40) => ?_) (fun (c2 : ¬ (q : Int) < 40) => ?_)
      · refine Chk.mk (by omega) ?_
        refine LoadD.imm hIL [y.cell] (take_get hcL hcell) rfl ?_
        refine ToD.to (((4096 + q : Nat)) : Int) (by show IntKind.i64.wrap ((4096 : Nat) + (q : Int)) = _; rw [wrap_i64 (by omega) (by omega)]; omega) ?_
        refine Tri.free (mark_byte k (4096 + q) (by omega) (by omega) I) ?_
        rintro v _ _ hJ ⟨rfl, rfl⟩
        conv => whnf
        intro bN
        have hlast : (S0 ++ [[(bN, row [byte (mkB k (4096 + q))] 5)]])[S0.length]? = some [(bN, row [byte (mkB k (4096 + q))] 5)] := by simp
        have hnew : bts (mkL k (4096 + q)) ++ [byte (mkB k (4096 + q))] = bts (mkL k (4096 + q + 1)) := by
          rw [mkL_succ, bts_append]; rfl
        refine appendK tabOk rfl rfl rfl rfl rfl rfl rfl m (by rw [List.getElem?_append_left (by have := (List.getElem?_eq_some_iff.1 hS0m).1; omega)]; exact hS0m) hO (SrcOk.slice (n := 1) (news := [byte (mkB k (4096 + q))]) tabOk rfl ((OwnC.whole (len := 1) (size := 1) rfl).slC S0.length hlast) (by intro v hv; simp only [List.mem_singleton] at hv; subst hv; rfl)) rfl (by show (4096 + q + 1) * 1 ≤ _; omega) (by omega) (by omega) ?_ ?_
        · intro hr ch' hO'
          rw [hnew] at hO'
          refine ToD.i64 (by omega) (by omega) ?_
          refine ⟨S0.set m ch', ?_, ⟨q + 1, m, if m = k then ch' else c', ch', if m = k then [] else [ch'], a, cap, by omega, hO', ?_, rfl, rfl, ?_⟩, ?_⟩
          · rw [List.set_append_left _ _ (by have := (List.getElem?_eq_some_iff.1 hS0m).1; omega)]
            exact Drop.init _ _
          · rcases hm with ⟨rfl, rfl, rfl, rfl⟩ | ⟨rfl, hcs, rfl⟩
            · left; rw [if_pos rfl, if_pos rfl]; exact ⟨rfl, rfl, rfl, rfl⟩
            · right; rw [if_neg (by omega), if_neg (by omega)]; exact ⟨rfl, hcs, rfl⟩
          · rcases hm with ⟨rfl, rfl, rfl, rfl⟩ | ⟨rfl, hcs, rfl⟩
            · rw [if_pos rfl, if_pos rfl, hS0, List.append_nil, List.append_nil, List.set_append_left _ _ (by rw [List.length_set]; omega), List.set_set]
            · rw [if_neg (by omega), if_neg (by omega), hS0, List.set_append_right _ _ (by simp; omega)]
              simp [hcl, ← hnl]
          · show ((40 : Int) - ((q : Int) + 1)).toNat < ((40 : Int) - (q : Int)).toNat; omega
        · intro hr a' cap' ch' hO'
          rw [hnew] at hO'
          refine ToD.i64 (by omega) (by omega) ?_
          refine ⟨cs.set k c' ++ [[(bG, row gv 32)]] ++ [ch'], ?_, ⟨q + 1, n + 1, c', ch', [ch'], a', cap', by omega, hO', .inr ⟨rfl, ?_, rfl⟩, rfl, rfl, rfl⟩, ?_⟩
          · refine (Drop.mid S0 _ ch').trans ?_
            rcases hm with ⟨rfl, rfl, rfl, rfl⟩ | ⟨rfl, hcs, rfl⟩
            · rw [hS0, List.append_nil]; exact Drop.refl _
            · rw [hS0]; exact Drop.mid _ _ _
          · rcases hm with ⟨rfl, rfl, rfl, rfl⟩ | ⟨rfl, hcs, rfl⟩
            · exact Gd.old hO
            · exact hcs
          · show ((40 : Int) - ((q : Int) + 1)).toNat < ((40 : Int) - (q : Int)).toNat; omega
      · obtain rfl : q = 40 := by omega
        have hGn : S0[n]? = some [(bG, row gv 32)] := by
          have e : (cs.set k c').length = n := by rw [List.length_set]; omega
          rw [hS0, List.append_assoc, List.getElem?_append_right (by omega), e, Nat.sub_self]; rfl
        refine Chk.mk (by omega) ?_
        refine StoreD.to n hGn (gv.set k (.slice a 4136 cap)) (by show splice gv (0 + k) [_] = _; rw [Nat.zero_add]; exact splice_set (by omega)) (by show 0 + k + 1 ≤ _; omega) (.inr (.inr (Nat.le_refl _))) (cs.set k c' ++ [[(bG, row (gv.set k (.slice a 4136 cap)) 32)]] ++ R) ?_ ?_
        · have e : (cs.set k c').length = n := by rw [List.length_set]; omega
          rw [hS0, List.append_assoc, List.set_append_right _ _ (by omega), e, Nat.sub_self, List.append_assoc]; rfl
        refine ToD.i64 (by omega) (by omega) ?_
        rcases hm with ⟨rfl, rfl, rfl, rfl⟩ | ⟨rfl, hcs, rfl⟩
        · refine ⟨_, Drop.refl _, ⟨m + 1, cs.set m c', gv.set m (.slice y.addr 4136 cap), by omega, hGs.step hy (Gd.here hO), rfl, rfl, by rw [List.append_nil]⟩, ?_⟩
          show ((n : Int) - ((m : Int) + 1)).toNat < ((n : Int) - (m : Int)).toNat; omega
        · refine ⟨_, Drop.fold cs k c' ch _ (by omega), ⟨k + 1, cs.set k (c' ++ ch), gv.set k (.slice a 4136 cap), by omega, hGs.step hy (Gd.away hcs hO), rfl, rfl, rfl⟩, ?_⟩
          show ((n : Int) - ((k : Int) + 1)).toNat < ((n : Int) - (k : Int)).toNat; omega
    · obtain rfl : k = n := by omega
      have hGd : ∀ (j : Nat), j < k → ∃ (y : AB) (c : List Blk) (a : Option Addr) (cap : Nat), (xs.map AB.cell)[j]? = some y.cell ∧ cs[j]? = some c ∧ gv[j]? = some (.slice a 4136 cap) ∧ SlC I [c] a 4136 (bts (mkL j 4136)) ∧ SlC I [c] y.addr 4096 (bts (mkL j 4096)) := by
        intro j hj
        obtain ⟨y, hy⟩ : ∃ y, ys[j]? = some y := ⟨_, List.getElem?_eq_getElem (by omega)⟩
        obtain ⟨g, hg⟩ : ∃ g, gv[j]? = some g := ⟨_, List.getElem?_eq_getElem (by omega)⟩
        obtain ⟨c, hc⟩ : ∃ c, cs[j]? = some c := ⟨_, List.getElem?_eq_getElem (by omega)⟩
        obtain ⟨a, cap, rfl, h1, h2⟩ := (hGs.2.2 j y c g hy hc hg).1 hj
        exact ⟨y, c, a, cap, (hyD j y hy).2.2, hc, hg, h1, h2⟩
      obtain ⟨S0, hS0⟩ : ∃ S0 : St, S0 = cs ++ [[(bG, row gv 32)]] := ⟨_, rfl⟩
      have hGn : S0[k]? = some [(bG, row gv 32)] := by
        rw [hS0, List.getElem?_append_right (by omega), show k - cs.length = 0 by omega]; rfl
      have hS0c : ∀ j c, cs[j]? = some c → S0[j]? = some c := fun j c h => by
        rw [hS0, List.getElem?_append_left (List.getElem?_eq_some_iff.1 h).1]; exact h
      rw [← hS0]
      clear hGs hyD hnl hgl hcl hS0 hJ' hG hk c1
      refine CodeF.loopD [0, 3, 9] (fun vs J' S' => ∃ (j : Nat), j ≤ k ∧ I = J' ∧ vs = [.slice aL k capL, .slice (some ⟨bG, 0, none⟩) k k, .int .i64 j] ∧ S' = S0)
        (fun vs _ _ => match vs with | [_, _, .int _ j] => ((k : Int) - j).toNat | _ => 0) ?_ ?_
      · exact ⟨_, Drop.refl _, 0, by omega, rfl, rfl, rfl⟩
      rintro vs gE5 J' S' hJ' ⟨j, hj, rfl, rfl, rfl⟩
      refine CmpD.split (fun (c3 : (j : Int) < k) => ?_) (fun (c3 : ¬ (j : Int) < k) => ?_)
      rotate_left
      · exact Done.mk rfl
      obtain ⟨y, c, a, cap, hcell, hc, hg, hs1, hs2⟩ := hGd j (by omega)
      have hSc := hS0c j c hc
      rcases hL.mem with q0 | ⟨bL, oL, cL, TL, fL, rfl, hIL, hcL⟩
      · omega
      have hgD : S'.getD j [] = c := by rw [List.getD_eq_getElem?_getD, hSc]; rfl
      obtain ⟨bg, og, rfl, hcg⟩ := hs1.cells (by omega)
      obtain ⟨by_, oy, hay, hcy⟩ := hs2.cells (by omega)
      cases hay
      refine CodeF.loopD [0, 3, 9, 10] (fun vs J' S2 => ∃ (q : Nat), q ≤ 4136 ∧ I = J' ∧ vs = [.slice (some ⟨bL, oL, none⟩) k capL, .slice (some ⟨bG, 0, none⟩) k k, .int .i64 j, .int .i64 q] ∧ S2 = S')
        (fun vs _ _ => match vs with | [_, _, _, .int _ q] => ((4136 : Int) - q).toNat | _ => 0) ?_ ?_
      · exact ⟨_, Drop.refl _, 0, by omega, rfl, rfl, rfl⟩
      rintro vs gE6 J' S' hJ' ⟨q, hq, rfl, rfl, rfl⟩
      refine Chk.mk (by omega) ?_
      have hgl0 : (gv.drop (0 + j)).take 1 = [.slice (some ⟨bg, og, none⟩) 4136 cap] := by rw [Nat.zero_add]; exact drop_take1 hg
      refine LoadD.own k hGn [.slice (some ⟨bg, og, none⟩) 4136 cap] hgl0 rfl ?_
      refine CmpD.split (fun (c4 : (q : Int) < 4136) => ?_) (fun (c4 : ¬ (q : Int) < 4136) => ?_)
      rotate_left
      · refine ToD.i64 (by omega) (by omega) ?_
        refine ⟨_, Drop.refl _, ⟨j + 1, by omega, rfl, rfl, rfl⟩, ?_⟩
        show ((k : Int) - ((j : Int) + 1)).toNat < ((k : Int) - (j : Int)).toNat; omega
      have hb1 := hcg.at (i := q) (mkL_get j 4136 q (by omega))
      refine CodeF.sched [[], [], [0, 1], [0, 1, 2], [], [0, 1, 2, 3, 4], [0, 1, 2, 3, 4, 5], [], [], [7, 8], [0, 1, 2, 3, 4, 5, 6, 7, 8, 9], [0, 1, 2, 3, 4, 5, 6, 7, 8, 9, 10], [0, 1, 2, 3, 4, 5, 6, 7, 8, 9, 10, 11], [0, 1, 2, 3, 4, 5, 6, 7, 8, 9, 10, 11], [0, 1, 2, 3, 4, 5, 6, 7, 8, 9, 10, 11], [0, 1, 2, 3, 4, 5, 6, 7, 8, 9, 10, 11, 13, 14], [0, 1, 2, 3, 4, 5, 6, 7, 8, 9, 10, 11, 13, 14, 15], [0, 1, 2, 3, 4, 5, 6, 7, 8, 9, 10, 11, 13, 14, 15, 16], [0, 1, 2, 3, 4, 5, 6, 7, 8, 9, 10, 11, 12, 13, 14, 15, 16, 17], [0, 1, 2, 3, 4, 5, 6, 7, 8, 9, 10, 11, 12, 13, 14, 15, 16, 17, 18], [0, 1, 2, 3, 4, 5, 6, 7, 8, 9, 10, 11, 12, 13, 14, 15, 16, 17, 18, 19], [0, 1, 2, 3, 4, 5, 6, 7, 8, 9, 10, 11, 12, 13, 14, 15, 16, 17, 18, 19], [0, 1, 2, 3, 4, 5, 6, 7, 8, 9, 10, 11, 12, 13, 14, 15, 16, 17, 18, 19, 20, 21], [0, 1, 2, 3, 4, 5, 6, 7, 8, 9, 10, 11, 12, 13, 14, 15, 16, 17, 18, 19, 20, 21, 22], [0, 1, 2, 3, 4, 5, 6, 7, 8, 9, 10, 11, 12, 13, 14, 15, 16, 17, 18, 19], [0, 1, 2, 3, 4, 5, 6, 7, 8, 9, 10, 11, 12, 13, 14, 15, 16, 17, 18, 19, 20, 21, 22, 23, 24], [0, 1, 2, 3, 4, 5, 6, 7, 8, 9, 10, 11, 12, 13, 14, 15, 16, 17, 18, 19, 20, 21, 22, 23, 24, 25], [0, 1, 2, 3, 4, 5, 6, 7, 8, 9, 10, 11, 12, 13, 14, 15, 16, 17, 18, 19], [0, 1, 2, 3, 4, 5, 6, 7, 8, 9, 10, 11, 12, 13, 14, 15, 16, 17, 18, 19], [0, 1, 2, 3, 4, 5, 6, 7, 8, 9, 10, 11, 12, 13, 14, 15, 16, 17, 18, 19, 27, 28], [0, 1, 2, 3, 4, 5, 6, 7, 8, 9, 10, 11, 12, 13, 14, 15, 16, 17, 18, 19, 20, 21, 22, 23, 24, 25, 26, 27, 28, 29], [0, 1, 2, 3, 4, 5, 6, 7, 8, 9, 10, 11, 12, 13, 14, 15, 16, 17, 18, 19, 20, 21, 22, 23, 24, 25, 26, 27, 28, 29, 30], [0, 1, 2, 3, 4, 5, 6, 7, 8, 9, 10, 11, 12, 13, 14, 15, 16, 17, 18, 19, 20, 21, 22, 23, 24, 25, 26, 27, 28, 29, 30, 31]] [0, 1, 2, 3, 4, 5, 6, 7, 8, 9, 10, 11, 12, 13, 14, 15, 16, 17, 18, 19, 20, 21, 22, 23, 24, 25, 26, 27, 28, 29, 30, 31, 32] (by kernel_rfl) ?_
      refine Chk.mk (by omega) ?_
      refine LoadP.at k hGn [.slice (some ⟨bg, og, none⟩) 4136 cap] hgl0 rfl ?_
      refine Chk.mk (by omega) ?_
      refine LoadP.own j [byte (mkB j q)] (by rw [hgD]; exact hb1) ?_
      refine Tri.free (mark_byte j q (by omega) (by omega) I) ?_
      rintro v _ _ hJ ⟨rfl, rfl⟩
      repeat (first
        | refine LoadD.own 0 rfl _ rfl rfl ?_
        | refine LoadP.at 0 rfl _ rfl rfl ?_
        | refine StoreD.st 0 rfl rfl rfl ?_
        | refine CmpD.yes rfl ?_
        | refine CmpD.yes (by decide) ?_
        | refine CmpD.no (by decide) ?_
        | refine Chk.mk ⟨rfl, trivial⟩ ?_
        | refine Chk.mk ⟨rfl, rfl, trivial⟩ ?_
        | refine Chk.mk ⟨rfl, rfl, rfl, trivial⟩ ?_
        | refine Chk.mk ⟨rfl, rfl, rfl, rfl, trivial⟩ ?_
        | refine Chk.mk ⟨rfl, rfl, rfl, rfl, rfl, trivial⟩ ?_
        | refine Chk.mk ⟨rfl, rfl, rfl, rfl, rfl, rfl, trivial⟩ ?_
        | refine Chk.mk ⟨rfl, rfl, rfl, rfl, rfl, rfl, rfl, trivial⟩ ?_
        | refine Chk.mk ⟨rfl, rfl, rfl, rfl, rfl, rfl, rfl, rfl, trivial⟩ ?_
        | refine Chk.mk ⟨rfl, rfl, rfl, rfl, rfl, rfl, rfl, rfl, rfl, trivial⟩ ?_
        | refine Chk.mk ⟨rfl, rfl, rfl, rfl, rfl, rfl, rfl, rfl, rfl, rfl, trivial⟩ ?_
        | refine Chk.mk ⟨rfl, rfl, rfl, rfl, rfl, rfl, rfl, rfl, rfl, rfl, rfl, trivial⟩ ?_
        | refine Chk.mk ⟨rfl, rfl, rfl, rfl, rfl, rfl, rfl, rfl, rfl, rfl, rfl, rfl, trivial⟩ ?_)
      have fin : ∃ S0, Drop S' S0 ∧ (∃ q_1, q_1 ≤ 4136 ∧ I = I ∧ [Value.slice (some ⟨bL, oL, none⟩) k capL, .slice (some ⟨bG, 0, none⟩) k k, .int .i64 j, .int .i64 ((q : Int) + 1)] = [.slice (some ⟨bL, oL, none⟩) k capL, .slice (some ⟨bG, 0, none⟩) k k, .int .i64 j, .int .i64 (q_1 : Nat)] ∧ S0 = S') ∧ ((4136 : Int) - ((q : Int) + 1)).toNat < ((4136 : Int) - (q : Int)).toNat :=
        ⟨_, Drop.refl _, ⟨q + 1, by omega, rfl, rfl, rfl⟩, by omega⟩
      refine Chk.mk (by omega) ?_
      refine LoadP.imm [y.cell] ⟨cL, TL, fL, .imm hIL, take_get hcL hcell, rfl⟩ ?_
      refine CmpD.split (fun (c5 : (q : Int) < 4096) => ?_) (fun (c5 : ¬ (q : Int) < 4096) => ?_)
      · refine Chk.mk (by omega) ?_
        refine LoadP.imm [y.cell] ⟨cL, TL, fL, .imm hIL, take_get hcL hcell, rfl⟩ ?_
        refine Chk.mk (by omega) ?_
        have hb2 := hcy.at (i := q) (mkL_get j 4096 q (by omega))
        refine LoadP.own j [byte (mkB j q)] (by rw [hgD]; exact hb2) ?_
        refine Tri.free (mark_byte j q (by omega) (by omega) I) ?_
        rintro v _ _ hJ ⟨rfl, rfl⟩
        repeat (first
          | refine LoadD.own 0 rfl _ rfl rfl ?_
          | refine LoadP.at 0 rfl _ rfl rfl ?_
          | refine StoreD.st 0 rfl rfl rfl ?_
          | refine CmpD.yes rfl ?_
          | refine CmpD.yes (by decide) ?_
          | refine CmpD.no (by decide) ?_
          | refine Chk.mk ⟨rfl, trivial⟩ ?_
          | refine Chk.mk ⟨rfl, rfl, trivial⟩ ?_
          | refine Chk.mk ⟨rfl, rfl, rfl, trivial⟩ ?_
          | refine Chk.mk ⟨rfl, rfl, rfl, rfl, trivial⟩ ?_
          | refine Chk.mk ⟨rfl, rfl, rfl, rfl, rfl, trivial⟩ ?_
          | refine Chk.mk ⟨rfl, rfl, rfl, rfl, rfl, rfl, trivial⟩ ?_
          | refine Chk.mk ⟨rfl, rfl, rfl, rfl, rfl, rfl, rfl, trivial⟩ ?_
          | refine Chk.mk ⟨rfl, rfl, rfl, rfl, rfl, rfl, rfl, rfl, trivial⟩ ?_
          | refine Chk.mk ⟨rfl, rfl, rfl, rfl, rfl, rfl, rfl, rfl, rfl, trivial⟩ ?_
          | refine Chk.mk ⟨rfl, rfl, rfl, rfl, rfl, rfl, rfl, rfl, rfl, rfl, trivial⟩ ?_
          | refine Chk.mk ⟨rfl, rfl, rfl, rfl, rfl, rfl, rfl, rfl, rfl, rfl, rfl, trivial⟩ ?_
          | refine Chk.mk ⟨rfl, rfl, rfl, rfl, rfl, rfl, rfl, rfl, rfl, rfl, rfl, rfl, trivial⟩ ?_)
        refine ToD.i64 (by omega) (by omega) ?_
        exact fin
      · refine ToD.i64 (by omega) (by omega) ?_
        exact fin
end Go.Proofs.YtegdcjnjnoeinaaGreat

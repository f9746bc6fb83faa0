/- Texts of this claim laid together: LowPick, Img9, JNum, Wi, ScanP, WhP, WhL, Whole. -/
import Derived.Test.YtbpdbgcndfcilaaBJournalWhole2
import Derived.Test.YtbpdbgcndfcilaaBJournalWhole1
import Derived.Test.YtbpdbgcndfcilaaBJournalWhole3
namespace Go.Proofs.Ytbpdbgcndfcilaa
open Go.RowKit Go.Sl

def pickS (n m : Int) : Int := if m ≤ 0 then 0 else n % m
theorem pickS_range {n m : Int} (h : 0 < m) : 0 ≤ pickS n m ∧ pickS n m < m := by
  unfold pickS
  rw [if_neg (by omega)]
  exact ⟨Int.emod_nonneg _ (by omega), Int.emod_lt_of_pos _ h⟩
theorem emod_of_tmod (n m : Int) (hm : 0 < m) : n % m = if n.tmod m < 0 then n.tmod m + m else n.tmod m := by
  have h1 : n = m * n.tdiv m + n.tmod m := (Int.mul_tdiv_add_tmod n m).symm
  have h2 := Int.tmod_lt_of_pos n hm
  have h3 : -m < n.tmod m := by
    have h4 := Int.tmod_lt_of_pos (-n) hm
    rw [Int.neg_tmod] at h4; omega
  split
  · have e : n = (n.tmod m + m) + m * (n.tdiv m - 1) := by
      conv => lhs; rw [h1]
      rw [Int.mul_sub]; omega
    conv => lhs; rw [e]
    rw [Int.add_mul_emod_self_left, Int.emod_eq_of_lt (by omega) (by omega)]
  · have e : n = n.tmod m + m * n.tdiv m := by omega
    conv => lhs; rw [e]
    rw [Int.add_mul_emod_self_left, Int.emod_eq_of_lt (by omega) (by omega)]
theorem low_Pick (n m : Int) (I : Imm) (_hn : In64 n) (hm : In64 m) : Tri Try.prog 35 #[.int .i64 n, .int .i64 m] I [] fun v J _ => v = .int .i64 (pickS n m) ∧ I = J := by
  unfold In64 at *
  refine Tri.of (args := [.int .i64 n, .int .i64 m]) tabOk Try.func35 rfl (by kernel_rfl) (by kernel_rfl) ?_
  refine CmpD.split (fun c => ?_) (fun c => ?_)
  · refine Done.mk ⟨?_, rfl⟩
    rw [pickS, if_pos c]; rfl
  have h2 := Int.tmod_lt_of_pos n (show 0 < m by omega)
  have h3 : -m < n.tmod m := by
    have h4 := Int.tmod_lt_of_pos (-n) (show 0 < m by omega)
    rw [Int.neg_tmod] at h4; omega
  have e := emod_of_tmod n m (by omega)
  refine Chk.mk (by omega) ?_
  refine ToD.to (n.tmod m) rfl ?_
  refine CmpD.split (fun c2 => ?_) (fun c2 => ?_)
  · refine ToD.i64 (by omega) (by omega) ?_
    refine Done.mk ⟨?_, rfl⟩
    rw [pickS, if_neg c, e, if_pos c2]; rfl
  · refine Done.mk ⟨?_, rfl⟩
    rw [pickS, if_neg c, e, if_neg c2]; rfl
end Go.Proofs.Ytbpdbgcndfcilaa
namespace Go.Proofs.Ytbpdbgcndfcilaa
open Go.RowKit Go.Sl
set_option maxRecDepth 20000

def im9 (n : Nat) (seed : Int) : List PImg := (List.range n).map fun (i : Nat) => (30 + (i : Int), madeL (IntKind.i64.wrap (seed + (i : Int))) 4096)
theorem im9_length (n : Nat) (seed : Int) : (im9 n seed).length = n := by simp [im9]
theorem im9_right {e s : Int} (h1 : 1 ≤ e ∧ e ≤ 8388608) (h2 : 1 ≤ s ∧ s ≤ 549755813888) (n : Nat) (hn : 1 ≤ n ∧ n ≤ 32) (seed : Int) : RightP e s (im9 n seed) := by
  refine ⟨h1.1, h1.2, h2.1, h2.2, by rw [im9_length]; omega, by rw [im9_length]; omega, ?_, ?_⟩
  · intro g hg
    unfold im9 at hg
    obtain ⟨i, hi, rfl⟩ := List.mem_map.1 hg
    have := List.mem_range.1 hi
    exact ⟨by show (0 : Int) ≤ 30 + (i : Int); omega, by show 30 + (i : Int) < 512; omega, madeL_length _ _⟩
  · unfold im9
    rw [List.map_map, List.nodup_iff_pairwise_ne, List.pairwise_map]
    refine List.Pairwise.imp ?_ List.nodup_range
    intro a b hab he
    have he : 30 + (a : Int) = 30 + (b : Int) := he
    exact hab (by omega)
/-! ### written -/
def wrtStep (j : JSt) (d : DSt) (all : List (List PImg)) (sz : Int) : JSt × DSt × List (List PImg) :=
  ((j.appendB d (im9 (1 + pickS sz 5).toNat sz) false).1, (j.appendB d (im9 (1 + pickS sz 5).toNat sz) false).2.1, if (j.appendB d (im9 (1 + pickS sz 5).toNat sz) false).2.2.2 = 0 then all ++ [im9 (1 + pickS sz 5).toNat sz] else all)
def wrtK (x : JSt × DSt × List (List PImg)) (l : List Int) : JSt × DSt × List (List PImg) := l.foldl (fun y z => wrtStep y.1 y.2.1 y.2.2 z) x
/-- images, told as lists of lists -/
structure Ims where
  a : Option Addr
  cap : Nat
  gs : List Img
@[reducible] def Ims.cell (m : Ims) : Value := .slice m.a m.gs.length m.cap
def Ims.pr (m : Ims) : List PImg := m.gs.map Img.pr
end Go.Proofs.Ytbpdbgcndfcilaa
namespace Go.Proofs.Ytbpdbgcndfcilaa
open Go.RowKit Go.Sl
set_option maxRecDepth 20000

theorem JSt.Wf.turn {j : JSt} (hj : j.Wf) {r : R5} (hr : r.2.2.2.2 = 0 → Ok r.1 r.2.1 r.2.2.1 r.2.2.2.1) : (j.turn r).1.Wf := by
  obtain ⟨s, t, u, h, e⟩ := r
  unfold JSt.turn
  dsimp only at hr ⊢
  split
  · rename_i h0; exact ⟨hj.log, hr h0, hj.epoch, hj.next, hj.synced, hj.few, hj.groups⟩
  · exact hj
theorem reserveS_ok {s t u h n : Int} (hr : Ok s t u h) (h0 : (reserveS s t u h n).2.2.2.2 = 0) : Ok (reserveS s t u h n).1 (reserveS s t u h n).2.1 (reserveS s t u h n).2.2.1 (reserveS s t u h n).2.2.2.1 := by
  unfold reserveS at *
  split at h0
  · simp at h0
  split at h0
  · simp at h0
  rename_i h1 h2
  rw [if_neg h1, if_neg h2]
  unfold Ok at *
  dsimp only
  omega
theorem releaseS_ok {s t u h n : Int} (hr : Ok s t u h) (h0 : (releaseS s t u h n).2.2.2.2 = 0) : Ok (releaseS s t u h n).1 (releaseS s t u h n).2.1 (releaseS s t u h n).2.2.1 (releaseS s t u h n).2.2.2.1 := by
  unfold releaseS at *
  split at h0
  · simp at h0
  rename_i h1
  rw [if_neg h1]
  unfold Ok at *
  dsimp only
  omega
theorem JSt.Wf.reserve {j : JSt} (hj : j.Wf) (n : Int) : (j.reserve n).1.Wf := by
  unfold JSt.reserve
  split; · exact hj
  split; · exact hj
  split; · exact hj
  exact hj.turn (reserveS_ok hj.ring)
theorem JSt.Wf.cancel {j : JSt} (hj : j.Wf) (n : Int) : (j.cancel n).1.Wf := by
  unfold JSt.cancel
  split; · exact hj
  split; · exact hj
  exact hj.turn (releaseS_ok hj.ring)
/-- a journal of the examples -/
structure JB (j : JSt) (t u h next synced : Int) (gs : List (Int × Int)) : Prop where
  s : j.s = 16
  t : j.t = t
  u : j.u = u
  h : j.h = h
  epoch : j.epoch = 1
  next : j.next = next
  synced : j.synced = synced
  groups : j.groups = gs
  broken : j.broken = false
  wf : j.Wf
/-- a disk of the examples -/
structure DB (d : DSt) (k : Nat) : Prop where
  calm : d.Calm
  len : d.now.length = 64
  few : d.Few k
/-- all of them -/
structure Numbers where
  jA : JSt
  jB : JSt
  jF : JSt
  jR : JSt
  jH : JSt
  jC : JSt
  jX : JSt
  dA : DSt
  dB : DSt
  dF : DSt
  dC : DSt
  dX : DSt
  dY : DSt
end Go.Proofs.Ytbpdbgcndfcilaa
namespace Go.Proofs.Ytbpdbgcndfcilaa
open Go.RowKit Go.Sl
set_option maxRecDepth 20000

/-! ### where writes go -/
theorem put_get {d : DSt} {p : Nat} {n : Nat} {b : Dat} (h : n ≠ p) : (d.put (n : Int) b).now[p]? = d.now[p]? := by
  show (d.now.set _ _)[p]? = _
  rw [Int.toNat_natCast, List.getElem?_set_ne h]
theorem put_hit {d : DSt} {p : Nat} {b : Dat} (h : p < d.now.length) : (d.put (p : Int) b).now[p]? = some b := by
  show (d.now.set _ _)[p]? = _
  rw [Int.toNat_natCast, List.getElem?_set_self h]
theorem wrD_miss (f : Nat → Nat) (p : Nat) : ∀ (bs : List Dat) (i : Nat) (d : DSt), (∀ k, k < bs.length → f (i + k) ≠ p) → (wrD (fun k => (f k : Int)) bs i d).now[p]? = d.now[p]?
  | [], _, _, _ => rfl
  | b :: bs, i, d, h => by
    rw [wrD, wrD_miss f p bs (i + 1) _ (fun k hk => by have := h (k + 1) (by simp; omega); rwa [show i + (k + 1) = i + 1 + k by omega] at this)]
    exact put_get (h 0 (by simp))
theorem wrD_hit (f : Nat → Nat) (p : Nat) : ∀ (bs : List Dat) (i : Nat) (d : DSt) (k : Nat), (hk : k < bs.length) → f (i + k) = p → (∀ k', k < k' → k' < bs.length → f (i + k') ≠ p) → p < d.now.length → (wrD (fun k => (f k : Int)) bs i d).now[p]? = some bs[k]
  | [], _, _, k, hk, _, _, _ => by simp at hk
  | b :: bs, i, d, 0, _, hf, hno, hp => by
    rw [wrD, wrD_miss f p bs (i + 1) _ (fun k' hk' => by have := hno (k' + 1) (by omega) (by simp; omega); rwa [show i + (k' + 1) = i + 1 + k' by omega] at this)]
    have hf : f i = p := hf
    show (d.put (f i : Int) b).now[p]? = _
    rw [hf, put_hit hp]; rfl
  | b :: bs, i, d, k + 1, hk, hf, hno, hp => by
    rw [wrD]
    have := wrD_hit f p bs (i + 1) (d.put (f i : Int) b) k (by simpa using hk) (by rw [show i + 1 + k = i + (k + 1) by omega]; exact hf) (fun k' h1 h2 => by have := hno (k' + 1) (by omega) (by simp; omega); rwa [show i + (k' + 1) = i + 1 + k' by omega] at this) (by rw [DSt.put_len]; exact hp)
    simpa using this
/-! ### the ring's blocks -/
def usedP (l : List (List PImg)) : Nat := (l.map fun g => g.length + 1).sum
def ringB (ep : Nat) : Nat → List (List PImg) → List Dat
  | _, [] => []
  | sq, g :: l => putP ep sq g ++ ringB ep (sq + 1) l
theorem ringB_length (ep : Nat) : ∀ (l : List (List PImg)) (sq : Nat), (ringB ep sq l).length = usedP l
  | [], _ => rfl
  | g :: l, sq => by rw [ringB, List.length_append, putP_length, ringB_length ep l]; simp [usedP]
theorem ringB_snoc (ep : Nat) : ∀ (l : List (List PImg)) (sq : Nat) (g : List PImg), ringB ep sq (l ++ [g]) = ringB ep sq l ++ putP ep (sq + l.length) g
  | [], sq, g => by simp [ringB]
  | x :: l, sq, g => by
    rw [List.cons_append, ringB, ringB_snoc ep l, ringB, List.append_assoc, List.length_cons, show sq + 1 + l.length = sq + (l.length + 1) by omega]
theorem usedP_snoc (l : List (List PImg)) (g : List PImg) : usedP (l ++ [g]) = usedP l + (g.length + 1) := by simp [usedP]
structure WI (ep tail : Nat) (z : Nat → Dat) (j : JSt) (d : DSt) (all : List (List PImg)) : Prop where
  s : j.s = 16
  t : j.t = tail
  u : j.u = (usedP all : Nat)
  h : j.h = 0
  epoch : j.epoch = ep
  next : j.next = (all.length + 1 : Nat)
  groups : j.groups.length = all.length
  broken : j.broken = false
  log : j.lay.l = 2
  wf : j.Wf
  calm : d.Calm
  dwf : d.Wf
  len : d.now.length = 64
  few : d.Few (usedP all)
  used : usedP all ≤ 16
  right : ∀ (i : Nat) (h : i < all.length), RightP ep ((i + 1 : Nat) : Int) all[i]
  ring : ∀ o, o < 16 → rbP d 2 16 (tail + o) = (ringB ep 1 all).getD o (z o)
theorem usedP_ge (l : List (List PImg)) : l.length ≤ usedP l := by
  unfold usedP
  induction l with
  | nil => simp
  | cons g l ih => simp; omega
theorem DSt.Wf.put {d : DSt} (h : d.Wf) (hc : d.Calm) {n : Int} {b : Dat} (hn : 0 ≤ n ∧ n < d.now.length) (hb : b.length = 4096) : (d.put n b).Wf := by
  have := h.write n b
  rwa [DSt.write_calm hc hn hb] at this
theorem wrD_wf (f : Nat → Int) : ∀ (bs : List Dat) (i : Nat) (d : DSt), d.Wf → d.Calm → (∀ b ∈ bs, b.length = 4096) → (∀ k, 0 ≤ f k ∧ f k < d.now.length) → (wrD f bs i d).Wf
  | [], _, _, h, _, _, _ => h
  | b :: bs, i, d, h, hc, hb, hf => wrD_wf f bs (i + 1) _ (h.put hc (hf i) (hb b (by simp))) (hc.put _ _) (fun x hx => hb x (by simp [hx])) (by rw [DSt.put_len]; exact hf)
/-- a group is appended, or there is no room -/
theorem WI.append {ep tail : Nat} {z : Nat → Dat} {j : JSt} {d : DSt} {all : List (List PImg)} (w : WI ep tail z j d all) {l : List PImg} (hR : RightP ep ((all.length + 1 : Nat) : Int) l) :
    (usedP all + (l.length + 1) ≤ 16 ∧ WI ep tail z (j.appendB d l false).1 (j.appendB d l false).2.1 (all ++ [l]) ∧ (j.appendB d l false).2.2.2 = 0) ∨
    (16 < usedP all + (l.length + 1) ∧ (j.appendB d l false).1 = j ∧ (j.appendB d l false).2.1 = d ∧ (j.appendB d l false).2.2.2 ≠ 0) := by
  have hge := usedP_ge all
  have hu := w.used
  have hll := hR.2.2.2.2.2.1
  have hR' : RightP j.epoch j.next l := by rw [w.epoch, w.next]; exact hR
  have hok := w.wf.ring
  have hokd : Ok 16 tail (usedP all : Nat) 0 := by have := hok; rw [w.s, w.t, w.u, w.h] at this; exact this
  have htl : (tail : Int) < 16 := hokd.2.2.2.1
  rcases Nat.lt_or_ge 16 (usedP all + (l.length + 1)) with hf | hf
  · right
    refine ⟨hf, ?_⟩
    unfold JSt.appendB JSt.append
    rw [if_neg (by rw [w.broken]; simp), if_neg (by simpa using hR')]
    by_cases hs : j.s < (l.length : Int) + 1
    · rw [if_pos hs]; exact ⟨rfl, rfl, by simp⟩
    rw [if_neg hs]
    have hp : putS j.s j.t j.u j.h ((l.length : Int) + 1) (if false = true then (l.length : Int) + 1 else 0) = ((0, 0, 0, 0, 5), 0) := by
      rw [w.s, w.t, w.u, w.h]
      unfold putS
      rw [if_neg (by simp only [Bool.false_eq_true, if_false]; rintro (h | h | h | h | h); exact h hokd; omega; omega; omega; omega), if_pos (by simp only [Bool.false_eq_true, if_false]; omega)]
    rw [hp]
    exact ⟨rfl, rfl, by simp⟩
  · left
    refine ⟨hf, ?_⟩
    have hp : putS j.s j.t j.u j.h ((l.length : Int) + 1) (if false = true then (l.length : Int) + 1 else 0) = ((j.s, (tail : Int), ((usedP all : Nat) : Int) + ((l.length : Int) + 1), 0, 0), ((tail : Int) + (usedP all : Nat)) % 16) := by
      rw [w.s, w.t, w.u, w.h]
      unfold putS
      rw [if_neg (by simp only [Bool.false_eq_true, if_false]; rintro (h | h | h | h | h); exact h hokd; omega; omega; omega; omega), if_neg (by simp only [Bool.false_eq_true, if_false]; omega)]
      simp only [Bool.false_eq_true, if_false, Int.sub_zero]
    have hlen16 : j.s + 2 ≤ d.now.length := by rw [w.s, w.len]; decide
    have hs1 : (l.length : Int) + 1 ≤ j.s := by rw [w.s]; omega
    obtain ⟨j', a, f1, f2, f3, f4, f5, f6, f7, f8, f9, f10, w'⟩ := JSt.append_next w.wf (by rw [w.groups]; omega) w.broken hR' hs1 w.calm hlen16 hp
    rw [a]
    have hB := putP_len (e := j.epoch.toNat) (s := j.next.toNat) hll hR.lens
    have hfl : ∀ k : Nat, (0 : Int) ≤ 2 + (((tail : Int) + (usedP all : Nat)) % 16 + k) % j.s ∧ 2 + (((tail : Int) + (usedP all : Nat)) % 16 + k) % j.s < d.now.length := by
      intro k
      rw [w.s, w.len]
      have := Int.emod_nonneg (((tail : Int) + (usedP all : Nat)) % 16 + k) (b := 16) (by decide)
      have := Int.emod_lt_of_pos (((tail : Int) + (usedP all : Nat)) % 16 + k) (b := 16) (by decide)
      omega
    have hff : (fun k : Nat => (2 : Int) + (((tail : Int) + (usedP all : Nat)) % 16 + k) % j.s) = fun k : Nat => ((2 + (tail + usedP all + k) % 16 : Nat) : Int) := by
      funext k
      rw [w.s]; omega
    refine ⟨⟨by rw [f2, w.s], f3, by rw [f4, usedP_snoc]; omega, f5, by rw [f6, w.epoch], by rw [f7, w.next, List.length_append]; rfl, by rw [f9]; simp [w.groups], f10, by rw [f1, w.log], w', wrD_calm _ _ _ _ w.calm, wrD_wf _ _ _ _ w.dwf w.calm hB hfl, by rw [wrD_len, w.len], ?_, by rw [usedP_snoc]; exact hf, ?_, ?_⟩, rfl⟩
    · have := wrD_few (fun i : Nat => (2 : Int) + (((tail : Int) + (usedP all : Nat)) % 16 + i) % j.s) (putP j.epoch.toNat j.next.toNat l) 0 d _ w.few
      rw [putP_length] at this
      rw [usedP_snoc]; exact this
    · intro i hi
      rw [List.getElem_append]
      split
      · rename_i h; exact w.right i h
      · rename_i h
        simp only [List.length_append, List.length_singleton] at hi
        obtain rfl : i = all.length := by omega
        simpa using hR
    · intro o ho
      rw [hff, ringB_snoc]
      have hrl := ringB_length ep all 1
      have he1 : j.epoch.toNat = ep := by rw [w.epoch]; rfl
      have he2 : j.next.toNat = 1 + all.length := by rw [w.next]; omega
      rw [he1, he2]
      have hpl := putP_length ep (1 + all.length) l
      obtain ⟨B, hBe⟩ : ∃ B, B = putP ep (1 + all.length) l := ⟨_, rfl⟩
      rw [← hBe] at hpl ⊢
      have hw := w.ring o ho
      unfold rbP at hw ⊢
      rw [List.getD_eq_getElem?_getD] at hw ⊢
      have inj : ∀ k, k < B.length → (2 + (tail + usedP all + k) % 16 = 2 + (tail + o) % 16 ↔ usedP all + k = o) := by
        intro k hk; omega
      by_cases hin : usedP all ≤ o ∧ o < usedP all + B.length
      · have := wrD_hit (fun k => 2 + (tail + usedP all + k) % 16) (2 + (tail + o) % 16) B 0 d (o - usedP all) (by omega) (by have := (inj (o - usedP all) (by omega)).2 (by omega); simpa using this)
          (fun k' h1 h2 h3 => by have := (inj k' h2).1 (by simpa using h3); omega) (by rw [w.len]; omega)
        rw [this, List.getD_eq_getElem?_getD, List.getElem?_append_right (by omega), hrl, List.getElem?_eq_getElem (by omega)]; rfl
      · have := wrD_miss (fun k => 2 + (tail + usedP all + k) % 16) (2 + (tail + o) % 16) B 0 d (fun k hk h3 => by have := (inj k hk).1 (by simpa using h3); omega)
        rw [this, hw]
        rw [List.getD_eq_getElem?_getD, List.getD_eq_getElem?_getD]
        rcases Nat.lt_or_ge o (usedP all) with g | g
        · rw [List.getElem?_append_left (by omega)]
        · rw [List.getElem?_eq_none (by omega), List.getElem?_eq_none (by rw [List.length_append]; omega)]
end Go.Proofs.Ytbpdbgcndfcilaa
namespace Go.Proofs.Ytbpdbgcndfcilaa
open Go.RowKit Go.Sl
set_option maxRecDepth 20000

theorem WI.fresh {ep tail : Nat} (hep : 1 ≤ ep ∧ ep ≤ 8388608) (ht : tail < 16) : WI ep tail (fun _ => noughts) (openJ 64 ep 1 tail) (DSt.of (List.replicate 64 noughts)) [] := by
  have hlen : (List.replicate 64 noughts).length = 64 := List.length_replicate ..
  have hmem : ∀ b ∈ List.replicate 64 noughts, b.length = 4096 := fun b hb => by rw [(List.mem_replicate.1 hb).2]; exact noughts_length
  have hw : (DSt.of (List.replicate 64 noughts)).Wf := ⟨rfl, by show 1 ≤ (List.replicate 64 noughts).length ∧ (List.replicate 64 noughts).length ≤ 512; omega, hmem, hmem, fun w hw => (List.not_mem_nil hw).elim, fun h => (Bool.false_ne_true h).elim, fun h => (Bool.false_ne_true h).elim⟩
  refine ⟨layL_64', rfl, rfl, rfl, rfl, rfl, rfl, rfl, rfl, openJ_wf 64 (by omega) ⟨rfl, by omega, by omega, by omega, by omega, by omega, by rw [layL_64']; omega⟩, fresh_calm _, hw, hlen, DSt.of_few _, by simp [usedP], fun i h => by simp at h, ?_⟩
  intro o ho
  unfold rbP
  show (List.replicate 64 noughts).getD _ [] = _
  rw [List.getD_eq_getElem?_getD, List.getElem?_replicate, if_pos (by omega)]; rfl
theorem im9_pick {ep : Nat} (hep : 1 ≤ ep ∧ ep ≤ 8388608) (sz : Int) (k : Nat) (hk : k ≤ 16) : RightP ep ((k + 1 : Nat) : Int) (im9 (1 + pickS sz 5).toNat sz) := by
  have := pickS_range (n := sz) (m := 5) (by decide)
  exact im9_right ⟨by omega, by omega⟩ ⟨by omega, by omega⟩ _ (by omega) _
theorem WI.step {ep tail : Nat} {z : Nat → Dat} (hep : 1 ≤ ep ∧ ep ≤ 8388608) {j : JSt} {d : DSt} {all : List (List PImg)} (w : WI ep tail z j d all) (sz : Int) : WI ep tail z (wrtStep j d all sz).1 (wrtStep j d all sz).2.1 (wrtStep j d all sz).2.2 := by
  have hge := usedP_ge all
  have hu := w.used
  unfold wrtStep
  rcases w.append (im9_pick hep sz all.length (by omega)) with ⟨_, h1, h2⟩ | ⟨_, h1, h2, h3⟩
  · dsimp only; rw [if_pos h2]; exact h1
  · dsimp only; rw [if_neg h3, h1, h2]; exact w
theorem WI.all {ep tail : Nat} {z : Nat → Dat} (hep : 1 ≤ ep ∧ ep ≤ 8388608) : ∀ (l : List Int) (x : JSt × DSt × List (List PImg)), WI ep tail z x.1 x.2.1 x.2.2 → WI ep tail z (wrtK x l).1 (wrtK x l).2.1 (wrtK x l).2.2
  | [], _, h => h
  | s :: l, _, h => WI.all hep l _ (h.step hep s)
end Go.Proofs.Ytbpdbgcndfcilaa
namespace Go.Proofs.Ytbpdbgcndfcilaa
open Go.RowKit Go.Sl
set_option maxRecDepth 20000

def grL : Nat → List (List PImg) → List (Int × Int)
  | _, [] => []
  | sq, l :: ls => ((sq : Int), ((l.length : Int) + 1)) :: grL (sq + 1) ls
theorem grL_length : ∀ (ls : List (List PImg)) (sq : Nat), (grL sq ls).length = ls.length
  | [], _ => rfl
  | _ :: ls, sq => by rw [grL, List.length_cons, grL_length ls, List.length_cons]
theorem grL_snoc : ∀ (ls : List (List PImg)) (sq : Nat) (l : List PImg), grL sq (ls ++ [l]) = grL sq ls ++ [(((sq + ls.length : Nat) : Int), ((l.length : Int) + 1))]
  | [], sq, l => rfl
  | x :: ls, sq, l => by
    rw [List.cons_append, grL, grL_snoc ls, grL, List.length_cons, show sq + 1 + ls.length = sq + (ls.length + 1) by omega]; rfl
structure WJ (t0 sq : Nat) (j : JSt) (d : DSt) (ls : List (List PImg)) (k : Nat) : Prop where
  s : j.s = 16
  t : j.t = ((t0 % 16 : Nat) : Int)
  u : j.u = (usedP ls : Nat)
  epoch : j.epoch = 1
  next : j.next = ((sq + ls.length : Nat) : Int)
  pos : 1 ≤ sq
  groups : j.groups = grL sq ls
  broken : j.broken = false
  wf : j.Wf
  calm : d.Calm
  dwf : d.Wf
  len : d.now.length = 64
  few : d.Few k
  used : usedP ls ≤ 16
  right : ∀ (i : Nat) (h : i < ls.length), RightP 1 ((sq + i : Nat) : Int) ls[i]
  ring : ∀ (o : Nat) (h : o < (ringB 1 sq ls).length), rbP d 2 16 (t0 + o) = (ringB 1 sq ls)[o]
theorem WJ.mono {t0 sq : Nat} {j : JSt} {d : DSt} {ls : List (List PImg)} {k m : Nat} (w : WJ t0 sq j d ls k) (h : k ≤ m) : WJ t0 sq j d ls m := { w with few := w.few.mono h }
theorem WJ.room {t0 sq : Nat} {j : JSt} {d : DSt} {ls : List (List PImg)} {k : Nat} (w : WJ t0 sq j d ls k) : Ok 16 ((t0 % 16 : Nat) : Int) (usedP ls : Nat) j.h := by
  have := w.wf.ring; rw [w.s, w.t, w.u] at this; exact this
theorem WJ.fresh (t0 : Nat) (ht : t0 < 16) : WJ t0 1 (openJ 64 1 1 t0) (DSt.of (List.replicate 64 noughts)) [] 0 :=
  ⟨layL_64', by show (t0 : Int) = _; rw [Nat.mod_eq_of_lt ht], rfl, rfl, rfl, Nat.le_refl _, rfl, rfl, openJ_wf64 t0 (by omega), fresh_calm _, (WI.fresh (ep := 1) (by omega) ht).dwf, List.length_replicate, DSt.of_few _, by simp [usedP], fun i h => by simp at h, fun o h => by simp [ringB] at h⟩
/-- a group is appended, or nothing changes -/
theorem WJ.append {t0 sq : Nat} {j : JSt} {d : DSt} {ls : List (List PImg)} {k : Nat} (w : WJ t0 sq j d ls k) {l : List PImg} (hR : RightP 1 ((sq + ls.length : Nat) : Int) l) (held : Bool) (hh : held = true → (l.length : Int) + 1 ≤ j.h) :
    (WJ t0 sq (j.appendB d l held).1 (j.appendB d l held).2.1 (ls ++ [l]) (k + 16) ∧ (j.appendB d l held).2.2.1 = ((sq + ls.length : Nat) : Int) ∧ (j.appendB d l held).2.2.2 = 0 ∧ (held = false → (j.appendB d l held).1.h = j.h)) ∨
    (held = false ∧ (j.appendB d l held).1 = j ∧ (j.appendB d l held).2.1 = d ∧ (j.appendB d l held).2.2.2 ≠ 0) := by
  have hge := usedP_ge ls
  have hu := w.used
  have hll := hR.2.2.2.2.2.1
  have hR' : RightP j.epoch j.next l := by rw [w.epoch, w.next]; exact hR
  have hokd := w.room
  have hok := hokd
  unfold Ok at hok
  obtain ⟨kk, hkk⟩ : ∃ kk : Int, kk = (if held = true then (l.length : Int) + 1 else 0) := ⟨_, rfl⟩
  have hk0 : 0 ≤ kk ∧ kk ≤ (l.length : Int) + 1 ∧ kk ≤ j.h := by
    rw [hkk]
    split
    · rename_i h; have := hh h; omega
    · omega
  by_cases hf : 16 - (usedP ls : Int) - j.h < (l.length : Int) + 1 - kk
  · right
    have hheld : held = false := by
      cases held with
      | false => rfl
      | true => rw [if_pos rfl] at hkk; omega
    refine ⟨hheld, ?_⟩
    unfold JSt.appendB JSt.append
    rw [if_neg (by rw [w.broken]; simp), if_neg (by simpa using hR')]
    by_cases hs : j.s < (l.length : Int) + 1
    · rw [if_pos hs]; exact ⟨rfl, rfl, by simp⟩
    rw [if_neg hs]
    have hp : putS j.s j.t j.u j.h ((l.length : Int) + 1) (if held = true then (l.length : Int) + 1 else 0) = ((0, 0, 0, 0, 5), 0) := by
      rw [w.s, w.t, w.u, ← hkk]
      unfold putS
      rw [if_neg (by rintro (h | h | h | h | h); exact h hokd; omega; omega; omega; omega), if_pos (by omega)]
    rw [hp]
    exact ⟨rfl, rfl, by simp⟩
  · left
    have hp : putS j.s j.t j.u j.h ((l.length : Int) + 1) (if held = true then (l.length : Int) + 1 else 0) = ((j.s, ((t0 % 16 : Nat) : Int), ((usedP ls : Nat) : Int) + ((l.length : Int) + 1), j.h - kk, 0), (((t0 % 16 : Nat) : Int) + (usedP ls : Nat)) % 16) := by
      rw [w.s, w.t, w.u, ← hkk]
      unfold putS
      rw [if_neg (by rintro (h | h | h | h | h); exact h hokd; omega; omega; omega; omega), if_neg (by omega)]
    have hlen16 : j.s + 2 ≤ d.now.length := by rw [w.s, w.len]; decide
    have hs1 : (l.length : Int) + 1 ≤ j.s := by rw [w.s]; omega
    have hgl : j.groups.length = ls.length := by rw [w.groups, grL_length]
    obtain ⟨j', a, f1, f2, f3, f4, f5, f6, f7, f8, f9, f10, w'⟩ := JSt.append_next w.wf (by rw [hgl]; omega) w.broken hR' hs1 w.calm hlen16 hp
    rw [a]
    have hB := putP_len (e := j.epoch.toNat) (s := j.next.toNat) hll hR.lens
    have hff : (fun k : Nat => (2 : Int) + ((((t0 % 16 : Nat) : Int) + (usedP ls : Nat)) % 16 + k) % j.s) = fun k : Nat => ((2 + (t0 + usedP ls + k) % 16 : Nat) : Int) := by
      funext k
      rw [w.s]; omega
    have hfl : ∀ k : Nat, (0 : Int) ≤ ((2 + (t0 + usedP ls + k) % 16 : Nat) : Int) ∧ ((2 + (t0 + usedP ls + k) % 16 : Nat) : Int) < d.now.length := by
      intro k
      rw [w.len]; omega
    have hroom : usedP ls + (l.length + 1) ≤ 16 := by
      have := w'.ring
      unfold Ok at this
      rw [f2, w.s, f4] at this
      omega
    rw [hff]
    refine ⟨⟨by rw [f2, w.s], f3, by rw [f4, usedP_snoc]; omega, by rw [f6, w.epoch], by rw [f7, w.next, List.length_append]; show _ = (((sq + (ls.length + 1) : Nat)) : Int); omega, w.pos, by rw [f9, w.groups, w.next, grL_snoc], f10, w', wrD_calm _ _ _ _ w.calm, wrD_wf _ _ _ _ w.dwf w.calm hB hfl, by rw [wrD_len, w.len], ?_, by rw [usedP_snoc]; exact hroom, ?_, ?_⟩, w.next, rfl, fun h => by rw [f5, hkk, h]; simp⟩
    · have := wrD_few (fun k : Nat => ((2 + (t0 + usedP ls + k) % 16 : Nat) : Int)) (putP j.epoch.toNat j.next.toNat l) 0 d _ w.few
      rw [putP_length] at this
      exact this.mono (by omega)
    · intro i hi
      rw [List.getElem_append]
      split
      · rename_i h; exact w.right i h
      · rename_i h
        simp only [List.length_append, List.length_singleton] at hi
        obtain rfl : i = ls.length := by omega
        simpa using hR
    · intro o ho
      have hrl := ringB_length 1 ls sq
      have he1 : j.epoch.toNat = 1 := by rw [w.epoch]; rfl
      have he2 : j.next.toNat = sq + ls.length := by rw [w.next]; omega
      have hsn := ringB_snoc 1 ls sq l
      have hpl := putP_length 1 (sq + ls.length) l
      obtain ⟨B, hBe⟩ : ∃ B, B = putP 1 (sq + ls.length) l := ⟨_, rfl⟩
      rw [he1, he2]
      rw [← hBe] at hpl hsn ⊢
      have ho2 : o < usedP ls + B.length := by rw [hsn, List.length_append, hrl] at ho; exact ho
      have e0 : (ringB 1 sq (ls ++ [l]))[o]? = (ringB 1 sq ls ++ B)[o]? := by rw [hsn]
      rw [List.getElem?_eq_getElem ho] at e0
      unfold rbP
      rw [List.getD_eq_getElem?_getD]
      have inj : ∀ k, k < B.length → (2 + (t0 + usedP ls + k) % 16 = 2 + (t0 + o) % 16 ↔ usedP ls + k = o) := by
        intro k hk; omega
      by_cases hin : usedP ls ≤ o
      · have := wrD_hit (fun k => 2 + (t0 + usedP ls + k) % 16) (2 + (t0 + o) % 16) B 0 d (o - usedP ls) (by omega) (by have := (inj (o - usedP ls) (by omega)).2 (by omega); simpa using this)
          (fun k' h1 h2 h3 => by have := (inj k' h2).1 (by simpa using h3); omega) (by rw [w.len]; omega)
        rw [this]
        rw [List.getElem?_append_right (by omega), hrl, List.getElem?_eq_getElem (by omega)] at e0
        exact (Option.some.inj e0).symm
      · have := wrD_miss (fun k => 2 + (t0 + usedP ls + k) % 16) (2 + (t0 + o) % 16) B 0 d (fun k hk h3 => by have := (inj k hk).1 (by simpa using h3); omega)
        rw [this]
        rw [List.getElem?_append_left (by omega), List.getElem?_eq_getElem (by omega)] at e0
        have hw := w.ring o (by omega)
        unfold rbP at hw
        rw [List.getD_eq_getElem?_getD] at hw
        rw [hw]
        exact (Option.some.inj e0).symm
theorem WJ.flush {t0 sq : Nat} {j : JSt} {d : DSt} {ls : List (List PImg)} {k : Nat} (w : WJ t0 sq j d ls k) :
    WJ t0 sq (j.flush d).1 (j.flush d).2.1 ls k ∧ (j.flush d).2.2 = 0 ∧ (j.flush d).1.synced = j.next - 1 ∧ (j.flush d).1.h = j.h := by
  obtain ⟨j', a, f1, f2, f3, f4, f5, f6, f7, f8, f9, f10, w'⟩ := JSt.flush_next w.wf w.broken w.calm
  have hc := w.calm
  have hdw : (j.flush d).2.1.Wf := by
    have := w.dwf.flush
    unfold JSt.flush
    rw [if_neg (by rw [w.broken]; simp)]
    split <;> exact this
  rw [a] at hdw ⊢
  refine ⟨⟨by rw [f2, w.s], by rw [f3, w.t], by rw [f4, w.u], by rw [f6, w.epoch], by rw [f7, w.next], w.pos, by rw [f9, w.groups], f10, w', hc, hdw, w.len, ?_, w.used, w.right, w.ring⟩, rfl, f8, f5⟩
  obtain ⟨h1, h2, h3⟩ := w.few
  exact ⟨by simp, h2, h3⟩
theorem ringB_drop (ep : Nat) : ∀ (ls : List (List PImg)) (sq m : Nat), (ringB ep sq ls).drop (usedP (ls.take m)) = ringB ep (sq + m) (ls.drop m)
  | ls, sq, 0 => by simp [usedP]
  | [], sq, m + 1 => by simp [ringB, usedP]
  | l :: ls, sq, m + 1 => by
    have e : usedP ((l :: ls).take (m + 1)) = (putP ep sq l).length + usedP (ls.take m) := by rw [putP_length]; simp [usedP]
    rw [e, ringB, ← List.drop_drop, List.drop_left, ringB_drop ep ls (sq + 1) m, List.drop_succ_cons, show sq + 1 + m = sq + (m + 1) by omega]
theorem usedP_split (ls : List (List PImg)) (m : Nat) : usedP ls = usedP (ls.take m) + usedP (ls.drop m) := by
  unfold usedP
  rw [← List.sum_append, ← List.map_append, List.take_append_drop]
theorem rel_gr : ∀ (m : Nat) (ls : List (List PImg)) (sq t0 : Nat) (u h : Int), m < ls.length → (usedP ls : Int) = u → Ok 16 ((t0 % 16 : Nat) : Int) u h →
    relAll ((sq + m : Nat) : Int) (grL sq ls) 16 ((t0 % 16 : Nat) : Int) u h = (grL (sq + (m + 1)) (ls.drop (m + 1)), (16, (((t0 + usedP (ls.take (m + 1))) % 16 : Nat) : Int), ((usedP (ls.drop (m + 1)) : Nat) : Int), h, 0))
  | m, [], _, _, _, _, hm, _, _ => by simp at hm
  | m, l :: ls, sq, t0, u, h, hm, hu, hr => by
    have hul : usedP (l :: ls) = (l.length + 1) + usedP ls := by simp [usedP]
    have hr2 := hr
    unfold Ok at hr2
    rw [grL, relAll, if_pos (by show ((sq : Nat) : Int) ≤ _; omega)]
    have hd : dropS 16 ((t0 % 16 : Nat) : Int) u h ((l.length : Int) + 1) = (16, (((t0 + (l.length + 1)) % 16 : Nat) : Int), ((usedP ls : Nat) : Int), h, 0) := by
      unfold dropS
      rw [if_neg (by rintro (h | h | h); exact h hr; omega; omega)]
      congr 1
      congr 1
      · omega
      · congr 1; omega
    dsimp only
    rw [hd]
    dsimp only
    rw [if_pos rfl]
    cases m with
    | zero =>
      rw [show (l :: ls).take (0 + 1) = [l] by rfl, show (l :: ls).drop (0 + 1) = ls by rfl, show usedP [l] = l.length + 1 by simp [usedP]]
      cases ls with
      | nil => rfl
      | cons x ls =>
        rw [grL, relAll, if_neg (by show ¬ (((sq + 1 : Nat) : Int) ≤ ((sq + 0 : Nat) : Int)); omega)]
    | succ m =>
      have ih := rel_gr m ls (sq + 1) (t0 + (l.length + 1)) ((usedP ls : Nat) : Int) h (by simpa using hm) rfl (by unfold Ok; omega)
      rw [show sq + (m + 1) = sq + 1 + m by omega, ih]
      rw [show (l :: ls).take (m + 1 + 1) = l :: ls.take (m + 1) by rfl, show (l :: ls).drop (m + 1 + 1) = ls.drop (m + 1) by rfl, show usedP (l :: ls.take (m + 1)) = (l.length + 1) + usedP (ls.take (m + 1)) by simp [usedP], Nat.add_assoc t0]
      rw [show sq + 1 + (m + 1) = sq + 1 + m + 1 by omega, show sq + (m + 1 + 1) = sq + 1 + m + 1 by omega]
theorem WJ.release {t0 sq : Nat} {j : JSt} {d : DSt} {ls : List (List PImg)} {k : Nat} (w : WJ t0 sq j d ls k) (hsy : j.synced = j.next - 1) (m : Nat) (hm : m < ls.length) :
    WJ (t0 + usedP (ls.take (m + 1))) (sq + (m + 1)) (j.release ((sq + m : Nat) : Int)).1 d (ls.drop (m + 1)) k ∧ (j.release ((sq + m : Nat) : Int)).2 = 0 ∧ (j.release ((sq + m : Nat) : Int)).1.h = j.h := by
  have hu := w.used
  have hsp := usedP_split ls (m + 1)
  have hr : relAll ((sq + m : Nat) : Int) j.groups j.s j.t j.u j.h = (grL (sq + (m + 1)) (ls.drop (m + 1)), (16, (((t0 + usedP (ls.take (m + 1))) % 16 : Nat) : Int), ((usedP (ls.drop (m + 1)) : Nat) : Int), j.h, 0)) := by
    rw [w.groups, w.s, w.t, w.u]; exact rel_gr m ls sq t0 ((usedP ls : Nat) : Int) j.h hm rfl w.room
  obtain ⟨j', a, f1, f2, f3, f4, f5, f6, f7, f8, f9, f10, w'⟩ := JSt.release_next w.wf (seq := ((sq + m : Nat) : Int)) w.broken (by rw [hsy, w.next]; omega) hr
  rw [a]
  refine ⟨⟨by rw [f2], f3, f4, by rw [f6, w.epoch], ?_, by have := w.pos; omega, f9, f10, w', w.calm, w.dwf, w.len, w.few, by omega, ?_, ?_⟩, rfl, f5⟩
  · rw [f7, w.next, List.length_drop]; omega
  · intro i hi
    rw [List.getElem_drop]
    have := w.right (m + 1 + i) (by rw [List.length_drop] at hi; omega)
    rwa [show sq + (m + 1 + i) = sq + (m + 1) + i by omega] at this
  · intro o ho
    have e := ringB_drop 1 ls sq (m + 1)
    have ho2 : usedP (ls.take (m + 1)) + o < (ringB 1 sq ls).length := by rw [← e, List.length_drop] at ho; omega
    have hw := w.ring _ ho2
    have e1 : (ringB 1 (sq + (m + 1)) (ls.drop (m + 1)))[o]? = ((ringB 1 sq ls).drop (usedP (ls.take (m + 1))))[o]? := by rw [e]
    rw [List.getElem?_eq_getElem ho, List.getElem?_drop, List.getElem?_eq_getElem ho2] at e1
    rw [Nat.add_assoc, hw]
    exact (Option.some.inj e1).symm
theorem WJ.turn {t0 sq : Nat} {j : JSt} {d : DSt} {ls : List (List PImg)} {k : Nat} (w : WJ t0 sq j d ls k) (h : Int) (hh : 0 ≤ h ∧ (usedP ls : Int) + h ≤ 16) : WJ t0 sq { j with h := h } d ls k := by
  refine ⟨w.s, w.t, w.u, w.epoch, w.next, w.pos, w.groups, w.broken, ⟨w.wf.log, ?_, w.wf.epoch, w.wf.next, w.wf.synced, w.wf.few, w.wf.groups⟩, w.calm, w.dwf, w.len, w.few, w.used, w.right, w.ring⟩
  have := w.wf.ring
  unfold Ok at this ⊢
  show 1 ≤ j.s ∧ j.s ≤ 512 ∧ 0 ≤ j.t ∧ j.t < j.s ∧ 0 ≤ j.u ∧ 0 ≤ h ∧ j.u + h ≤ j.s
  rw [w.s, w.u] at this ⊢
  omega
theorem WJ.reserve {t0 sq : Nat} {j : JSt} {d : DSt} {ls : List (List PImg)} {k : Nat} (w : WJ t0 sq j d ls k) (n : Int) (hn : 1 ≤ n ∧ n ≤ 4) :
    WJ t0 sq (j.reserve n).1 d ls k ∧ (((j.reserve n).2 = 0 ∧ n + 1 ≤ (j.reserve n).1.h) ∨ ((j.reserve n).2 ≠ 0 ∧ (j.reserve n).1.h = j.h)) ∧ (j.reserve n).1.synced = j.synced := by
  have hb : blocksN n = n + 1 := by unfold blocksN; rw [if_neg (by omega)]
  have hr := w.room
  have hr2 := hr
  unfold Ok at hr2
  unfold JSt.reserve
  rw [if_neg (by rw [w.broken]; simp), hb, if_neg (by omega), if_neg (by rw [w.s]; omega)]
  unfold JSt.turn reserveS
  rw [w.s, w.t, w.u]
  by_cases h : 16 - ((usedP ls : Nat) : Int) - j.h < n + 1
  · rw [if_neg (by rintro (h | h); exact h hr; omega), if_pos h]
    exact ⟨w, .inr ⟨by simp, rfl⟩, rfl⟩
  · rw [if_neg (by rintro (h | h); exact h hr; omega), if_neg h]
    have := w.turn (j.h + (n + 1)) (by omega)
    rw [show ({ j with h := j.h + (n + 1) } : JSt) = { j with s := 16, t := ((t0 % 16 : Nat) : Int), u := ((usedP ls : Nat) : Int), h := j.h + (n + 1) } by rw [← w.s, ← w.t, ← w.u]] at this
    exact ⟨this, .inl ⟨rfl, by show n + 1 ≤ j.h + (n + 1); omega⟩, rfl⟩
theorem WJ.cancel {t0 sq : Nat} {j : JSt} {d : DSt} {ls : List (List PImg)} {k : Nat} (w : WJ t0 sq j d ls k) (n : Int) (hn : 1 ≤ n ∧ n ≤ 4) :
    WJ t0 sq (j.cancel n).1 d ls k ∧ (((j.cancel n).2 = 0 ∧ (j.cancel n).1.h = j.h - (n + 1) ∧ n + 1 ≤ j.h) ∨ ((j.cancel n).2 ≠ 0 ∧ (j.cancel n).1.h = j.h)) ∧ (j.cancel n).1.synced = j.synced := by
  have hb : blocksN n = n + 1 := by unfold blocksN; rw [if_neg (by omega)]
  have hr := w.room
  have hr2 := hr
  unfold Ok at hr2
  unfold JSt.cancel
  rw [if_neg (by rw [w.broken]; simp), hb, if_neg (by omega)]
  unfold JSt.turn releaseS
  rw [w.s, w.t, w.u]
  by_cases h : j.h < n + 1
  · rw [if_pos (by right; right; exact h)]
    exact ⟨w, .inr ⟨by simp, rfl⟩, rfl⟩
  · rw [if_neg (by rintro (h' | h' | h'); exact h' hr; omega; exact h h')]
    have := w.turn (j.h - (n + 1)) (by omega)
    rw [show ({ j with h := j.h - (n + 1) } : JSt) = { j with s := 16, t := ((t0 % 16 : Nat) : Int), u := ((usedP ls : Nat) : Int), h := j.h - (n + 1) } by rw [← w.s, ← w.t, ← w.u]] at this
    exact ⟨this, .inl ⟨rfl, rfl, by omega⟩, rfl⟩
end Go.Proofs.Ytbpdbgcndfcilaa
namespace Go.Proofs.Ytbpdbgcndfcilaa
open Go.RowKit Go.Sl
set_option maxRecDepth 20000

theorem WJ.blk {t0 sq : Nat} {j : JSt} {d : DSt} {ls : List (List PImg)} {k : Nat} (w : WJ t0 sq j d ls k) (i : Nat) (hi : i < ls.length) (b : Nat) (hb : b < (putP 1 (sq + i) ls[i]).length) :
    d.now.getD (2 + ((t0 + usedP (ls.take i)) % 16 + b) % 16) [] = (putP 1 (sq + i) ls[i])[b] := by
  have e := ringB_drop 1 ls sq i
  rw [List.drop_eq_getElem_cons hi, ringB] at e
  have e1 : (ringB 1 sq ls)[usedP (ls.take i) + b]? = some (putP 1 (sq + i) ls[i])[b] := by
    rw [← List.getElem?_drop, e, List.getElem?_append_left hb, List.getElem?_eq_getElem hb]
  obtain ⟨h1, h2⟩ := List.getElem?_eq_some_iff.1 e1
  have := w.ring _ h1
  unfold rbP at this
  rw [h2] at this
  rw [← this, show 2 + ((t0 + usedP (ls.take i)) % 16 + b) % 16 = 2 + (t0 + (usedP (ls.take i) + b)) % 16 by omega]
structure LineOk (J : Imm) (t0 sq : Nat) (l : List Grp) (ls : List (List PImg)) : Prop where
  pr : l.map (fun g => g.gs.map Img.pr) = ls
  each : ∀ (i : Nat) (g : Grp), l[i]? = some g → g.e = ((sq + i : Nat) : Int) ∧ g.s = (((t0 + usedP (ls.take i)) % 16 : Nat) : Int) ∧ ImgsOk J g.a g.gs
theorem LineOk.mono {I J : Imm} {t0 sq : Nat} {l : List Grp} {ls : List (List PImg)} (h : LineOk I t0 sq l ls) (hJ : I.le J) : LineOk J t0 sq l ls :=
  ⟨h.pr, fun i g hg => ⟨(h.each i g hg).1, (h.each i g hg).2.1, (h.each i g hg).2.2.mono hJ⟩⟩
theorem LineOk.len {J : Imm} {t0 sq : Nat} {l : List Grp} {ls : List (List PImg)} (h : LineOk J t0 sq l ls) : l.length = ls.length := by rw [← h.pr, List.length_map]
theorem LineOk.nil (J : Imm) (t0 sq : Nat) : LineOk J t0 sq [] [] := ⟨rfl, fun i g h => by simp at h⟩
theorem LineOk.snoc {J : Imm} {t0 sq : Nat} {l : List Grp} {ls : List (List PImg)} (h : LineOk J t0 sq l ls) {g : Grp} (h1 : g.e = ((sq + ls.length : Nat) : Int)) (h2 : g.s = (((t0 + usedP ls) % 16 : Nat) : Int)) (h3 : ImgsOk J g.a g.gs) : LineOk J t0 sq (l ++ [g]) (ls ++ [g.gs.map Img.pr]) := by
  have hl := h.len
  refine ⟨by rw [List.map_append, h.pr]; rfl, fun i x hx => ?_⟩
  rcases Nat.lt_or_ge i l.length with c | c
  · rw [List.getElem?_append_left c] at hx
    rw [List.take_append_of_le_length (by omega)]
    exact h.each i x hx
  · rw [List.getElem?_append_right c] at hx
    obtain ⟨q1, q2⟩ := List.getElem?_eq_some_iff.1 hx
    simp at q1
    obtain rfl : i = ls.length := by omega
    have : x = g := by simpa using q2.symm
    subst this
    rw [List.take_append_of_le_length (by omega), List.take_length]
    exact ⟨h1, h2, h3⟩
theorem LineOk.drop {J : Imm} {t0 sq : Nat} {l : List Grp} {ls : List (List PImg)} (h : LineOk J t0 sq l ls) (m : Nat) : LineOk J (t0 + usedP (ls.take m)) (sq + m) (l.drop m) (ls.drop m) := by
  refine ⟨by rw [List.map_drop, h.pr], fun i x hx => ?_⟩
  rw [List.getElem?_drop] at hx
  obtain ⟨q1, q2, q3⟩ := h.each _ _ hx
  refine ⟨by rw [q1]; omega, ?_, q3⟩
  rw [q2]
  have e : usedP (ls.take (m + i)) = usedP (ls.take m) + usedP ((ls.drop m).take i) := by
    rw [List.take_add]
    simp [usedP]
  rw [e, Nat.add_assoc]
def WhI (J : Imm) (bD bJ : Nat) (k bound : Nat) (va vl vh : Value) (S : St) : Prop := ∃ (t0 sq : Nat) (j : JSt) (d : DSt) (ls : List (List PImg)) (chD chJ : List Blk) (l : List Grp) (aL : Option Addr) (capL : Nat) (chL : List Blk) (held : Nat),
  WJ t0 sq j d ls k ∧ Dk J bD d chD ∧ Jk bJ bD j chJ ∧ OwnC chL 3 aL l.length capL (grpCells l) ∧ LineOk J t0 sq l ls ∧ (held = 0 ∨ (1 ≤ held ∧ held ≤ 4 ∧ (held : Int) + 1 ≤ j.h)) ∧ sq + ls.length ≤ bound ∧
  va = .int .i64 (((t0 + usedP ls) % 16 : Nat) : Int) ∧ vl = .slice aL l.length capL ∧ vh = .int .i64 held ∧ S = [chD, chJ, chL]
theorem dk_ReadK {I : Imm} {bD : Nat} {st : DSt} {ch : List Blk} (h : Dk I bD st ch) (hdn : st.down = false) (k : Nat) (hk : k < st.now.length) :
    Tri Try.prog 40 #[.pointer (some ⟨bD, 0, none⟩), .int .i64 k] I [ch] fun v J S' => ∃ bk : Bk, v = .tuple #[bk.cell, .int .i64 0] ∧ bk.data = st.now.getD k [] ∧ BkOk J bk ∧ 4096 ≤ bk.cap ∧ Dk J bD st ch ∧ S' = [ch] := by
  have hb4 : (st.now.getD k []).length = 4096 := by
    rw [List.getD_eq_getElem?_getD, List.getElem?_eq_getElem hk]
    exact h.wf.now _ (List.getElem_mem _)
  have hr := dk_Read h (k : Int)
  rw [read_up h.wf hdn hk] at hr
  refine Tri.drop (Tri.fixed hr (K := fun v J S' => ∃ bk : Bk, v = .tuple #[bk.cell, .int .i64 0] ∧ bk.data = st.now.getD k [] ∧ BkOk J bk ∧ 4096 ≤ bk.cap ∧ Dk J bD st ch ∧ S' = [ch, []]) ?_) ?_
  · rintro v J S' hJ ⟨a, cap, chB, rfl, hB, rfl, rfl⟩
    dsimp only at hB ⊢
    rw [hb4] at hB
    refine ⟨1, chB, rfl, fun J' hJ' hm => ⟨⟨a, cap, st.now.getD k []⟩, by rw [hb4], rfl, Rds.of_own hB hm, hB.le, h.mono hJ', rfl⟩⟩
  · rintro v J S' hJ ⟨bk, h1, h2, h3, h4, h5, rfl⟩
    exact ⟨[ch], Drop.pick [0] _ rfl, bk, h1, h2, h3, h4, h5, rfl⟩
end Go.Proofs.Ytbpdbgcndfcilaa
namespace Go.Proofs.Ytbpdbgcndfcilaa
open Go.RowKit Go.Sl
set_option maxRecDepth 20000

theorem quo_nat (a b : Nat) (h : a ≤ 9223372036854775807) : IntKind.i64.wrap (((a : Int)).tdiv (b : Int)) = ((a / b : Nat) : Int) := by
  have h1 : a / b ≤ a := Nat.div_le_self _ _
  rw [Int.tdiv_eq_ediv_of_nonneg (by omega), ← Int.natCast_ediv]
  generalize a / b = q at *
  exact wrap_i64 (by omega) (by omega)
theorem grpCells_append (l m : List Grp) : grpCells (l ++ m) = grpCells l ++ grpCells m := by simp [grpCells]
theorem grpCells_cut (l : List Grp) (m : Nat) (hm : m ≤ l.length) : ((grpCells l).drop (m * 3)).take ((l.length - m) * 3) = grpCells (l.drop m) := by
  have e : grpCells l = grpCells (l.take m) ++ grpCells (l.drop m) := by rw [← grpCells_append, List.take_append_drop]
  have h1 : (grpCells (l.take m)).length = m * 3 := by rw [grpCells_length, List.length_take, Nat.min_eq_left hm]
  rw [e, ← h1, List.drop_left]
  exact List.take_of_length_le (by rw [grpCells_length, List.length_drop]; omega)
theorem grpCells_f {l : List Grp} {i : Nat} {g : Grp} (h : l[i]? = some g) : (grpCells l)[i * 3]? = some (.int .i64 g.e) ∧ (grpCells l)[i * 3 + 1]? = some (.int .i64 g.s) ∧ (grpCells l)[i * 3 + 2]? = some (.slice g.a g.gs.length g.cap) := by
  obtain ⟨h1, rfl⟩ := List.getElem?_eq_some_iff.1 h
  have := grpCells_at h1
  have e := fun k : Nat => congrArg (·[k]?) this
  have e0 := e 0
  have e1 := e 1
  have e2 := e 2
  simp only [List.getElem?_take, List.getElem?_drop] at e0 e1 e2
  exact ⟨by simpa using e0, by simpa using e1, by simpa using e2⟩
theorem images_k (k : Nat) (hk : k ≤ 40) (aL : Option Addr) (capL : Nat) (n : Int) (hn : In64 n) (I : Imm) (hL : Rds I aL k (ints (rowL k))) :
    Tri Try.prog 27 #[.slice aL k capL, .int .i64 n] I [] fun v J _ => ∃ a cap gs, v = .slice a k cap ∧ gs.length = k ∧ ImgsOk J a gs ∧ gs.map Img.pr = imgsP (rowL k) n 0 := by
  have := images_fix aL capL (rowL k) (by rw [rowL_length]; exact hk) (rowL_in k (by omega)) n hn I (by rw [rowL_length]; exact hL)
  rw [rowL_length] at this
  refine this.mono ?_
  rintro v J S' hJ ⟨a, cap, gs, rfl, h1, h2⟩
  have hgl : gs.length = k := by have := congrArg List.length h2; rwa [List.length_map, imgsP_length, rowL_length] at this
  exact ⟨a, cap, gs, by rw [hgl], hgl, h1, h2⟩
set_option maxHeartbeats 8000000 in
theorem journalWhole_walk (t0 : Int) (h0 : In64 t0) (aZ : Option Addr) (nZ capZ : Nat) (z : List Int) (hz : z.length = nZ) (I : Imm) (hZ : Rds I aZ nZ (z.map (Value.int .i64))) (hz2 : ∀ x ∈ z, (Lit.int .i64 x).wf = true) :
    Tri Try.prog 9 #[.int .i64 t0, .slice aZ nZ capZ] I [] fun v _ _ => v = .bool true := by
  refine Tri.of (args := [.int .i64 t0, .slice aZ nZ capZ]) tabOk Try.func9 rfl (by kernel_rfl) (by kernel_rfl) ?_
  have hpt := pickS_range (n := t0) (m := 16) (by decide)
  refine Tri.free (low_Pick t0 16 I h0 (by unfold In64; omega)) ?_
  rintro v _ _ hJ ⟨rfl, rfl⟩
  refine Tri.frameX (law_open (pickS t0 16) (by omega) I) [] rfl rfl ?_
  rintro v J1 A' hJ1 ⟨bD, bJ, chD, chJ, rfl, hD, hj, rfl⟩
  repeat (first
    | refine LoadD.own 0 rfl _ rfl rfl ?_
    | refine LoadD.own 1 rfl _ rfl rfl ?_
    | refine LoadP.at 0 rfl _ rfl rfl ?_
    | refine LoadP.at 1 rfl _ rfl rfl ?_
    | refine StoreD.st 0 rfl rfl rfl ?_
    | refine StoreD.st 1 rfl rfl rfl ?_
    | refine CmpD.yes rfl ?_
    | refine CmpD.yes (by decide) ?_
    | refine CmpD.no (by decide) ?_
    | refine Chk.mk ⟨rfl, trivial⟩ ?_
    | refine Chk.mk ⟨rfl, rfl, trivial⟩ ?_
    | refine Chk.mk ⟨rfl, rfl, rfl, trivial⟩ ?_
    | refine Chk.mk ⟨rfl, rfl, rfl, rfl, trivial⟩ ?_
    | refine Chk.mk ⟨rfl, rfl, rfl, rfl, rfl, trivial⟩ ?_
    | refine Chk.mk ⟨rfl, rfl, rfl, rfl, rfl, rfl, trivial⟩ ?_)
  refine Tri.free (low_Pick t0 16 J1 h0 (by unfold In64; omega)) ?_
  rintro v _ _ hJ ⟨rfl, rfl⟩
  obtain ⟨tl, htl⟩ : ∃ tl : Nat, pickS t0 16 = tl := ⟨(pickS t0 16).toNat, by omega⟩
  rw [htl] at hj hpt ⊢
  have ht16 : tl < 16 := by omega
  refine CodeF.loopF [1, 5, 6, 8, 9, 10, 11] (fun vs J' S' => ∃ (i : Nat) (va vl vh : Value), i ≤ nZ ∧ i ≤ 40 ∧ WhI J' bD bJ (16 * i) (i + 1) va vl vh S' ∧ J1.le J' ∧
      vs = [.slice aZ nZ capZ, .pointer (some ⟨bD, 0, none⟩), .pointer (some ⟨bJ, 0, none⟩), va, vl, vh, .int .i64 i])
    (fun vs _ _ => match vs with | [_, _, _, _, _, _, .int _ i] => ((nZ : Int) - i).toNat | _ => 0) ?_ ?_
  · refine ⟨_, Drop.and (Drop.refl _), 0, _, _, _, by omega, by omega, ⟨tl, 1, _, _, [], chD, chJ, [], none, 0, [], 0, WJ.fresh tl ht16, hD, hj, OwnC.nil _ _, LineOk.nil _ _ _, .inl rfl, by simp, rfl, rfl, rfl, rfl⟩, Imm.le_refl _, ?_⟩
    show _ = [_, _, _, Value.int .i64 (((tl + usedP []) % 16 : Nat) : Int), _, _, _]
    rw [show (tl + usedP []) % 16 = tl by simp [usedP]; omega]
    rfl
  rintro vs gE J' S' hJ' ⟨i, va, vl, vh, hi, hi40, hW, hle1, rfl⟩
  refine CodeF.stepD ?_
  refine CmpD.split (fun (c1 : (i : Int) < nZ) => ?_) (fun (c1 : ¬ (i : Int) < nZ) => ?_)
  rotate_left
  · refine Tri.mono (awake08 J' S') ?_
    rintro v J4 S4 hJ4 rfl
    exact Done.mk rfl
  refine CmpD.split (fun (c2 : (i : Int) < 40) => ?_) (fun (c2 : ¬ (i : Int) < 40) => ?_)
  rotate_left
  · refine Tri.mono (awake08 J' S') ?_
    rintro v J4 S4 hJ4 rfl
    exact Done.mk rfl
  refine CodeF.seqF (CodeF.blockF ?_ rfl)
  have hlt : i < z.length := by omega
  have hcell : (z.map (Value.int .i64))[i]? = some (.int .i64 z[i]) := by rw [List.getElem?_map, List.getElem?_eq_getElem hlt]; rfl
  have hz64 : In64 z[i] := int_of_wf (hz2 _ (List.getElem_mem hlt))
  rcases hZ.mem with q0 | ⟨bZ, oZ, cZ, TZ, fZ, rfl, hIZ, hcZ⟩
  · omega
  have hIZ2 := (Imm.le_trans hJ1 hle1) _ _ hIZ
  have hpx := pickS_range (n := z[i]) (m := 1000003) (by decide)
  generalize z[i] = x at *
  obtain ⟨p, hp⟩ : ∃ p : Nat, pickS x 1000003 = p := ⟨(pickS x 1000003).toNat, by omega⟩
  refine CodeF.stepD ?_
  refine Chk.mk (by omega) ?_
  refine LoadD.imm hIZ2 [.int .i64 x] (take_get hcZ hcell) rfl ?_
  refine Tri.free (low_Pick x 1000003 J' hz64 (by unfold In64; omega)) ?_
  rintro v _ _ hJ4 ⟨rfl, rfl⟩
  rw [hp] at hpx ⊢
  have hpl : p < 1000003 := by omega
  refine CodeF.stepD ?_
  refine Chk.mk (by decide) ?_
  refine ToD.to ((p / 5 : Nat) : Int) (quo_nat p 5 (by omega)) ?_
  refine Chk.mk (by decide) ?_
  refine ToD.to ((p / 5 % 4 : Nat) : Int) (tmod_nat (p / 5) 4) ?_
  refine ToD.to ((1 + p / 5 % 4 : Nat) : Int) (by show IntKind.i64.wrap (1 + ((p / 5 % 4 : Nat) : Int)) = _; rw [wrap_i64 (by omega) (by omega)]; omega) ?_
  obtain ⟨k, hk⟩ : ∃ k, k = 1 + p / 5 % 4 := ⟨_, rfl⟩
  have hk4 : 1 ≤ k ∧ k ≤ 4 := by omega
  rw [← hk]
  clear hk
  refine CodeF.join [1, 5, 6, 8, 9, 10, 11, 12] (fun vs J2 S' => ∃ (va vl vh : Value), WhI J2 bD bJ (16 * (i + 1)) (i + 2) va vl vh S' ∧ J'.le J2 ∧
      vs = [.slice (some ⟨bZ, oZ, none⟩) nZ capZ, .pointer (some ⟨bD, 0, none⟩), .pointer (some ⟨bJ, 0, none⟩), va, vl, vh, .int .i64 i, .int .i64 p]) ?_ ?_
  · refine CodeF.den ?_
    obtain ⟨t0, sq, j, d, ls, chD, chJ, l, aL, capL, chL, held, hw, hD, hj, hL, hlk, hheld, hb, rfl, rfl, rfl, rfl⟩ := hW
    refine Chk.mk (by decide) ?_
    refine ToD.to ((p % 5 : Nat) : Int) (tmod_nat p 5) ?_
    have hll := hlk.len
    have hus := hw.used
    have hgeu := usedP_ge ls
    refine CmpD.split (fun (c3 : ((p % 5 : Nat) : Int) = 0) => ?_) (fun (c3 : ¬ ((p % 5 : Nat) : Int) = 0) => ?_)
    · refine Tri.frame (jk_Flush hj hw.wf hD) [1, 0] rfl rfl ?_
      obtain ⟨hw2, e0, hsy, hh⟩ := hw.flush
      have hnx : (j.flush d).1.next = j.next := by rw [hw2.next, hw.next]
      generalize j.flush d = fl at *
      obtain ⟨j2, d2, e2⟩ := fl
      dsimp only at hw2 e0 hsy hh hnx ⊢
      subst e0
      rintro v J5 A' hJ5 ⟨rfl, chJ2, chD2, hj2, hD2, rfl⟩
      refine ⟨Nat.le_refl _, ?_⟩
      repeat (first
        | refine LoadD.own 0 rfl _ rfl rfl ?_
        | refine LoadD.own 1 rfl _ rfl rfl ?_
        | refine LoadD.own 2 rfl _ rfl rfl ?_
        | refine LoadP.at 0 rfl _ rfl rfl ?_
        | refine LoadP.at 1 rfl _ rfl rfl ?_
        | refine LoadP.at 2 rfl _ rfl rfl ?_
        | refine StoreD.st 0 rfl rfl rfl ?_
        | refine StoreD.st 1 rfl rfl rfl ?_
        | refine StoreD.st 2 rfl rfl rfl ?_
        | refine CmpD.yes rfl ?_
        | refine CmpD.yes (by decide) ?_
        | refine CmpD.no (by decide) ?_
        | refine Chk.mk ⟨rfl, trivial⟩ ?_
        | refine Chk.mk ⟨rfl, rfl, trivial⟩ ?_
        | refine Chk.mk ⟨rfl, rfl, rfl, trivial⟩ ?_
        | refine Chk.mk ⟨rfl, rfl, rfl, rfl, trivial⟩ ?_
        | refine Chk.mk ⟨rfl, rfl, rfl, rfl, rfl, trivial⟩ ?_
        | refine Chk.mk ⟨rfl, rfl, rfl, rfl, rfl, rfl, trivial⟩ ?_)
      refine CmpD.split (fun (c5 : (0 : Int) < (l.length : Nat)) => ?_) (fun (c5 : ¬ (0 : Int) < (l.length : Nat)) => ?_)
      rotate_left
      · exact ⟨_, Drop.refl _, _, _, _, ⟨t0, sq, j2, d2, ls, chD2, chJ2, l, aL, capL, chL, held, hw2.mono (by omega), hD2, hj2, hL, hlk.mono hJ5, by rw [hh]; exact hheld, by omega, rfl, rfl, rfl, rfl⟩, hJ5, rfl⟩
      have hlpos : 0 < l.length := by omega
      refine Chk.mk (by decide) ?_
      refine ToD.to ((p / 5 : Nat) : Int) (quo_nat p 5 (by omega)) ?_
      refine Chk.mk (by show ((l.length : Nat) : Int) ≠ 0; omega) ?_
      refine ToD.to ((p / 5 % l.length : Nat) : Int) (tmod_nat (p / 5) l.length) ?_
      have hml := Nat.mod_lt (p / 5) hlpos
      obtain ⟨m, hm⟩ : ∃ m, m = p / 5 % l.length := ⟨_, rfl⟩
      rw [← hm] at hml ⊢
      clear hm
      obtain ⟨g, hg⟩ : ∃ g, l[m]? = some g := ⟨_, List.getElem?_eq_getElem hml⟩
      obtain ⟨bL, oL, rfl, hcL⟩ := (hL.slC (I := J5) (S := [chD2, chJ2, chL]) 2 rfl).cells (by omega)
      refine Chk.mk (by omega) ?_
      refine LoadD.mk [.int .i64 g.e] (hcL.at (grpCells_f hg).1) ?_
      have hge := (hlk.each m g hg).1
      dsimp only
      rw [show ([Value.int .i64 g.e] : List Value) = [.int .i64 ((sq + m : Nat) : Int)] by rw [hge]]
      obtain ⟨hw3, e0, hh3⟩ := hw2.release (by rw [hsy, hnx]) m (by omega)
      refine Tri.frame1 1 rfl (jk_Release hj2 hw2.wf ((sq + m : Nat) : Int) J5) ?_
      rw [e0]
      rintro v _ A' hJ6 ⟨rfl, rfl, chJ3, hj3, rfl⟩
      refine ⟨_, rfl, ?_⟩
      repeat (first
        | refine LoadD.own 0 rfl _ rfl rfl ?_
        | refine LoadD.own 1 rfl _ rfl rfl ?_
        | refine LoadD.own 2 rfl _ rfl rfl ?_
        | refine LoadP.at 0 rfl _ rfl rfl ?_
        | refine LoadP.at 1 rfl _ rfl rfl ?_
        | refine LoadP.at 2 rfl _ rfl rfl ?_
        | refine StoreD.st 0 rfl rfl rfl ?_
        | refine StoreD.st 1 rfl rfl rfl ?_
        | refine StoreD.st 2 rfl rfl rfl ?_
        | refine CmpD.yes rfl ?_
        | refine CmpD.yes (by decide) ?_
        | refine CmpD.no (by decide) ?_
        | refine Chk.mk ⟨rfl, trivial⟩ ?_
        | refine Chk.mk ⟨rfl, rfl, trivial⟩ ?_
        | refine Chk.mk ⟨rfl, rfl, rfl, trivial⟩ ?_
        | refine Chk.mk ⟨rfl, rfl, rfl, rfl, trivial⟩ ?_
        | refine Chk.mk ⟨rfl, rfl, rfl, rfl, rfl, trivial⟩ ?_
        | refine Chk.mk ⟨rfl, rfl, rfl, rfl, rfl, rfl, trivial⟩ ?_)
      refine ToD.to (((m + 1 : Nat)) : Int) (by rw [wrap_i64 (by omega) (by omega)]; omega) ?_
      refine sliceD tabOk rfl rfl rfl rfl (m + 1) l.length capL ⟨_, rfl⟩ rfl rfl (.inl rfl) (by have := hL.le; omega) ?_
      have hLp := hL.part (m + 1) l.length (by omega) (Nat.le_refl _)
      rw [grpCells_cut l (m + 1) (by omega)] at hLp
      have hdl : (l.drop (m + 1)).length = l.length - (m + 1) := List.length_drop
      refine ⟨_, Drop.refl _, _, _, _, ⟨t0 + usedP (ls.take (m + 1)), sq + (m + 1), _, d2, ls.drop (m + 1), chD2, chJ3, l.drop (m + 1), _, capL - (m + 1), chL, held, hw3.mono (by omega), hD2, hj3, by rw [hdl]; exact hLp, (hlk.drop (m + 1)).mono hJ5, by rw [hh3, hh]; exact hheld, by rw [List.length_drop]; omega, rfl, rfl, rfl, rfl⟩, hJ5, ?_⟩
      rw [Nat.add_assoc t0, ← usedP_split, hdl]; rfl
    refine CmpD.split (fun (c4 : ((p % 5 : Nat) : Int) = 1) => ?_) (fun (c4 : ¬ ((p % 5 : Nat) : Int) = 1) => ?_)
    · refine Tri.frame1 1 rfl (jk_Reserve hj hw.wf (k : Int) J') ?_
      obtain ⟨hw2, hres, _⟩ := hw.reserve (k : Int) (by omega)
      generalize j.reserve (k : Int) = fl at *
      obtain ⟨j2, e2⟩ := fl
      dsimp only at hw2 hres ⊢
      rintro v _ A' hJ6 ⟨rfl, rfl, chJ2, hj2, rfl⟩
      refine ⟨_, rfl, ?_⟩
      rcases hres with ⟨rfl, hh⟩ | ⟨he, hh⟩
      · repeat (first
          | refine LoadD.own 0 rfl _ rfl rfl ?_
          | refine LoadD.own 1 rfl _ rfl rfl ?_
          | refine LoadD.own 2 rfl _ rfl rfl ?_
          | refine LoadP.at 0 rfl _ rfl rfl ?_
          | refine LoadP.at 1 rfl _ rfl rfl ?_
          | refine LoadP.at 2 rfl _ rfl rfl ?_
          | refine StoreD.st 0 rfl rfl rfl ?_
          | refine StoreD.st 1 rfl rfl rfl ?_
          | refine StoreD.st 2 rfl rfl rfl ?_
          | refine CmpD.yes rfl ?_
          | refine CmpD.yes (by decide) ?_
          | refine CmpD.no (by decide) ?_
          | refine Chk.mk ⟨rfl, trivial⟩ ?_
          | refine Chk.mk ⟨rfl, rfl, trivial⟩ ?_
          | refine Chk.mk ⟨rfl, rfl, rfl, trivial⟩ ?_
          | refine Chk.mk ⟨rfl, rfl, rfl, rfl, trivial⟩ ?_
          | refine Chk.mk ⟨rfl, rfl, rfl, rfl, rfl, trivial⟩ ?_
          | refine Chk.mk ⟨rfl, rfl, rfl, rfl, rfl, rfl, trivial⟩ ?_)
        exact ⟨_, Drop.refl _, _, _, _, ⟨t0, sq, j2, d, ls, chD, chJ2, l, aL, capL, chL, k, hw2.mono (by omega), hD, hj2, hL, hlk, .inr ⟨hk4.1, hk4.2, hh⟩, by omega, rfl, rfl, rfl, rfl⟩, Imm.le_refl _, rfl⟩
      · refine CmpD.no he ?_
        exact ⟨_, Drop.refl _, _, _, _, ⟨t0, sq, j2, d, ls, chD, chJ2, l, aL, capL, chL, held, hw2.mono (by omega), hD, hj2, hL, hlk, by rw [hh]; exact hheld, by omega, rfl, rfl, rfl, rfl⟩, Imm.le_refl _, rfl⟩
    refine Tri.free (row_of k (by omega) J') ?_
    rintro v J3 _ hJ3 ⟨aR, capR, rfl, hR⟩
    refine Tri.free (images_k k (by omega) aR capR p (by unfold In64; omega) J3 hR) ?_
    rintro v J4 _ hJ4 ⟨aI, capI, gs, rfl, hgl, hI, hgs⟩
    have hR1 := right_row (e := 1) (s := ((sq + ls.length : Nat) : Int)) (by omega) (by have := hw.pos; omega) k (by omega) p
    refine Chk.mk (by decide) ?_
    refine ToD.to ((p % 5 : Nat) : Int) (tmod_nat p 5) ?_
    refine CmpD.split (fun (c5 : ((p % 5 : Nat) : Int) = 2) => ?_) (fun (c5 : ¬ ((p % 5 : Nat) : Int) = 2) => ?_)
    · refine CmpD.split (fun (c6 : (0 : Int) < (held : Int)) => ?_) (fun (c6 : ¬ (0 : Int) < (held : Int)) => ?_)
      · skip
        have hh4 : 1 ≤ held ∧ held ≤ 4 ∧ (held : Int) + 1 ≤ j.h := by rcases hheld with h | h; omega; exact h
        clear hI hgs hgl hR1
        clear gs
        refine Tri.free (row_of held (by omega) J4) ?_
        rintro v J3' _ hJ3' ⟨aR2, capR2, rfl, hR2⟩
        refine Tri.free (images_k held (by omega) aR2 capR2 p (by unfold In64; omega) J3' hR2) ?_
        rintro v J4' _ hJ4' ⟨aI, capI, gs, rfl, hgl, hI, hgs⟩
        have hR1 := right_row (e := 1) (s := ((sq + ls.length : Nat) : Int)) (by omega) (by have := hw.pos; omega) held (by omega) p
        have hJ44 := Imm.le_trans hJ4 (Imm.le_trans hJ3' hJ4')
        refine Chk.mk (by decide) ?_
        refine ToD.to ((p % 5 : Nat) : Int) (tmod_nat p 5) ?_
        refine CmpD.yes c5 ?_
        refine CmpD.yes c6 ?_
        refine Tri.frame (by have := jk_Append hj hw.wf (hD.mono (Imm.le_trans hJ3 hJ44)) (hw.few.mono (by omega)) (by rw [hw.groups, grL_length]; omega) aI capI gs hI (by omega) true; rw [hgl] at this; exact this) [1, 0] rfl rfl ?_
        have happ := hw.append hR1 true (fun _ => by rw [imgsP_length, rowL_length]; exact hh4.2.2)
        rw [hgs]
        generalize j.appendB d (imgsP (rowL held) p 0) true = ap at *
        obtain ⟨j2, d2, sq2, e2⟩ := ap
        dsimp only at happ ⊢
        rintro v J5 A' hJ5 ⟨rfl, chJ2, chD2, hj2, hD2, rfl⟩
        refine ⟨Nat.le_refl _, ?_⟩
        have hle5 := Imm.le_trans hJ3 (Imm.le_trans hJ44 hJ5)
        repeat (first
          | refine LoadD.own 0 rfl _ rfl rfl ?_
          | refine LoadD.own 1 rfl _ rfl rfl ?_
          | refine LoadD.own 2 rfl _ rfl rfl ?_
          | refine LoadP.at 0 rfl _ rfl rfl ?_
          | refine LoadP.at 1 rfl _ rfl rfl ?_
          | refine LoadP.at 2 rfl _ rfl rfl ?_
          | refine StoreD.st 0 rfl rfl rfl ?_
          | refine StoreD.st 1 rfl rfl rfl ?_
          | refine StoreD.st 2 rfl rfl rfl ?_
          | refine CmpD.yes rfl ?_
          | refine CmpD.yes (by decide) ?_
          | refine CmpD.no (by decide) ?_
          | refine Chk.mk ⟨rfl, trivial⟩ ?_
          | refine Chk.mk ⟨rfl, rfl, trivial⟩ ?_
          | refine Chk.mk ⟨rfl, rfl, rfl, trivial⟩ ?_
          | refine Chk.mk ⟨rfl, rfl, rfl, rfl, trivial⟩ ?_
          | refine Chk.mk ⟨rfl, rfl, rfl, rfl, rfl, trivial⟩ ?_
          | refine Chk.mk ⟨rfl, rfl, rfl, rfl, rfl, rfl, trivial⟩ ?_)
        refine Chk.mk (by decide) ?_
        refine ToD.to ((p % 5 : Nat) : Int) (tmod_nat p 5) ?_
        refine CmpD.yes c5 ?_
        refine CmpD.yes c6 ?_
        rcases happ with ⟨hw2, rfl, rfl, hhh⟩ | ⟨hno, _⟩
        · repeat (first
            | refine LoadD.own 0 rfl _ rfl rfl ?_
            | refine LoadD.own 1 rfl _ rfl rfl ?_
            | refine LoadD.own 2 rfl _ rfl rfl ?_
            | refine LoadP.at 0 rfl _ rfl rfl ?_
            | refine LoadP.at 1 rfl _ rfl rfl ?_
            | refine LoadP.at 2 rfl _ rfl rfl ?_
            | refine StoreD.st 0 rfl rfl rfl ?_
            | refine StoreD.st 1 rfl rfl rfl ?_
            | refine StoreD.st 2 rfl rfl rfl ?_
            | refine CmpD.yes rfl ?_
            | refine CmpD.yes (by decide) ?_
            | refine CmpD.no (by decide) ?_
            | refine Chk.mk ⟨rfl, trivial⟩ ?_
            | refine Chk.mk ⟨rfl, rfl, trivial⟩ ?_
            | refine Chk.mk ⟨rfl, rfl, rfl, trivial⟩ ?_
            | refine Chk.mk ⟨rfl, rfl, rfl, rfl, trivial⟩ ?_
            | refine Chk.mk ⟨rfl, rfl, rfl, rfl, rfl, trivial⟩ ?_
            | refine Chk.mk ⟨rfl, rfl, rfl, rfl, rfl, rfl, trivial⟩ ?_)
          conv => whnf
          intro bN
          refine appendD tabOk rfl rfl rfl rfl rfl rfl rfl 2 rfl hL (SrcOk.slice (n := 1) (news := grpCells [⟨((sq + ls.length : Nat) : Int), (((t0 + usedP ls) % 16 : Nat) : Int), aI, capI, gs⟩]) tabOk rfl (by have := (OwnC.whole (b := bN) (len := 1) (size := 3) (vs := grpCells [⟨((sq + ls.length : Nat) : Int), (((t0 + usedP ls) % 16 : Nat) : Int), aI, capI, gs⟩]) (T := 96) rfl).slC (I := J5) (S := [chD2, chJ2, chL, [(bN, row (grpCells [⟨((sq + ls.length : Nat) : Int), (((t0 + usedP ls) % 16 : Nat) : Int), aI, capI, gs⟩]) 96)]]) 3 rfl; simp only [grpCells, List.flatMap_cons, List.flatMap_nil, List.append_nil, hgl] at this ⊢; exact this) (by intro v hv; simp [grpCells] at hv; rcases hv with rfl | rfl | rfl <;> rfl)) rfl (by show (l.length + 1) * 40 ≤ _; omega) (by omega) ?_
          intro a2 cap2 ch2 hO2
          refine ToD.to (((t0 + usedP ls) % 16 + held : Nat) : Int) (by rw [wrap_i64 (by omega) (by omega)]; omega) ?_
          refine ToD.to (((t0 + usedP ls) % 16 + held + 1 : Nat) : Int) (by rw [wrap_i64 (by omega) (by omega)]; omega) ?_
          refine Chk.mk (by decide) ?_
          refine ToD.to ((((t0 + usedP ls) % 16 + held + 1) % 16 : Nat) : Int) (tmod_nat ((t0 + usedP ls) % 16 + held + 1) 16) ?_
          have hsn := (hlk.mono hle5).snoc (g := ⟨((sq + ls.length : Nat) : Int), (((t0 + usedP ls) % 16 : Nat) : Int), aI, capI, gs⟩) rfl rfl (hI.mono hJ5)
          rw [hgs] at hsn
          refine ⟨_, Drop.pick [0, 1, 2] _ rfl, _, _, _, ⟨t0, sq, j2, d2, ls ++ [imgsP (rowL held) p 0], chD2, chJ2, l ++ [⟨((sq + ls.length : Nat) : Int), (((t0 + usedP ls) % 16 : Nat) : Int), aI, capI, gs⟩], a2, cap2, ch2, 0, hw2.mono (by omega), hD2, hj2, by rw [grpCells_append, List.length_append]; exact hO2, hsn, .inl rfl, by rw [List.length_append]; show sq + (ls.length + 1) ≤ _; omega, rfl, rfl, rfl, rfl⟩, hle5, ?_⟩
          rw [usedP_snoc, imgsP_length, rowL_length, show (t0 + (usedP ls + (held + 1))) % 16 = ((t0 + usedP ls) % 16 + held + 1) % 16 by omega, List.length_append]; rfl
        · simp at hno
      · skip
        refine Chk.mk (by decide) ?_
        refine ToD.to ((p % 5 : Nat) : Int) (tmod_nat p 5) ?_
        refine CmpD.yes c5 ?_
        refine CmpD.no c6 ?_
        refine Tri.frame (by have := jk_Append hj hw.wf (hD.mono (Imm.le_trans hJ3 hJ4)) (hw.few.mono (by omega)) (by rw [hw.groups, grL_length]; omega) aI capI gs hI (by omega) false; rw [hgl] at this; exact this) [1, 0] rfl rfl ?_
        have happ := hw.append hR1 false (fun h => by simp at h)
        rw [hgs]
        generalize j.appendB d (imgsP (rowL k) p 0) false = ap at *
        obtain ⟨j2, d2, sq2, e2⟩ := ap
        dsimp only at happ ⊢
        rintro v J5 A' hJ5 ⟨rfl, chJ2, chD2, hj2, hD2, rfl⟩
        refine ⟨Nat.le_refl _, ?_⟩
        have hle5 := Imm.le_trans hJ3 (Imm.le_trans hJ4 hJ5)
        repeat (first
          | refine LoadD.own 0 rfl _ rfl rfl ?_
          | refine LoadD.own 1 rfl _ rfl rfl ?_
          | refine LoadD.own 2 rfl _ rfl rfl ?_
          | refine LoadP.at 0 rfl _ rfl rfl ?_
          | refine LoadP.at 1 rfl _ rfl rfl ?_
          | refine LoadP.at 2 rfl _ rfl rfl ?_
          | refine StoreD.st 0 rfl rfl rfl ?_
          | refine StoreD.st 1 rfl rfl rfl ?_
          | refine StoreD.st 2 rfl rfl rfl ?_
          | refine CmpD.yes rfl ?_
          | refine CmpD.yes (by decide) ?_
          | refine CmpD.no (by decide) ?_
          | refine Chk.mk ⟨rfl, trivial⟩ ?_
          | refine Chk.mk ⟨rfl, rfl, trivial⟩ ?_
          | refine Chk.mk ⟨rfl, rfl, rfl, trivial⟩ ?_
          | refine Chk.mk ⟨rfl, rfl, rfl, rfl, trivial⟩ ?_
          | refine Chk.mk ⟨rfl, rfl, rfl, rfl, rfl, trivial⟩ ?_
          | refine Chk.mk ⟨rfl, rfl, rfl, rfl, rfl, rfl, trivial⟩ ?_)
        refine Chk.mk (by decide) ?_
        refine ToD.to ((p % 5 : Nat) : Int) (tmod_nat p 5) ?_
        refine CmpD.yes c5 ?_
        refine CmpD.no c6 ?_
        rcases happ with ⟨hw2, rfl, rfl, hhh⟩ | ⟨_, rfl, rfl, he⟩
        · repeat (first
            | refine LoadD.own 0 rfl _ rfl rfl ?_
            | refine LoadD.own 1 rfl _ rfl rfl ?_
            | refine LoadD.own 2 rfl _ rfl rfl ?_
            | refine LoadP.at 0 rfl _ rfl rfl ?_
            | refine LoadP.at 1 rfl _ rfl rfl ?_
            | refine LoadP.at 2 rfl _ rfl rfl ?_
            | refine StoreD.st 0 rfl rfl rfl ?_
            | refine StoreD.st 1 rfl rfl rfl ?_
            | refine StoreD.st 2 rfl rfl rfl ?_
            | refine CmpD.yes rfl ?_
            | refine CmpD.yes (by decide) ?_
            | refine CmpD.no (by decide) ?_
            | refine Chk.mk ⟨rfl, trivial⟩ ?_
            | refine Chk.mk ⟨rfl, rfl, trivial⟩ ?_
            | refine Chk.mk ⟨rfl, rfl, rfl, trivial⟩ ?_
            | refine Chk.mk ⟨rfl, rfl, rfl, rfl, trivial⟩ ?_
            | refine Chk.mk ⟨rfl, rfl, rfl, rfl, rfl, trivial⟩ ?_
            | refine Chk.mk ⟨rfl, rfl, rfl, rfl, rfl, rfl, trivial⟩ ?_)
          conv => whnf
          intro bN
          refine appendD tabOk rfl rfl rfl rfl rfl rfl rfl 2 rfl hL (SrcOk.slice (n := 1) (news := grpCells [⟨((sq + ls.length : Nat) : Int), (((t0 + usedP ls) % 16 : Nat) : Int), aI, capI, gs⟩]) tabOk rfl (by have := (OwnC.whole (b := bN) (len := 1) (size := 3) (vs := grpCells [⟨((sq + ls.length : Nat) : Int), (((t0 + usedP ls) % 16 : Nat) : Int), aI, capI, gs⟩]) (T := 96) rfl).slC (I := J5) (S := [chD2, chJ2, chL, [(bN, row (grpCells [⟨((sq + ls.length : Nat) : Int), (((t0 + usedP ls) % 16 : Nat) : Int), aI, capI, gs⟩]) 96)]]) 3 rfl; simp only [grpCells, List.flatMap_cons, List.flatMap_nil, List.append_nil, hgl] at this ⊢; exact this) (by intro v hv; simp [grpCells] at hv; rcases hv with rfl | rfl | rfl <;> rfl)) rfl (by show (l.length + 1) * 40 ≤ _; omega) (by omega) ?_
          intro a2 cap2 ch2 hO2
          refine ToD.to (((t0 + usedP ls) % 16 + k : Nat) : Int) (by rw [wrap_i64 (by omega) (by omega)]; omega) ?_
          refine ToD.to (((t0 + usedP ls) % 16 + k + 1 : Nat) : Int) (by rw [wrap_i64 (by omega) (by omega)]; omega) ?_
          refine Chk.mk (by decide) ?_
          refine ToD.to ((((t0 + usedP ls) % 16 + k + 1) % 16 : Nat) : Int) (tmod_nat ((t0 + usedP ls) % 16 + k + 1) 16) ?_
          have hsn := (hlk.mono hle5).snoc (g := ⟨((sq + ls.length : Nat) : Int), (((t0 + usedP ls) % 16 : Nat) : Int), aI, capI, gs⟩) rfl rfl (hI.mono hJ5)
          rw [hgs] at hsn
          refine ⟨_, Drop.pick [0, 1, 2] _ rfl, _, _, _, ⟨t0, sq, j2, d2, ls ++ [imgsP (rowL k) p 0], chD2, chJ2, l ++ [⟨((sq + ls.length : Nat) : Int), (((t0 + usedP ls) % 16 : Nat) : Int), aI, capI, gs⟩], a2, cap2, ch2, held, hw2.mono (by omega), hD2, hj2, by rw [grpCells_append, List.length_append]; exact hO2, hsn, by rw [hhh rfl]; exact hheld, by rw [List.length_append]; show sq + (ls.length + 1) ≤ _; omega, rfl, rfl, rfl, rfl⟩, hle5, ?_⟩
          rw [usedP_snoc, imgsP_length, rowL_length, show (t0 + (usedP ls + (k + 1))) % 16 = ((t0 + usedP ls) % 16 + k + 1) % 16 by omega, List.length_append]; rfl
        · refine CmpD.no he ?_
          exact ⟨_, Drop.refl _, _, _, _, ⟨t0, sq, j2, d2, ls, chD2, chJ2, l, aL, capL, chL, held, hw.mono (by omega), hD2, hj2, hL, hlk.mono hle5, hheld, by omega, rfl, rfl, rfl, rfl⟩, hle5, rfl⟩
    · skip
      refine Chk.mk (by decide) ?_
      refine ToD.to ((p % 5 : Nat) : Int) (tmod_nat p 5) ?_
      refine CmpD.no c5 ?_
      refine Tri.frame (by have := jk_Append hj hw.wf (hD.mono (Imm.le_trans hJ3 hJ4)) (hw.few.mono (by omega)) (by rw [hw.groups, grL_length]; omega) aI capI gs hI (by omega) false; rw [hgl] at this; exact this) [1, 0] rfl rfl ?_
      have happ := hw.append hR1 false (fun h => by simp at h)
      rw [hgs]
      generalize j.appendB d (imgsP (rowL k) p 0) false = ap at *
      obtain ⟨j2, d2, sq2, e2⟩ := ap
      dsimp only at happ ⊢
      rintro v J5 A' hJ5 ⟨rfl, chJ2, chD2, hj2, hD2, rfl⟩
      refine ⟨Nat.le_refl _, ?_⟩
      have hle5 := Imm.le_trans hJ3 (Imm.le_trans hJ4 hJ5)
      repeat (first
        | refine LoadD.own 0 rfl _ rfl rfl ?_
        | refine LoadD.own 1 rfl _ rfl rfl ?_
        | refine LoadD.own 2 rfl _ rfl rfl ?_
        | refine LoadP.at 0 rfl _ rfl rfl ?_
        | refine LoadP.at 1 rfl _ rfl rfl ?_
        | refine LoadP.at 2 rfl _ rfl rfl ?_
        | refine StoreD.st 0 rfl rfl rfl ?_
        | refine StoreD.st 1 rfl rfl rfl ?_
        | refine StoreD.st 2 rfl rfl rfl ?_
        | refine CmpD.yes rfl ?_
        | refine CmpD.yes (by decide) ?_
        | refine CmpD.no (by decide) ?_
        | refine Chk.mk ⟨rfl, trivial⟩ ?_
        | refine Chk.mk ⟨rfl, rfl, trivial⟩ ?_
        | refine Chk.mk ⟨rfl, rfl, rfl, trivial⟩ ?_
        | refine Chk.mk ⟨rfl, rfl, rfl, rfl, trivial⟩ ?_
        | refine Chk.mk ⟨rfl, rfl, rfl, rfl, rfl, trivial⟩ ?_
        | refine Chk.mk ⟨rfl, rfl, rfl, rfl, rfl, rfl, trivial⟩ ?_)
      refine Chk.mk (by decide) ?_
      refine ToD.to ((p % 5 : Nat) : Int) (tmod_nat p 5) ?_
      refine CmpD.no c5 ?_
      rcases happ with ⟨hw2, rfl, rfl, hhh⟩ | ⟨_, rfl, rfl, he⟩
      · repeat (first
          | refine LoadD.own 0 rfl _ rfl rfl ?_
          | refine LoadD.own 1 rfl _ rfl rfl ?_
          | refine LoadD.own 2 rfl _ rfl rfl ?_
          | refine LoadP.at 0 rfl _ rfl rfl ?_
          | refine LoadP.at 1 rfl _ rfl rfl ?_
          | refine LoadP.at 2 rfl _ rfl rfl ?_
          | refine StoreD.st 0 rfl rfl rfl ?_
          | refine StoreD.st 1 rfl rfl rfl ?_
          | refine StoreD.st 2 rfl rfl rfl ?_
          | refine CmpD.yes rfl ?_
          | refine CmpD.yes (by decide) ?_
          | refine CmpD.no (by decide) ?_
          | refine Chk.mk ⟨rfl, trivial⟩ ?_
          | refine Chk.mk ⟨rfl, rfl, trivial⟩ ?_
          | refine Chk.mk ⟨rfl, rfl, rfl, trivial⟩ ?_
          | refine Chk.mk ⟨rfl, rfl, rfl, rfl, trivial⟩ ?_
          | refine Chk.mk ⟨rfl, rfl, rfl, rfl, rfl, trivial⟩ ?_
          | refine Chk.mk ⟨rfl, rfl, rfl, rfl, rfl, rfl, trivial⟩ ?_)
        conv => whnf
        intro bN
        refine appendD tabOk rfl rfl rfl rfl rfl rfl rfl 2 rfl hL (SrcOk.slice (n := 1) (news := grpCells [⟨((sq + ls.length : Nat) : Int), (((t0 + usedP ls) % 16 : Nat) : Int), aI, capI, gs⟩]) tabOk rfl (by have := (OwnC.whole (b := bN) (len := 1) (size := 3) (vs := grpCells [⟨((sq + ls.length : Nat) : Int), (((t0 + usedP ls) % 16 : Nat) : Int), aI, capI, gs⟩]) (T := 96) rfl).slC (I := J5) (S := [chD2, chJ2, chL, [(bN, row (grpCells [⟨((sq + ls.length : Nat) : Int), (((t0 + usedP ls) % 16 : Nat) : Int), aI, capI, gs⟩]) 96)]]) 3 rfl; simp only [grpCells, List.flatMap_cons, List.flatMap_nil, List.append_nil, hgl] at this ⊢; exact this) (by intro v hv; simp [grpCells] at hv; rcases hv with rfl | rfl | rfl <;> rfl)) rfl (by show (l.length + 1) * 40 ≤ _; omega) (by omega) ?_
        intro a2 cap2 ch2 hO2
        refine ToD.to (((t0 + usedP ls) % 16 + k : Nat) : Int) (by rw [wrap_i64 (by omega) (by omega)]; omega) ?_
        refine ToD.to (((t0 + usedP ls) % 16 + k + 1 : Nat) : Int) (by rw [wrap_i64 (by omega) (by omega)]; omega) ?_
        refine Chk.mk (by decide) ?_
        refine ToD.to ((((t0 + usedP ls) % 16 + k + 1) % 16 : Nat) : Int) (tmod_nat ((t0 + usedP ls) % 16 + k + 1) 16) ?_
        have hsn := (hlk.mono hle5).snoc (g := ⟨((sq + ls.length : Nat) : Int), (((t0 + usedP ls) % 16 : Nat) : Int), aI, capI, gs⟩) rfl rfl (hI.mono hJ5)
        rw [hgs] at hsn
        refine ⟨_, Drop.pick [0, 1, 2] _ rfl, _, _, _, ⟨t0, sq, j2, d2, ls ++ [imgsP (rowL k) p 0], chD2, chJ2, l ++ [⟨((sq + ls.length : Nat) : Int), (((t0 + usedP ls) % 16 : Nat) : Int), aI, capI, gs⟩], a2, cap2, ch2, held, hw2.mono (by omega), hD2, hj2, by rw [grpCells_append, List.length_append]; exact hO2, hsn, by rw [hhh rfl]; exact hheld, by rw [List.length_append]; show sq + (ls.length + 1) ≤ _; omega, rfl, rfl, rfl, rfl⟩, hle5, ?_⟩
        rw [usedP_snoc, imgsP_length, rowL_length, show (t0 + (usedP ls + (k + 1))) % 16 = ((t0 + usedP ls) % 16 + k + 1) % 16 by omega, List.length_append]; rfl
      · refine CmpD.no he ?_
        exact ⟨_, Drop.refl _, _, _, _, ⟨t0, sq, j2, d2, ls, chD2, chJ2, l, aL, capL, chL, held, hw.mono (by omega), hD2, hj2, hL, hlk.mono hle5, hheld, by omega, rfl, rfl, rfl, rfl⟩, hle5, rfl⟩
  rintro vs gE2 J2 S2 hJ2 ⟨va, vl, vh, hW, hle2, rfl⟩
  refine CodeF.join [1, 5, 6, 8, 9, 10, 11] (fun vs J3 S' => ∃ (va vl vh : Value), WhI J3 bD bJ (16 * (i + 1)) (i + 2) va vl vh S' ∧ J2.le J3 ∧
      vs = [.slice (some ⟨bZ, oZ, none⟩) nZ capZ, .pointer (some ⟨bD, 0, none⟩), .pointer (some ⟨bJ, 0, none⟩), va, vl, vh, .int .i64 i]) ?_ ?_
  · refine CodeF.den ?_
    obtain ⟨t0, sq, j, d, ls, chD, chJ, l, aL, capL, chL, held, hw, hD, hj, hL, hlk, hheld, hb, rfl, rfl, rfl, rfl⟩ := hW
    refine Chk.mk (by decide) ?_
    refine ToD.to ((p % 5 : Nat) : Int) (tmod_nat p 5) ?_
    have same : ∃ S0, Drop [chD, chJ, chL] S0 ∧ ∃ (va vl vh : Value), WhI J2 bD bJ (16 * (i + 1)) (i + 2) va vl vh S0 ∧ J2.le J2 ∧
      [Value.slice (some ⟨bZ, oZ, none⟩) nZ capZ, .pointer (some ⟨bD, 0, none⟩), .pointer (some ⟨bJ, 0, none⟩), .int .i64 (((t0 + usedP ls) % 16 : Nat) : Int), .slice aL l.length capL, .int .i64 held, .int .i64 i] = [.slice (some ⟨bZ, oZ, none⟩) nZ capZ, .pointer (some ⟨bD, 0, none⟩), .pointer (some ⟨bJ, 0, none⟩), va, vl, vh, .int .i64 i] :=
      ⟨_, Drop.refl _, _, _, _, ⟨t0, sq, j, d, ls, chD, chJ, l, aL, capL, chL, held, hw, hD, hj, hL, hlk, hheld, hb, rfl, rfl, rfl, rfl⟩, Imm.le_refl _, rfl⟩
    refine CmpD.split (fun (c4 : ((p % 5 : Nat) : Int) = 1) => ?_) (fun (c4 : ¬ ((p % 5 : Nat) : Int) = 1) => ?_)
    rotate_left
    · exact same
    refine CmpD.split (fun (c6 : (0 : Int) < (held : Int)) => ?_) (fun (c6 : ¬ (0 : Int) < (held : Int)) => ?_)
    rotate_left
    · exact same
    have hh4 : 1 ≤ held ∧ held ≤ 4 := by rcases hheld with h | h <;> omega
    clear same hheld
    refine CodeF.loopD [1, 5, 6, 8, 9, 10, 11] (fun vs J3 S' => ∃ (j : JSt) (chJ : List Blk), WJ t0 sq j d ls (16 * (i + 1)) ∧ Jk bJ bD j chJ ∧ J2 = J3 ∧
        vs = [.slice (some ⟨bZ, oZ, none⟩) nZ capZ, .pointer (some ⟨bD, 0, none⟩), .pointer (some ⟨bJ, 0, none⟩), .int .i64 (((t0 + usedP ls) % 16 : Nat) : Int), .slice aL l.length capL, .int .i64 held, .int .i64 i] ∧ S' = [chD, chJ, chL])
      (fun _ _ S' => match S' with | [_, (_, .cells c _ _) :: _, _] => (match c[11]? with | some (Value.int _ h) => h.toNat | _ => 0) | _ => 0) ?_ ?_
    · exact ⟨_, Drop.refl _, j, chJ, hw, hj, rfl, rfl, rfl⟩
    clear hw hj
    rintro vs gE3 J3 S3 hJ3 ⟨j, chJ, hw, hj, rfl, rfl, rfl⟩
    refine Tri.frame1 1 rfl (jk_Cancel hj hw.wf (held : Int) J2) ?_
    obtain ⟨hw2, hres, _⟩ := hw.cancel (held : Int) (by omega)
    have hjo := hj
    generalize j.cancel (held : Int) = fl at *
    obtain ⟨j2, e2⟩ := fl
    dsimp only at hw2 hres ⊢
    rintro v _ A' hJ6 ⟨rfl, rfl, chJ2, hj2, rfl⟩
    refine ⟨_, rfl, ?_⟩
    rcases hres with ⟨rfl, hh, hh0⟩ | ⟨he, hh⟩
    · repeat (first
        | refine LoadD.own 0 rfl _ rfl rfl ?_
        | refine LoadD.own 1 rfl _ rfl rfl ?_
        | refine LoadD.own 2 rfl _ rfl rfl ?_
        | refine LoadP.at 0 rfl _ rfl rfl ?_
        | refine LoadP.at 1 rfl _ rfl rfl ?_
        | refine LoadP.at 2 rfl _ rfl rfl ?_
        | refine StoreD.st 0 rfl rfl rfl ?_
        | refine StoreD.st 1 rfl rfl rfl ?_
        | refine StoreD.st 2 rfl rfl rfl ?_
        | refine CmpD.yes rfl ?_
        | refine CmpD.yes (by decide) ?_
        | refine CmpD.no (by decide) ?_
        | refine Chk.mk ⟨rfl, trivial⟩ ?_
        | refine Chk.mk ⟨rfl, rfl, trivial⟩ ?_
        | refine Chk.mk ⟨rfl, rfl, rfl, trivial⟩ ?_
        | refine Chk.mk ⟨rfl, rfl, rfl, rfl, trivial⟩ ?_
        | refine Chk.mk ⟨rfl, rfl, rfl, rfl, rfl, trivial⟩ ?_
        | refine Chk.mk ⟨rfl, rfl, rfl, rfl, rfl, rfl, trivial⟩ ?_)
      refine ⟨_, Drop.refl _, ⟨j2, chJ2, hw2, hj2, rfl, rfl, rfl⟩, ?_⟩
      obtain ⟨g1, chG1, rfl, _⟩ := hjo
      obtain ⟨g2, chG2, rfl, _⟩ := hj2
      show j2.h.toNat < j.h.toNat
      omega
    refine CmpD.no he ?_
    refine Tri.frame1 1 rfl (jk_Reserve hj2 hw2.wf (held : Int) J2) ?_
    obtain ⟨hw3, hres, _⟩ := hw2.reserve (held : Int) (by omega)
    generalize j2.reserve (held : Int) = fl at *
    obtain ⟨j3, e3⟩ := fl
    dsimp only at hw3 hres ⊢
    rintro v _ A' hJ6 ⟨rfl, rfl, chJ3, hj3, rfl⟩
    refine ⟨_, rfl, ?_⟩
    rcases hres with ⟨rfl, hh⟩ | ⟨he, hh⟩
    · repeat (first
        | refine LoadD.own 0 rfl _ rfl rfl ?_
        | refine LoadD.own 1 rfl _ rfl rfl ?_
        | refine LoadD.own 2 rfl _ rfl rfl ?_
        | refine LoadP.at 0 rfl _ rfl rfl ?_
        | refine LoadP.at 1 rfl _ rfl rfl ?_
        | refine LoadP.at 2 rfl _ rfl rfl ?_
        | refine StoreD.st 0 rfl rfl rfl ?_
        | refine StoreD.st 1 rfl rfl rfl ?_
        | refine StoreD.st 2 rfl rfl rfl ?_
        | refine CmpD.yes rfl ?_
        | refine CmpD.yes (by decide) ?_
        | refine CmpD.no (by decide) ?_
        | refine Chk.mk ⟨rfl, trivial⟩ ?_
        | refine Chk.mk ⟨rfl, rfl, trivial⟩ ?_
        | refine Chk.mk ⟨rfl, rfl, rfl, trivial⟩ ?_
        | refine Chk.mk ⟨rfl, rfl, rfl, rfl, trivial⟩ ?_
        | refine Chk.mk ⟨rfl, rfl, rfl, rfl, rfl, trivial⟩ ?_
        | refine Chk.mk ⟨rfl, rfl, rfl, rfl, rfl, rfl, trivial⟩ ?_)
      exact ⟨_, Drop.refl _, _, _, _, ⟨t0, sq, j3, d, ls, chD, chJ3, l, aL, capL, chL, held, hw3, hD, hj3, hL, hlk, .inr ⟨hh4.1, hh4.2, hh⟩, hb, rfl, rfl, rfl, rfl⟩, Imm.le_refl _, rfl⟩
    · refine CmpD.no he ?_
      exact ⟨_, Drop.refl _, _, _, _, ⟨t0, sq, j3, d, ls, chD, chJ3, l, aL, capL, chL, 0, hw3, hD, hj3, hL, hlk, .inl rfl, hb, rfl, rfl, rfl, rfl⟩, Imm.le_refl _, rfl⟩
  clear hW
  rintro vs gE3 J3 S3 hJ3 ⟨va, vl, vh, hW, hle3, rfl⟩
  refine CodeF.den ?_
  obtain ⟨t0, sq, j, d, ls, chD, chJ, l, aL, capL, chL, held, hw, hD, hj, hL, hlk, hheld, hb, rfl, rfl, rfl, rfl⟩ := hW
  have hll := hlk.len
  have hus := hw.used
  have hgeu := usedP_ge ls
  refine CodeF.loopD [1, 5, 6, 8, 9, 10, 11, 18] (fun vs J4 S' => ∃ (m : Nat), m ≤ l.length ∧ J3.le J4 ∧
      vs = [.slice (some ⟨bZ, oZ, none⟩) nZ capZ, .pointer (some ⟨bD, 0, none⟩), .pointer (some ⟨bJ, 0, none⟩), .int .i64 (((t0 + usedP ls) % 16 : Nat) : Int), .slice aL l.length capL, .int .i64 held, .int .i64 i, .int .i64 m] ∧ S' = [chD, chJ, chL])
    (fun vs _ _ => match vs with | [_, _, _, _, _, _, _, .int _ m] => ((l.length : Int) - m).toNat | _ => 0) ?_ ?_
  · exact ⟨_, Drop.refl _, 0, by omega, Imm.le_refl _, rfl, rfl⟩
  rintro vs gE4 J4 S4 hJ4 ⟨m, hm, hle4, rfl, rfl⟩
  refine CmpD.split (fun (c7 : (m : Int) < (l.length : Nat)) => ?_) (fun (c7 : ¬ (m : Int) < (l.length : Nat)) => ?_)
  rotate_left
  · refine CodeF.den ?_
    refine ToD.to (((i + 1 : Nat)) : Int) (by rw [wrap_i64 (by omega) (by omega)]; omega) ?_
    refine ⟨_, Drop.refl _, ⟨i + 1, _, _, _, by omega, by omega, ⟨t0, sq, j, d, ls, chD, chJ, l, aL, capL, chL, held, hw, hD.mono hle4, hj, hL, hlk.mono hle4, hheld, hb, rfl, rfl, rfl, rfl⟩, ?_, rfl⟩, ?_⟩
    · exact Imm.le_trans hle1 (Imm.le_trans hle2 (Imm.le_trans hle3 hle4))
    · show ((nZ : Int) - ((i + 1 : Nat) : Int)).toNat < ((nZ : Int) - (i : Int)).toNat; omega
  have hml : m < l.length := by omega
  obtain ⟨g, hg⟩ : ∃ g, l[m]? = some g := ⟨_, List.getElem?_eq_getElem hml⟩
  obtain ⟨hge, hgs, hgi⟩ := hlk.each m g hg
  have hgp : g.gs.map Img.pr = ls[m]'(by omega) := by
    have := hlk.pr
    obtain ⟨q1, q2⟩ := List.getElem?_eq_some_iff.1 hg
    have e := congrArg (·[m]?) this
    simp only [List.getElem?_map] at e
    rw [hg, List.getElem?_eq_getElem (by omega)] at e
    exact Option.some.inj e
  have hgl : g.gs.length = (ls[m]'(by omega)).length := by rw [← hgp, List.length_map]
  have hRm := hw.right m (by omega)
  have hblk := hw.blk m (by omega)
  have hpl := putP_length 1 (sq + m) (ls[m]'(by omega))
  generalize ls[m]'(by omega) = lm at *
  have hlm := hRm.2.2.2.2.2.1
  obtain ⟨n, hn⟩ : ∃ n, n = lm.length := ⟨_, rfl⟩
  obtain ⟨at_, hat⟩ : ∃ a, a = (t0 + usedP (ls.take m)) % 16 := ⟨_, rfl⟩
  rw [← hat] at hgs hblk
  have hat16 : at_ < 16 := by omega
  have hf := grpCells_f hg
  obtain ⟨bL, oL, rfl, hcL⟩ : ∃ bL oL, aL = some ⟨bL, oL, none⟩ ∧ ∀ (I : Imm) (S : St) (k : Nat), S[k]? = some chL → Cells I S bL oL (l.length * 3) (grpCells l) := by
    rcases hL.at' with h0 | ⟨b, pre, post, T, ha, hc, hp⟩
    · have := hL.le; omega
    · refine ⟨b, pre.length, ha, fun I S k hS => ?_⟩
      obtain ⟨b', o', e, h⟩ := (hL.slC (I := I) (S := S) k hS).cells (by omega)
      rw [ha] at e
      cases e
      exact h
  refine CodeF.loopD [1, 5, 6, 8, 9, 10, 11, 18, 19, 20] (fun vs J5 S' => ∃ (b : Nat) (aS : Option Addr) (capS : Nat) (chS : List Blk) (bks : List Bk), b ≤ n + 1 ∧ OwnC chS 1 aS b capS (bks.map Bk.cell) ∧ bks.map Bk.data = (putP 1 (sq + m) lm).take b ∧ (∀ y ∈ bks, BkOk J5 y ∧ 4096 ≤ y.cap) ∧ J4.le J5 ∧
      vs = [.slice (some ⟨bZ, oZ, none⟩) nZ capZ, .pointer (some ⟨bD, 0, none⟩), .pointer (some ⟨bJ, 0, none⟩), .int .i64 (((t0 + usedP ls) % 16 : Nat) : Int), .slice (some ⟨bL, oL, none⟩) l.length capL, .int .i64 held, .int .i64 i, .int .i64 m, .slice aS b capS, .int .i64 b] ∧ S' = [chD, chJ, chL, chS])
    (fun vs _ _ => match vs with | [_, _, _, _, _, _, _, _, _, .int _ b] => ((n + 1 : Nat) + 1 - b : Int).toNat | _ => 0) ?_ ?_
  · exact ⟨_, Drop.and (Drop.refl _), 0, none, 0, [], [], by omega, OwnC.nil _ _, rfl, by simp, Imm.le_refl _, rfl, rfl⟩
  rintro vs gE5 J5 S5 hJ5 ⟨b, aS, capS, chS, bks, hb1, hS, hdat, hok, hle5, rfl, rfl⟩
  refine Chk.mk (by omega) ?_
  refine LoadD.mk [.slice g.a g.gs.length g.cap] ((hcL J5 [chD, chJ, chL, chS] 2 rfl).at hf.2.2) ?_
  refine CmpD.split (fun (c8 : (b : Int) ≤ (g.gs.length : Nat)) => ?_) (fun (c8 : ¬ (b : Int) ≤ (g.gs.length : Nat)) => ?_)
  · refine Chk.mk (by omega) ?_
    refine LoadD.mk [.int .i64 g.s] ((hcL J5 [chD, chJ, chL, chS] 2 rfl).at hf.2.1) ?_
    dsimp only
    rw [show ([Value.int .i64 g.s] : List Value) = [.int .i64 ((at_ : Nat) : Int)] by rw [hgs]]
    refine ToD.to (((at_ + b : Nat)) : Int) (by show IntKind.i64.wrap ((at_ : Int) + b) = _; rw [wrap_i64 (by omega) (by omega)]; omega) ?_
    refine Chk.mk (by decide) ?_
    refine ToD.to ((((at_ + b) % 16 : Nat)) : Int) (tmod_nat (at_ + b) 16) ?_
    refine ToD.to (((2 + (at_ + b) % 16 : Nat)) : Int) (by show IntKind.i64.wrap (2 + (((at_ + b) % 16 : Nat) : Int)) = _; rw [wrap_i64 (by omega) (by omega)]; omega) ?_
    refine Tri.frame1 0 rfl (dk_ReadK (hD.mono (Imm.le_trans hle4 hle5)) hw.calm.1 (2 + (at_ + b) % 16) (by rw [hw.len]; omega)) ?_
    rintro v J6 A' hJ6 ⟨bk, rfl, hbd, hbk, hbc, _, rfl⟩
    refine ⟨_, rfl, ?_⟩
    repeat (first
      | refine LoadD.own 0 rfl _ rfl rfl ?_
      | refine LoadD.own 1 rfl _ rfl rfl ?_
      | refine LoadD.own 2 rfl _ rfl rfl ?_
      | refine LoadD.own 3 rfl _ rfl rfl ?_
      | refine LoadP.at 0 rfl _ rfl rfl ?_
      | refine LoadP.at 1 rfl _ rfl rfl ?_
      | refine LoadP.at 2 rfl _ rfl rfl ?_
      | refine LoadP.at 3 rfl _ rfl rfl ?_
      | refine StoreD.st 0 rfl rfl rfl ?_
      | refine StoreD.st 1 rfl rfl rfl ?_
      | refine StoreD.st 2 rfl rfl rfl ?_
      | refine StoreD.st 3 rfl rfl rfl ?_
      | refine CmpD.yes rfl ?_
      | refine CmpD.yes (by decide) ?_
      | refine CmpD.no (by decide) ?_
      | refine Chk.mk ⟨rfl, trivial⟩ ?_
      | refine Chk.mk ⟨rfl, rfl, trivial⟩ ?_
      | refine Chk.mk ⟨rfl, rfl, rfl, trivial⟩ ?_
      | refine Chk.mk ⟨rfl, rfl, rfl, rfl, trivial⟩ ?_
      | refine Chk.mk ⟨rfl, rfl, rfl, rfl, rfl, trivial⟩ ?_
      | refine Chk.mk ⟨rfl, rfl, rfl, rfl, rfl, rfl, trivial⟩ ?_)
    conv => whnf
    intro bN
    refine appendD tabOk rfl rfl rfl rfl rfl rfl rfl 3 rfl hS (SrcOk.slice (n := 1) (news := [bk.cell]) tabOk rfl ((OwnC.whole (len := 1) (size := 1) rfl).slC 4 rfl) (by intro v hv; simp only [List.mem_singleton] at hv; subst hv; rfl)) rfl (by show (b + 1) * 24 ≤ _; omega) (by omega) ?_
    intro a2 cap2 ch2 hO2
    refine ToD.to (((b + 1 : Nat)) : Int) (by rw [wrap_i64 (by omega) (by omega)]; omega) ?_
    refine ⟨_, Drop.pick [0, 1, 2, 3] _ rfl, ⟨b + 1, a2, cap2, ch2, bks ++ [bk], by omega, by rw [List.map_append]; exact hO2, ?_, ?_, Imm.le_trans hle5 hJ6, rfl, rfl⟩, ?_⟩
    · rw [List.map_append, hdat, List.take_add_one, List.getElem?_eq_getElem (by rw [hpl]; omega), ← hblk b (by rw [hpl]; omega), ← hbd]; rfl
    · intro y hy
      rcases List.mem_append.1 hy with hy | hy
      · exact ⟨(hok y hy).1.mono hJ6, (hok y hy).2⟩
      · simp only [List.mem_singleton] at hy
        subst hy
        exact ⟨hbk, hbc⟩
    · show (((n + 1 : Nat) : Int) + 1 - ((b + 1 : Nat) : Int)).toNat < (((n + 1 : Nat) : Int) + 1 - (b : Int)).toNat; omega
  obtain rfl : b = n + 1 := by omega
  rw [List.take_of_length_le (by rw [hpl]; omega)] at hdat
  refine Tri.fix 3 (ch := chS) rfl fun I6 hI6 hIm => ?_
  have hget := record_Get I6 aS (n + 1) capS bks (by omega) (Rds.of_own hS hIm) hS.le (fun y hy => ⟨(hok y hy).1.mono hI6, (hok y hy).2⟩)
  rw [hdat, getP_put (by exact hRm)] at hget
  refine Tri.free hget ?_
  rintro v J7 _ hJ7 (⟨hno, _⟩ | ⟨e2, s2, l2, hso, aI, capI, gs2, rfl, hgs2, hgp2⟩)
  · simp at hno
  simp only [Option.some.injEq, Prod.mk.injEq] at hso
  obtain ⟨rfl, rfl, rfl⟩ := hso
  conv => whnf
  intro bG
  repeat (first
    | refine LoadD.own 0 rfl _ rfl rfl ?_
    | refine LoadD.own 1 rfl _ rfl rfl ?_
    | refine LoadD.own 2 rfl _ rfl rfl ?_
    | refine LoadD.own 3 rfl _ rfl rfl ?_
    | refine LoadD.own 4 rfl _ rfl rfl ?_
    | refine LoadP.at 0 rfl _ rfl rfl ?_
    | refine LoadP.at 1 rfl _ rfl rfl ?_
    | refine LoadP.at 2 rfl _ rfl rfl ?_
    | refine LoadP.at 3 rfl _ rfl rfl ?_
    | refine LoadP.at 4 rfl _ rfl rfl ?_
    | refine StoreD.st 0 rfl rfl rfl ?_
    | refine StoreD.st 1 rfl rfl rfl ?_
    | refine StoreD.st 2 rfl rfl rfl ?_
    | refine StoreD.st 3 rfl rfl rfl ?_
    | refine StoreD.st 4 rfl rfl rfl ?_
    | refine CmpD.yes rfl ?_
    | refine CmpD.yes (by decide) ?_
    | refine CmpD.no (by decide) ?_
    | refine Chk.mk ⟨rfl, trivial⟩ ?_
    | refine Chk.mk ⟨rfl, rfl, trivial⟩ ?_
    | refine Chk.mk ⟨rfl, rfl, rfl, trivial⟩ ?_
    | refine Chk.mk ⟨rfl, rfl, rfl, rfl, trivial⟩ ?_
    | refine Chk.mk ⟨rfl, rfl, rfl, rfl, rfl, trivial⟩ ?_
    | refine Chk.mk ⟨rfl, rfl, rfl, rfl, rfl, rfl, trivial⟩ ?_)
  refine CodeF.sched [[], [0], [0, 1], [0, 1, 2], [0, 1, 2, 3], [0, 1, 2, 3, 4], [0, 1, 2, 3, 4, 5], [0, 1, 2, 3, 4, 5, 6], [0, 1, 2, 3, 4, 5, 6, 7], [0, 1, 2, 3, 4, 5, 6, 7, 8], [0, 1, 2, 3, 4, 5, 6, 7], [0, 1, 2, 3, 4, 5, 6, 7], [0, 1, 2, 3, 4, 5, 6, 7, 10, 11], [0, 1, 2, 3, 4, 5, 6, 7, 10, 11, 12], [0, 1, 2, 3, 4, 5, 6, 7, 10, 11, 12, 13], [0, 1, 2, 3, 4, 5, 6, 7, 8, 9, 10, 11, 12, 13, 14], [0, 1, 2, 3, 4, 5, 6, 7, 8, 9, 10, 11, 12, 13, 14, 15], [0, 1, 2, 3, 4, 5, 6, 7, 8, 9, 10, 11, 12, 13, 14, 15, 16], [0, 1, 2, 3, 4, 5, 6, 7, 8, 9, 10, 11, 12, 13, 14, 15, 16, 17], [0, 1, 2, 3, 4, 5, 6, 7, 8, 9, 10, 11, 12, 13, 14, 15, 16, 17, 18], [0, 1, 2, 3, 4, 5, 6, 7, 8, 9, 10, 11, 12, 13, 14, 15, 16, 17], [0, 1, 2, 3, 4, 5, 6, 7, 8, 9, 10, 11, 12, 13, 14, 15, 16, 17], [0, 1, 2, 3, 4, 5, 6, 7, 8, 9, 10, 11, 12, 13, 14, 15, 16, 17, 20, 21], [0, 1, 2, 3, 4, 5, 6, 7, 8, 9, 10, 11, 12, 13, 14, 15, 16, 17, 20, 21, 22], [0, 1, 2, 3, 4, 5, 6, 7, 8, 9, 10, 11, 12, 13, 14, 15, 16, 17, 20, 21, 22, 23], [0, 1, 2, 3, 4, 5, 6, 7, 8, 9, 10, 11, 12, 13, 14, 15, 16, 17, 18, 19, 20, 21, 22, 23, 24], [0, 1, 2, 3, 4, 5, 6, 7, 8, 9, 10, 11, 12, 13, 14, 15, 16, 17, 18, 19, 20, 21, 22, 23, 24, 25], [0, 1, 2, 3, 4, 5, 6, 7, 8, 9, 10, 11, 12, 13, 14, 15, 16, 17, 18, 19, 20, 21, 22, 23, 24, 25, 26]] [0, 1, 2, 3, 4, 5, 6, 7, 8, 9, 10, 11, 12, 13, 14, 15, 16, 17, 18, 19, 20, 21, 22, 23, 24, 25, 26, 27] (by kernel_rfl) ?_
  repeat (first
    | refine LoadD.own 0 rfl _ rfl rfl ?_
    | refine LoadD.own 1 rfl _ rfl rfl ?_
    | refine LoadD.own 2 rfl _ rfl rfl ?_
    | refine LoadD.own 3 rfl _ rfl rfl ?_
    | refine LoadD.own 4 rfl _ rfl rfl ?_
    | refine LoadP.at 0 rfl _ rfl rfl ?_
    | refine LoadP.at 1 rfl _ rfl rfl ?_
    | refine LoadP.at 2 rfl _ rfl rfl ?_
    | refine LoadP.at 3 rfl _ rfl rfl ?_
    | refine LoadP.at 4 rfl _ rfl rfl ?_
    | refine StoreD.st 0 rfl rfl rfl ?_
    | refine StoreD.st 1 rfl rfl rfl ?_
    | refine StoreD.st 2 rfl rfl rfl ?_
    | refine StoreD.st 3 rfl rfl rfl ?_
    | refine StoreD.st 4 rfl rfl rfl ?_
    | refine CmpD.yes rfl ?_
    | refine CmpD.yes (by decide) ?_
    | refine CmpD.no (by decide) ?_
    | refine Chk.mk ⟨rfl, trivial⟩ ?_
    | refine Chk.mk ⟨rfl, rfl, trivial⟩ ?_
    | refine Chk.mk ⟨rfl, rfl, rfl, trivial⟩ ?_
    | refine Chk.mk ⟨rfl, rfl, rfl, rfl, trivial⟩ ?_
    | refine Chk.mk ⟨rfl, rfl, rfl, rfl, rfl, trivial⟩ ?_
    | refine Chk.mk ⟨rfl, rfl, rfl, rfl, rfl, rfl, trivial⟩ ?_)
  refine Chk.mk (by omega) ?_
  refine LoadP.own 2 [.int .i64 g.e] ((hcL J7 [chL] 0 rfl).at hf.1) ?_
  dsimp only
  rw [show ([Value.int .i64 g.e] : List Value) = [.int .i64 ((sq + m : Nat) : Int)] by rw [hge]]
  repeat (first
    | refine LoadD.own 0 rfl _ rfl rfl ?_
    | refine LoadD.own 1 rfl _ rfl rfl ?_
    | refine LoadD.own 2 rfl _ rfl rfl ?_
    | refine LoadD.own 3 rfl _ rfl rfl ?_
    | refine LoadD.own 4 rfl _ rfl rfl ?_
    | refine LoadP.at 0 rfl _ rfl rfl ?_
    | refine LoadP.at 1 rfl _ rfl rfl ?_
    | refine LoadP.at 2 rfl _ rfl rfl ?_
    | refine LoadP.at 3 rfl _ rfl rfl ?_
    | refine LoadP.at 4 rfl _ rfl rfl ?_
    | refine StoreD.st 0 rfl rfl rfl ?_
    | refine StoreD.st 1 rfl rfl rfl ?_
    | refine StoreD.st 2 rfl rfl rfl ?_
    | refine StoreD.st 3 rfl rfl rfl ?_
    | refine StoreD.st 4 rfl rfl rfl ?_
    | refine CmpD.yes rfl ?_
    | refine CmpD.yes (by decide) ?_
    | refine CmpD.no (by decide) ?_
    | refine Chk.mk ⟨rfl, trivial⟩ ?_
    | refine Chk.mk ⟨rfl, rfl, trivial⟩ ?_
    | refine Chk.mk ⟨rfl, rfl, rfl, trivial⟩ ?_
    | refine Chk.mk ⟨rfl, rfl, rfl, rfl, trivial⟩ ?_
    | refine Chk.mk ⟨rfl, rfl, rfl, rfl, rfl, trivial⟩ ?_
    | refine Chk.mk ⟨rfl, rfl, rfl, rfl, rfl, rfl, trivial⟩ ?_)
  refine Chk.mk (by omega) ?_
  refine LoadP.own 2 [.slice g.a g.gs.length g.cap] ((hcL J7 [chL] 0 rfl).at hf.2.2) ?_
  repeat (first
    | refine LoadD.own 0 rfl _ rfl rfl ?_
    | refine LoadD.own 1 rfl _ rfl rfl ?_
    | refine LoadD.own 2 rfl _ rfl rfl ?_
    | refine LoadD.own 3 rfl _ rfl rfl ?_
    | refine LoadD.own 4 rfl _ rfl rfl ?_
    | refine LoadP.at 0 rfl _ rfl rfl ?_
    | refine LoadP.at 1 rfl _ rfl rfl ?_
    | refine LoadP.at 2 rfl _ rfl rfl ?_
    | refine LoadP.at 3 rfl _ rfl rfl ?_
    | refine LoadP.at 4 rfl _ rfl rfl ?_
    | refine StoreD.st 0 rfl rfl rfl ?_
    | refine StoreD.st 1 rfl rfl rfl ?_
    | refine StoreD.st 2 rfl rfl rfl ?_
    | refine StoreD.st 3 rfl rfl rfl ?_
    | refine StoreD.st 4 rfl rfl rfl ?_
    | refine CmpD.yes rfl ?_
    | refine CmpD.yes (by decide) ?_
    | refine CmpD.no (by decide) ?_
    | refine Chk.mk ⟨rfl, trivial⟩ ?_
    | refine Chk.mk ⟨rfl, rfl, trivial⟩ ?_
    | refine Chk.mk ⟨rfl, rfl, rfl, trivial⟩ ?_
    | refine Chk.mk ⟨rfl, rfl, rfl, rfl, trivial⟩ ?_
    | refine Chk.mk ⟨rfl, rfl, rfl, rfl, rfl, trivial⟩ ?_
    | refine Chk.mk ⟨rfl, rfl, rfl, rfl, rfl, rfl, trivial⟩ ?_)
  have w1 : ImgsR J7 [chD, chJ, chL, [], [(bG, row [.int .i64 ((1 : Nat) : Int), .int .i64 ((sq + m : Nat) : Int), .slice aI gs2.length capI] 69)]] aI gs2 := ⟨hgs2.1.slC, fun g hg => ⟨(hgs2.2 g hg).2.slC⟩⟩
  have hgi7 := hgi.mono (Imm.le_trans hle4 (Imm.le_trans hle5 (Imm.le_trans hI6 hJ7)))
  have w2 : ImgsR J7 [chD, chJ, chL, [], [(bG, row [.int .i64 ((1 : Nat) : Int), .int .i64 ((sq + m : Nat) : Int), .slice aI gs2.length capI] 69)]] g.a g.gs := ⟨hgi7.1.slC, fun g hg => ⟨(hgi7.2 g hg).2.slC⟩⟩
  have hgl2 : gs2.length = lm.length := by rw [← hgp2, List.length_map]
  refine Tri.mono (same_imgs w1 w2 (by omega)) ?_
  rintro v _ _ hJ8 ⟨rfl, rfl, rfl⟩
  rw [decide_eq_true (by rw [hgp2, hgp])]
  refine ToD.to (((m + 1 : Nat)) : Int) (by rw [wrap_i64 (by omega) (by omega)]; omega) ?_
  refine ⟨_, Drop.pick [0, 1, 2] _ rfl, ⟨m + 1, by omega, Imm.le_trans hle4 (Imm.le_trans hle5 (Imm.le_trans hI6 hJ7)), rfl, rfl⟩, ?_⟩
  show ((l.length : Int) - ((m + 1 : Nat) : Int)).toNat < ((l.length : Int) - (m : Int)).toNat; omega
end Go.Proofs.Ytbpdbgcndfcilaa

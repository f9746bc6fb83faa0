/- 'RingPlaces' returns true: places that are taken are never handed out again. No condition. -/
import Derived.Test.YthlcdoabjgdpiaaRingAwake
import Derived.Test.YthlcdoabjgdpiaaLowPick
namespace Go.Proofs.Ythlcdoabjgdpiaa
open Go.RowKit Go.Sl

/-- the places taken, the oldest first -/
def places (t : Int) (u : Nat) (s : Int) : List Int := (List.range u).map fun (j : Nat) => (t + (j : Int)) % s
theorem places_length (t : Int) (u : Nat) (s : Int) : (places t u s).length = u := by simp [places]
theorem places_get {t s : Int} {u j : Nat} (h : j < u) : (places t u s)[j]? = some ((t + j) % s) := by simp [places, h]
theorem places_drop (t s : Int) (u n : Nat) (hn : n ≤ u) : (places t u s).drop n = places ((t + n) % s) (u - n) s := by
  apply List.ext_getElem?
  intro i
  rw [List.getElem?_drop]
  by_cases hi : i < u - n
  · rw [places_get (show n + i < u by omega), places_get hi, Int.emod_add_emod]
    congr 2; omega
  · rw [List.getElem?_eq_none (by rw [places_length]; omega), List.getElem?_eq_none (by rw [places_length]; omega)]
theorem places_snoc (t s : Int) (u : Nat) : places t (u + 1) s = places t u s ++ [(t + u) % s] := by
  simp [places, List.range_succ]
theorem places_ne {t s : Int} {q w : Nat} (h : q < w) (hw : (w : Int) < s) : (t + q) % s ≠ (t + w) % s := by
  intro e
  have h1 := Int.emod_eq_emod_iff_emod_sub_eq_zero.1 e.symm
  have h2 : t + (w : Int) - (t + q) = (w : Int) - q := by omega
  rw [h2, Int.emod_eq_of_lt (by omega) (by omega)] at h1
  omega
theorem mapi {l : List Int} {j : Nat} {x : Int} (h : l[j]? = some x) : (l.map (Value.int .i64))[j]? = some (.int .i64 x) := by simp [h]
theorem own_take (pre vs post : List Value) : ((pre ++ vs ++ post).drop pre.length).take vs.length = vs := by
  rw [List.append_assoc, List.drop_left, List.take_left]
theorem plain_ints (l : List Int) : ∀ v ∈ l.map (Value.int .i64), Plain v = true := by
  intro v hv
  obtain ⟨z, _, rfl⟩ := List.mem_map.1 hv
  rfl

set_option maxHeartbeats 4000000 in
set_option maxRecDepth 20000 in
theorem ringPlaces_walk (n1 : Int) (hn1 : In64 n1) (n2 : Int) (hn2 : In64 n2) (a2 : Option Addr) (len2 cap2 : Nat) (z2 : List Int) (hz2 : z2.length = len2) (I : Imm) (hm2 : Rds I a2 len2 (z2.map (Value.int .i64))) (hw2 : ∀ z ∈ z2, (Lit.int .i64 z).wf = true) :
    Tri Try.prog 3 #[.int .i64 n1, .int .i64 n2, .slice a2 len2 cap2] I [] fun v _ _ => v = .bool true := by
  refine Tri.of (args := [.int .i64 n1, .int .i64 n2, .slice a2 len2 cap2]) tabOk Try.func3 rfl (by kernel_rfl) (by kernel_rfl) ?_
  refine Tri.free (low_Pick n1 40 I hn1 (by unfold In64; omega)) ?_
  rintro v J _ hJ ⟨rfl, rfl⟩
  have hr1 := pickS_range (n := n1) (m := 40) (by omega)
  refine ToD.i64 (by omega) (by omega) ?_
  obtain ⟨s, hs⟩ : ∃ s, s = 1 + pickS n1 40 := ⟨_, rfl⟩
  rw [← hs]
  have hs1 : 1 ≤ s ∧ s ≤ 40 := by omega
  clear hs hr1
  refine Tri.free (low_Pick n2 s I hn2 (by unfold In64; omega)) ?_
  rintro v J _ hJ ⟨rfl, rfl⟩
  have hr2 := pickS_range (n := n2) (m := s) (by omega)
  obtain ⟨t0, ht0⟩ : ∃ t0, t0 = pickS n2 s := ⟨_, rfl⟩
  rw [← ht0] at hr2 ⊢
  clear ht0
  have i64 : ∀ n : Int, -100000000 ≤ n ∧ n ≤ 100000000 → In64 n := fun n h => by unfold In64; omega
  conv => whnf
  intro b7
  refine StoreD.st 0 rfl rfl rfl ?_
  refine CodeF.loopD [0, 2, 7, 8, 9, 10] (fun vs J S' => ∃ (t h : Int) (u : Nat) (a : Option Addr) (cap : Nat) (ch : List Blk) (i : Nat), Ok s t u h ∧ OwnC ch 1 a u cap ((places t u s).map (Value.int .i64)) ∧ i ≤ 100 ∧
      vs = [.int .i64 s, .slice a2 len2 cap2, .pointer (some ⟨b7, 0, none⟩), .slice a u cap, .int .i64 h, .int .i64 i] ∧ I = J ∧ S' = [[(b7, row [.int .i64 s, .int .i64 t, .int .i64 u, .int .i64 h] 25)], ch])
    (fun vs _ _ => match vs with | [_, _, _, _, _, .int _ i] => (100 - i).toNat | _ => 0) ?_ ?_
  · refine ⟨_, Drop.and (Drop.refl _), t0, 0, 0, none, 0, [], 0, ⟨by omega, by omega, by omega, by omega, by omega, by omega, by omega⟩, OwnC.nil _ _, by omega, rfl, rfl, rfl⟩
  rintro vs g J S' hJ ⟨t, h, u, a, cap, ch, i, hok, hown, hi, rfl, rfl, rfl⟩
  have hok' := hok
  unfold Ok at hok'
  have hts : In64 t := by unfold In64; omega
  have hus : In64 (u : Int) := by unfold In64; omega
  have hhs : In64 h := by unfold In64; omega
  have hss : In64 s := by unfold In64; omega
  refine CmpD.split (fun c1 => ?_) (fun c1 => ?_)
  rotate_left
  · refine Tri.free (ring_awake _) ?_
    rintro v J _ hJ ⟨rfl, rfl⟩
    exact Done.mk rfl
  refine CmpD.split (fun c2 => ?_) (fun c2 => ?_)
  rotate_left
  · refine Tri.free (ring_awake _) ?_
    rintro v J _ hJ ⟨rfl, rfl⟩
    exact Done.mk rfl
  rcases hm2.mem with h0 | ⟨bS, oS, cS, TS, fS, rfl, hIS, hcS⟩
  · omega
  refine Chk.mk (by omega) ?_
  have hil : i < z2.length := by omega
  refine LoadD.imm hIS [.int .i64 z2[i]] (take_get hcS (mapi (List.getElem?_eq_getElem hil))) rfl ?_
  refine Tri.free (low_Pick _ 1000003 _ (int_of_wf (hw2 _ (List.getElem_mem hil))) (by unfold In64; omega)) ?_
  rintro v J _ hJ ⟨rfl, rfl⟩
  have hrp := pickS_range (n := z2[i]) (m := 1000003) (by omega)
  obtain ⟨p, hp⟩ : ∃ p, p = pickS z2[i] 1000003 := ⟨_, rfl⟩
  rw [← hp] at hrp ⊢
  clear hp
  refine Chk.mk (by omega) ?_
  refine ToD.quo (by omega) (by omega) (by omega) ?_
  refine ToD.i64 (by omega) (by omega) ?_
  refine Chk.mk (by omega) ?_
  refine ToD.rem (by omega) ?_
  obtain ⟨n, hn⟩ : ∃ n, n = p / 4 % (s + 1) := ⟨_, rfl⟩
  have hn0 : 0 ≤ n ∧ n ≤ s := by
    have h1 := Int.emod_nonneg (p / 4) (show s + 1 ≠ 0 by omega)
    have h2 := Int.emod_lt_of_pos (p / 4) (show 0 < s + 1 by omega)
    omega
  rw [← hn]
  clear hn
  conv => whnf
  intro b13
  refine Chk.mk (by omega) ?_
  refine ToD.rem (by omega) ?_
  have hno : ¬(¬ Ok s t u h ∨ n < 0) := by rintro (q | q); exact q hok; omega
  refine CmpD.split (fun c3 => ?_) (fun c3 => ?_)
  · -- Reserve
    refine LoadD.own 0 rfl _ rfl rfl ?_
    refine Tri.free (ring_Reserve s t u h n _ hss hts hus hhs (i64 _ (by omega))) ?_
    rintro v J _ hJ ⟨⟨ra, rb, rc, rd, re, rfl, h1⟩, rfl⟩
    by_cases hfit : s - u - h < n
    · rw [reserveS, if_neg hno, if_pos hfit] at h1
      simp only [Prod.mk.injEq] at h1
      obtain ⟨rfl, rfl, rfl, rfl, rfl⟩ := h1
      refine StoreD.st 2 rfl rfl rfl ?_
      refine CmpD.no (by omega) ?_
      refine ToD.i64 (by omega) (by omega) ?_
      refine ToD.i64 (by omega) (by omega) ?_
      refine CmpD.no (by omega) ?_
      refine CmpD.no (by omega) ?_
      refine CmpD.no (by omega) ?_
      refine LoadD.own 0 rfl _ rfl rfl ?_
      refine Tri.free (ring_Right s (t) (u) (h) _ hss (i64 _ (by omega)) (i64 _ (by omega)) (i64 _ (by omega))) ?_
      rintro v J _ hJ ⟨rb, rfl, hrb, rfl⟩
      cases rb
      case false => exact absurd (hrb.2 hok) (by simp)
      refine LoadD.own 0 rfl _ rfl rfl ?_
      refine CmpD.yes (by omega) ?_
      refine LoadD.own 0 rfl _ rfl rfl ?_
      refine CmpD.yes (by omega) ?_
      refine LoadD.own 0 rfl _ rfl rfl ?_
      refine Tri.free (ring_Free s (t) (u) (h) _ hss (i64 _ (by omega)) (i64 _ (by omega)) (i64 _ (by omega))) ?_
      rintro v J _ hJ ⟨rfl, rfl⟩
      rw [if_pos hok]
      refine ToD.i64 (by omega) (by omega) ?_
      refine ToD.i64 (by omega) (by omega) ?_
      refine CmpD.yes (by omega) ?_
      refine ToD.i64 (by omega) (by omega) ?_
      refine ⟨_, Drop.pick [0, 1] _ rfl, ⟨t, h, u, a, cap, ch, i + 1, hok, hown, by omega, rfl, rfl, rfl⟩, ?_⟩
      show (100 - ((i : Int) + 1)).toNat < (100 - (i : Int)).toNat
      omega
    · rw [reserveS, if_neg hno, if_neg hfit] at h1
      simp only [Prod.mk.injEq] at h1
      obtain ⟨rfl, rfl, rfl, rfl, rfl⟩ := h1
      refine StoreD.st 2 rfl rfl rfl ?_
      refine CmpD.yes rfl ?_
      refine ToD.i64 (by omega) (by omega) ?_
      refine ToD.i64 (by omega) (by omega) ?_
      refine CmpD.yes (by omega) ?_
      refine CmpD.yes rfl ?_
      refine ToD.i64 (by omega) (by omega) ?_
      have hok2 : Ok s t u (h + n) := by unfold Ok; omega
      refine CmpD.yes rfl ?_
      refine LoadD.own 2 rfl _ rfl rfl ?_
      refine StoreD.st 0 rfl rfl rfl ?_
      refine LoadD.own 0 rfl _ rfl rfl ?_
      refine Tri.free (ring_Right s (t) (u) (h + n) _ hss (i64 _ (by omega)) (i64 _ (by omega)) (i64 _ (by omega))) ?_
      rintro v J _ hJ ⟨rb, rfl, hrb, rfl⟩
      cases rb
      case false => exact absurd (hrb.2 hok2) (by simp)
      refine LoadD.own 0 rfl _ rfl rfl ?_
      refine CmpD.yes (by omega) ?_
      refine LoadD.own 0 rfl _ rfl rfl ?_
      refine CmpD.yes (by omega) ?_
      refine LoadD.own 0 rfl _ rfl rfl ?_
      refine Tri.free (ring_Free s (t) (u) (h + n) _ hss (i64 _ (by omega)) (i64 _ (by omega)) (i64 _ (by omega))) ?_
      rintro v J _ hJ ⟨rfl, rfl⟩
      rw [if_pos hok2]
      refine ToD.i64 (by omega) (by omega) ?_
      refine ToD.i64 (by omega) (by omega) ?_
      refine CmpD.yes (by omega) ?_
      refine ToD.i64 (by omega) (by omega) ?_
      refine ⟨_, Drop.pick [0, 1] _ rfl, ⟨t, h + n, u, a, cap, ch, i + 1, hok2, hown, by omega, rfl, rfl, rfl⟩, ?_⟩
      show (100 - ((i : Int) + 1)).toNat < (100 - (i : Int)).toNat
      omega
  · refine CmpD.split (fun c4 => ?_) (fun c4 => ?_)
    · -- Drop
      obtain ⟨m, hmm, hmu⟩ : ∃ m : Nat, (if (u : Int) < n then (u : Int) else n) = m ∧ m ≤ u := ⟨(if (u : Int) < n then (u : Int) else n).toNat, by split <;> omega, by split <;> omega⟩
      refine ToD.to (m : Int) hmm ?_
      clear hmm
      have hul := hown.le
      refine CodeF.loopD [0, 2, 7, 8, 9, 10, 12, 13, 15] (fun vs J S' => ∃ j : Nat, j ≤ m ∧
          vs = [.int .i64 s, .slice (some ⟨bS, oS, none⟩) len2 cap2, .pointer (some ⟨b7, 0, none⟩), .slice a u cap, .int .i64 h, .int .i64 i, .int .i64 m, .pointer (some ⟨b13, 0, none⟩), .int .i64 j] ∧ I = J ∧
          S' = [[(b7, row [.int .i64 s, .int .i64 t, .int .i64 u, .int .i64 h] 25)], ch, [(b13, row [.int .i64 0, .int .i64 0, .int .i64 0, .int .i64 0] 25)]])
        (fun vs _ _ => match vs with | [_, _, _, _, _, _, _, _, .int _ j] => (m - j).toNat | _ => 0) ?_ ?_
      · exact ⟨_, Drop.refl _, 0, by omega, rfl, rfl, rfl⟩
      rintro vs g J S' hJ ⟨j, hj, rfl, rfl, rfl⟩
      refine CmpD.split (fun c5 => ?_) (fun c5 => ?_)
      · refine LoadD.own 0 rfl _ rfl rfl ?_
        refine Tri.free (ring_At s t u h j _ hss hts hus hhs (i64 _ (by omega))) ?_
        rintro v J _ hJ ⟨x, e, rfl, h1, rfl⟩
        rw [atS, if_neg (by rintro (q | q); exact q hok; omega)] at h1
        simp only [Prod.mk.injEq] at h1
        obtain ⟨rfl, rfl⟩ := h1
        refine CmpD.yes rfl ?_
        rcases hown.at' with q0 | ⟨bL, pre, post, TL, rfl, rfl, hpl⟩
        · omega
        refine Chk.mk (by omega) ?_
        refine LoadD.own 1 rfl [.int .i64 ((t + j) % s)] (take_get (own_take _ _ _) (mapi (places_get (by omega)))) rfl ?_
        refine CmpD.yes rfl ?_
        refine ToD.i64 (by omega) (by omega) ?_
        refine ⟨_, Drop.pick [0, 1, 2] _ rfl, ⟨j + 1, by omega, rfl, rfl, rfl⟩, ?_⟩
        show ((m : Int) - ((j : Int) + 1)).toNat < ((m : Int) - (j : Int)).toNat
        omega
      have hd : dropS s t u h m = (s, (t + m) % s, ((u - m : Nat) : Int), h, 0) := by
        rw [dropS, if_neg (by rintro (q | q); exact q hok; omega)]
        have : (u : Int) - m = ((u - m : Nat) : Int) := by omega
        rw [this]
      refine LoadD.own 0 rfl _ rfl rfl ?_
      refine Tri.free (ring_Drop s t u h m _ hss hts hus hhs (i64 _ (by omega))) ?_
      rintro v J _ hJ ⟨⟨ra, rb, rc, rd, re, rfl, h1⟩, rfl⟩
      rw [hd] at h1
      simp only [Prod.mk.injEq] at h1
      obtain ⟨rfl, rfl, rfl, rfl, rfl⟩ := h1
      refine StoreD.st 2 rfl rfl rfl ?_
      refine sliceD tabOk rfl rfl rfl rfl m u cap ⟨_, rfl⟩ rfl rfl (.inl rfl) (by omega) ?_
      refine CmpD.yes rfl ?_
      have ht2 := Int.emod_nonneg (t + m) (show s ≠ 0 by omega)
      have ht3 := Int.emod_lt_of_pos (t + m) (show 0 < s by omega)
      have hok2 : Ok s ((t + m) % s) ((u - m : Nat) : Int) h := by unfold Ok; omega
      have hown2 : OwnC ch 1 (slAddr a m cap 1) (u - m) (cap - m) ((places ((t + m) % s) (u - m) s).map (Value.int .i64)) := by
        have := hown.part m u (by omega) (by omega)
        rw [Nat.mul_one, Nat.mul_one, ← List.map_drop, places_drop _ _ _ _ (by omega), List.take_of_length_le (by simp [places_length])] at this
        exact this
      refine CmpD.yes rfl ?_
      refine LoadD.own 2 rfl _ rfl rfl ?_
      refine StoreD.st 0 rfl rfl rfl ?_
      refine LoadD.own 0 rfl _ rfl rfl ?_
      refine Tri.free (ring_Right s ((t + m) % s) (((u - m : Nat) : Int)) (h) _ hss (i64 _ (by omega)) (i64 _ (by omega)) (i64 _ (by omega))) ?_
      rintro v J _ hJ ⟨rb, rfl, hrb, rfl⟩
      cases rb
      case false => exact absurd (hrb.2 hok2) (by simp)
      refine LoadD.own 0 rfl _ rfl rfl ?_
      refine CmpD.yes (by omega) ?_
      refine LoadD.own 0 rfl _ rfl rfl ?_
      refine CmpD.yes (by omega) ?_
      refine LoadD.own 0 rfl _ rfl rfl ?_
      refine Tri.free (ring_Free s ((t + m) % s) (((u - m : Nat) : Int)) (h) _ hss (i64 _ (by omega)) (i64 _ (by omega)) (i64 _ (by omega))) ?_
      rintro v J _ hJ ⟨rfl, rfl⟩
      rw [if_pos hok2]
      refine ToD.i64 (by omega) (by omega) ?_
      refine ToD.i64 (by omega) (by omega) ?_
      refine CmpD.yes (by omega) ?_
      refine ToD.i64 (by omega) (by omega) ?_
      refine ⟨_, Drop.pick [0, 1] _ rfl, ⟨(t + m) % s, h, u - m, slAddr a m cap 1, cap - m, ch, i + 1, hok2, hown2, by omega, rfl, rfl, rfl⟩, ?_⟩
      show (100 - ((i : Int) + 1)).toNat < (100 - (i : Int)).toNat
      omega
    · -- Put
      refine Chk.mk (by omega) ?_
      refine ToD.rem (by omega) ?_
      refine CmpD.split (fun c5 => ?_) (fun c5 => ?_)
      · obtain ⟨nn, hnn, hn1⟩ : ∃ nn : Int, (if h < n then h else n) = nn ∧ 0 ≤ nn ∧ nn ≤ h ∧ nn ≤ s := ⟨_, rfl, by split <;> omega⟩
        refine ToD.to nn hnn ?_
        clear hnn
        refine LoadD.own 0 rfl _ rfl rfl ?_
        refine Tri.free (ring_Put s t u h nn _ hss hts hus hhs (i64 _ (by omega)) nn (i64 _ (by omega))) ?_
        rintro v J _ hJ ⟨⟨ra, rb, rc, rd, rx, re, rfl, h1⟩, rfl⟩
        have hnp : ¬(¬ Ok s t u h ∨ nn < 0 ∨ nn < 0 ∨ nn < nn ∨ h < nn) := by rintro (q | q); exact q hok; omega
        have hf2 := Int.emod_nonneg (t + u) (show s ≠ 0 by omega)
        have hf3 := Int.emod_lt_of_pos (t + u) (show 0 < s by omega)
        by_cases hfit : s - u - h < nn - nn
        · rw [putS, if_neg hnp, if_pos hfit] at h1
          simp only [Prod.mk.injEq] at h1
          obtain ⟨⟨rfl, rfl, rfl, rfl, rfl⟩, rfl⟩ := h1
          refine StoreD.st 2 rfl rfl rfl ?_
          refine CmpD.no (by omega) ?_
          refine ToD.i64 (by omega) (by omega) ?_
          refine ToD.i64 (by omega) (by omega) ?_
          refine ToD.i64 (by omega) (by omega) ?_
          refine CmpD.no (by omega) ?_
          refine CodeF.loopD [0, 2, 7, 8, 9, 10, 12, 13, 14, 18, 19, 20] (fun vs J S' =>
              vs = [.int .i64 s, .slice (some ⟨bS, oS, none⟩) len2 cap2, .pointer (some ⟨b7, 0, none⟩), .slice a u cap, .int .i64 h, .int .i64 i, .int .i64 nn, .pointer (some ⟨b13, 0, none⟩), .int .i64 5, .int .i64 nn, .int .i64 0, .int .i64 0] ∧ I = J ∧
              S' = [[(b7, row [.int .i64 s, .int .i64 t, .int .i64 u, .int .i64 h] 25)], ch, [(b13, row [.int .i64 0, .int .i64 0, .int .i64 0, .int .i64 0] 25)]])
            (fun _ _ _ => 0) ?_ ?_
          · exact ⟨_, Drop.refl _, rfl, rfl, rfl⟩
          rintro vs g J S' hJ ⟨rfl, rfl, rfl⟩
          refine CmpD.yes (by omega) ?_
          refine CmpD.no (by omega) ?_
          refine CmpD.no (by omega) ?_
          refine CmpD.no (by omega) ?_
          refine LoadD.own 0 rfl _ rfl rfl ?_
          refine Tri.free (ring_Right s (t) (u) (h) _ hss (i64 _ (by omega)) (i64 _ (by omega)) (i64 _ (by omega))) ?_
          rintro v J _ hJ ⟨rb, rfl, hrb, rfl⟩
          cases rb
          case false => exact absurd (hrb.2 hok) (by simp)
          refine LoadD.own 0 rfl _ rfl rfl ?_
          refine CmpD.yes (by omega) ?_
          refine LoadD.own 0 rfl _ rfl rfl ?_
          refine CmpD.yes (by omega) ?_
          refine LoadD.own 0 rfl _ rfl rfl ?_
          refine Tri.free (ring_Free s (t) (u) (h) _ hss (i64 _ (by omega)) (i64 _ (by omega)) (i64 _ (by omega))) ?_
          rintro v J _ hJ ⟨rfl, rfl⟩
          rw [if_pos hok]
          refine ToD.i64 (by omega) (by omega) ?_
          refine ToD.i64 (by omega) (by omega) ?_
          refine CmpD.yes (by omega) ?_
          refine ToD.i64 (by omega) (by omega) ?_
          refine ⟨_, Drop.pick [0, 1] _ rfl, ⟨t, h, u, a, cap, ch, i + 1, hok, hown, by omega, rfl, rfl, rfl⟩, ?_⟩
          show (100 - ((i : Int) + 1)).toNat < (100 - (i : Int)).toNat
          omega
        · rw [putS, if_neg hnp, if_neg hfit] at h1
          simp only [Prod.mk.injEq] at h1
          obtain ⟨⟨rfl, rfl, rfl, rfl, rfl⟩, rfl⟩ := h1
          refine StoreD.st 2 rfl rfl rfl ?_
          refine CmpD.yes rfl ?_
          refine ToD.i64 (by omega) (by omega) ?_
          refine ToD.i64 (by omega) (by omega) ?_
          refine ToD.i64 (by omega) (by omega) ?_
          refine CmpD.yes (by omega) ?_
          refine CodeF.loopD [0, 2, 7, 8, 9, 10, 12, 13, 14, 18, 19, 20] (fun vs J S' => ∃ (j : Nat) (aj : Option Addr) (capj : Nat) (chj : List Blk), (j : Int) ≤ nn ∧ OwnC chj 1 aj (u + j) capj ((places t (u + j) s).map (Value.int .i64)) ∧
              vs = [.int .i64 s, .slice (some ⟨bS, oS, none⟩) len2 cap2, .pointer (some ⟨b7, 0, none⟩), .slice aj (u + j) capj, .int .i64 h, .int .i64 i, .int .i64 nn, .pointer (some ⟨b13, 0, none⟩), .int .i64 0, .int .i64 nn, .int .i64 ((t + u) % s), .int .i64 j] ∧ I = J ∧
              S' = [[(b7, row [.int .i64 s, .int .i64 t, .int .i64 u, .int .i64 h] 25)], chj, [(b13, row [.int .i64 s, .int .i64 t, .int .i64 (u + nn), .int .i64 (h - nn)] 25)]])
            (fun vs _ _ => match vs with | [_, _, _, _, _, _, _, _, _, _, _, .int _ j] => (nn - j).toNat | _ => 0) ?_ ?_
          · exact ⟨_, Drop.refl _, 0, a, cap, ch, by omega, hown, rfl, rfl, rfl⟩
          rintro vs g J S' hJ ⟨j, aj, capj, chj, hj, hownj, rfl, rfl, rfl⟩
          refine CmpD.split (fun c5 => ?_) (fun c5 => ?_)
          · refine CmpD.yes rfl ?_
            refine ToD.i64 (by omega) (by omega) ?_
            refine Chk.mk (by omega) ?_
            refine ToD.to ((t + ((u + j : Nat) : Int)) % s) (by rw [Int.tmod_eq_emod_of_nonneg (by omega), Int.emod_add_emod]; congr 1; omega) ?_
            refine CodeF.loopD [0, 2, 7, 8, 9, 10, 12, 13, 14, 18, 19, 20, 21, 22] (fun vs J S' => ∃ q : Nat, q ≤ u + j ∧
                vs = [.int .i64 s, .slice (some ⟨bS, oS, none⟩) len2 cap2, .pointer (some ⟨b7, 0, none⟩), .slice aj (u + j) capj, .int .i64 h, .int .i64 i, .int .i64 nn, .pointer (some ⟨b13, 0, none⟩), .int .i64 0, .int .i64 nn, .int .i64 ((t + u) % s), .int .i64 j, .int .i64 ((t + ((u + j : Nat) : Int)) % s), .int .i64 q] ∧ I = J ∧
                S' = [[(b7, row [.int .i64 s, .int .i64 t, .int .i64 u, .int .i64 h] 25)], chj, [(b13, row [.int .i64 s, .int .i64 t, .int .i64 (u + nn), .int .i64 (h - nn)] 25)]])
              (fun vs _ _ => match vs with | [_, _, _, _, _, _, _, _, _, _, _, _, _, .int _ q] => (((u + j : Nat) : Int) - q).toNat | _ => 0) ?_ ?_
            · exact ⟨_, Drop.refl _, 0, by omega, rfl, rfl, rfl⟩
            rintro vs g J S' hJ ⟨q, hq, rfl, rfl, rfl⟩
            refine CmpD.split (fun c6 => ?_) (fun c6 => ?_)
            · have hle := hownj.le
              rcases hownj.at' with q0 | ⟨bL, pre, post, TL, rfl, rfl, hpl⟩
              · omega
              refine Chk.mk (by omega) ?_
              refine LoadD.own 1 rfl [.int .i64 ((t + q) % s)] (take_get (own_take _ _ _) (mapi (places_get (by omega)))) rfl ?_
              refine CmpD.no (places_ne (by omega) (by omega)) ?_
              refine ToD.i64 (by omega) (by omega) ?_
              refine ⟨_, Drop.pick [0, 1, 2] _ rfl, ⟨q + 1, by omega, rfl, rfl, rfl⟩, ?_⟩
              show (((u + j : Nat) : Int) - ((q : Int) + 1)).toNat < (((u + j : Nat) : Int) - (q : Int)).toNat
              omega
            conv => whnf
            intro bN
            refine appendD tabOk rfl rfl rfl rfl rfl rfl rfl 1 rfl hownj (SrcOk.slice (n := 1) tabOk rfl ((OwnC.whole (len := 1) (size := 1) rfl).slC 3 rfl) (by intro v hv; simp at hv; subst hv; rfl)) rfl (by show (u + j + 1) * 8 ≤ _; omega) (by omega) ?_
            intro a3 cap3 ch3 hown3
            refine ToD.i64 (by omega) (by omega) ?_
            refine ⟨_, Drop.pick [0, 1, 2] _ rfl, ⟨j + 1, a3, cap3, ch3, by omega, ?_, rfl, rfl, rfl⟩, ?_⟩
            · rw [← Nat.add_assoc, places_snoc, List.map_append]; exact hown3
            · show (nn - ((j : Int) + 1)).toNat < (nn - (j : Int)).toNat
              omega
          have hjn : (j : Int) = nn := by omega
          refine CmpD.yes rfl ?_
          refine ToD.i64 (by omega) (by omega) ?_
          have hok2 : Ok s t ((u + j : Nat) : Int) (h - nn) := by unfold Ok; omega
          have hok3 : Ok s t (u + nn) (h - nn) := by unfold Ok; omega
          refine CmpD.yes rfl ?_
          refine LoadD.own 2 rfl _ rfl rfl ?_
          refine StoreD.st 0 rfl rfl rfl ?_
          refine LoadD.own 0 rfl _ rfl rfl ?_
          refine Tri.free (ring_Right s (t) (u + nn) (h - nn) _ hss (i64 _ (by omega)) (i64 _ (by omega)) (i64 _ (by omega))) ?_
          rintro v J _ hJ ⟨rb, rfl, hrb, rfl⟩
          cases rb
          case false => exact absurd (hrb.2 hok3) (by simp)
          refine LoadD.own 0 rfl _ rfl rfl ?_
          refine CmpD.yes (by omega) ?_
          refine LoadD.own 0 rfl _ rfl rfl ?_
          refine CmpD.yes (by omega) ?_
          refine LoadD.own 0 rfl _ rfl rfl ?_
          refine Tri.free (ring_Free s (t) (u + nn) (h - nn) _ hss (i64 _ (by omega)) (i64 _ (by omega)) (i64 _ (by omega))) ?_
          rintro v J _ hJ ⟨rfl, rfl⟩
          rw [if_pos hok3]
          refine ToD.i64 (by omega) (by omega) ?_
          refine ToD.i64 (by omega) (by omega) ?_
          refine CmpD.yes (by omega) ?_
          refine ToD.i64 (by omega) (by omega) ?_
          refine ⟨_, Drop.pick [0, 1] _ rfl, ⟨t, h - nn, u + j, aj, capj, chj, i + 1, hok2, hownj, by omega, rfl, rfl, (by rw [Int.natCast_add, hjn]; rfl)⟩, ?_⟩
          show (100 - ((i : Int) + 1)).toNat < (100 - (i : Int)).toNat
          omega
      · skip
        refine LoadD.own 0 rfl _ rfl rfl ?_
        refine Tri.free (ring_Put s t u h n _ hss hts hus hhs (i64 _ (by omega)) (0 : Int) (i64 _ (by omega))) ?_
        rintro v J _ hJ ⟨⟨ra, rb, rc, rd, rx, re, rfl, h1⟩, rfl⟩
        have hnp : ¬(¬ Ok s t u h ∨ n < 0 ∨ (0 : Int) < 0 ∨ n < (0 : Int) ∨ h < (0 : Int)) := by rintro (q | q); exact q hok; omega
        have hf2 := Int.emod_nonneg (t + u) (show s ≠ 0 by omega)
        have hf3 := Int.emod_lt_of_pos (t + u) (show 0 < s by omega)
        by_cases hfit : s - u - h < n - (0 : Int)
        · rw [putS, if_neg hnp, if_pos hfit] at h1
          simp only [Prod.mk.injEq] at h1
          obtain ⟨⟨rfl, rfl, rfl, rfl, rfl⟩, rfl⟩ := h1
          refine StoreD.st 2 rfl rfl rfl ?_
          refine CmpD.no (by omega) ?_
          refine ToD.i64 (by omega) (by omega) ?_
          refine ToD.i64 (by omega) (by omega) ?_
          refine ToD.i64 (by omega) (by omega) ?_
          refine CmpD.no (by omega) ?_
          refine CodeF.loopD [0, 2, 7, 8, 9, 10, 12, 13, 14, 18, 19, 20] (fun vs J S' =>
              vs = [.int .i64 s, .slice (some ⟨bS, oS, none⟩) len2 cap2, .pointer (some ⟨b7, 0, none⟩), .slice a u cap, .int .i64 h, .int .i64 i, .int .i64 n, .pointer (some ⟨b13, 0, none⟩), .int .i64 5, .int .i64 (0 : Int), .int .i64 0, .int .i64 0] ∧ I = J ∧
              S' = [[(b7, row [.int .i64 s, .int .i64 t, .int .i64 u, .int .i64 h] 25)], ch, [(b13, row [.int .i64 0, .int .i64 0, .int .i64 0, .int .i64 0] 25)]])
            (fun _ _ _ => 0) ?_ ?_
          · exact ⟨_, Drop.refl _, rfl, rfl, rfl⟩
          rintro vs g J S' hJ ⟨rfl, rfl, rfl⟩
          refine CmpD.yes (by omega) ?_
          refine CmpD.no (by omega) ?_
          refine CmpD.no (by omega) ?_
          refine CmpD.no (by omega) ?_
          refine LoadD.own 0 rfl _ rfl rfl ?_
          refine Tri.free (ring_Right s (t) (u) (h) _ hss (i64 _ (by omega)) (i64 _ (by omega)) (i64 _ (by omega))) ?_
          rintro v J _ hJ ⟨rb, rfl, hrb, rfl⟩
          cases rb
          case false => exact absurd (hrb.2 hok) (by simp)
          refine LoadD.own 0 rfl _ rfl rfl ?_
          refine CmpD.yes (by omega) ?_
          refine LoadD.own 0 rfl _ rfl rfl ?_
          refine CmpD.yes (by omega) ?_
          refine LoadD.own 0 rfl _ rfl rfl ?_
          refine Tri.free (ring_Free s (t) (u) (h) _ hss (i64 _ (by omega)) (i64 _ (by omega)) (i64 _ (by omega))) ?_
          rintro v J _ hJ ⟨rfl, rfl⟩
          rw [if_pos hok]
          refine ToD.i64 (by omega) (by omega) ?_
          refine ToD.i64 (by omega) (by omega) ?_
          refine CmpD.yes (by omega) ?_
          refine ToD.i64 (by omega) (by omega) ?_
          refine ⟨_, Drop.pick [0, 1] _ rfl, ⟨t, h, u, a, cap, ch, i + 1, hok, hown, by omega, rfl, rfl, rfl⟩, ?_⟩
          show (100 - ((i : Int) + 1)).toNat < (100 - (i : Int)).toNat
          omega
        · rw [putS, if_neg hnp, if_neg hfit] at h1
          simp only [Prod.mk.injEq] at h1
          obtain ⟨⟨rfl, rfl, rfl, rfl, rfl⟩, rfl⟩ := h1
          refine StoreD.st 2 rfl rfl rfl ?_
          refine CmpD.yes rfl ?_
          refine ToD.i64 (by omega) (by omega) ?_
          refine ToD.i64 (by omega) (by omega) ?_
          refine ToD.i64 (by omega) (by omega) ?_
          refine CmpD.yes (by omega) ?_
          refine CodeF.loopD [0, 2, 7, 8, 9, 10, 12, 13, 14, 18, 19, 20] (fun vs J S' => ∃ (j : Nat) (aj : Option Addr) (capj : Nat) (chj : List Blk), (j : Int) ≤ n ∧ OwnC chj 1 aj (u + j) capj ((places t (u + j) s).map (Value.int .i64)) ∧
              vs = [.int .i64 s, .slice (some ⟨bS, oS, none⟩) len2 cap2, .pointer (some ⟨b7, 0, none⟩), .slice aj (u + j) capj, .int .i64 h, .int .i64 i, .int .i64 n, .pointer (some ⟨b13, 0, none⟩), .int .i64 0, .int .i64 (0 : Int), .int .i64 ((t + u) % s), .int .i64 j] ∧ I = J ∧
              S' = [[(b7, row [.int .i64 s, .int .i64 t, .int .i64 u, .int .i64 h] 25)], chj, [(b13, row [.int .i64 s, .int .i64 t, .int .i64 (u + n), .int .i64 (h - (0 : Int))] 25)]])
            (fun vs _ _ => match vs with | [_, _, _, _, _, _, _, _, _, _, _, .int _ j] => (n - j).toNat | _ => 0) ?_ ?_
          · exact ⟨_, Drop.refl _, 0, a, cap, ch, by omega, hown, rfl, rfl, rfl⟩
          rintro vs g J S' hJ ⟨j, aj, capj, chj, hj, hownj, rfl, rfl, rfl⟩
          refine CmpD.split (fun c5 => ?_) (fun c5 => ?_)
          · refine CmpD.yes rfl ?_
            refine ToD.i64 (by omega) (by omega) ?_
            refine Chk.mk (by omega) ?_
            refine ToD.to ((t + ((u + j : Nat) : Int)) % s) (by rw [Int.tmod_eq_emod_of_nonneg (by omega), Int.emod_add_emod]; congr 1; omega) ?_
            refine CodeF.loopD [0, 2, 7, 8, 9, 10, 12, 13, 14, 18, 19, 20, 21, 22] (fun vs J S' => ∃ q : Nat, q ≤ u + j ∧
                vs = [.int .i64 s, .slice (some ⟨bS, oS, none⟩) len2 cap2, .pointer (some ⟨b7, 0, none⟩), .slice aj (u + j) capj, .int .i64 h, .int .i64 i, .int .i64 n, .pointer (some ⟨b13, 0, none⟩), .int .i64 0, .int .i64 (0 : Int), .int .i64 ((t + u) % s), .int .i64 j, .int .i64 ((t + ((u + j : Nat) : Int)) % s), .int .i64 q] ∧ I = J ∧
                S' = [[(b7, row [.int .i64 s, .int .i64 t, .int .i64 u, .int .i64 h] 25)], chj, [(b13, row [.int .i64 s, .int .i64 t, .int .i64 (u + n), .int .i64 (h - (0 : Int))] 25)]])
              (fun vs _ _ => match vs with | [_, _, _, _, _, _, _, _, _, _, _, _, _, .int _ q] => (((u + j : Nat) : Int) - q).toNat | _ => 0) ?_ ?_
            · exact ⟨_, Drop.refl _, 0, by omega, rfl, rfl, rfl⟩
            rintro vs g J S' hJ ⟨q, hq, rfl, rfl, rfl⟩
            refine CmpD.split (fun c6 => ?_) (fun c6 => ?_)
            · have hle := hownj.le
              rcases hownj.at' with q0 | ⟨bL, pre, post, TL, rfl, rfl, hpl⟩
              · omega
              refine Chk.mk (by omega) ?_
              refine LoadD.own 1 rfl [.int .i64 ((t + q) % s)] (take_get (own_take _ _ _) (mapi (places_get (by omega)))) rfl ?_
              refine CmpD.no (places_ne (by omega) (by omega)) ?_
              refine ToD.i64 (by omega) (by omega) ?_
              refine ⟨_, Drop.pick [0, 1, 2] _ rfl, ⟨q + 1, by omega, rfl, rfl, rfl⟩, ?_⟩
              show (((u + j : Nat) : Int) - ((q : Int) + 1)).toNat < (((u + j : Nat) : Int) - (q : Int)).toNat
              omega
            conv => whnf
            intro bN
            refine appendD tabOk rfl rfl rfl rfl rfl rfl rfl 1 rfl hownj (SrcOk.slice (n := 1) tabOk rfl ((OwnC.whole (len := 1) (size := 1) rfl).slC 3 rfl) (by intro v hv; simp at hv; subst hv; rfl)) rfl (by show (u + j + 1) * 8 ≤ _; omega) (by omega) ?_
            intro a3 cap3 ch3 hown3
            refine ToD.i64 (by omega) (by omega) ?_
            refine ⟨_, Drop.pick [0, 1, 2] _ rfl, ⟨j + 1, a3, cap3, ch3, by omega, ?_, rfl, rfl, rfl⟩, ?_⟩
            · rw [← Nat.add_assoc, places_snoc, List.map_append]; exact hown3
            · show (n - ((j : Int) + 1)).toNat < (n - (j : Int)).toNat
              omega
          have hjn : (j : Int) = n := by omega
          refine CmpD.yes rfl ?_
          refine ToD.i64 (by omega) (by omega) ?_
          have hok2 : Ok s t ((u + j : Nat) : Int) (h - (0 : Int)) := by unfold Ok; omega
          have hok3 : Ok s t (u + n) (h - (0 : Int)) := by unfold Ok; omega
          refine CmpD.yes rfl ?_
          refine LoadD.own 2 rfl _ rfl rfl ?_
          refine StoreD.st 0 rfl rfl rfl ?_
          refine LoadD.own 0 rfl _ rfl rfl ?_
          refine Tri.free (ring_Right s (t) (u + n) (h - (0 : Int)) _ hss (i64 _ (by omega)) (i64 _ (by omega)) (i64 _ (by omega))) ?_
          rintro v J _ hJ ⟨rb, rfl, hrb, rfl⟩
          cases rb
          case false => exact absurd (hrb.2 hok3) (by simp)
          refine LoadD.own 0 rfl _ rfl rfl ?_
          refine CmpD.yes (by omega) ?_
          refine LoadD.own 0 rfl _ rfl rfl ?_
          refine CmpD.yes (by omega) ?_
          refine LoadD.own 0 rfl _ rfl rfl ?_
          refine Tri.free (ring_Free s (t) (u + n) (h - (0 : Int)) _ hss (i64 _ (by omega)) (i64 _ (by omega)) (i64 _ (by omega))) ?_
          rintro v J _ hJ ⟨rfl, rfl⟩
          rw [if_pos hok3]
          refine ToD.i64 (by omega) (by omega) ?_
          refine ToD.i64 (by omega) (by omega) ?_
          refine CmpD.yes (by omega) ?_
          refine ToD.i64 (by omega) (by omega) ?_
          refine ⟨_, Drop.pick [0, 1] _ rfl, ⟨t, h - (0 : Int), u + j, aj, capj, chj, i + 1, hok2, hownj, by omega, rfl, rfl, (by rw [Int.natCast_add, hjn]; rfl)⟩, ?_⟩
          show (100 - ((i : Int) + 1)).toNat < (100 - (i : Int)).toNat
          omega
end Go.Proofs.Ythlcdoabjgdpiaa

/- Texts of this claim laid together: R6e, R6f, ScanG, Rf4, Rf4b, CopyImgs, Awake10, Rf10b, ScanA, Rf4c, Rf4d, Rf4e, Rf4f, Rf4g, Rf4h, R9a, Awake08, Awk08, LowPick, Img9. -/
import Derived.Test.YtbpdbgcndfcilaaBScanTells3
import Derived.Test.YtbpdbgcndfcilaaBScanTells2
import Derived.Test.YtbpdbgcndfcilaaBScanTells1
namespace Go.Proofs.Ytbpdbgcndfcilaa
open Go.RowKit Go.Sl
set_option maxRecDepth 20000

theorem r6_read {S : St} {I : Imm} {a : Option Addr} {len cap : Nat} {b : Dat} (h : SlC I S a len (bts b)) (hlen : len ≤ 1000000000) :
    Tri Try.prog 136 #[.slice a len cap] I S fun v J S' =>
      (hdP b = none ∧ (∃ x y aI n capI, v = .tuple #[.agg #[.int .i64 x, .int .i64 y, .slice aI n capI], .bool false]) ∧ I = J ∧ S' = S) ∨
      (hdP b = some (hbE b, hbS b, imsB b) ∧ ∃ aI capI chI, ∃ l : List DI, v = .tuple #[.agg #[.int .i64 (hbE b : Nat), .int .i64 (hbS b : Nat), .slice aI (cntB b) capI], .bool true] ∧ l.length = cntB b ∧ OwnC chI 2 aI (cntB b) capI (imgCells (l.map DI.img)) ∧
        (l.map DI.img).map Img.pr = imsB b ∧ I = J ∧ S' = S ++ [chI, dch l]) := by
  refine Tri.pack ((r6_read1 S.flatten h.pack hlen).mono ?_)
  rintro v J S' hJ (⟨h1, h2, rfl, rfl⟩ | ⟨h1, aI, capI, chI, l, rfl, h2, h3, h4, rfl, rfl⟩)
  · exact ⟨[], rfl, .inl ⟨h1, h2, rfl, by simp⟩⟩
  · exact ⟨[chI, dch l], rfl, .inr ⟨h1, aI, capI, chI, l, rfl, h2, h3, h4, rfl, rfl⟩⟩
theorem r6_Head {I : Imm} {a : Option Addr} {len cap : Nat} {b : Dat} (h : Rds I a len (bts b)) (hlen : len ≤ 1000000000) :
    Tri Try.prog 102 #[.slice a len cap] I [] fun v J _ => v = headV b ∧ I = J := by
  refine Tri.of (args := [.slice a len cap]) tabOk Try.func102 rfl (by kernel_rfl) (by kernel_rfl) ?_
  refine Tri.nf (r6_read h.slC hlen) ?_
  rintro v J S' hJ (⟨hn, ⟨x, y, aI, n, capI, rfl⟩, rfl, rfl⟩ | ⟨hs, aI, capI, chI, l, rfl, hl, hI, hp, rfl, rfl⟩)
  · conv => whnf
    intro b6
    repeat (first
      | refine LoadD.own 0 rfl _ rfl rfl ?_
      | refine LoadD.own 1 rfl _ rfl rfl ?_
      | refine LoadD.own 2 rfl _ rfl rfl ?_
      | refine LoadP.at 0 rfl _ rfl rfl ?_
      | refine LoadP.at 1 rfl _ rfl rfl ?_
      | refine LoadP.at 2 rfl _ rfl rfl ?_
      | refine StoreD.st 0 rfl rfl rfl ?_
      | refine StoreD.st 1 rfl rfl rfl ?_
      | refine StoreD.st 2 rfl rfl rfl ?_
      | refine CmpD.yes rfl ?_
      | refine CmpD.yes (by decide) ?_
      | refine CmpD.no (by decide) ?_
      | refine Chk.mk ⟨rfl, trivial⟩ ?_
      | refine Chk.mk ⟨rfl, rfl, trivial⟩ ?_
      | refine Chk.mk ⟨rfl, rfl, rfl, trivial⟩ ?_
      | refine Chk.mk ⟨rfl, rfl, rfl, rfl, trivial⟩ ?_
      | refine Chk.mk ⟨rfl, rfl, rfl, rfl, rfl, trivial⟩ ?_
      | refine Chk.mk ⟨rfl, rfl, rfl, rfl, rfl, rfl, trivial⟩ ?_)
    refine Done.mk ⟨?_, rfl⟩
    unfold headV; rw [hn]; rfl
  · conv => whnf
    intro b6
    repeat (first
      | refine LoadD.own 0 rfl _ rfl rfl ?_
      | refine LoadD.own 1 rfl _ rfl rfl ?_
      | refine LoadD.own 2 rfl _ rfl rfl ?_
      | refine LoadP.at 0 rfl _ rfl rfl ?_
      | refine LoadP.at 1 rfl _ rfl rfl ?_
      | refine LoadP.at 2 rfl _ rfl rfl ?_
      | refine StoreD.st 0 rfl rfl rfl ?_
      | refine StoreD.st 1 rfl rfl rfl ?_
      | refine StoreD.st 2 rfl rfl rfl ?_
      | refine CmpD.yes rfl ?_
      | refine CmpD.yes (by decide) ?_
      | refine CmpD.no (by decide) ?_
      | refine Chk.mk ⟨rfl, trivial⟩ ?_
      | refine Chk.mk ⟨rfl, rfl, trivial⟩ ?_
      | refine Chk.mk ⟨rfl, rfl, rfl, trivial⟩ ?_
      | refine Chk.mk ⟨rfl, rfl, rfl, rfl, trivial⟩ ?_
      | refine Chk.mk ⟨rfl, rfl, rfl, rfl, rfl, trivial⟩ ?_
      | refine Chk.mk ⟨rfl, rfl, rfl, rfl, rfl, rfl, trivial⟩ ?_)
    refine CodeF.sched [[], [0], [], [2], [], [4], [4, 5], [0, 1], [0, 1, 2, 3, 7], [0, 1, 2, 3, 4, 5, 6, 7, 8], [0, 1, 2, 3, 4, 5, 6, 7, 8, 9]] [0, 1, 2, 3, 4, 5, 6, 7, 8, 9, 10] (by kernel_rfl) ?_
    repeat (first
      | refine LoadD.own 0 rfl _ rfl rfl ?_
      | refine LoadD.own 1 rfl _ rfl rfl ?_
      | refine LoadD.own 2 rfl _ rfl rfl ?_
      | refine LoadP.at 0 rfl _ rfl rfl ?_
      | refine LoadP.at 1 rfl _ rfl rfl ?_
      | refine LoadP.at 2 rfl _ rfl rfl ?_
      | refine StoreD.st 0 rfl rfl rfl ?_
      | refine StoreD.st 1 rfl rfl rfl ?_
      | refine StoreD.st 2 rfl rfl rfl ?_
      | refine CmpD.yes rfl ?_
      | refine CmpD.yes (by decide) ?_
      | refine CmpD.no (by decide) ?_
      | refine Chk.mk ⟨rfl, trivial⟩ ?_
      | refine Chk.mk ⟨rfl, rfl, trivial⟩ ?_
      | refine Chk.mk ⟨rfl, rfl, rfl, trivial⟩ ?_
      | refine Chk.mk ⟨rfl, rfl, rfl, rfl, trivial⟩ ?_
      | refine Chk.mk ⟨rfl, rfl, rfl, rfl, rfl, trivial⟩ ?_
      | refine Chk.mk ⟨rfl, rfl, rfl, rfl, rfl, rfl, trivial⟩ ?_)
    refine Done.mk ⟨?_, rfl⟩
    unfold headV; rw [hs]
    show _ = Value.tuple #[_, _, .int .i64 ((imsB b).length : Nat), _]
    rw [imsB_length]; rfl
theorem map_take_eq {α β : Type} {f : α → β} {g1 g2 : List α} {i : Nat} (h1 : i < g1.length) (h2 : i < g2.length) (ht : (g1.take i).map f = (g2.take i).map f) :
    ((g1.take (i + 1)).map f = (g2.take (i + 1)).map f) ↔ f g1[i] = f g2[i] := by
  rw [List.take_add_one, List.take_add_one, List.getElem?_eq_getElem h1, List.getElem?_eq_getElem h2, List.map_append, List.map_append, ht]
  simp
theorem same_lists1 (c0 : List Blk) {I : Imm} {a1 a2 : Option Addr} {c1 c2 : Nat} {g1 g2 : List Bk} (h1 : SlC I [c0] a1 g1.length (g1.map Bk.cell)) (h2 : SlC I [c0] a2 g2.length (g2.map Bk.cell)) (k1 : ∀ b ∈ g1, BkOk I b) (k2 : ∀ b ∈ g2, BkOk I b) (hl1 : g1.length ≤ 1000000000) :
    Tri Try.prog 137 #[.slice a1 g1.length c1, .slice a2 g2.length c2] I [c0] fun v J S' => v = .bool (decide (g1.map Bk.data = g2.map Bk.data)) ∧ I = J ∧ S' = [c0] := by
  refine Tri.of (args := [.slice a1 g1.length c1, .slice a2 g2.length c2]) tabOk Try.func137 rfl (by kernel_rfl) (by kernel_rfl) ?_
  refine CmpD.split (fun (c : (g1.length : Int) = g2.length) => ?_) (fun (c : ¬ (g1.length : Int) = g2.length) => ?_)
  rotate_left
  · refine Done.mk ⟨?_, rfl, rfl⟩
    show Value.bool _ = Value.bool _
    rw [decide_eq_false (fun h => c (by have := congrArg List.length h; simp at this; omega))]
  have hl : g1.length = g2.length := by omega
  refine CodeF.loopD [0, 1, 5] (fun vs J' S' => ∃ (i : Nat), i ≤ g1.length ∧ (g1.take i).map Bk.data = (g2.take i).map Bk.data ∧ vs = [.slice a1 g1.length c1, .slice a2 g2.length c2, .int .i64 i] ∧ I = J' ∧ S' = [c0])
    (fun vs _ _ => match vs with | [_, _, .int _ i] => ((g1.length : Int) - i).toNat | _ => 0) ?_ ?_
  · exact ⟨_, Drop.refl _, 0, by omega, rfl, rfl, rfl, rfl⟩
  rintro vs gE J' S' hJ' ⟨i, hi, hpre, rfl, rfl, rfl⟩
  refine CmpD.split (fun c1' => ?_) (fun c1' => ?_)
  · have i1 : i < g1.length := by omega
    have i2 : i < g2.length := by omega
    have hiff := map_take_eq (f := Bk.data) i1 i2 hpre
    have no : ¬ (g1[i].data = g2[i].data) → decide (g1.map Bk.data = g2.map Bk.data) = false := by
      intro h
      refine decide_eq_false fun h' => h (hiff.1 ?_)
      rw [List.map_take, List.map_take, h']
    obtain ⟨b1, o1, rfl, hc1⟩ := SlC.split h1 (by omega)
    obtain ⟨b2, o2, rfl, hc2⟩ := SlC.split h2 (by omega)
    have r1 := k1 _ (List.getElem_mem i1)
    have r2 := k2 _ (List.getElem_mem i2)
    have e1 : (g1.map Bk.cell)[i]? = some g1[i].cell := by rw [List.getElem?_map, List.getElem?_eq_getElem i1]; rfl
    have e2 : (g2.map Bk.cell)[i]? = some g2[i].cell := by rw [List.getElem?_map, List.getElem?_eq_getElem i2]; rfl
    refine CodeF.sched [[], [], [0, 1], [0, 1, 2], [], [], [4, 5], [4, 5, 6], [0, 1, 2, 3, 4, 5, 6, 7], [0, 1, 2, 3, 4, 5, 6, 7, 8]] [0, 1, 2, 3, 4, 5, 6, 7, 8, 9] (by kernel_rfl) ?_
    refine Chk.mk (by omega) ?_
    refine LoadP_any _ (hc1.at e1) ?_
    refine Chk.mk (by omega) ?_
    refine LoadP_any _ (hc2.at e2) ?_
    refine Tri.nf (same_bytes (Rds.slC r1) (Rds.slC r2)) ?_
    rintro v J S' hJ ⟨rfl, rfl, rfl⟩
    by_cases hd : g1[i].data = g2[i].data
    · rw [decide_eq_true hd]
      refine ToD.i64 (by omega) (by omega) ?_
      refine ⟨_, Drop.refl _, ⟨i + 1, by omega, hiff.2 hd, rfl, rfl, rfl⟩, ?_⟩
      show ((g1.length : Int) - ((i : Int) + 1)).toNat < ((g1.length : Int) - (i : Int)).toNat
      omega
    · rw [decide_eq_false hd]
      refine Done.mk ⟨?_, rfl, rfl⟩
      show Value.bool _ = Value.bool _
      rw [no hd]
  · obtain rfl : i = g1.length := by omega
    refine Done.mk ⟨?_, rfl, rfl⟩
    show Value.bool _ = Value.bool _
    rw [List.take_length, hl, List.take_length] at hpre
    rw [decide_eq_true hpre]
theorem same_lists {S : St} {I : Imm} {a1 a2 : Option Addr} {c1 c2 : Nat} {g1 g2 : List Bk} (h1 : SlC I S a1 g1.length (g1.map Bk.cell)) (h2 : SlC I S a2 g2.length (g2.map Bk.cell)) (k1 : ∀ b ∈ g1, BkOk I b) (k2 : ∀ b ∈ g2, BkOk I b) (hl1 : g1.length ≤ 1000000000) :
    Tri Try.prog 137 #[.slice a1 g1.length c1, .slice a2 g2.length c2] I S fun v J S' => v = .bool (decide (g1.map Bk.data = g2.map Bk.data)) ∧ I = J ∧ S' = S := by
  refine Tri.pack ((same_lists1 _ h1.pack h2.pack k1 k2 hl1).mono ?_)
  rintro v J S' hJ ⟨rfl, rfl, rfl⟩
  exact ⟨[], rfl, rfl, rfl, by simp⟩
theorem flat_eq {f g : Nat → Dat} {n : Nat} (h : ∀ i, i < n → f i = g i) : (List.range n).flatMap f = (List.range n).flatMap g := by
  have : ∀ m : List Nat, (∀ i ∈ m, i < n) → m.flatMap f = m.flatMap g := by
    intro m
    induction m with
    | nil => intro _; rfl
    | cons x m ih =>
      intro hm
      rw [List.flatMap_cons, List.flatMap_cons, h x (hm x (by simp)), ih fun i hi => hm i (by simp [hi])]
  exact this _ fun i hi => List.mem_range.1 hi
theorem getL_right {b : Dat} {rest : List Dat} {e s : Nat} (hsome : hdP b = some (e, s, imsB b)) (hn : rest.length = cntB b) (h4 : ∀ r ∈ rest, r.length = 4096) : RightP e s (getL b rest) ∧ hblk e s (getL b rest) = b := by
  obtain ⟨_, _, _, hR, hb, hb4, _⟩ := hdP_some hsome
  have h32 := hR.2.2.2.2.2.1
  have h1 := hR.2.2.2.2.1
  rw [imsB_length] at h32 h1
  have hfst : (getL b rest).map Prod.fst = (imsB b).map Prod.fst := by
    unfold getL imsB
    rw [List.map_map, List.map_map, hn]; rfl
  have hll : (getL b rest).length = cntB b := by simp [getL, hn]
  have hr4 : ∀ i, i < cntB b → (rest.getD i []).length = 4096 := by
    intro i hi
    rw [List.getD_eq_getElem?_getD, List.getElem?_eq_getElem (by omega)]
    exact h4 _ (List.getElem_mem _)
  have hhid : hidP (getL b rest) = hidP (imsB b) := by
    unfold hidP getL imsB
    rw [List.flatMap_map, List.flatMap_map, hn]
    refine flat_eq fun i hi => ?_
    have hh := hidB_length hb4 (i := i) (by omega)
    dsimp only
    rw [hid_sho (hr4 i hi) hh, hid_sho noughts_length hh]
  refine ⟨?_, ?_⟩
  · obtain ⟨r1, r2, r3, r4, r5, r6, r7, r8⟩ := hR
    refine ⟨r1, r2, r3, r4, by omega, by omega, ?_, by rw [hfst]; exact r8⟩
    intro g hg
    obtain ⟨i, hi, rfl⟩ := List.mem_map.1 hg
    have hi := List.mem_range.1 hi
    have hm := r7 (blkB b i, shoK noughts (hidB b i) 8) (List.mem_map.2 ⟨i, List.mem_range.2 (by omega), rfl⟩)
    exact ⟨hm.1, hm.2.1, shoK_length (hr4 i (by omega)) (hidB_length hb4 (by omega)) 8 (by omega)⟩
  · rw [← hb]
    conv => lhs; rw [hb]
    unfold hblk headP listP
    rw [hhid, hll, imsB_length]
theorem putL_iff {b : Dat} {rest : List Dat} {e s : Nat} (hsome : hdP b = some (e, s, imsB b)) (hn : rest.length = cntB b) (h4 : ∀ r ∈ rest, r.length = 4096) : putP e s (getL b rest) = b :: rest ↔ rest.length = (imsB b).length ∧ RestOk e s rest := by
  obtain ⟨hR, hbk⟩ := getL_right hsome hn h4
  constructor
  · intro h
    refine ⟨by rw [imsB_length]; exact hn, fun r hr => ⟨h4 r hr, ?_⟩⟩
    rw [putP_eq] at h
    have h2 := (List.cons.inj h).2
    rw [← h2] at hr
    obtain ⟨x, hx, rfl⟩ := List.mem_map.1 hr
    exact mark_bears (stampB_length _ _) (hR.lens x hx)
  · intro h
    exact (getP_some (getP_good hsome h)).2
end Go.Proofs.Ytbpdbgcndfcilaa
namespace Go.Proofs.Ytbpdbgcndfcilaa
open Go.RowKit Go.Sl
set_option maxRecDepth 20000

theorem dch_split (L : List DI) (d : DI) (R : List DI) : dch (L ++ d :: R) = dch L ++ (d.b, row (bts d.data) 5) :: dch R := by simp [dch]
theorem di_cells {l l2 : List DI} (h : l2.map (fun d => (d.blk, d.b)) = l.map fun d => (d.blk, d.b)) : imgCells (l2.map DI.img) = imgCells (l.map DI.img) := by
  have e : ∀ m : List DI, imgCells (m.map DI.img) = (m.map fun d => (d.blk, d.b)).flatMap fun p => [.int .i64 p.1, .slice (some ⟨p.2, 0, none⟩) 4096 4096] := by
    intro m
    unfold imgCells
    rw [List.flatMap_map, List.flatMap_map]; rfl
  rw [e, e, h]
theorem storeD_mkTo {S : St} {b off : Nat} {vs : List Value} {K : St → Prop} (k : Nat) (A B : List Blk) (c : List Value) (T : TypeId) (fr : Nat × Nat) (hk : S[k]? = some (A ++ (b, row c T fr) :: B)) (c' : List Value) (hc : splice c off vs = c') (hl : off + vs.length ≤ c.length)
    (hf : fr.2 ≤ off ∨ off + vs.length ≤ fr.1 ∨ fr.2 ≤ fr.1) (S' : St) (hS : S.set k (A ++ (b, row c' T fr) :: B) = S') (h : K S') : StoreD S b off vs K := by
  subst hc; subst hS; exact .mk k A B c T fr hk hl hf h
def dAt (D : List Dat) (b : Dat) (i k : Nat) : Dat := if k < i then shoK (D.getD k []) (hidB b k) 8 else shoK noughts (hidB b k) 8
set_option maxHeartbeats 8000000 in
theorem r6_Get (I : Imm) (aL : Option Addr) (n capL : Nat) (bks : List Bk) (hn : n ≤ 1000000) (h : Rds I aL n (bks.map Bk.cell)) (hok : ∀ x ∈ bks, BkOk I x) :
    Tri Try.prog 103 #[.slice aL n capL] I [] fun v J _ =>
      (getP (bks.map Bk.data) = none ∧ v = .tuple #[.agg #[.int .i64 0, .int .i64 0, .slice none 0 0], .int .i64 80]) ∨
      (∃ e s l, getP (bks.map Bk.data) = some (e, s, l) ∧ ∃ aI capI gs, v = .tuple #[.agg #[.int .i64 (e : Nat), .int .i64 (s : Nat), .slice aI gs.length capI], .int .i64 0] ∧ ImgsOk J aI gs ∧ gs.map Img.pr = l) := by
  refine Tri.fixed (Q := fun v _ S' => ∃ ch, S' = [ch] ∧
      ((getP (bks.map Bk.data) = none ∧ v = .tuple #[.agg #[.int .i64 0, .int .i64 0, .slice none 0 0], .int .i64 80]) ∨
      (∃ e s l, getP (bks.map Bk.data) = some (e, s, l) ∧ ∃ aI capI chI, ∃ dl : List DI, ch = chI ++ dch dl ∧ v = .tuple #[.agg #[.int .i64 (e : Nat), .int .i64 (s : Nat), .slice aI dl.length capI], .int .i64 0] ∧ OwnC chI 2 aI dl.length capI (imgCells (dl.map DI.img)) ∧ (∀ d ∈ dl, In64 d.blk ∧ d.data.length = 4096) ∧ (dl.map DI.img).map Img.pr = l))) ?_ ?_
  rotate_left
  · rintro v J S' hJ ⟨ch, rfl, h⟩
    refine ⟨0, ch, rfl, fun J' hJ' hm => ?_⟩
    rcases h with h | ⟨e, s, l, h1, aI, capI, chI, dl, rfl, rfl, hO, hk, hp⟩
    · exact .inl h
    · have hll : (dl.map DI.img).length = dl.length := List.length_map ..
      refine .inr ⟨e, s, l, h1, aI, capI, dl.map DI.img, by rw [hll], ⟨?_, ?_⟩, hp⟩
      · rw [hll]; exact Rds.of_ownS hO fun x hx => hm x (List.mem_append_left _ hx)
      · intro g hg
        obtain ⟨d, hd, rfl⟩ := List.mem_map.1 hg
        obtain ⟨q1, q2⟩ := hk d hd
        refine ⟨q1, by rw [bts_length]; exact q2, .inr ⟨d.b, 0, bts d.data, 5, (0, 0), rfl, hm _ (List.mem_append_right _ (List.mem_map_of_mem (f := fun d : DI => (d.b, row (bts d.data) 5)) hd)), ?_⟩⟩
        show List.take 4096 ((bts d.data).drop 0) = bts d.data
        rw [List.drop_zero, List.take_of_length_le (by rw [bts_length]; omega)]
  have hl : bks.length = n := by have := h.len; rwa [List.length_map] at this
  refine Tri.drop ?_ (fun _ _ _ _ h => h)
  refine Tri.of (args := [.slice aL n capL]) tabOk Try.func103 rfl (by kernel_rfl) (by kernel_rfl) ?_
  conv => whnf
  intro b2
  have bad : ∀ (S : St), getP (bks.map Bk.data) = none → ∃ S'', Drop S S'' ∧ ∃ ch, S'' = [ch] ∧
      ((getP (bks.map Bk.data) = none ∧ Value.tuple #[.agg #[.int .i64 0, .int .i64 0, .slice none 0 0], .int .i64 80] = .tuple #[.agg #[.int .i64 0, .int .i64 0, .slice none 0 0], .int .i64 80]) ∨
      (∃ e s l, getP (bks.map Bk.data) = some (e, s, l) ∧ ∃ aI capI chI, ∃ dl : List DI, ch = chI ++ dch dl ∧ Value.tuple #[.agg #[.int .i64 0, .int .i64 0, .slice none 0 0], .int .i64 80] = .tuple #[.agg #[.int .i64 (e : Nat), .int .i64 (s : Nat), .slice aI dl.length capI], .int .i64 0] ∧ OwnC chI 2 aI dl.length capI (imgCells (dl.map DI.img)) ∧ (∀ d ∈ dl, In64 d.blk ∧ d.data.length = 4096) ∧ (dl.map DI.img).map Img.pr = l)) :=
    fun S hg => ⟨[[]], (Drop.pick [] _ rfl).trans (Drop.flat rfl), [], rfl, .inl ⟨hg, rfl⟩⟩
  refine CmpD.split (fun c0 => ?_) (fun c0 => ?_)
  · repeat (first
      | refine LoadD.own 0 rfl _ rfl rfl ?_
      | refine LoadD.own 1 rfl _ rfl rfl ?_
      | refine LoadD.own 2 rfl _ rfl rfl ?_
      | refine LoadP.at 0 rfl _ rfl rfl ?_
      | refine LoadP.at 1 rfl _ rfl rfl ?_
      | refine LoadP.at 2 rfl _ rfl rfl ?_
      | refine StoreD.st 0 rfl rfl rfl ?_
      | refine StoreD.st 1 rfl rfl rfl ?_
      | refine StoreD.st 2 rfl rfl rfl ?_
      | refine CmpD.yes rfl ?_
      | refine CmpD.yes (by decide) ?_
      | refine CmpD.no (by decide) ?_
      | refine Chk.mk ⟨rfl, trivial⟩ ?_
      | refine Chk.mk ⟨rfl, rfl, trivial⟩ ?_
      | refine Chk.mk ⟨rfl, rfl, rfl, trivial⟩ ?_
      | refine Chk.mk ⟨rfl, rfl, rfl, rfl, trivial⟩ ?_
      | refine Chk.mk ⟨rfl, rfl, rfl, rfl, rfl, trivial⟩ ?_
      | refine Chk.mk ⟨rfl, rfl, rfl, rfl, rfl, rfl, trivial⟩ ?_)
    refine Done.mk (bad _ ?_)
    have : bks = [] := List.length_eq_zero_iff.1 (by omega)
    rw [this]; rfl
  rcases h.mem with q0 | ⟨bA, oA, cA, TA, fA, rfl, hIA, hcA⟩
  · omega
  obtain ⟨ka, kc, b0, rest, rfl⟩ : ∃ ka kc b0 rest, bks = (⟨ka, kc, b0⟩ : Bk) :: rest := by
    cases bks with
    | nil => simp at hl; omega
    | cons k0 rest => exact ⟨k0.a, k0.cap, k0.data, rest, rfl⟩
  have hk0 := hok ⟨ka, kc, b0⟩ (by simp)
  have hrest : ∀ x ∈ rest, BkOk I x := fun x hx => hok x (by simp [hx])
  have hrl : rest.length + 1 = n := by simpa using hl
  refine Chk.mk (by omega) ?_
  refine LoadD.imm hIA [(⟨ka, kc, b0⟩ : Bk).cell] (take_get (i := 0) hcA rfl) rfl ?_
  refine Tri.nf (r6_read (Rds.slC hk0) (by omega)) ?_
  rintro v J S' hJ (⟨hnone, ⟨x, y, aI, m, capI, rfl⟩, rfl, rfl⟩ | ⟨hsome, aI, capI, chI, l, rfl, hll, hI, hp, rfl, rfl⟩)
  · conv => whnf
    intro b4
    repeat (first
      | refine LoadD.own 0 rfl _ rfl rfl ?_
      | refine LoadD.own 1 rfl _ rfl rfl ?_
      | refine LoadD.own 2 rfl _ rfl rfl ?_
      | refine LoadP.at 0 rfl _ rfl rfl ?_
      | refine LoadP.at 1 rfl _ rfl rfl ?_
      | refine LoadP.at 2 rfl _ rfl rfl ?_
      | refine StoreD.st 0 rfl rfl rfl ?_
      | refine StoreD.st 1 rfl rfl rfl ?_
      | refine StoreD.st 2 rfl rfl rfl ?_
      | refine CmpD.yes rfl ?_
      | refine CmpD.yes (by decide) ?_
      | refine CmpD.no (by decide) ?_
      | refine Chk.mk ⟨rfl, trivial⟩ ?_
      | refine Chk.mk ⟨rfl, rfl, trivial⟩ ?_
      | refine Chk.mk ⟨rfl, rfl, rfl, trivial⟩ ?_
      | refine Chk.mk ⟨rfl, rfl, rfl, rfl, trivial⟩ ?_
      | refine Chk.mk ⟨rfl, rfl, rfl, rfl, rfl, trivial⟩ ?_
      | refine Chk.mk ⟨rfl, rfl, rfl, rfl, rfl, rfl, trivial⟩ ?_)
    exact Done.mk (bad _ (getP_none hnone))
  obtain ⟨_, _, _, hR, _, hb4, _⟩ := hdP_some hsome
  have hc32 := hR.2.2.2.2.2.1
  have hc1 := hR.2.2.2.2.1
  rw [imsB_length] at hc32 hc1
  have hbad := fun (rs : List Dat) => getP_bad (rest := rs) hsome
  have hgood := fun (rs : List Dat) => getP_good (rest := rs) hsome
  have hlen4 : ∀ r ∈ rest.map Bk.data, r.length = 4096 := by
    intro r hr
    obtain ⟨x, hx, rfl⟩ := List.mem_map.1 hr
    have := (hrest x hx).len; rwa [bts_length] at this
  obtain ⟨D, hD⟩ : ∃ D, D = rest.map Bk.data := ⟨_, rfl⟩
  have hmap : ((⟨ka, kc, b0⟩ : Bk) :: rest).map Bk.data = b0 :: D := by rw [hD]; rfl
  have hDl : D.length = rest.length := by rw [hD, List.length_map]
  rw [← hD] at hlen4
  have hright := fun h => getL_right (rest := D) hsome h hlen4
  have hiff := fun h => putL_iff (rest := D) hsome h hlen4
  rw [imsB_length] at hgood hbad hiff
  have hims : imsB b0 = (List.range (cntB b0)).map fun k => (blkB b0 k, shoK noughts (hidB b0 k) 8) := rfl
  rw [hims] at hp
  obtain ⟨e, he⟩ : ∃ e, e = hbE b0 := ⟨_, rfl⟩
  obtain ⟨s, hse⟩ : ∃ s, s = hbS b0 := ⟨_, rfl⟩
  obtain ⟨c, hc⟩ : ∃ c, c = cntB b0 := ⟨_, rfl⟩
  rw [hmap] at bad ⊢
  rw [← he, ← hse] at hgood hbad hright hiff hR
  rw [← hc] at hc32 hc1 hgood hbad hiff hright hI hll hp
  rw [← he, ← hse, ← hc]
  have hE := hR.2.1
  have hS := hR.2.2.2.1
  conv => whnf
  intro b4
  repeat (first
    | refine LoadD.own 0 rfl _ rfl rfl ?_
    | refine LoadD.own 1 rfl _ rfl rfl ?_
    | refine LoadD.own 2 rfl _ rfl rfl ?_
    | refine LoadD.own 3 rfl _ rfl rfl ?_
    | refine LoadP.at 0 rfl _ rfl rfl ?_
    | refine LoadP.at 1 rfl _ rfl rfl ?_
    | refine LoadP.at 2 rfl _ rfl rfl ?_
    | refine LoadP.at 3 rfl _ rfl rfl ?_
    | refine StoreD.st 0 rfl rfl rfl ?_
    | refine StoreD.st 1 rfl rfl rfl ?_
    | refine StoreD.st 2 rfl rfl rfl ?_
    | refine StoreD.st 3 rfl rfl rfl ?_
    | refine CmpD.yes rfl ?_
    | refine CmpD.yes (by decide) ?_
    | refine CmpD.no (by decide) ?_
    | refine Chk.mk ⟨rfl, trivial⟩ ?_
    | refine Chk.mk ⟨rfl, rfl, trivial⟩ ?_
    | refine Chk.mk ⟨rfl, rfl, rfl, trivial⟩ ?_
    | refine Chk.mk ⟨rfl, rfl, rfl, rfl, trivial⟩ ?_
    | refine Chk.mk ⟨rfl, rfl, rfl, rfl, rfl, trivial⟩ ?_
    | refine Chk.mk ⟨rfl, rfl, rfl, rfl, rfl, rfl, trivial⟩ ?_)
  refine ToD.i64 (by omega) (by omega) ?_
  refine CmpD.split (fun (c1 : (n : Int) = c + 1) => ?_) (fun (c1 : ¬ (n : Int) = c + 1) => ?_)
  rotate_left
  · repeat (first
      | refine LoadD.own 0 rfl _ rfl rfl ?_
      | refine LoadD.own 1 rfl _ rfl rfl ?_
      | refine LoadD.own 2 rfl _ rfl rfl ?_
      | refine LoadD.own 3 rfl _ rfl rfl ?_
      | refine LoadP.at 0 rfl _ rfl rfl ?_
      | refine LoadP.at 1 rfl _ rfl rfl ?_
      | refine LoadP.at 2 rfl _ rfl rfl ?_
      | refine LoadP.at 3 rfl _ rfl rfl ?_
      | refine StoreD.st 0 rfl rfl rfl ?_
      | refine StoreD.st 1 rfl rfl rfl ?_
      | refine StoreD.st 2 rfl rfl rfl ?_
      | refine StoreD.st 3 rfl rfl rfl ?_
      | refine CmpD.yes rfl ?_
      | refine CmpD.yes (by decide) ?_
      | refine CmpD.no (by decide) ?_
      | refine Chk.mk ⟨rfl, trivial⟩ ?_
      | refine Chk.mk ⟨rfl, rfl, trivial⟩ ?_
      | refine Chk.mk ⟨rfl, rfl, rfl, trivial⟩ ?_
      | refine Chk.mk ⟨rfl, rfl, rfl, rfl, trivial⟩ ?_
      | refine Chk.mk ⟨rfl, rfl, rfl, rfl, rfl, trivial⟩ ?_
      | refine Chk.mk ⟨rfl, rfl, rfl, rfl, rfl, rfl, trivial⟩ ?_)
    refine Done.mk (bad _ (hbad _ fun h' => c1 ?_))
    have := h'.1
    omega
  have hcr : rest.length = c := by omega
  obtain rfl : n = c + 1 := by omega
  rcases hI.at' with q0 | ⟨bI, pre, post, TI, rfl, rfl, hpost⟩
  · have := hI.le; omega
  refine CodeF.loopD [0, 2, 4, 6] (fun vs J' S' => ∃ (i : Nat) (l2 : List DI), i ≤ c ∧ l2.map (fun d => (d.blk, d.b)) = l.map (fun d => (d.blk, d.b)) ∧ (∀ k, k < c → ∃ d, l2[k]? = some d ∧ d.blk = blkB b0 k ∧ d.data = dAt D b0 i k) ∧
      vs = [.slice (some ⟨bA, oA, none⟩) (c + 1 : Nat) capL, .pointer (some ⟨b2, 0, none⟩), .pointer (some ⟨b4, 0, none⟩), .int .i64 i] ∧ I = J' ∧
      S' = [gBox b2 0 0 none 0 0, [(bI, row (pre ++ imgCells (l.map DI.img) ++ post) TI)], dch l2, gBox b4 e s (some ⟨bI, pre.length, none⟩) c capI])
    (fun vs _ _ => match vs with | [_, _, _, .int _ i] => ((c : Int) - i).toNat | _ => 0) ?_ ?_
  · refine ⟨_, Drop.refl _, 0, l, by omega, rfl, ?_, rfl, rfl, rfl⟩
    intro k hk
    have := congrArg (·[k]?) hp
    simp only [List.getElem?_map, List.getElem?_range hk, Option.map_some] at this
    cases hd : l[k]? with
    | none => rw [hd] at this; cases this
    | some d =>
      rw [hd] at this
      simp only [Option.map_some, Option.some.injEq] at this
      have q1 : d.blk = blkB b0 k := congrArg Prod.fst this
      have q2 : d.data = shoK noughts (hidB b0 k) 8 := congrArg Prod.snd this
      exact ⟨d, rfl, q1, by rw [q2, dAt, if_neg (by omega)]⟩
  rintro vs gE J' S' hJ' ⟨i, l2, hi, hcl, hdat, rfl, rfl, rfl⟩
  have hl2 : l2.length = c := by have := congrArg List.length hcl; rw [List.length_map, List.length_map] at this; omega
  have hcells := di_cells hcl
  refine LoadD.own 3 rfl _ rfl rfl ?_
  refine CmpD.split (fun c2 => ?_) (fun c2 => ?_)
  · have i1 : i < l2.length := by omega
    have ir : i < rest.length := by omega
    obtain ⟨d, hd1, hd2, hd3⟩ := hdat i (by omega)
    have hdl : l2 = l2.take i ++ d :: l2.drop (i + 1) := by
      rw [List.getElem?_eq_getElem i1, Option.some.injEq] at hd1
      rw [← hd1, List.getElem_cons_drop, List.take_append_drop]
    obtain ⟨L, hL⟩ : ∃ L, L = l2.take i := ⟨_, rfl⟩
    obtain ⟨R, hRR⟩ : ∃ R, R = l2.drop (i + 1) := ⟨_, rfl⟩
    have hLl : L.length = i := by rw [hL, List.length_take]; omega
    rw [← hL, ← hRR] at hdl
    obtain ⟨db, dz, dd⟩ := d
    dsimp only at hd2 hd3
    obtain ⟨r, hr⟩ : ∃ r, r = rest[i] := ⟨_, rfl⟩
    have hrok := hrest r (by rw [hr]; exact List.getElem_mem ir)
    have hrc : (((⟨ka, kc, b0⟩ : Bk) :: rest).map Bk.cell)[i + 1]? = some r.cell := by
      rw [List.map_cons, List.getElem?_cons_succ, List.getElem?_map, List.getElem?_eq_getElem ir, hr]; rfl
    have hDi : D.getD i [] = r.data := by
      rw [hD, List.getD_eq_getElem?_getD, List.getElem?_map, List.getElem?_eq_getElem ir, hr]; rfl
    have hr4 : r.data.length = 4096 := by have := hrok.len; rwa [bts_length] at this
    have hhid := hidB_length hb4 (i := i) (by omega)
    have hz := shoK_length noughts_length hhid 8 (by omega)
    rw [dAt, if_neg (by omega)] at hd3
    rcases hrok.mem with q0 | ⟨bB, oB, cB, TB, fB, hra, hIB, hcB⟩
    · omega
    refine ToD.to ((i + 1 : Nat) : Int) (wrap_i64 (by omega) (by omega)) ?_
    refine Chk.mk (by omega) ?_
    refine LoadD.imm hIA [r.cell] (take_get hcA hrc) rfl ?_
    refine CmpD.yes rfl ?_
    have hgl := fun q => gen_length (filF (shoK noughts (hidB b0 i) 8) r.data) (fun j => (shoK noughts (hidB b0 i) 8).getD j 0) q
    have hstep := fun q hq => gen_step (filF (shoK noughts (hidB b0 i) 8) r.data) (fun j => (shoK noughts (hidB b0 i) 8).getD j 0) (q := q) hq
    have hskip := fun q hq => gen_skip (filF (shoK noughts (hidB b0 i) 8) r.data) (fun j => (shoK noughts (hidB b0 i) 8).getD j 0) (q := q) hq
    have hfill := gen_fill hr4 hhid
    have hzero := gen_zero (filF (shoK noughts (hidB b0 i) 8) r.data) hz
    refine CodeF.loopD [0, 2, 4, 6, 7, 8] (fun vs J' S' => ∃ (q : Nat), q ≤ 4096 ∧
        vs = [.slice (some ⟨bA, oA, none⟩) (c + 1 : Nat) capL, .pointer (some ⟨b2, 0, none⟩), .pointer (some ⟨b4, 0, none⟩), .int .i64 i, r.cell, .int .i64 q] ∧ I = J' ∧
        S' = [gBox b2 0 0 none 0 0, [(bI, row (pre ++ imgCells (l.map DI.img) ++ post) TI)], dch (L ++ ⟨db, dz, gen (filF (shoK noughts (hidB b0 i) 8) r.data) (fun j => (shoK noughts (hidB b0 i) 8).getD j 0) q⟩ :: R), gBox b4 e s (some ⟨bI, pre.length, none⟩) c capI])
      (fun vs _ _ => match vs with | [_, _, _, _, _, .int _ q] => ((4096 : Int) - q).toNat | _ => 0) ?_ ?_
    · refine ⟨_, Drop.refl _, 0, by omega, rfl, rfl, ?_⟩
      rw [hzero, ← hd3, ← hdl]
    rintro vs gE2 J' S' hJ' ⟨q, hq, rfl, rfl, rfl⟩
    refine CmpD.split (fun c3 => ?_) (fun c3 => ?_)
    · refine Chk.mk (by decide) ?_
      refine ToD.to ((q % 512 : Nat) : Int) (tmod_nat q 512) ?_
      refine CmpD.split (fun c4 => ?_) (fun c4 => ?_)
      · refine CodeF.sched [[], [0], [], [0, 1, 2], [0, 1, 2, 3], [0, 1, 2, 3, 4], [], [], [], [7, 8], [7, 8, 9], [0, 1, 2, 3, 4, 5, 6, 7, 8, 9, 10], [0, 1, 2, 3, 4, 5, 6, 7, 8, 9, 10, 11]] [0, 1, 2, 3, 4, 5, 6, 7, 8, 9, 10, 11, 12] (by kernel_rfl) ?_
        refine LoadP.at 3 rfl _ rfl rfl ?_
        refine Chk.mk (by omega) ?_
        have hc1' : ((l.map DI.img).length) = c := by rw [List.length_map, hll]
        have hcell : (imgCells (l.map DI.img))[i * 2 + 1]? = some (.slice (some ⟨dz, 0, none⟩) 4096 4096) := by
          rw [← hcells]
          have hi2 : i < (l2.map DI.img).length := by rw [List.length_map]; exact i1
          have := imgCells_1 hi2
          rw [this]
          have e1 : l2[i] = ⟨db, dz, dd⟩ := by rw [List.getElem?_eq_getElem i1, Option.some.injEq] at hd1; exact hd1
          rw [List.getElem_map, e1]; rfl
        have hIc : Cells I [[(bI, row (pre ++ imgCells (l.map DI.img) ++ post) TI)]] bI pre.length (c * 2) (imgCells (l.map DI.img)) :=
          ⟨_, TI, (0, 0), .one 0 rfl, by have := own_take pre (imgCells (l.map DI.img)) post; rwa [hI.n] at this, hI.n⟩
        refine LoadP.own 1 _ (hIc.at hcell) ?_
        rw [show r.cell = Value.slice r.a 4096 r.cap from rfl, hra]
        refine Chk.mk (by omega) ?_
        refine LoadP.imm [byte (r.data.getD q 0)] ⟨cB, TB, fB, .imm hIB, take_get hcB (bts_get (getD_get (by omega))), rfl⟩ ?_
        refine Chk.mk (by omega) ?_
        have hsp : splice (bts (gen (filF (shoK noughts (hidB b0 i) 8) r.data) (fun j => (shoK noughts (hidB b0 i) 8).getD j 0) q)) (0 + q) [byte (r.data.getD q 0)] = bts (gen (filF (shoK noughts (hidB b0 i) 8) r.data) (fun j => (shoK noughts (hidB b0 i) 8).getD j 0) (q + 1)) := by
          rw [bts_set (by rw [hgl]; omega) (hstep q (by omega)), Nat.zero_add]
          rw [show filF (shoK noughts (hidB b0 i) 8) r.data q = r.data.getD q 0 by rw [filF, if_pos (by omega)]]
          rfl
        refine storeD_mkTo 2 (dch L) (dch R) (bts (gen (filF (shoK noughts (hidB b0 i) 8) r.data) (fun j => (shoK noughts (hidB b0 i) 8).getD j 0) q)) 5 (0, 0) (by rw [dch_split]; rfl) _ hsp (by rw [bts_length, hgl]; show 0 + q + 1 ≤ _; omega) (.inr (.inr (Nat.le_refl _))) [gBox b2 0 0 none 0 0, [(bI, row (pre ++ imgCells (l.map DI.img) ++ post) TI)], dch (L ++ ⟨db, dz, gen (filF (shoK noughts (hidB b0 i) 8) r.data) (fun j => (shoK noughts (hidB b0 i) 8).getD j 0) (q + 1)⟩ :: R), gBox b4 e s (some ⟨bI, pre.length, none⟩) c capI] (by rw [dch_split, dch_split]; rfl) ?_
        refine ToD.i64 (by omega) (by omega) ?_
        refine ⟨_, Drop.refl _, ⟨q + 1, by omega, rfl, rfl, rfl⟩, ?_⟩
        show ((4096 : Int) - ((q : Int) + 1)).toNat < ((4096 : Int) - (q : Int)).toNat
        omega
      · refine ToD.i64 (by omega) (by omega) ?_
        refine ⟨_, Drop.refl _, ⟨q + 1, by omega, rfl, rfl, ?_⟩, ?_⟩
        · rw [hskip q (by rw [filF, if_neg (by omega)])]
        · show ((4096 : Int) - ((q : Int) + 1)).toNat < ((4096 : Int) - (q : Int)).toNat
          omega
    · obtain rfl : q = 4096 := by omega
      rw [hfill]
      refine ToD.i64 (by omega) (by omega) ?_
      refine ⟨_, Drop.refl _, ⟨i + 1, L ++ ⟨db, dz, shoK r.data (hidB b0 i) 8⟩ :: R, by omega, ?_, ?_, rfl, rfl, rfl⟩, ?_⟩
      · rw [← hcl, hdl]; simp
      · intro k hk
        rcases Nat.lt_trichotomy k i with g | g | g
        · obtain ⟨d', q1, q2, q3⟩ := hdat k hk
          refine ⟨d', ?_, q2, ?_⟩
          · rw [List.getElem?_append_left (by omega), ← q1, hdl, List.getElem?_append_left (by omega)]
          · rw [q3, dAt, dAt, if_pos g, if_pos (by omega)]
        · subst g
          refine ⟨⟨db, dz, shoK r.data (hidB b0 k) 8⟩, ?_, hd2, ?_⟩
          · rw [List.getElem?_append_right (by omega), hLl, Nat.sub_self]; rfl
          · show shoK r.data (hidB b0 k) 8 = _
            rw [dAt, if_pos (by omega), hDi]
        · obtain ⟨d', q1, q2, q3⟩ := hdat k hk
          refine ⟨d', ?_, q2, ?_⟩
          · rw [List.getElem?_append_right (by omega), ← q1, hdl, List.getElem?_append_right (by omega), hLl]
            obtain ⟨m, hm⟩ : ∃ m, k - i = m + 1 := ⟨k - i - 1, by omega⟩
            rw [hm, List.getElem?_cons_succ, List.getElem?_cons_succ]
          · rw [q3, dAt, dAt, if_neg (by omega), if_neg (by omega)]
      · show ((c : Int) - ((i : Int) + 1)).toNat < ((c : Int) - i).toNat; omega
  · obtain rfl : i = c := by omega
    have hDc : D.length = i := by omega
    have hpr : (l2.map DI.img).map Img.pr = getL b0 D := by
      refine getElem_eq_of (by simp [getL, hl2, hDc]) fun k k1 k2 => ?_
      rw [List.length_map, List.length_map] at k1
      obtain ⟨d, q1, q2, q3⟩ := hdat k (by omega)
      rw [List.getElem?_eq_getElem k1, Option.some.injEq] at q1
      simp only [getL, List.getElem_map, List.getElem_range]
      rw [q1]
      show (d.blk, d.data) = _
      rw [q2, q3, dAt, if_pos (by omega)]
    obtain ⟨hRg, hbk⟩ := hright (by omega)
    have hd4 : ∀ d ∈ l2, In64 d.blk ∧ d.data.length = 4096 := by
      intro d hd
      have hm : (d.blk, d.data) ∈ (l2.map DI.img).map Img.pr := List.mem_map.2 ⟨d.img, List.mem_map_of_mem hd, rfl⟩
      rw [hpr] at hm
      have := hRg.2.2.2.2.2.2.1 _ hm
      exact ⟨by have h1 := this.1; have h2 := this.2.1; dsimp only at h1 h2; unfold In64; omega, this.2.2⟩
    have hIO : OwnC [(bI, row (pre ++ imgCells (l.map DI.img) ++ post) TI)] 2 (some ⟨bI, pre.length, none⟩) l2.length capI (imgCells (l2.map DI.img)) := by rw [hl2, hcells]; exact hI
    have hIR := dch_img (I := I) (S := [gBox b2 0 0 none 0 0, [(bI, row (pre ++ imgCells (l.map DI.img) ++ post) TI)], dch l2, gBox b4 e s (some ⟨bI, pre.length, none⟩) i capI]) 2 rfl (fun d hd => (hd4 d hd).2) (hIO.slC 1 rfl)
    have hPt := r6_Put e s (cap := capI) hIR (by intro g hg; obtain ⟨d, _, rfl⟩ := List.mem_map.1 hg; exact Nat.le_refl _) (by rw [hpr]; exact hRg)
    rw [hpr, List.length_map, hl2] at hPt
    refine LoadD.own 3 rfl _ rfl rfl ?_
    refine Tri.nf hPt ?_
    rintro v J2 S' hJ2 ⟨aO, capO, chO, bs, rfl, hO, hbd, hbok, rfl⟩
    have hbl : bs.length = i + 1 := by have := hO.n; rw [List.length_map] at this; omega
    have hsm := same_lists (S := [gBox b2 0 0 none 0 0, [(bI, row (pre ++ imgCells (l.map DI.img) ++ post) TI)], dch l2, gBox b4 e s (some ⟨bI, pre.length, none⟩) i capI, chO]) (I := J2) (g1 := bs) (g2 := (⟨ka, kc, b0⟩ : Bk) :: rest) (c1 := capO) (c2 := capL) (by rw [hbl]; exact hO.slC1 4 rfl) (by rw [hl]; exact (h.mono hJ2).slC) hbok (fun b hb => Rds.mono (hok b hb) hJ2) (by omega)
    rw [hbl, hbd, hmap, hl] at hsm
    refine Tri.nf hsm ?_
    rintro v J3 S' hJ3 ⟨rfl, rfl, rfl⟩
    by_cases hq : putP e s (getL b0 D) = b0 :: D
    · rw [decide_eq_true hq]
      repeat (first
        | refine LoadD.own 0 rfl _ rfl rfl ?_
        | refine LoadD.own 1 rfl _ rfl rfl ?_
        | refine LoadD.own 2 rfl _ rfl rfl ?_
        | refine LoadD.own 3 rfl _ rfl rfl ?_
        | refine LoadD.own 4 rfl _ rfl rfl ?_
        | refine LoadP.at 0 rfl _ rfl rfl ?_
        | refine LoadP.at 1 rfl _ rfl rfl ?_
        | refine LoadP.at 2 rfl _ rfl rfl ?_
        | refine LoadP.at 3 rfl _ rfl rfl ?_
        | refine LoadP.at 4 rfl _ rfl rfl ?_
        | refine StoreD.st 0 rfl rfl rfl ?_
        | refine StoreD.st 1 rfl rfl rfl ?_
        | refine StoreD.st 2 rfl rfl rfl ?_
        | refine StoreD.st 3 rfl rfl rfl ?_
        | refine StoreD.st 4 rfl rfl rfl ?_
        | refine CmpD.yes rfl ?_
        | refine CmpD.yes (by decide) ?_
        | refine CmpD.no (by decide) ?_
        | refine Chk.mk ⟨rfl, trivial⟩ ?_
        | refine Chk.mk ⟨rfl, rfl, trivial⟩ ?_
        | refine Chk.mk ⟨rfl, rfl, rfl, trivial⟩ ?_
        | refine Chk.mk ⟨rfl, rfl, rfl, rfl, trivial⟩ ?_
        | refine Chk.mk ⟨rfl, rfl, rfl, rfl, rfl, trivial⟩ ?_
        | refine Chk.mk ⟨rfl, rfl, rfl, rfl, rfl, rfl, trivial⟩ ?_)
      have hrr := (hiff (by omega)).1 hq
      refine Done.mk ⟨[[(bI, row (pre ++ imgCells (l.map DI.img) ++ post) TI)] ++ dch l2], (Drop.pick [1, 2] _ rfl).trans (Drop.flat (by simp [St.at])), _, rfl, .inr ⟨e, s, getL b0 D, hgood _ hrr, some ⟨bI, pre.length, none⟩, capI, _, l2, rfl, by rw [hl2]; rfl, hIO, hd4, hpr⟩⟩
    · rw [decide_eq_false hq]
      repeat (first
        | refine LoadD.own 0 rfl _ rfl rfl ?_
        | refine LoadD.own 1 rfl _ rfl rfl ?_
        | refine LoadD.own 2 rfl _ rfl rfl ?_
        | refine LoadD.own 3 rfl _ rfl rfl ?_
        | refine LoadD.own 4 rfl _ rfl rfl ?_
        | refine LoadP.at 0 rfl _ rfl rfl ?_
        | refine LoadP.at 1 rfl _ rfl rfl ?_
        | refine LoadP.at 2 rfl _ rfl rfl ?_
        | refine LoadP.at 3 rfl _ rfl rfl ?_
        | refine LoadP.at 4 rfl _ rfl rfl ?_
        | refine StoreD.st 0 rfl rfl rfl ?_
        | refine StoreD.st 1 rfl rfl rfl ?_
        | refine StoreD.st 2 rfl rfl rfl ?_
        | refine StoreD.st 3 rfl rfl rfl ?_
        | refine StoreD.st 4 rfl rfl rfl ?_
        | refine CmpD.yes rfl ?_
        | refine CmpD.yes (by decide) ?_
        | refine CmpD.no (by decide) ?_
        | refine Chk.mk ⟨rfl, trivial⟩ ?_
        | refine Chk.mk ⟨rfl, rfl, trivial⟩ ?_
        | refine Chk.mk ⟨rfl, rfl, rfl, trivial⟩ ?_
        | refine Chk.mk ⟨rfl, rfl, rfl, rfl, trivial⟩ ?_
        | refine Chk.mk ⟨rfl, rfl, rfl, rfl, rfl, trivial⟩ ?_
        | refine Chk.mk ⟨rfl, rfl, rfl, rfl, rfl, rfl, trivial⟩ ?_)
      exact Done.mk (bad _ (hbad _ fun h' => hq ((hiff (by omega)).2 h')))
end Go.Proofs.Ytbpdbgcndfcilaa
namespace Go.Proofs.Ytbpdbgcndfcilaa
open Go.RowKit Go.Sl
set_option maxRecDepth 20000

abbrev G3 := Nat × Nat × List PImg
/-- groups one behind the other -/
noncomputable def scanK (rb : Nat → Dat) (ep : Int) : Nat → Nat → Int → Nat → List G3
  | 0, _, _, _ => []
  | f + 1, at_, seq, room => match grpP rb at_ room with
    | none => []
    | some (e, s, l) => if (e : Int) = ep ∧ (s : Int) = seq then (e, s, l) :: scanK rb ep f (at_ + (l.length + 1)) (seq + 1) (room - (l.length + 1)) else []
theorem grpP_room {rb : Nat → Dat} {at_ room e s : Nat} {l : List PImg} (h : grpP rb at_ room = some (e, s, l)) : l.length + 1 ≤ room ∧ 1 ≤ l.length ∧ l.length ≤ 32 := by
  unfold grpP at h
  split at h
  · cases h
  · rename_i e' s' l' hh
    split at h
    · rename_i hr
      obtain ⟨hR, hp⟩ := getP_some h
      have := congrArg List.length hp
      rw [putP_length, List.length_map, List.length_range] at this
      exact ⟨by omega, hR.2.2.2.2.1, hR.2.2.2.2.2.1⟩
    · cases h
/-- a group, as it lies, told as numbers and images -/
def Grp.g3 (g : Grp) : Int × Int × List PImg := (g.e, g.s, g.gs.map Img.pr)
def up3 (g : G3) : Int × Int × List PImg := (g.1, g.2.1, g.2.2)
structure ScSt where
  f : Nat
  at' : Nat
  seq : Int
  room : Nat
@[reducible] def sBoxS (b : Nat) (s : Sup) : List Blk := [(b, row [.int .i64 s.blocks, .int .i64 s.epoch, .int .i64 s.seq, .int .i64 s.tail] 56)]
@[reducible] def scIt (bS bP bR bD : Nat) (s : Sup) (x : Lay) (e : Int) (chD : List Blk) : St := [sBoxS bS s, [(bP, row [.pointer (some ⟨bR, 0, none⟩)] 140)], rChunk bR bD x e, chD]
def ScE (rb : Nat → Dat) (ep : Int) (lb : Nat) (J : Imm) (a : ScSt) (xs : List Value) (b : ScSt) : Prop :=
  ∃ e s l aI capI gs, a.f = b.f + 1 ∧ grpP rb a.at' a.room = some (e, s, l) ∧ (e : Int) = ep ∧ (s : Int) = a.seq ∧ xs = [.int .i64 ((a.at' + (l.length + 1)) % lb : Nat), .agg #[.int .i64 (e : Nat), .int .i64 (s : Nat), .slice aI gs.length capI]] ∧ ImgsOk J aI gs ∧ gs.map Img.pr = l ∧
    b.at' = a.at' + (l.length + 1) ∧ b.seq = a.seq + 1 ∧ b.room = a.room - (l.length + 1)
set_option maxHeartbeats 4000000 in
theorem scan_up {I : Imm} {bS bP bR bD : Nat} {d : DSt} {chD : List Blk} (hD : Dk I bD d chD) (hdn : d.down = false) (x : Lay) (l lb : Nat) (hl : x.l = l) (hlb : x.lb = lb) (h0 : 0 < lb) (hlen : l + lb ≤ d.now.length) (s : Sup) (tail : Nat) (htl : s.tail = tail) (ht : tail < lb) (hseq : 1 ≤ s.seq ∧ s.seq ≤ 549755813888) :
    SeqJ Try.prog 129 #[.pointer (some ⟨bS, 0, none⟩), .pointer (some ⟨bP, 0, none⟩)] I (scIt bS bP bR bD s x 0 chD) (⟨lb + 1, tail, s.seq, lb⟩ : ScSt) (ScE (rbP d l lb) s.epoch lb)
      (fun a _ R => scanK (rbP d l lb) s.epoch a.f a.at' a.seq a.room = [] ∧ R = scIt bS bP bR bD s x 0 chD) (fun _ _ => True) := by
  have hr := hD.wf.range
  intro ll inv stp J c hJ hmn hY h1
  refine Tri.drop ?_ (fun _ _ _ _ h => h)
  obtain ⟨s1, s2, s3, s4⟩ := s
  obtain ⟨x1, x2, x3, x4, x5, x6, x7⟩ := x
  dsimp only at hl hlb htl hseq hY h1 ⊢
  subst hl hlb htl
  have hup := fun (J : Imm) (hJ : I.le J) => group_up (bR := bR) (hD.mono hJ) hdn ⟨x1, (l : Nat), (lb : Nat), x4, x5, x6, x7⟩ l lb rfl rfl h0 hlen
  refine Tri.of (args := [.func (.yield ll) #[] #[], .pointer (some ⟨bS, 0, none⟩), .pointer (some ⟨bP, 0, none⟩)]) tabOk Try.func129 rfl (by kernel_rfl) (by kernel_rfl) ?_
  refine CodeF.sched [[], [0], [], [2], [0, 1], [0, 1, 2, 3, 4]] [0, 1, 2, 3, 4, 5] (by kernel_rfl) ?_
  repeat (first
    | refine LoadD.own 0 rfl _ rfl rfl ?_
    | refine LoadD.own 1 rfl _ rfl rfl ?_
    | refine LoadD.own 2 rfl _ rfl rfl ?_
    | refine LoadD.own 3 rfl _ rfl rfl ?_
    | refine LoadP.at 0 rfl _ rfl rfl ?_
    | refine LoadP.at 1 rfl _ rfl rfl ?_
    | refine LoadP.at 2 rfl _ rfl rfl ?_
    | refine LoadP.at 3 rfl _ rfl rfl ?_
    | refine StoreD.st 0 rfl rfl rfl ?_
    | refine StoreD.st 1 rfl rfl rfl ?_
    | refine StoreD.st 2 rfl rfl rfl ?_
    | refine StoreD.st 3 rfl rfl rfl ?_
    | refine CmpD.yes rfl ?_
    | refine CmpD.yes (by decide) ?_
    | refine CmpD.no (by decide) ?_
    | refine Chk.mk ⟨rfl, trivial⟩ ?_
    | refine Chk.mk ⟨rfl, rfl, trivial⟩ ?_
    | refine Chk.mk ⟨rfl, rfl, rfl, trivial⟩ ?_
    | refine Chk.mk ⟨rfl, rfl, rfl, rfl, trivial⟩ ?_
    | refine Chk.mk ⟨rfl, rfl, rfl, rfl, rfl, trivial⟩ ?_
    | refine Chk.mk ⟨rfl, rfl, rfl, rfl, rfl, rfl, trivial⟩ ?_)
  refine CodeF.loopD [0, 1, 2, 4, 5, 6] (fun vs J' S' => ∃ (a : ScSt) (c' : List Blk), inv a J' c' ∧ J.le J' ∧ a.room + a.at' = lb + tail ∧ a.room < a.f ∧ a.room ≤ lb ∧ s3 ≤ a.seq ∧ a.seq + a.room ≤ s3 + lb ∧
      vs = [.func (.yield ll) #[] #[], .pointer (some ⟨bS, 0, none⟩), .pointer (some ⟨bP, 0, none⟩), .int .i64 a.at', .int .i64 a.seq, .int .i64 a.room] ∧ S' = c' :: scIt bS bP bR bD ⟨s1, s2, s3, tail⟩ ⟨x1, (l : Nat), (lb : Nat), x4, x5, x6, x7⟩ 0 chD)
    (fun vs _ _ => match vs with | [_, _, _, _, _, .int _ r] => r.toNat | _ => 0) ?_ ?_
  · exact ⟨_, Drop.refl _, ⟨lb + 1, tail, s3, lb⟩, c, h1, Imm.le_refl _, rfl, by show lb < lb + 1; omega, Nat.le_refl _, Int.le_refl _, Int.le_refl _, rfl, rfl⟩
  rintro vs gE J' S' hJ' ⟨⟨f, at_, seq, room⟩, c', hinv, hle, h2, h3, h4, h5, h6, rfl, rfl⟩
  dsimp only at h2 h3 h4 h5 h6
  refine CmpD.split (fun c1 => ?_) (fun c1 => ?_)
  rotate_left
  · have c1 : ¬ (0 : Int) < room := c1
    obtain rfl : room = 0 := by omega
    refine Done.mk ⟨_, Drop.refl _, c', _, rfl, .inl ⟨⟨f, at_, seq, 0⟩, ⟨?_, rfl⟩, hinv⟩⟩
    obtain ⟨f, rfl⟩ : ∃ m, f = m + 1 := ⟨f - 1, by omega⟩
    show scanK _ _ (f + 1) at_ seq 0 = []
    rw [scanK]
    cases hg : grpP (rbP d l lb) at_ 0 with
    | none => rfl
    | some p => obtain ⟨e, s, li⟩ := p; have := (grpP_room hg).1; omega
  obtain ⟨f, rfl⟩ : ∃ m, f = m + 1 := ⟨f - 1, by omega⟩
  have c1 : (0 : Int) < room := c1
  repeat (first
    | refine LoadD.own 0 rfl _ rfl rfl ?_
    | refine LoadD.own 1 rfl _ rfl rfl ?_
    | refine LoadD.own 2 rfl _ rfl rfl ?_
    | refine LoadD.own 3 rfl _ rfl rfl ?_
    | refine LoadD.own 4 rfl _ rfl rfl ?_
    | refine LoadP.at 0 rfl _ rfl rfl ?_
    | refine LoadP.at 1 rfl _ rfl rfl ?_
    | refine LoadP.at 2 rfl _ rfl rfl ?_
    | refine LoadP.at 3 rfl _ rfl rfl ?_
    | refine LoadP.at 4 rfl _ rfl rfl ?_
    | refine StoreD.st 0 rfl rfl rfl ?_
    | refine StoreD.st 1 rfl rfl rfl ?_
    | refine StoreD.st 2 rfl rfl rfl ?_
    | refine StoreD.st 3 rfl rfl rfl ?_
    | refine StoreD.st 4 rfl rfl rfl ?_
    | refine CmpD.yes rfl ?_
    | refine CmpD.yes (by decide) ?_
    | refine CmpD.no (by decide) ?_
    | refine Chk.mk ⟨rfl, trivial⟩ ?_
    | refine Chk.mk ⟨rfl, rfl, trivial⟩ ?_
    | refine Chk.mk ⟨rfl, rfl, rfl, trivial⟩ ?_
    | refine Chk.mk ⟨rfl, rfl, rfl, rfl, trivial⟩ ?_
    | refine Chk.mk ⟨rfl, rfl, rfl, rfl, rfl, trivial⟩ ?_
    | refine Chk.mk ⟨rfl, rfl, rfl, rfl, rfl, rfl, trivial⟩ ?_)
  refine Tri.frame (hup J' (Imm.le_trans hJ hle) at_ (by omega) room) [3, 4] rfl rfl ?_
  rintro v J1 A' hJ1 ⟨rfl, ⟨hno, rfl⟩ | ⟨e, s, li, hso, aI, capI, gs, rfl, hgs, hgp⟩⟩
  · refine ⟨by simp, ?_⟩
    conv => whnf
    intro b7
    repeat (first
      | refine LoadD.own 0 rfl _ rfl rfl ?_
      | refine LoadD.own 1 rfl _ rfl rfl ?_
      | refine LoadD.own 2 rfl _ rfl rfl ?_
      | refine LoadD.own 3 rfl _ rfl rfl ?_
      | refine LoadD.own 4 rfl _ rfl rfl ?_
      | refine LoadD.own 5 rfl _ rfl rfl ?_
      | refine LoadP.at 0 rfl _ rfl rfl ?_
      | refine LoadP.at 1 rfl _ rfl rfl ?_
      | refine LoadP.at 2 rfl _ rfl rfl ?_
      | refine LoadP.at 3 rfl _ rfl rfl ?_
      | refine LoadP.at 4 rfl _ rfl rfl ?_
      | refine LoadP.at 5 rfl _ rfl rfl ?_
      | refine StoreD.st 0 rfl rfl rfl ?_
      | refine StoreD.st 1 rfl rfl rfl ?_
      | refine StoreD.st 2 rfl rfl rfl ?_
      | refine StoreD.st 3 rfl rfl rfl ?_
      | refine StoreD.st 4 rfl rfl rfl ?_
      | refine StoreD.st 5 rfl rfl rfl ?_
      | refine CmpD.yes rfl ?_
      | refine CmpD.yes (by decide) ?_
      | refine CmpD.no (by decide) ?_
      | refine Chk.mk ⟨rfl, trivial⟩ ?_
      | refine Chk.mk ⟨rfl, rfl, trivial⟩ ?_
      | refine Chk.mk ⟨rfl, rfl, rfl, trivial⟩ ?_
      | refine Chk.mk ⟨rfl, rfl, rfl, rfl, trivial⟩ ?_
      | refine Chk.mk ⟨rfl, rfl, rfl, rfl, rfl, trivial⟩ ?_
      | refine Chk.mk ⟨rfl, rfl, rfl, rfl, rfl, rfl, trivial⟩ ?_)
    refine Done.mk ⟨_, Drop.pick [0, 1, 2, 3, 4] _ rfl, c', _, rfl, .inl ⟨⟨f + 1, at_, seq, room⟩, ⟨?_, rfl⟩, hmn _ _ _ _ hJ1 hinv⟩⟩
    show scanK _ _ (f + 1) at_ seq room = []
    rw [scanK, hno]
  · refine ⟨by simp, ?_⟩
    have hgr := grpP_room hso
    have hgl : gs.length = li.length := by rw [← hgp, List.length_map]
    have stop : ¬ ((e : Int) = s2 ∧ (s : Int) = seq) → scanK (rbP d l lb) s2 (f + 1) at_ seq room = [] := by
      intro hn
      rw [scanK, hso]
      dsimp only
      rw [if_neg hn]
    conv => whnf
    intro b7
    repeat (first
      | refine LoadD.own 0 rfl _ rfl rfl ?_
      | refine LoadD.own 1 rfl _ rfl rfl ?_
      | refine LoadD.own 2 rfl _ rfl rfl ?_
      | refine LoadD.own 3 rfl _ rfl rfl ?_
      | refine LoadD.own 4 rfl _ rfl rfl ?_
      | refine LoadD.own 5 rfl _ rfl rfl ?_
      | refine LoadP.at 0 rfl _ rfl rfl ?_
      | refine LoadP.at 1 rfl _ rfl rfl ?_
      | refine LoadP.at 2 rfl _ rfl rfl ?_
      | refine LoadP.at 3 rfl _ rfl rfl ?_
      | refine LoadP.at 4 rfl _ rfl rfl ?_
      | refine LoadP.at 5 rfl _ rfl rfl ?_
      | refine StoreD.st 0 rfl rfl rfl ?_
      | refine StoreD.st 1 rfl rfl rfl ?_
      | refine StoreD.st 2 rfl rfl rfl ?_
      | refine StoreD.st 3 rfl rfl rfl ?_
      | refine StoreD.st 4 rfl rfl rfl ?_
      | refine StoreD.st 5 rfl rfl rfl ?_
      | refine CmpD.yes rfl ?_
      | refine CmpD.yes (by decide) ?_
      | refine CmpD.no (by decide) ?_
      | refine Chk.mk ⟨rfl, trivial⟩ ?_
      | refine Chk.mk ⟨rfl, rfl, trivial⟩ ?_
      | refine Chk.mk ⟨rfl, rfl, rfl, trivial⟩ ?_
      | refine Chk.mk ⟨rfl, rfl, rfl, rfl, trivial⟩ ?_
      | refine Chk.mk ⟨rfl, rfl, rfl, rfl, rfl, trivial⟩ ?_
      | refine Chk.mk ⟨rfl, rfl, rfl, rfl, rfl, rfl, trivial⟩ ?_)
    refine CmpD.split (fun c2 => ?_) (fun c2 => ?_)
    rotate_left
    · repeat (first
        | refine LoadD.own 0 rfl _ rfl rfl ?_
        | refine LoadD.own 1 rfl _ rfl rfl ?_
        | refine LoadD.own 2 rfl _ rfl rfl ?_
        | refine LoadD.own 3 rfl _ rfl rfl ?_
        | refine LoadD.own 4 rfl _ rfl rfl ?_
        | refine LoadD.own 5 rfl _ rfl rfl ?_
        | refine LoadP.at 0 rfl _ rfl rfl ?_
        | refine LoadP.at 1 rfl _ rfl rfl ?_
        | refine LoadP.at 2 rfl _ rfl rfl ?_
        | refine LoadP.at 3 rfl _ rfl rfl ?_
        | refine LoadP.at 4 rfl _ rfl rfl ?_
        | refine LoadP.at 5 rfl _ rfl rfl ?_
        | refine StoreD.st 0 rfl rfl rfl ?_
        | refine StoreD.st 1 rfl rfl rfl ?_
        | refine StoreD.st 2 rfl rfl rfl ?_
        | refine StoreD.st 3 rfl rfl rfl ?_
        | refine StoreD.st 4 rfl rfl rfl ?_
        | refine StoreD.st 5 rfl rfl rfl ?_
        | refine CmpD.yes rfl ?_
        | refine CmpD.yes (by decide) ?_
        | refine CmpD.no (by decide) ?_
        | refine Chk.mk ⟨rfl, trivial⟩ ?_
        | refine Chk.mk ⟨rfl, rfl, trivial⟩ ?_
        | refine Chk.mk ⟨rfl, rfl, rfl, trivial⟩ ?_
        | refine Chk.mk ⟨rfl, rfl, rfl, rfl, trivial⟩ ?_
        | refine Chk.mk ⟨rfl, rfl, rfl, rfl, rfl, trivial⟩ ?_
        | refine Chk.mk ⟨rfl, rfl, rfl, rfl, rfl, rfl, trivial⟩ ?_)
      exact Done.mk ⟨_, Drop.pick [0, 1, 2, 3, 4] _ rfl, c', _, rfl, .inl ⟨⟨f + 1, at_, seq, room⟩, ⟨stop fun h' => c2 h'.1, rfl⟩, hmn _ _ _ _ hJ1 hinv⟩⟩
    repeat (first
      | refine LoadD.own 0 rfl _ rfl rfl ?_
      | refine LoadD.own 1 rfl _ rfl rfl ?_
      | refine LoadD.own 2 rfl _ rfl rfl ?_
      | refine LoadD.own 3 rfl _ rfl rfl ?_
      | refine LoadD.own 4 rfl _ rfl rfl ?_
      | refine LoadD.own 5 rfl _ rfl rfl ?_
      | refine LoadP.at 0 rfl _ rfl rfl ?_
      | refine LoadP.at 1 rfl _ rfl rfl ?_
      | refine LoadP.at 2 rfl _ rfl rfl ?_
      | refine LoadP.at 3 rfl _ rfl rfl ?_
      | refine LoadP.at 4 rfl _ rfl rfl ?_
      | refine LoadP.at 5 rfl _ rfl rfl ?_
      | refine StoreD.st 0 rfl rfl rfl ?_
      | refine StoreD.st 1 rfl rfl rfl ?_
      | refine StoreD.st 2 rfl rfl rfl ?_
      | refine StoreD.st 3 rfl rfl rfl ?_
      | refine StoreD.st 4 rfl rfl rfl ?_
      | refine StoreD.st 5 rfl rfl rfl ?_
      | refine CmpD.yes rfl ?_
      | refine CmpD.yes (by decide) ?_
      | refine CmpD.no (by decide) ?_
      | refine Chk.mk ⟨rfl, trivial⟩ ?_
      | refine Chk.mk ⟨rfl, rfl, trivial⟩ ?_
      | refine Chk.mk ⟨rfl, rfl, rfl, trivial⟩ ?_
      | refine Chk.mk ⟨rfl, rfl, rfl, rfl, trivial⟩ ?_
      | refine Chk.mk ⟨rfl, rfl, rfl, rfl, rfl, trivial⟩ ?_
      | refine Chk.mk ⟨rfl, rfl, rfl, rfl, rfl, rfl, trivial⟩ ?_)
    refine CmpD.split (fun c3 => ?_) (fun c3 => ?_)
    rotate_left
    · repeat (first
        | refine LoadD.own 0 rfl _ rfl rfl ?_
        | refine LoadD.own 1 rfl _ rfl rfl ?_
        | refine LoadD.own 2 rfl _ rfl rfl ?_
        | refine LoadD.own 3 rfl _ rfl rfl ?_
        | refine LoadD.own 4 rfl _ rfl rfl ?_
        | refine LoadD.own 5 rfl _ rfl rfl ?_
        | refine LoadP.at 0 rfl _ rfl rfl ?_
        | refine LoadP.at 1 rfl _ rfl rfl ?_
        | refine LoadP.at 2 rfl _ rfl rfl ?_
        | refine LoadP.at 3 rfl _ rfl rfl ?_
        | refine LoadP.at 4 rfl _ rfl rfl ?_
        | refine LoadP.at 5 rfl _ rfl rfl ?_
        | refine StoreD.st 0 rfl rfl rfl ?_
        | refine StoreD.st 1 rfl rfl rfl ?_
        | refine StoreD.st 2 rfl rfl rfl ?_
        | refine StoreD.st 3 rfl rfl rfl ?_
        | refine StoreD.st 4 rfl rfl rfl ?_
        | refine StoreD.st 5 rfl rfl rfl ?_
        | refine CmpD.yes rfl ?_
        | refine CmpD.yes (by decide) ?_
        | refine CmpD.no (by decide) ?_
        | refine Chk.mk ⟨rfl, trivial⟩ ?_
        | refine Chk.mk ⟨rfl, rfl, trivial⟩ ?_
        | refine Chk.mk ⟨rfl, rfl, rfl, trivial⟩ ?_
        | refine Chk.mk ⟨rfl, rfl, rfl, rfl, trivial⟩ ?_
        | refine Chk.mk ⟨rfl, rfl, rfl, rfl, rfl, trivial⟩ ?_
        | refine Chk.mk ⟨rfl, rfl, rfl, rfl, rfl, rfl, trivial⟩ ?_)
      exact Done.mk ⟨_, Drop.pick [0, 1, 2, 3, 4] _ rfl, c', _, rfl, .inl ⟨⟨f + 1, at_, seq, room⟩, ⟨stop fun h' => c3 h'.2, rfl⟩, hmn _ _ _ _ hJ1 hinv⟩⟩
    repeat (first
      | refine LoadD.own 0 rfl _ rfl rfl ?_
      | refine LoadD.own 1 rfl _ rfl rfl ?_
      | refine LoadD.own 2 rfl _ rfl rfl ?_
      | refine LoadD.own 3 rfl _ rfl rfl ?_
      | refine LoadD.own 4 rfl _ rfl rfl ?_
      | refine LoadD.own 5 rfl _ rfl rfl ?_
      | refine LoadP.at 0 rfl _ rfl rfl ?_
      | refine LoadP.at 1 rfl _ rfl rfl ?_
      | refine LoadP.at 2 rfl _ rfl rfl ?_
      | refine LoadP.at 3 rfl _ rfl rfl ?_
      | refine LoadP.at 4 rfl _ rfl rfl ?_
      | refine LoadP.at 5 rfl _ rfl rfl ?_
      | refine StoreD.st 0 rfl rfl rfl ?_
      | refine StoreD.st 1 rfl rfl rfl ?_
      | refine StoreD.st 2 rfl rfl rfl ?_
      | refine StoreD.st 3 rfl rfl rfl ?_
      | refine StoreD.st 4 rfl rfl rfl ?_
      | refine StoreD.st 5 rfl rfl rfl ?_
      | refine CmpD.yes rfl ?_
      | refine CmpD.yes (by decide) ?_
      | refine CmpD.no (by decide) ?_
      | refine Chk.mk ⟨rfl, trivial⟩ ?_
      | refine Chk.mk ⟨rfl, rfl, trivial⟩ ?_
      | refine Chk.mk ⟨rfl, rfl, rfl, trivial⟩ ?_
      | refine Chk.mk ⟨rfl, rfl, rfl, rfl, trivial⟩ ?_
      | refine Chk.mk ⟨rfl, rfl, rfl, rfl, rfl, trivial⟩ ?_
      | refine Chk.mk ⟨rfl, rfl, rfl, rfl, rfl, rfl, trivial⟩ ?_)
    rw [hgl]
    refine Tri.free (record_Blocks li.length J1 []) ?_
    rintro v _ _ hJ ⟨rfl, rfl, rfl⟩
    have hbn : blocksN li.length = ((li.length + 1 : Nat) : Int) := by unfold blocksN; rw [if_neg (by omega)]; omega
    rw [hbn]
    refine ToD.to (((at_ + (li.length + 1) : Nat)) : Int) (by show IntKind.i64.wrap ((at_ : Int) + _) = _; rw [wrap_i64 (by omega) (by omega)]; omega) ?_
    refine ToD.to (((room - (li.length + 1) : Nat)) : Int) (by show IntKind.i64.wrap ((room : Int) - _) = _; rw [wrap_i64 (by omega) (by omega)]; omega) ?_
    refine CodeF.sched [[], [], [], [2], [2, 3], [2, 3, 4], [2, 3, 4, 5], [1, 2, 3, 4, 5, 6], [], [0, 1, 2, 3, 4, 5, 6, 7, 8], [0, 1, 2, 3, 4, 5, 6, 7, 8, 9]] [0, 1, 2, 3, 4, 5, 6, 7, 8, 9, 10] (by kernel_rfl) ?_
    repeat (first
      | refine LoadD.own 0 rfl _ rfl rfl ?_
      | refine LoadD.own 1 rfl _ rfl rfl ?_
      | refine LoadD.own 2 rfl _ rfl rfl ?_
      | refine LoadD.own 3 rfl _ rfl rfl ?_
      | refine LoadD.own 4 rfl _ rfl rfl ?_
      | refine LoadD.own 5 rfl _ rfl rfl ?_
      | refine LoadP.at 0 rfl _ rfl rfl ?_
      | refine LoadP.at 1 rfl _ rfl rfl ?_
      | refine LoadP.at 2 rfl _ rfl rfl ?_
      | refine LoadP.at 3 rfl _ rfl rfl ?_
      | refine LoadP.at 4 rfl _ rfl rfl ?_
      | refine LoadP.at 5 rfl _ rfl rfl ?_
      | refine StoreD.st 0 rfl rfl rfl ?_
      | refine StoreD.st 1 rfl rfl rfl ?_
      | refine StoreD.st 2 rfl rfl rfl ?_
      | refine StoreD.st 3 rfl rfl rfl ?_
      | refine StoreD.st 4 rfl rfl rfl ?_
      | refine StoreD.st 5 rfl rfl rfl ?_
      | refine CmpD.yes rfl ?_
      | refine CmpD.yes (by decide) ?_
      | refine CmpD.no (by decide) ?_
      | refine Chk.mk ⟨rfl, trivial⟩ ?_
      | refine Chk.mk ⟨rfl, rfl, trivial⟩ ?_
      | refine Chk.mk ⟨rfl, rfl, rfl, trivial⟩ ?_
      | refine Chk.mk ⟨rfl, rfl, rfl, rfl, trivial⟩ ?_
      | refine Chk.mk ⟨rfl, rfl, rfl, rfl, rfl, trivial⟩ ?_
      | refine Chk.mk ⟨rfl, rfl, rfl, rfl, rfl, rfl, trivial⟩ ?_)
    refine Chk.mk (by show (lb : Int) ≠ 0; omega) ?_
    refine ToD.to _ (tmod_nat _ _) ?_
    repeat (first
      | refine LoadD.own 0 rfl _ rfl rfl ?_
      | refine LoadD.own 1 rfl _ rfl rfl ?_
      | refine LoadD.own 2 rfl _ rfl rfl ?_
      | refine LoadD.own 3 rfl _ rfl rfl ?_
      | refine LoadD.own 4 rfl _ rfl rfl ?_
      | refine LoadD.own 5 rfl _ rfl rfl ?_
      | refine LoadP.at 0 rfl _ rfl rfl ?_
      | refine LoadP.at 1 rfl _ rfl rfl ?_
      | refine LoadP.at 2 rfl _ rfl rfl ?_
      | refine LoadP.at 3 rfl _ rfl rfl ?_
      | refine LoadP.at 4 rfl _ rfl rfl ?_
      | refine LoadP.at 5 rfl _ rfl rfl ?_
      | refine StoreD.st 0 rfl rfl rfl ?_
      | refine StoreD.st 1 rfl rfl rfl ?_
      | refine StoreD.st 2 rfl rfl rfl ?_
      | refine StoreD.st 3 rfl rfl rfl ?_
      | refine StoreD.st 4 rfl rfl rfl ?_
      | refine StoreD.st 5 rfl rfl rfl ?_
      | refine CmpD.yes rfl ?_
      | refine CmpD.yes (by decide) ?_
      | refine CmpD.no (by decide) ?_
      | refine Chk.mk ⟨rfl, trivial⟩ ?_
      | refine Chk.mk ⟨rfl, rfl, trivial⟩ ?_
      | refine Chk.mk ⟨rfl, rfl, rfl, trivial⟩ ?_
      | refine Chk.mk ⟨rfl, rfl, rfl, rfl, trivial⟩ ?_
      | refine Chk.mk ⟨rfl, rfl, rfl, rfl, rfl, trivial⟩ ?_
      | refine Chk.mk ⟨rfl, rfl, rfl, rfl, rfl, rfl, trivial⟩ ?_)
    refine yieldD rfl rfl rfl (args := #[.int .i64 (((at_ + (li.length + 1)) % lb : Nat) : Int), .agg #[.int .i64 (e : Nat), .int .i64 (s : Nat), .slice aI li.length capI]]) rfl 0 rfl (hY ⟨f + 1, at_, seq, room⟩ [.int .i64 (((at_ + (li.length + 1)) % lb : Nat) : Int), .agg #[.int .i64 (e : Nat), .int .i64 (s : Nat), .slice aI li.length capI]] ⟨f, at_ + (li.length + 1), seq + 1, room - (li.length + 1)⟩ J1 c' (Imm.le_trans hle hJ1)
      ⟨e, s, li, aI, capI, gs, rfl, hso, c2, c3, by rw [hgl], hgs, hgp, rfl, rfl, rfl⟩ (hmn _ _ _ _ hJ1 hinv)) ?_
    rintro y J2 c2' hle2 (⟨rfl, hi2⟩ | ⟨rfl, hs2⟩)
    · repeat (first
        | refine LoadD.own 0 rfl _ rfl rfl ?_
        | refine LoadD.own 1 rfl _ rfl rfl ?_
        | refine LoadD.own 2 rfl _ rfl rfl ?_
        | refine LoadD.own 3 rfl _ rfl rfl ?_
        | refine LoadD.own 4 rfl _ rfl rfl ?_
        | refine LoadD.own 5 rfl _ rfl rfl ?_
        | refine LoadP.at 0 rfl _ rfl rfl ?_
        | refine LoadP.at 1 rfl _ rfl rfl ?_
        | refine LoadP.at 2 rfl _ rfl rfl ?_
        | refine LoadP.at 3 rfl _ rfl rfl ?_
        | refine LoadP.at 4 rfl _ rfl rfl ?_
        | refine LoadP.at 5 rfl _ rfl rfl ?_
        | refine StoreD.st 0 rfl rfl rfl ?_
        | refine StoreD.st 1 rfl rfl rfl ?_
        | refine StoreD.st 2 rfl rfl rfl ?_
        | refine StoreD.st 3 rfl rfl rfl ?_
        | refine StoreD.st 4 rfl rfl rfl ?_
        | refine StoreD.st 5 rfl rfl rfl ?_
        | refine CmpD.yes rfl ?_
        | refine CmpD.yes (by decide) ?_
        | refine CmpD.no (by decide) ?_
        | refine Chk.mk ⟨rfl, trivial⟩ ?_
        | refine Chk.mk ⟨rfl, rfl, trivial⟩ ?_
        | refine Chk.mk ⟨rfl, rfl, rfl, trivial⟩ ?_
        | refine Chk.mk ⟨rfl, rfl, rfl, rfl, trivial⟩ ?_
        | refine Chk.mk ⟨rfl, rfl, rfl, rfl, rfl, trivial⟩ ?_
        | refine Chk.mk ⟨rfl, rfl, rfl, rfl, rfl, rfl, trivial⟩ ?_)
      refine ToD.to (seq + 1) (by show IntKind.i64.wrap (seq + 1) = _; exact wrap_i64 (by omega) (by omega)) ?_
      refine ⟨_, Drop.pick [0, 1, 2, 3, 4] _ rfl, ⟨⟨f, at_ + (li.length + 1), seq + 1, room - (li.length + 1)⟩, c2', hi2, Imm.le_trans hle (Imm.le_trans hJ1 hle2), ?_, ?_, ?_, ?_, ?_, rfl, rfl⟩, ?_⟩
      · show room - (li.length + 1) + (at_ + (li.length + 1)) = lb + tail; omega
      · show room - (li.length + 1) < f; omega
      · show room - (li.length + 1) ≤ lb; omega
      · show s3 ≤ seq + 1; omega
      · show seq + 1 + ((room - (li.length + 1) : Nat) : Int) ≤ s3 + lb; omega
      · show (((room - (li.length + 1) : Nat)) : Int).toNat < ((room : Nat) : Int).toNat; omega
    · repeat (first
        | refine LoadD.own 0 rfl _ rfl rfl ?_
        | refine LoadD.own 1 rfl _ rfl rfl ?_
        | refine LoadD.own 2 rfl _ rfl rfl ?_
        | refine LoadD.own 3 rfl _ rfl rfl ?_
        | refine LoadD.own 4 rfl _ rfl rfl ?_
        | refine LoadD.own 5 rfl _ rfl rfl ?_
        | refine LoadP.at 0 rfl _ rfl rfl ?_
        | refine LoadP.at 1 rfl _ rfl rfl ?_
        | refine LoadP.at 2 rfl _ rfl rfl ?_
        | refine LoadP.at 3 rfl _ rfl rfl ?_
        | refine LoadP.at 4 rfl _ rfl rfl ?_
        | refine LoadP.at 5 rfl _ rfl rfl ?_
        | refine StoreD.st 0 rfl rfl rfl ?_
        | refine StoreD.st 1 rfl rfl rfl ?_
        | refine StoreD.st 2 rfl rfl rfl ?_
        | refine StoreD.st 3 rfl rfl rfl ?_
        | refine StoreD.st 4 rfl rfl rfl ?_
        | refine StoreD.st 5 rfl rfl rfl ?_
        | refine CmpD.yes rfl ?_
        | refine CmpD.yes (by decide) ?_
        | refine CmpD.no (by decide) ?_
        | refine Chk.mk ⟨rfl, trivial⟩ ?_
        | refine Chk.mk ⟨rfl, rfl, trivial⟩ ?_
        | refine Chk.mk ⟨rfl, rfl, rfl, trivial⟩ ?_
        | refine Chk.mk ⟨rfl, rfl, rfl, rfl, trivial⟩ ?_
        | refine Chk.mk ⟨rfl, rfl, rfl, rfl, rfl, trivial⟩ ?_
        | refine Chk.mk ⟨rfl, rfl, rfl, rfl, rfl, rfl, trivial⟩ ?_)
      exact Done.mk ⟨_, Drop.pick [0, 1, 2, 3, 4] _ rfl, c2', _, rfl, .inr ⟨hs2, trivial⟩⟩
set_option maxHeartbeats 2000000 in
theorem scan_down {I : Imm} {bS bP bR bD : Nat} {d : DSt} {chD : List Blk} (hD : Dk I bD d chD) (hdn : d.down = true) (x : Lay) (l lb : Nat) (hl : x.l = l) (hlb : x.lb = lb) (h0 : 0 < lb) (hlen : l + lb ≤ d.now.length) (s : Sup) (tail : Nat) (htl : s.tail = tail) :
    SeqJ Try.prog 129 #[.pointer (some ⟨bS, 0, none⟩), .pointer (some ⟨bP, 0, none⟩)] I (scIt bS bP bR bD s x 0 chD) () (fun _ _ _ _ => False)
      (fun _ _ R => R = scIt bS bP bR bD s x 6 chD) (fun _ _ => True) := by
  have hr := hD.wf.range
  intro ll inv stp J c hJ hmn hY h1
  refine Tri.drop ?_ (fun _ _ _ _ h => h)
  obtain ⟨s1, s2, s3, s4⟩ := s
  obtain ⟨x1, x2, x3, x4, x5, x6, x7⟩ := x
  dsimp only at hl hlb htl ⊢
  subst hl hlb htl
  have hdw := group_down (bR := bR) (hD.mono hJ) hdn ⟨x1, (l : Nat), (lb : Nat), x4, x5, x6, x7⟩ l lb rfl rfl h0 hlen
  refine Tri.of (args := [.func (.yield ll) #[] #[], .pointer (some ⟨bS, 0, none⟩), .pointer (some ⟨bP, 0, none⟩)]) tabOk Try.func129 rfl (by kernel_rfl) (by kernel_rfl) ?_
  refine CodeF.sched [[], [0], [], [2], [0, 1], [0, 1, 2, 3, 4]] [0, 1, 2, 3, 4, 5] (by kernel_rfl) ?_
  repeat (first
    | refine LoadD.own 0 rfl _ rfl rfl ?_
    | refine LoadD.own 1 rfl _ rfl rfl ?_
    | refine LoadD.own 2 rfl _ rfl rfl ?_
    | refine LoadD.own 3 rfl _ rfl rfl ?_
    | refine LoadP.at 0 rfl _ rfl rfl ?_
    | refine LoadP.at 1 rfl _ rfl rfl ?_
    | refine LoadP.at 2 rfl _ rfl rfl ?_
    | refine LoadP.at 3 rfl _ rfl rfl ?_
    | refine StoreD.st 0 rfl rfl rfl ?_
    | refine StoreD.st 1 rfl rfl rfl ?_
    | refine StoreD.st 2 rfl rfl rfl ?_
    | refine StoreD.st 3 rfl rfl rfl ?_
    | refine CmpD.yes rfl ?_
    | refine CmpD.yes (by decide) ?_
    | refine CmpD.no (by decide) ?_
    | refine Chk.mk ⟨rfl, trivial⟩ ?_
    | refine Chk.mk ⟨rfl, rfl, trivial⟩ ?_
    | refine Chk.mk ⟨rfl, rfl, rfl, trivial⟩ ?_
    | refine Chk.mk ⟨rfl, rfl, rfl, rfl, trivial⟩ ?_
    | refine Chk.mk ⟨rfl, rfl, rfl, rfl, rfl, trivial⟩ ?_
    | refine Chk.mk ⟨rfl, rfl, rfl, rfl, rfl, rfl, trivial⟩ ?_)
  refine CodeF.loopD [0, 1, 2, 4, 5, 6] (fun vs J' S' => J = J' ∧ inv () J' c ∧ vs = [.func (.yield ll) #[] #[], .pointer (some ⟨bS, 0, none⟩), .pointer (some ⟨bP, 0, none⟩), .int .i64 tail, .int .i64 s3, .int .i64 lb] ∧ S' = c :: scIt bS bP bR bD ⟨s1, s2, s3, tail⟩ ⟨x1, (l : Nat), (lb : Nat), x4, x5, x6, x7⟩ 0 chD)
    (fun _ _ _ => 0) ?_ ?_
  · exact ⟨_, Drop.refl _, rfl, h1, rfl, rfl⟩
  rintro vs gE J' S' hJ' ⟨rfl, hinv, rfl, rfl⟩
  refine CmpD.yes (by show (0 : Int) < lb; omega) ?_
  repeat (first
    | refine LoadD.own 0 rfl _ rfl rfl ?_
    | refine LoadD.own 1 rfl _ rfl rfl ?_
    | refine LoadD.own 2 rfl _ rfl rfl ?_
    | refine LoadD.own 3 rfl _ rfl rfl ?_
    | refine LoadD.own 4 rfl _ rfl rfl ?_
    | refine LoadP.at 0 rfl _ rfl rfl ?_
    | refine LoadP.at 1 rfl _ rfl rfl ?_
    | refine LoadP.at 2 rfl _ rfl rfl ?_
    | refine LoadP.at 3 rfl _ rfl rfl ?_
    | refine LoadP.at 4 rfl _ rfl rfl ?_
    | refine StoreD.st 0 rfl rfl rfl ?_
    | refine StoreD.st 1 rfl rfl rfl ?_
    | refine StoreD.st 2 rfl rfl rfl ?_
    | refine StoreD.st 3 rfl rfl rfl ?_
    | refine StoreD.st 4 rfl rfl rfl ?_
    | refine CmpD.yes rfl ?_
    | refine CmpD.yes (by decide) ?_
    | refine CmpD.no (by decide) ?_
    | refine Chk.mk ⟨rfl, trivial⟩ ?_
    | refine Chk.mk ⟨rfl, rfl, trivial⟩ ?_
    | refine Chk.mk ⟨rfl, rfl, rfl, trivial⟩ ?_
    | refine Chk.mk ⟨rfl, rfl, rfl, rfl, trivial⟩ ?_
    | refine Chk.mk ⟨rfl, rfl, rfl, rfl, rfl, trivial⟩ ?_
    | refine Chk.mk ⟨rfl, rfl, rfl, rfl, rfl, rfl, trivial⟩ ?_)
  refine Tri.frame (hdw tail lb) [3, 4] rfl rfl ?_
  rintro v J1 A' hJ1 ⟨rfl, rfl⟩
  refine ⟨by simp, ?_⟩
  conv => whnf
  intro b7
  repeat (first
    | refine LoadD.own 0 rfl _ rfl rfl ?_
    | refine LoadD.own 1 rfl _ rfl rfl ?_
    | refine LoadD.own 2 rfl _ rfl rfl ?_
    | refine LoadD.own 3 rfl _ rfl rfl ?_
    | refine LoadD.own 4 rfl _ rfl rfl ?_
    | refine LoadD.own 5 rfl _ rfl rfl ?_
    | refine LoadP.at 0 rfl _ rfl rfl ?_
    | refine LoadP.at 1 rfl _ rfl rfl ?_
    | refine LoadP.at 2 rfl _ rfl rfl ?_
    | refine LoadP.at 3 rfl _ rfl rfl ?_
    | refine LoadP.at 4 rfl _ rfl rfl ?_
    | refine LoadP.at 5 rfl _ rfl rfl ?_
    | refine StoreD.st 0 rfl rfl rfl ?_
    | refine StoreD.st 1 rfl rfl rfl ?_
    | refine StoreD.st 2 rfl rfl rfl ?_
    | refine StoreD.st 3 rfl rfl rfl ?_
    | refine StoreD.st 4 rfl rfl rfl ?_
    | refine StoreD.st 5 rfl rfl rfl ?_
    | refine CmpD.yes rfl ?_
    | refine CmpD.yes (by decide) ?_
    | refine CmpD.no (by decide) ?_
    | refine Chk.mk ⟨rfl, trivial⟩ ?_
    | refine Chk.mk ⟨rfl, rfl, trivial⟩ ?_
    | refine Chk.mk ⟨rfl, rfl, rfl, trivial⟩ ?_
    | refine Chk.mk ⟨rfl, rfl, rfl, rfl, trivial⟩ ?_
    | refine Chk.mk ⟨rfl, rfl, rfl, rfl, rfl, trivial⟩ ?_
    | refine Chk.mk ⟨rfl, rfl, rfl, rfl, rfl, rfl, trivial⟩ ?_)
  exact Done.mk ⟨_, Drop.pick [0, 1, 2, 3, 4] _ rfl, c, _, rfl, .inl ⟨(), rfl, hmn _ _ _ _ hJ1 hinv⟩⟩
end Go.Proofs.Ytbpdbgcndfcilaa
namespace Go.Proofs.Ytbpdbgcndfcilaa
open Go.RowKit Go.Sl
set_option maxRecDepth 20000

/-- a copy of bytes, its own -/
theorem copy_own (I : Imm) (a : Option Addr) (len cap : Nat) (l : Dat) (h : Rds I a len (bts l)) (hlen : len ≤ 140737488355328) :
    Tri Try.prog 33 #[.slice a len cap] I [] fun v J S' => ∃ a' cap' ch, v = .slice a' len cap' ∧ OwnB ch a' len cap' l ∧ I = J ∧ S' = [ch] := by
  refine Tri.lay (S2 := [[]]) (by simp) ?_
  refine Tri.of (args := [.slice a len cap]) tabOk Try.func33 rfl (by kernel_rfl) (by kernel_rfl) ?_
  refine appendD tabOk rfl rfl rfl rfl rfl rfl rfl 0 rfl (OwnC.nil 1 none) (SrcOk.slice (n := len) (news := bts l) tabOk rfl (by show SlC _ _ _ (len * 1) _; rw [Nat.mul_one]; exact h.slC) (bts_plain _)) rfl (by show (0 + len) * 1 ≤ _; omega) (by omega) ?_
  intro a2 cap2 ch2 hO
  rw [Nat.zero_add] at hO ⊢
  exact Done.mk ⟨a2, cap2, ch2, rfl, hO, rfl, rfl⟩
/-- a copy of bytes, fixed -/
theorem copy_fix (I : Imm) (a : Option Addr) (len cap : Nat) (l : Dat) (h : Rds I a len (bts l)) (hlen : len ≤ 1000000000) :
    Tri Try.prog 33 #[.slice a len cap] I [] fun v J _ => ∃ a' cap', v = .slice a' len cap' ∧ Rds J a' len (bts l) := by
  refine Tri.fixed (copy_own I a len cap l h (by omega)) ?_
  rintro v J S' hJ ⟨a', cap', ch, rfl, hO, rfl, rfl⟩
  refine ⟨0, ch, rfl, fun J' hJ' hm => ⟨a', cap', rfl, ?_⟩⟩
  exact Rds.of_own hO hm
def gv (g : Gate) : Int := if g.on then g.left else -1
@[reducible] def rV (s w : Hd) (count : Int) (down : Bool) (arm fault : Int) : Value := .agg #[s.v, w.v, .int .i64 count, .bool down, .int .i64 arm, .int .i64 fault]
end Go.Proofs.Ytbpdbgcndfcilaa
namespace Go.Proofs.Ytbpdbgcndfcilaa
open Go.RowKit Go.Sl
set_option maxRecDepth 20000

def atP (b : Dat) (l : List PImg) (n : Int) : Dat := l.foldl (fun x g => if g.1 = n then g.2 else x) b
theorem atP_snoc (b : Dat) (l : List PImg) (g : PImg) (n : Int) : atP b (l ++ [g]) n = if g.1 = n then g.2 else atP b l n := by simp [atP]
theorem pair_fst {c : List Value} {o : Nat} {x y : Value} (h : (c.drop o).take 2 = [x, y]) : (c.drop o).take 1 = [x] := by
  have := congrArg (List.take 1) h
  simpa [List.take_take] using this
theorem pair_snd {c : List Value} {o : Nat} {x y : Value} (h : (c.drop o).take 2 = [x, y]) : (c.drop (o + 1)).take 1 = [y] := take_part h (i := 1) (m := 1) (by omega)
theorem r4_At (s w : Hd) (count : Int) (down : Bool) (arm fault : Int) (bS : List Bk) (gs : List Img) (I : Imm) (hS : Rds I s.a s.len (bS.map Bk.cell)) (hsl : s.len ≤ 1000000) (hW : ImgsOk I w.a gs) (hwl : w.len = gs.length) (hwm : gs.length ≤ 1000000) (i : Nat) {bk : Bk} (hi : bS[i]? = some bk) (hok : BkOk I bk) :
    Tri Try.prog 101 #[rV s w count down arm fault, .int .i64 i] I [] fun v J _ => I = J ∧ ∃ a len cap, v = .slice a len cap ∧ Rds I a len (bts (atP bk.data (gs.map Img.pr) i)) := by
  obtain ⟨sa, sl, sc⟩ := s
  obtain ⟨wa, wl, wc⟩ := w
  dsimp only at hS hsl hW hwl
  subst hwl
  have hcell : (bS.map Bk.cell)[i]? = some bk.cell := by rw [List.getElem?_map, hi]; rfl
  have hil : i < sl := by
    have h1 := hS.len
    have h2 := (List.getElem?_eq_some_iff.1 hi).1
    rw [List.length_map] at h1; omega
  refine Tri.of (args := [rV ⟨sa, sl, sc⟩ ⟨wa, gs.length, wc⟩ count down arm fault, .int .i64 i]) tabOk Try.func101 rfl (by kernel_rfl) (by kernel_rfl) ?_
  conv => whnf
  intro b1
  refine LoadD.own 0 rfl _ rfl rfl ?_
  rcases hS.mem with q0 | ⟨bB, oB, cB, TB, fB, rfl, hIB, hcB⟩
  · omega
  refine Chk.mk (by dsimp only; omega) ?_
  refine LoadD.imm hIB [bk.cell] (take_get hcB hcell) rfl ?_
  refine CodeF.loopD [1, 2, 5, 6] (fun vs J' S' => ∃ (j : Nat) (a : Option Addr) (len cap : Nat), j ≤ gs.length ∧ Rds I a len (bts (atP bk.data ((gs.take j).map Img.pr) i)) ∧ vs = [.int .i64 i, .pointer (some ⟨b1, 0, none⟩), .slice a len cap, .int .i64 j] ∧ I = J' ∧ S' = [[(b1, row [.slice (some ⟨bB, oB, none⟩) sl sc, .slice wa gs.length wc, .int .i64 count, .bool down, .int .i64 arm, .int .i64 fault] 79)]])
    (fun vs _ _ => match vs with | [_, _, _, .int _ j] => ((gs.length : Int) - j).toNat | _ => 0) ?_ ?_
  · exact ⟨_, Drop.pick [0] _ rfl, 0, bk.a, 4096, bk.cap, by omega, hok, rfl, rfl, rfl⟩
  rintro vs gE J' S' hJ' ⟨j, a, len, cap, hjl, hR, rfl, rfl, rfl⟩
  refine LoadD.own 0 rfl _ rfl rfl ?_
  refine CmpD.split (fun c1 => ?_) (fun c1 => ?_)
  · have hlt : j < gs.length := by omega
    rcases hW.1.mem with q0 | ⟨bA, oA, cA, TA, fA, rfl, hIA, hcA⟩
    · omega
    have hpair := take_part hcA (i := j * 2) (m := 2) (by omega)
    rw [imgCells_at hlt] at hpair
    have htk : gs.take (j + 1) = gs.take j ++ [gs[j]] := by rw [List.take_add_one, List.getElem?_eq_getElem hlt]; rfl
    have hmem : gs[j] ∈ gs := List.getElem_mem hlt
    have hgd := (hW.2 gs[j] hmem).2
    generalize gs[j] = g at *
    refine LoadD.own 0 rfl _ rfl rfl ?_
    refine Chk.mk (by omega) ?_
    refine LoadD.imm hIA [.int .i64 g.blk] (pair_fst hpair) rfl ?_
    refine CmpD.split (fun c2 => ?_) (fun c2 => ?_)
    · refine LoadD.own 0 rfl _ rfl rfl ?_
      refine Chk.mk (by omega) ?_
      refine LoadD.imm hIA [.slice g.a g.len g.cap] (pair_snd hpair) rfl ?_
      refine ToD.i64 (by omega) (by omega) ?_
      refine ⟨_, Drop.pick [0] _ rfl, ⟨j + 1, g.a, g.len, g.cap, by omega, ?_, rfl, rfl, rfl⟩, ?_⟩
      · rw [htk, List.map_append, List.map_singleton, atP_snoc, if_pos c2]; exact hgd
      · show ((gs.length : Int) - ((j : Int) + 1)).toNat < ((gs.length : Int) - j).toNat; omega
    · refine ToD.i64 (by omega) (by omega) ?_
      refine ⟨_, Drop.pick [0] _ rfl, ⟨j + 1, a, len, cap, by omega, ?_, rfl, rfl, rfl⟩, ?_⟩
      · rw [htk, List.map_append, List.map_singleton, atP_snoc, if_neg c2]; exact hR
      · show ((gs.length : Int) - ((j : Int) + 1)).toNat < ((gs.length : Int) - j).toNat; omega
  · obtain rfl : j = gs.length := by omega
    rw [List.take_length] at hR
    exact Done.mk ⟨rfl, a, len, cap, rfl, hR⟩
end Go.Proofs.Ytbpdbgcndfcilaa
namespace Go.Proofs.Ytbpdbgcndfcilaa
open Go.RowKit Go.Sl
set_option maxRecDepth 20000

end Go.Proofs.Ytbpdbgcndfcilaa
namespace Go.Proofs.Ytbpdbgcndfcilaa
open Go.RowKit Go.Sl
set_option maxRecDepth 20000

end Go.Proofs.Ytbpdbgcndfcilaa
namespace Go.Proofs.Ytbpdbgcndfcilaa
open Go.RowKit Go.Sl
set_option maxRecDepth 20000

/-! ### the last image of a block -/
end Go.Proofs.Ytbpdbgcndfcilaa
namespace Go.Proofs.Ytbpdbgcndfcilaa
open Go.RowKit Go.Sl
set_option maxRecDepth 20000

/-- the arguments are as they must be -/
def ScanOk (n : Nat) (x : Lay) (s : Sup) : Prop := 64 ≤ n ∧ x = layOf n ∧ s.blocks = n ∧ 0 ≤ s.tail ∧ s.tail < layL n ∧ 1 ≤ s.epoch ∧ s.epoch ≤ 8388608 ∧ 1 ≤ s.seq ∧ s.seq ≤ 549755813888
noncomputable def scanL (d : DSt) (s : Sup) : List G3 := scanK (rbP d 2 (layL (d.now.length : Int)).toNat) s.epoch ((layL (d.now.length : Int)).toNat + 1) s.tail.toNat s.seq (layL (d.now.length : Int)).toNat
def placeP (lb tail : Nat) (l : List G3) : Nat := (tail + (l.map fun g => g.2.2.length + 1).sum) % lb
structure GrpsOk (J : Imm) (gl : List Grp) (l : List G3) : Prop where
  each : ∀ g ∈ gl, ImgsOk J g.a g.gs
  g3 : gl.map Grp.g3 = l.map up3
theorem GrpsOk.mono {I J : Imm} {gl : List Grp} {l : List G3} (h : GrpsOk I gl l) (hJ : I.le J) : GrpsOk J gl l := ⟨fun g hg => (h.each g hg).mono hJ, h.g3⟩
theorem GrpsOk.len {J : Imm} {gl : List Grp} {l : List G3} (h : GrpsOk J gl l) : gl.length = l.length := by have := congrArg List.length h.g3; simpa using this
theorem grpCells_snoc (l : List Grp) (g : Grp) : grpCells (l ++ [g]) = grpCells l ++ [.int .i64 g.e, .int .i64 g.s, .slice g.a g.gs.length g.cap] := by simp [grpCells]
theorem scan_bound {rb : Nat → Dat} {ep : Int} : ∀ (f at_ : Nat) (seq : Int) (room : Nat), (scanK rb ep f at_ seq room).length ≤ room ∧ ((scanK rb ep f at_ seq room).map fun g => g.2.2.length + 1).sum ≤ room
  | 0, _, _, _ => by simp [scanK]
  | f + 1, at_, seq, room => by
    rw [scanK]
    cases hg : grpP rb at_ room with
    | none => simp
    | some p =>
      obtain ⟨e, s, l⟩ := p
      dsimp only
      split
      · have h1 := grpP_room hg
        obtain ⟨h2, h3⟩ := scan_bound f (at_ + (l.length + 1)) (seq + 1) (room - (l.length + 1)) (rb := rb) (ep := ep)
        simp only [List.length_cons, List.map_cons, List.sum_cons]
        omega
      · simp
theorem ring_groups (bR : Nat) (s : Sup) (I : Imm) : Tri Try.prog 96 #[.pointer (some ⟨bR, 0, none⟩), s.v] I [] fun v J S' => ∃ bS bP, v = .func (.func 129) #[] #[.pointer (some ⟨bS, 0, none⟩), .pointer (some ⟨bP, 0, none⟩)] ∧ I = J ∧ S' = [[(bP, row [.pointer (some ⟨bR, 0, none⟩)] 140)], sBoxS bS s] := by
  refine Tri.of (args := [.pointer (some ⟨bR, 0, none⟩), s.v]) tabOk Try.func96 rfl (by kernel_rfl) (by kernel_rfl) ?_
  conv => whnf
  intro bP
  conv => whnf
  intro bS
  exact Done.mk ⟨bS, bP, rfl, rfl, rfl⟩
theorem placeP_snoc (lb tail : Nat) (l : List G3) (g : G3) : placeP lb tail (l ++ [g]) = (tail + (l.map fun g => g.2.2.length + 1).sum + (g.2.2.length + 1)) % lb := by
  unfold placeP
  rw [List.map_append, List.sum_append]
  simp [Nat.add_assoc]
set_option maxHeartbeats 8000000 in
theorem scan_Groups {I : Imm} {bD : Nat} {d : DSt} {chD : List Blk} (hD : Dk I bD d chD) (x : Lay) (s : Sup) :
    Tri Try.prog 36 #[.pointer (some ⟨bD, 0, none⟩), x.v, s.v] I [chD] fun v J S' => S' = [chD] ∧
      ((¬ ScanOk d.now.length x s ∧ v = .tuple #[.slice none 0 0, .int .i64 0, .int .i64 2]) ∨
       (ScanOk d.now.length x s ∧ d.down = true ∧ v = .tuple #[.slice none 0 0, .int .i64 0, .int .i64 6]) ∨
       (ScanOk d.now.length x s ∧ d.down = false ∧ ∃ aO capO gl, v = .tuple #[.slice aO gl.length capO, .int .i64 (placeP (layL d.now.length).toNat s.tail.toNat (scanL d s) : Nat), .int .i64 0] ∧ Rds J aO (gl.length * 3) (grpCells gl) ∧ GrpsOk J gl (scanL d s))) := by
  have hr := hD.wf.range
  refine Tri.drop (Tri.fixed (Q := fun v J S' => ∃ chO, S' = [chD, chO] ∧
      ((¬ ScanOk d.now.length x s ∧ v = .tuple #[.slice none 0 0, .int .i64 0, .int .i64 2]) ∨
       (ScanOk d.now.length x s ∧ d.down = true ∧ v = .tuple #[.slice none 0 0, .int .i64 0, .int .i64 6]) ∨
       (ScanOk d.now.length x s ∧ d.down = false ∧ ∃ aO capO gl, v = .tuple #[.slice aO gl.length capO, .int .i64 (placeP (layL d.now.length).toNat s.tail.toNat (scanL d s) : Nat), .int .i64 0] ∧ OwnC chO 3 aO gl.length capO (grpCells gl) ∧ GrpsOk J gl (scanL d s)))) ?_
    (K := fun v J S' => S' = [chD, []] ∧
      ((¬ ScanOk d.now.length x s ∧ v = .tuple #[.slice none 0 0, .int .i64 0, .int .i64 2]) ∨
       (ScanOk d.now.length x s ∧ d.down = true ∧ v = .tuple #[.slice none 0 0, .int .i64 0, .int .i64 6]) ∨
       (ScanOk d.now.length x s ∧ d.down = false ∧ ∃ aO capO gl, v = .tuple #[.slice aO gl.length capO, .int .i64 (placeP (layL d.now.length).toNat s.tail.toNat (scanL d s) : Nat), .int .i64 0] ∧ Rds J aO (gl.length * 3) (grpCells gl) ∧ GrpsOk J gl (scanL d s)))) ?_) ?_
  rotate_left
  · rintro v J S' hJ ⟨chO, rfl, h⟩
    refine ⟨1, chO, rfl, fun J' hJ' hm => ⟨rfl, ?_⟩⟩
    rcases h with h | h | ⟨h1, h2, aO, capO, gl, rfl, hO, hg⟩
    · exact .inl h
    · exact .inr (.inl h)
    · exact .inr (.inr ⟨h1, h2, aO, capO, gl, rfl, Rds.of_ownS hO hm, hg.mono hJ'⟩)
  · rintro v J S' hJ ⟨rfl, h⟩
    exact ⟨[chD], Drop.pick [0] _ rfl, rfl, h⟩
  refine Tri.drop ?_ (fun _ _ _ _ h => h)
  obtain ⟨s1, s2, s3, s4⟩ := s
  refine Tri.of (args := [.pointer (some ⟨bD, 0, none⟩), x.v, (⟨s1, s2, s3, s4⟩ : Sup).v]) tabOk Try.func36 rfl (by kernel_rfl) (by kernel_rfl) ?_
  conv => whnf
  intro b4
  conv => whnf
  intro b5
  refine Tri.frame1 0 rfl (dk_Size hD) ?_
  rintro v J S' hJ ⟨rfl, rfl, rfl⟩
  refine ⟨_, rfl, ?_⟩
  refine CmpD.no (by omega) ?_
  repeat (first
    | refine LoadD.own 0 rfl _ rfl rfl ?_
    | refine LoadD.own 1 rfl _ rfl rfl ?_
    | refine LoadD.own 2 rfl _ rfl rfl ?_
    | refine LoadP.at 0 rfl _ rfl rfl ?_
    | refine LoadP.at 1 rfl _ rfl rfl ?_
    | refine LoadP.at 2 rfl _ rfl rfl ?_
    | refine StoreD.st 0 rfl rfl rfl ?_
    | refine StoreD.st 1 rfl rfl rfl ?_
    | refine StoreD.st 2 rfl rfl rfl ?_
    | refine CmpD.yes rfl ?_
    | refine CmpD.yes (by decide) ?_
    | refine CmpD.no (by decide) ?_
    | refine Chk.mk ⟨rfl, trivial⟩ ?_
    | refine Chk.mk ⟨rfl, rfl, trivial⟩ ?_
    | refine Chk.mk ⟨rfl, rfl, rfl, trivial⟩ ?_
    | refine Chk.mk ⟨rfl, rfl, rfl, rfl, trivial⟩ ?_
    | refine Chk.mk ⟨rfl, rfl, rfl, rfl, rfl, trivial⟩ ?_
    | refine Chk.mk ⟨rfl, rfl, rfl, rfl, rfl, rfl, trivial⟩ ?_)
  refine Tri.frame1 0 rfl (dk_Size hD) ?_
  rintro v J S' hJ ⟨rfl, rfl, rfl⟩
  refine ⟨_, rfl, ?_⟩
  repeat (first
    | refine LoadD.own 0 rfl _ rfl rfl ?_
    | refine LoadD.own 1 rfl _ rfl rfl ?_
    | refine LoadD.own 2 rfl _ rfl rfl ?_
    | refine LoadP.at 0 rfl _ rfl rfl ?_
    | refine LoadP.at 1 rfl _ rfl rfl ?_
    | refine LoadP.at 2 rfl _ rfl rfl ?_
    | refine StoreD.st 0 rfl rfl rfl ?_
    | refine StoreD.st 1 rfl rfl rfl ?_
    | refine StoreD.st 2 rfl rfl rfl ?_
    | refine CmpD.yes rfl ?_
    | refine CmpD.yes (by decide) ?_
    | refine CmpD.no (by decide) ?_
    | refine Chk.mk ⟨rfl, trivial⟩ ?_
    | refine Chk.mk ⟨rfl, rfl, trivial⟩ ?_
    | refine Chk.mk ⟨rfl, rfl, rfl, trivial⟩ ?_
    | refine Chk.mk ⟨rfl, rfl, rfl, rfl, trivial⟩ ?_
    | refine Chk.mk ⟨rfl, rfl, rfl, rfl, rfl, trivial⟩ ?_
    | refine Chk.mk ⟨rfl, rfl, rfl, rfl, rfl, rfl, trivial⟩ ?_)
  obtain ⟨n, hn⟩ : ∃ n, n = d.now.length := ⟨_, rfl⟩
  rw [← hn] at hr ⊢
  refine Tri.free (layout_Of n I) ?_
  rintro v J _ hJ ⟨rfl, rfl⟩
  have badS : ∀ (J : Imm) (S : St), Drop S [chD] → ¬ ScanOk n x ⟨s1, s2, s3, s4⟩ → ∃ S'', Drop S S'' ∧ ∃ chO, S'' = [chD, chO] ∧
      ((¬ ScanOk n x ⟨s1, s2, s3, s4⟩ ∧ Value.tuple #[.slice none 0 0, .int .i64 0, .int .i64 2] = .tuple #[.slice none 0 0, .int .i64 0, .int .i64 2]) ∨
       (ScanOk n x ⟨s1, s2, s3, s4⟩ ∧ d.down = true ∧ Value.tuple #[.slice none 0 0, .int .i64 0, .int .i64 2] = .tuple #[.slice none 0 0, .int .i64 0, .int .i64 6]) ∨
       (ScanOk n x ⟨s1, s2, s3, s4⟩ ∧ d.down = false ∧ ∃ aO capO gl, Value.tuple #[.slice none 0 0, .int .i64 0, .int .i64 2] = .tuple #[.slice aO gl.length capO, .int .i64 (placeP (layL n).toNat s4.toNat (scanL d ⟨s1, s2, s3, s4⟩) : Nat), .int .i64 0] ∧ OwnC chO 3 aO gl.length capO (grpCells gl) ∧ GrpsOk J gl (scanL d ⟨s1, s2, s3, s4⟩))) :=
    fun J S hd hno => ⟨[chD, []], hd.and, [], rfl, .inl ⟨hno, rfl⟩⟩
  by_cases hb : (n : Int) < 64 ∨ 512 < (n : Int)
  · rw [layA, if_pos hb]
    conv => whnf
    intro b9
    repeat (first
      | refine LoadD.own 0 rfl _ rfl rfl ?_
      | refine LoadD.own 1 rfl _ rfl rfl ?_
      | refine LoadD.own 2 rfl _ rfl rfl ?_
      | refine LoadD.own 3 rfl _ rfl rfl ?_
      | refine LoadP.at 0 rfl _ rfl rfl ?_
      | refine LoadP.at 1 rfl _ rfl rfl ?_
      | refine LoadP.at 2 rfl _ rfl rfl ?_
      | refine LoadP.at 3 rfl _ rfl rfl ?_
      | refine StoreD.st 0 rfl rfl rfl ?_
      | refine StoreD.st 1 rfl rfl rfl ?_
      | refine StoreD.st 2 rfl rfl rfl ?_
      | refine StoreD.st 3 rfl rfl rfl ?_
      | refine CmpD.yes rfl ?_
      | refine CmpD.yes (by decide) ?_
      | refine CmpD.no (by decide) ?_
      | refine Chk.mk ⟨rfl, trivial⟩ ?_
      | refine Chk.mk ⟨rfl, rfl, trivial⟩ ?_
      | refine Chk.mk ⟨rfl, rfl, rfl, trivial⟩ ?_
      | refine Chk.mk ⟨rfl, rfl, rfl, rfl, trivial⟩ ?_
      | refine Chk.mk ⟨rfl, rfl, rfl, rfl, rfl, trivial⟩ ?_
      | refine Chk.mk ⟨rfl, rfl, rfl, rfl, rfl, rfl, trivial⟩ ?_)
    refine CodeF.sched [[], [0], [0, 1], [0, 1, 2], [0, 1, 2], [0, 1, 2, 3, 4], [0, 1, 2, 3, 4, 5], [0, 1, 2, 3, 4, 5, 6], [0, 1, 2, 3, 4, 5, 6, 7], [0, 1, 2, 3, 4, 5, 6, 7, 8], [0, 1, 2, 3, 4, 5, 6, 7], [0, 1, 2, 3, 4, 5, 6, 7, 10], [0, 1, 2, 3, 4, 5, 6, 7, 8, 9, 10, 11], [0, 1, 2, 3, 4, 5, 6, 7, 8, 9, 10, 11, 12], [0, 1, 2, 3, 4, 5, 6, 7, 8, 9, 10, 11, 12, 13], [0, 1, 2, 3, 4, 5, 6, 7, 8, 9, 10, 11, 12, 13, 14], [0, 1, 2, 3, 4, 5, 6, 7, 8, 9, 10, 11, 12, 13, 14, 15], [0, 1, 2, 3, 4, 5, 6, 7, 8, 9, 10, 11, 12, 13, 14, 15, 16], [0, 1, 2, 3, 4, 5, 6, 7, 8, 9, 10, 11, 12, 13, 14, 15, 16, 17], [0, 1, 2, 3, 4, 5, 6, 7, 8, 9, 10, 11, 12, 13, 14, 15, 16, 17, 18], [0, 1, 2, 3, 4, 5, 6, 7, 8, 9, 10, 11, 12, 13, 14, 15, 16, 17, 18, 19], [0, 1, 2, 3, 4, 5, 6, 7, 8, 9, 10, 11, 12, 13, 14, 15, 16, 17, 18, 19, 20], [0, 1, 2, 3, 4, 5, 6, 7, 8, 9, 10, 11, 12, 13, 14, 15, 16, 17, 18, 19], [0, 1, 2, 3, 4, 5, 6, 7, 8, 9, 10, 11, 12, 13, 14, 15, 16, 17, 18, 19, 22], [0, 1, 2, 3, 4, 5, 6, 7, 8, 9, 10, 11, 12, 13, 14, 15, 16, 17, 18, 19, 20, 21, 22, 23], [0, 1, 2, 3, 4, 5, 6, 7, 8, 9, 10, 11, 12, 13, 14, 15, 16, 17, 18, 19, 20, 21, 22, 23, 24], [0, 1, 2, 3, 4, 5, 6, 7, 8, 9, 10, 11, 12, 13, 14, 15, 16, 17, 18, 19, 20, 21, 22, 23, 24, 25], [0, 1, 2, 3, 4, 5, 6, 7, 8, 9, 10, 11, 12, 13, 14, 15, 16, 17, 18, 19, 20, 21, 22, 23, 24, 25, 26], [0, 1, 2, 3, 4, 5, 6, 7, 8, 9, 10, 11, 12, 13, 14, 15, 16, 17, 18, 19, 20, 21, 22, 23, 24, 25, 26, 27], [0, 1, 2, 3, 4, 5, 6, 7, 8, 9, 10, 11, 12, 13, 14, 15, 16, 17, 18, 19, 20, 21, 22, 23, 24, 25, 26, 27, 28], [0, 1, 2, 3, 4, 5, 6, 7, 8, 9, 10, 11, 12, 13, 14, 15, 16, 17, 18, 19, 20, 21, 22, 23, 24, 25, 26, 27, 28, 29], [0, 1, 2, 3, 4, 5, 6, 7, 8, 9, 10, 11, 12, 13, 14, 15, 16, 17, 18, 19, 20, 21, 22, 23, 24, 25, 26, 27, 28, 29, 30], [0, 1, 2, 3, 4, 5, 6, 7, 8, 9, 10, 11, 12, 13, 14, 15, 16, 17, 18, 19, 20, 21, 22, 23, 24, 25, 26, 27, 28, 29, 30, 31], [0, 1, 2, 3, 4, 5, 6, 7, 8, 9, 10, 11, 12, 13, 14, 15, 16, 17, 18, 19, 20, 21, 22, 23, 24, 25, 26, 27, 28, 29, 30, 31, 32], [0, 1, 2, 3, 4, 5, 6, 7, 8, 9, 10, 11, 12, 13, 14, 15, 16, 17, 18, 19, 20, 21, 22, 23, 24, 25, 26, 27, 28, 29, 30, 31, 32, 33], [0, 1, 2, 3, 4, 5, 6, 7, 8, 9, 10, 11, 12, 13, 14, 15, 16, 17, 18, 19, 20, 21, 22, 23, 24, 25, 26, 27, 28, 29, 30, 31, 32, 33, 34], [0, 1, 2, 3, 4, 5, 6, 7, 8, 9, 10, 11, 12, 13, 14, 15, 16, 17, 18, 19, 20, 21, 22, 23, 24, 25, 26, 27, 28, 29, 30, 31, 32, 33, 34, 35], [0, 1, 2, 3, 4, 5, 6, 7, 8, 9, 10, 11, 12, 13, 14, 15, 16, 17, 18, 19, 20, 21, 22, 23, 24, 25, 26, 27, 28, 29, 30, 31, 32, 33, 34, 35, 36], [0, 1, 2, 3, 4, 5, 6, 7, 8, 9, 10, 11, 12, 13, 14, 15, 16, 17, 18, 19, 20, 21, 22, 23, 24, 25, 26, 27, 28, 29, 30, 31, 32, 33, 34, 35, 36, 37], [0, 1, 2, 3, 4, 5, 6, 7, 8, 9, 10, 11, 12, 13, 14, 15, 16, 17, 18, 19, 20, 21, 22, 23, 24, 25, 26, 27, 28, 29, 30, 31, 32, 33, 34, 35, 36, 37, 38], [0, 1, 2, 3, 4, 5, 6, 7, 8, 9, 10, 11, 12, 13, 14, 15, 16, 17, 18, 19, 20, 21, 22, 23, 24, 25, 26, 27, 28, 29, 30, 31, 32, 33, 34, 35, 36, 37, 38, 39], [0, 1, 2, 3, 4, 5, 6, 7, 8, 9, 10, 11, 12, 13, 14, 15, 16, 17, 18, 19, 20, 21, 22, 23, 24, 25, 26, 27, 28, 29, 30, 31, 32, 33, 34, 35, 36, 37, 38, 39, 40], [0, 1, 2, 3, 4, 5, 6, 7, 8, 9, 10, 11, 12, 13, 14, 15, 16, 17, 18, 19, 20, 21, 22, 23, 24, 25, 26, 27, 28, 29, 30, 31, 32, 33, 34, 35, 36, 37, 38, 39, 40, 41], [0, 1, 2, 3, 4, 5, 6, 7, 8, 9, 10, 11, 12, 13, 14, 15, 16, 17, 18, 19, 20, 21, 22, 23, 24, 25, 26, 27, 28, 29, 30, 31, 32, 33, 34, 35, 36, 37, 38, 39, 40, 41, 42], [0, 1, 2, 3, 4, 5, 6, 7, 8, 9, 10, 11, 12, 13, 14, 15, 16, 17, 18, 19, 20, 21, 22, 23, 24, 25, 26, 27, 28, 29, 30, 31, 32, 33, 34, 35, 36, 37, 38, 39, 40, 41, 42, 43], [0, 1, 2, 3, 4, 5, 6, 7, 8, 9, 10, 11, 12, 13, 14, 15, 16, 17, 18, 19, 20, 21, 22, 23, 24, 25, 26, 27, 28, 29, 30, 31, 32, 33, 34, 35, 36, 37, 38, 39, 40, 41, 42, 43, 44]] [0, 1, 2, 3, 4, 5, 6, 7, 8, 9, 10, 11, 12, 13, 14, 15, 16, 17, 18, 19, 20, 21, 22, 23, 24, 25, 26, 27, 28, 29, 30, 31, 32, 33, 34, 35, 36, 37, 38, 39, 40, 41, 42, 43, 44, 45] (by kernel_rfl) ?_
    repeat (first
      | refine LoadD.own 0 rfl _ rfl rfl ?_
      | refine LoadD.own 1 rfl _ rfl rfl ?_
      | refine LoadD.own 2 rfl _ rfl rfl ?_
      | refine LoadD.own 3 rfl _ rfl rfl ?_
      | refine LoadP.at 0 rfl _ rfl rfl ?_
      | refine LoadP.at 1 rfl _ rfl rfl ?_
      | refine LoadP.at 2 rfl _ rfl rfl ?_
      | refine LoadP.at 3 rfl _ rfl rfl ?_
      | refine StoreD.st 0 rfl rfl rfl ?_
      | refine StoreD.st 1 rfl rfl rfl ?_
      | refine StoreD.st 2 rfl rfl rfl ?_
      | refine StoreD.st 3 rfl rfl rfl ?_
      | refine CmpD.yes rfl ?_
      | refine CmpD.yes (by decide) ?_
      | refine CmpD.no (by decide) ?_
      | refine Chk.mk ⟨rfl, trivial⟩ ?_
      | refine Chk.mk ⟨rfl, rfl, trivial⟩ ?_
      | refine Chk.mk ⟨rfl, rfl, rfl, trivial⟩ ?_
      | refine Chk.mk ⟨rfl, rfl, rfl, rfl, trivial⟩ ?_
      | refine Chk.mk ⟨rfl, rfl, rfl, rfl, rfl, trivial⟩ ?_
      | refine Chk.mk ⟨rfl, rfl, rfl, rfl, rfl, rfl, trivial⟩ ?_)
    exact Done.mk (badS _ _ (Drop.pick [0] _ rfl) (fun h => by have := h.1; omega))
  rw [layA, if_neg hb]
  have hL := layL_range (n := (n : Int)) (by omega)
  conv => whnf
  intro b9
  repeat (first
    | refine LoadD.own 0 rfl _ rfl rfl ?_
    | refine LoadD.own 1 rfl _ rfl rfl ?_
    | refine LoadD.own 2 rfl _ rfl rfl ?_
    | refine LoadD.own 3 rfl _ rfl rfl ?_
    | refine LoadP.at 0 rfl _ rfl rfl ?_
    | refine LoadP.at 1 rfl _ rfl rfl ?_
    | refine LoadP.at 2 rfl _ rfl rfl ?_
    | refine LoadP.at 3 rfl _ rfl rfl ?_
    | refine StoreD.st 0 rfl rfl rfl ?_
    | refine StoreD.st 1 rfl rfl rfl ?_
    | refine StoreD.st 2 rfl rfl rfl ?_
    | refine StoreD.st 3 rfl rfl rfl ?_
    | refine CmpD.yes rfl ?_
    | refine CmpD.yes (by decide) ?_
    | refine CmpD.no (by decide) ?_
    | refine Chk.mk ⟨rfl, trivial⟩ ?_
    | refine Chk.mk ⟨rfl, rfl, trivial⟩ ?_
    | refine Chk.mk ⟨rfl, rfl, rfl, trivial⟩ ?_
    | refine Chk.mk ⟨rfl, rfl, rfl, rfl, trivial⟩ ?_
    | refine Chk.mk ⟨rfl, rfl, rfl, rfl, rfl, trivial⟩ ?_
    | refine Chk.mk ⟨rfl, rfl, rfl, rfl, rfl, rfl, trivial⟩ ?_)
  refine CodeF.sched [[], [0], [0, 1], [0, 1, 2], [0, 1, 2], [0, 1, 2, 3, 4], [0, 1, 2, 3, 4, 5], [0, 1, 2, 3, 4, 5, 6], [0, 1, 2, 3, 4, 5, 6, 7], [0, 1, 2, 3, 4, 5, 6, 7, 8], [0, 1, 2, 3, 4, 5, 6, 7], [0, 1, 2, 3, 4, 5, 6, 7, 10], [0, 1, 2, 3, 4, 5, 6, 7, 8, 9, 10, 11], [0, 1, 2, 3, 4, 5, 6, 7, 8, 9, 10, 11, 12], [0, 1, 2, 3, 4, 5, 6, 7, 8, 9, 10, 11, 12, 13], [0, 1, 2, 3, 4, 5, 6, 7, 8, 9, 10, 11, 12, 13, 14], [0, 1, 2, 3, 4, 5, 6, 7, 8, 9, 10, 11, 12, 13, 14, 15], [0, 1, 2, 3, 4, 5, 6, 7, 8, 9, 10, 11, 12, 13, 14, 15, 16], [0, 1, 2, 3, 4, 5, 6, 7, 8, 9, 10, 11, 12, 13, 14, 15, 16, 17], [0, 1, 2, 3, 4, 5, 6, 7, 8, 9, 10, 11, 12, 13, 14, 15, 16, 17, 18], [0, 1, 2, 3, 4, 5, 6, 7, 8, 9, 10, 11, 12, 13, 14, 15, 16, 17, 18, 19], [0, 1, 2, 3, 4, 5, 6, 7, 8, 9, 10, 11, 12, 13, 14, 15, 16, 17, 18, 19, 20], [0, 1, 2, 3, 4, 5, 6, 7, 8, 9, 10, 11, 12, 13, 14, 15, 16, 17, 18, 19], [0, 1, 2, 3, 4, 5, 6, 7, 8, 9, 10, 11, 12, 13, 14, 15, 16, 17, 18, 19, 22], [0, 1, 2, 3, 4, 5, 6, 7, 8, 9, 10, 11, 12, 13, 14, 15, 16, 17, 18, 19, 20, 21, 22, 23], [0, 1, 2, 3, 4, 5, 6, 7, 8, 9, 10, 11, 12, 13, 14, 15, 16, 17, 18, 19, 20, 21, 22, 23, 24], [0, 1, 2, 3, 4, 5, 6, 7, 8, 9, 10, 11, 12, 13, 14, 15, 16, 17, 18, 19, 20, 21, 22, 23, 24, 25], [0, 1, 2, 3, 4, 5, 6, 7, 8, 9, 10, 11, 12, 13, 14, 15, 16, 17, 18, 19, 20, 21, 22, 23, 24, 25, 26], [0, 1, 2, 3, 4, 5, 6, 7, 8, 9, 10, 11, 12, 13, 14, 15, 16, 17, 18, 19, 20, 21, 22, 23, 24, 25, 26, 27], [0, 1, 2, 3, 4, 5, 6, 7, 8, 9, 10, 11, 12, 13, 14, 15, 16, 17, 18, 19, 20, 21, 22, 23, 24, 25, 26, 27, 28], [0, 1, 2, 3, 4, 5, 6, 7, 8, 9, 10, 11, 12, 13, 14, 15, 16, 17, 18, 19, 20, 21, 22, 23, 24, 25, 26, 27, 28, 29], [0, 1, 2, 3, 4, 5, 6, 7, 8, 9, 10, 11, 12, 13, 14, 15, 16, 17, 18, 19, 20, 21, 22, 23, 24, 25, 26, 27, 28, 29, 30], [0, 1, 2, 3, 4, 5, 6, 7, 8, 9, 10, 11, 12, 13, 14, 15, 16, 17, 18, 19, 20, 21, 22, 23, 24, 25, 26, 27, 28, 29, 30, 31], [0, 1, 2, 3, 4, 5, 6, 7, 8, 9, 10, 11, 12, 13, 14, 15, 16, 17, 18, 19, 20, 21, 22, 23, 24, 25, 26, 27, 28, 29, 30, 31, 32], [0, 1, 2, 3, 4, 5, 6, 7, 8, 9, 10, 11, 12, 13, 14, 15, 16, 17, 18, 19, 20, 21, 22, 23, 24, 25, 26, 27, 28, 29, 30, 31, 32, 33], [0, 1, 2, 3, 4, 5, 6, 7, 8, 9, 10, 11, 12, 13, 14, 15, 16, 17, 18, 19, 20, 21, 22, 23, 24, 25, 26, 27, 28, 29, 30, 31, 32, 33, 34], [0, 1, 2, 3, 4, 5, 6, 7, 8, 9, 10, 11, 12, 13, 14, 15, 16, 17, 18, 19, 20, 21, 22, 23, 24, 25, 26, 27, 28, 29, 30, 31, 32, 33, 34, 35], [0, 1, 2, 3, 4, 5, 6, 7, 8, 9, 10, 11, 12, 13, 14, 15, 16, 17, 18, 19, 20, 21, 22, 23, 24, 25, 26, 27, 28, 29, 30, 31, 32, 33, 34, 35, 36], [0, 1, 2, 3, 4, 5, 6, 7, 8, 9, 10, 11, 12, 13, 14, 15, 16, 17, 18, 19, 20, 21, 22, 23, 24, 25, 26, 27, 28, 29, 30, 31, 32, 33, 34, 35, 36, 37], [0, 1, 2, 3, 4, 5, 6, 7, 8, 9, 10, 11, 12, 13, 14, 15, 16, 17, 18, 19, 20, 21, 22, 23, 24, 25, 26, 27, 28, 29, 30, 31, 32, 33, 34, 35, 36, 37, 38], [0, 1, 2, 3, 4, 5, 6, 7, 8, 9, 10, 11, 12, 13, 14, 15, 16, 17, 18, 19, 20, 21, 22, 23, 24, 25, 26, 27, 28, 29, 30, 31, 32, 33, 34, 35, 36, 37, 38, 39], [0, 1, 2, 3, 4, 5, 6, 7, 8, 9, 10, 11, 12, 13, 14, 15, 16, 17, 18, 19, 20, 21, 22, 23, 24, 25, 26, 27, 28, 29, 30, 31, 32, 33, 34, 35, 36, 37, 38, 39, 40], [0, 1, 2, 3, 4, 5, 6, 7, 8, 9, 10, 11, 12, 13, 14, 15, 16, 17, 18, 19, 20, 21, 22, 23, 24, 25, 26, 27, 28, 29, 30, 31, 32, 33, 34, 35, 36, 37, 38, 39, 40, 41], [0, 1, 2, 3, 4, 5, 6, 7, 8, 9, 10, 11, 12, 13, 14, 15, 16, 17, 18, 19, 20, 21, 22, 23, 24, 25, 26, 27, 28, 29, 30, 31, 32, 33, 34, 35, 36, 37, 38, 39, 40, 41, 42], [0, 1, 2, 3, 4, 5, 6, 7, 8, 9, 10, 11, 12, 13, 14, 15, 16, 17, 18, 19, 20, 21, 22, 23, 24, 25, 26, 27, 28, 29, 30, 31, 32, 33, 34, 35, 36, 37, 38, 39, 40, 41, 42, 43], [0, 1, 2, 3, 4, 5, 6, 7, 8, 9, 10, 11, 12, 13, 14, 15, 16, 17, 18, 19, 20, 21, 22, 23, 24, 25, 26, 27, 28, 29, 30, 31, 32, 33, 34, 35, 36, 37, 38, 39, 40, 41, 42, 43, 44]] [0, 1, 2, 3, 4, 5, 6, 7, 8, 9, 10, 11, 12, 13, 14, 15, 16, 17, 18, 19, 20, 21, 22, 23, 24, 25, 26, 27, 28, 29, 30, 31, 32, 33, 34, 35, 36, 37, 38, 39, 40, 41, 42, 43, 44, 45] (by kernel_rfl) ?_
  repeat (first
    | refine LoadD.own 0 rfl _ rfl rfl ?_
    | refine LoadD.own 1 rfl _ rfl rfl ?_
    | refine LoadD.own 2 rfl _ rfl rfl ?_
    | refine LoadD.own 3 rfl _ rfl rfl ?_
    | refine LoadP.at 0 rfl _ rfl rfl ?_
    | refine LoadP.at 1 rfl _ rfl rfl ?_
    | refine LoadP.at 2 rfl _ rfl rfl ?_
    | refine LoadP.at 3 rfl _ rfl rfl ?_
    | refine StoreD.st 0 rfl rfl rfl ?_
    | refine StoreD.st 1 rfl rfl rfl ?_
    | refine StoreD.st 2 rfl rfl rfl ?_
    | refine StoreD.st 3 rfl rfl rfl ?_
    | refine CmpD.yes rfl ?_
    | refine CmpD.yes (by decide) ?_
    | refine CmpD.no (by decide) ?_
    | refine Chk.mk ⟨rfl, trivial⟩ ?_
    | refine Chk.mk ⟨rfl, rfl, trivial⟩ ?_
    | refine Chk.mk ⟨rfl, rfl, rfl, trivial⟩ ?_
    | refine Chk.mk ⟨rfl, rfl, rfl, rfl, trivial⟩ ?_
    | refine Chk.mk ⟨rfl, rfl, rfl, rfl, rfl, trivial⟩ ?_
    | refine Chk.mk ⟨rfl, rfl, rfl, rfl, rfl, rfl, trivial⟩ ?_)
  refine lay_cmp (layOf n) x rfl (.inr rfl) rfl rfl ?_
  refine CmpD.split (fun c1 => ?_) (fun c1 => ?_)
  rotate_left
  · repeat (first
      | refine LoadD.own 0 rfl _ rfl rfl ?_
      | refine LoadD.own 1 rfl _ rfl rfl ?_
      | refine LoadD.own 2 rfl _ rfl rfl ?_
      | refine LoadD.own 3 rfl _ rfl rfl ?_
      | refine LoadP.at 0 rfl _ rfl rfl ?_
      | refine LoadP.at 1 rfl _ rfl rfl ?_
      | refine LoadP.at 2 rfl _ rfl rfl ?_
      | refine LoadP.at 3 rfl _ rfl rfl ?_
      | refine StoreD.st 0 rfl rfl rfl ?_
      | refine StoreD.st 1 rfl rfl rfl ?_
      | refine StoreD.st 2 rfl rfl rfl ?_
      | refine StoreD.st 3 rfl rfl rfl ?_
      | refine CmpD.yes rfl ?_
      | refine CmpD.yes (by decide) ?_
      | refine CmpD.no (by decide) ?_
      | refine Chk.mk ⟨rfl, trivial⟩ ?_
      | refine Chk.mk ⟨rfl, rfl, trivial⟩ ?_
      | refine Chk.mk ⟨rfl, rfl, rfl, trivial⟩ ?_
      | refine Chk.mk ⟨rfl, rfl, rfl, rfl, trivial⟩ ?_
      | refine Chk.mk ⟨rfl, rfl, rfl, rfl, rfl, trivial⟩ ?_
      | refine Chk.mk ⟨rfl, rfl, rfl, rfl, rfl, rfl, trivial⟩ ?_)
    refine Done.mk (badS _ _ (Drop.pick [0] _ rfl) (fun h => c1 ?_))
    rw [← h.2.1]
  have hx : x = layOf n := by
    simp only [List.cons.injEq, and_true] at c1
    obtain ⟨q1, q2, q3, q4, q5, q6, q7⟩ := c1
    obtain ⟨x1, x2, x3, x4, x5, x6, x7⟩ := x
    dsimp only at q1 q2 q3 q4 q5 q6 q7 ⊢
    rw [Lay.mk.injEq]
    exact ⟨q1.symm, q2.symm, q3.symm, q4.symm, q5.symm, q6.symm, q7.symm⟩
  have hxl : x.lb = layL n := by rw [hx]; rfl
  repeat (first
    | refine LoadD.own 0 rfl _ rfl rfl ?_
    | refine LoadD.own 1 rfl _ rfl rfl ?_
    | refine LoadD.own 2 rfl _ rfl rfl ?_
    | refine LoadD.own 3 rfl _ rfl rfl ?_
    | refine LoadP.at 0 rfl _ rfl rfl ?_
    | refine LoadP.at 1 rfl _ rfl rfl ?_
    | refine LoadP.at 2 rfl _ rfl rfl ?_
    | refine LoadP.at 3 rfl _ rfl rfl ?_
    | refine StoreD.st 0 rfl rfl rfl ?_
    | refine StoreD.st 1 rfl rfl rfl ?_
    | refine StoreD.st 2 rfl rfl rfl ?_
    | refine StoreD.st 3 rfl rfl rfl ?_
    | refine CmpD.yes rfl ?_
    | refine CmpD.yes (by decide) ?_
    | refine CmpD.no (by decide) ?_
    | refine Chk.mk ⟨rfl, trivial⟩ ?_
    | refine Chk.mk ⟨rfl, rfl, trivial⟩ ?_
    | refine Chk.mk ⟨rfl, rfl, rfl, trivial⟩ ?_
    | refine Chk.mk ⟨rfl, rfl, rfl, rfl, trivial⟩ ?_
    | refine Chk.mk ⟨rfl, rfl, rfl, rfl, rfl, trivial⟩ ?_
    | refine Chk.mk ⟨rfl, rfl, rfl, rfl, rfl, rfl, trivial⟩ ?_)
  refine Tri.frame1 0 rfl (dk_Size hD) ?_
  rintro v J S' hJ ⟨rfl, rfl, rfl⟩
  refine ⟨_, rfl, ?_⟩
  rw [← hn]
  repeat (first
    | refine LoadD.own 0 rfl _ rfl rfl ?_
    | refine LoadD.own 1 rfl _ rfl rfl ?_
    | refine LoadD.own 2 rfl _ rfl rfl ?_
    | refine LoadD.own 3 rfl _ rfl rfl ?_
    | refine LoadP.at 0 rfl _ rfl rfl ?_
    | refine LoadP.at 1 rfl _ rfl rfl ?_
    | refine LoadP.at 2 rfl _ rfl rfl ?_
    | refine LoadP.at 3 rfl _ rfl rfl ?_
    | refine StoreD.st 0 rfl rfl rfl ?_
    | refine StoreD.st 1 rfl rfl rfl ?_
    | refine StoreD.st 2 rfl rfl rfl ?_
    | refine StoreD.st 3 rfl rfl rfl ?_
    | refine CmpD.yes rfl ?_
    | refine CmpD.yes (by decide) ?_
    | refine CmpD.no (by decide) ?_
    | refine Chk.mk ⟨rfl, trivial⟩ ?_
    | refine Chk.mk ⟨rfl, rfl, trivial⟩ ?_
    | refine Chk.mk ⟨rfl, rfl, rfl, trivial⟩ ?_
    | refine Chk.mk ⟨rfl, rfl, rfl, rfl, trivial⟩ ?_
    | refine Chk.mk ⟨rfl, rfl, rfl, rfl, rfl, trivial⟩ ?_
    | refine Chk.mk ⟨rfl, rfl, rfl, rfl, rfl, rfl, trivial⟩ ?_)
  refine CmpD.split (fun (c2 : s1 = (n : Int)) => ?_) (fun (c2 : ¬ (s1 = (n : Int))) => ?_)
  rotate_left
  · repeat (first
      | refine LoadD.own 0 rfl _ rfl rfl ?_
      | refine LoadD.own 1 rfl _ rfl rfl ?_
      | refine LoadD.own 2 rfl _ rfl rfl ?_
      | refine LoadD.own 3 rfl _ rfl rfl ?_
      | refine LoadP.at 0 rfl _ rfl rfl ?_
      | refine LoadP.at 1 rfl _ rfl rfl ?_
      | refine LoadP.at 2 rfl _ rfl rfl ?_
      | refine LoadP.at 3 rfl _ rfl rfl ?_
      | refine StoreD.st 0 rfl rfl rfl ?_
      | refine StoreD.st 1 rfl rfl rfl ?_
      | refine StoreD.st 2 rfl rfl rfl ?_
      | refine StoreD.st 3 rfl rfl rfl ?_
      | refine CmpD.yes rfl ?_
      | refine CmpD.yes (by decide) ?_
      | refine CmpD.no (by decide) ?_
      | refine Chk.mk ⟨rfl, trivial⟩ ?_
      | refine Chk.mk ⟨rfl, rfl, trivial⟩ ?_
      | refine Chk.mk ⟨rfl, rfl, rfl, trivial⟩ ?_
      | refine Chk.mk ⟨rfl, rfl, rfl, rfl, trivial⟩ ?_
      | refine Chk.mk ⟨rfl, rfl, rfl, rfl, rfl, trivial⟩ ?_
      | refine Chk.mk ⟨rfl, rfl, rfl, rfl, rfl, rfl, trivial⟩ ?_)
    exact Done.mk (badS _ _ (Drop.pick [0] _ rfl) (fun h => c2 h.2.2.1))
  repeat (first
    | refine LoadD.own 0 rfl _ rfl rfl ?_
    | refine LoadD.own 1 rfl _ rfl rfl ?_
    | refine LoadD.own 2 rfl _ rfl rfl ?_
    | refine LoadD.own 3 rfl _ rfl rfl ?_
    | refine LoadP.at 0 rfl _ rfl rfl ?_
    | refine LoadP.at 1 rfl _ rfl rfl ?_
    | refine LoadP.at 2 rfl _ rfl rfl ?_
    | refine LoadP.at 3 rfl _ rfl rfl ?_
    | refine StoreD.st 0 rfl rfl rfl ?_
    | refine StoreD.st 1 rfl rfl rfl ?_
    | refine StoreD.st 2 rfl rfl rfl ?_
    | refine StoreD.st 3 rfl rfl rfl ?_
    | refine CmpD.yes rfl ?_
    | refine CmpD.yes (by decide) ?_
    | refine CmpD.no (by decide) ?_
    | refine Chk.mk ⟨rfl, trivial⟩ ?_
    | refine Chk.mk ⟨rfl, rfl, trivial⟩ ?_
    | refine Chk.mk ⟨rfl, rfl, rfl, trivial⟩ ?_
    | refine Chk.mk ⟨rfl, rfl, rfl, rfl, trivial⟩ ?_
    | refine Chk.mk ⟨rfl, rfl, rfl, rfl, rfl, trivial⟩ ?_
    | refine Chk.mk ⟨rfl, rfl, rfl, rfl, rfl, rfl, trivial⟩ ?_)
  refine CmpD.split (fun (c3 : s4 < 0) => ?_) (fun (c3 : ¬ (s4 < 0)) => ?_)
  · repeat (first
      | refine LoadD.own 0 rfl _ rfl rfl ?_
      | refine LoadD.own 1 rfl _ rfl rfl ?_
      | refine LoadD.own 2 rfl _ rfl rfl ?_
      | refine LoadD.own 3 rfl _ rfl rfl ?_
      | refine LoadP.at 0 rfl _ rfl rfl ?_
      | refine LoadP.at 1 rfl _ rfl rfl ?_
      | refine LoadP.at 2 rfl _ rfl rfl ?_
      | refine LoadP.at 3 rfl _ rfl rfl ?_
      | refine StoreD.st 0 rfl rfl rfl ?_
      | refine StoreD.st 1 rfl rfl rfl ?_
      | refine StoreD.st 2 rfl rfl rfl ?_
      | refine StoreD.st 3 rfl rfl rfl ?_
      | refine CmpD.yes rfl ?_
      | refine CmpD.yes (by decide) ?_
      | refine CmpD.no (by decide) ?_
      | refine Chk.mk ⟨rfl, trivial⟩ ?_
      | refine Chk.mk ⟨rfl, rfl, trivial⟩ ?_
      | refine Chk.mk ⟨rfl, rfl, rfl, trivial⟩ ?_
      | refine Chk.mk ⟨rfl, rfl, rfl, rfl, trivial⟩ ?_
      | refine Chk.mk ⟨rfl, rfl, rfl, rfl, rfl, trivial⟩ ?_
      | refine Chk.mk ⟨rfl, rfl, rfl, rfl, rfl, rfl, trivial⟩ ?_)
    exact Done.mk (badS _ _ (Drop.pick [0] _ rfl) (fun h => by have : 0 ≤ s4 := h.2.2.2.1; omega))
  repeat (first
    | refine LoadD.own 0 rfl _ rfl rfl ?_
    | refine LoadD.own 1 rfl _ rfl rfl ?_
    | refine LoadD.own 2 rfl _ rfl rfl ?_
    | refine LoadD.own 3 rfl _ rfl rfl ?_
    | refine LoadP.at 0 rfl _ rfl rfl ?_
    | refine LoadP.at 1 rfl _ rfl rfl ?_
    | refine LoadP.at 2 rfl _ rfl rfl ?_
    | refine LoadP.at 3 rfl _ rfl rfl ?_
    | refine StoreD.st 0 rfl rfl rfl ?_
    | refine StoreD.st 1 rfl rfl rfl ?_
    | refine StoreD.st 2 rfl rfl rfl ?_
    | refine StoreD.st 3 rfl rfl rfl ?_
    | refine CmpD.yes rfl ?_
    | refine CmpD.yes (by decide) ?_
    | refine CmpD.no (by decide) ?_
    | refine Chk.mk ⟨rfl, trivial⟩ ?_
    | refine Chk.mk ⟨rfl, rfl, trivial⟩ ?_
    | refine Chk.mk ⟨rfl, rfl, rfl, trivial⟩ ?_
    | refine Chk.mk ⟨rfl, rfl, rfl, rfl, trivial⟩ ?_
    | refine Chk.mk ⟨rfl, rfl, rfl, rfl, rfl, trivial⟩ ?_
    | refine Chk.mk ⟨rfl, rfl, rfl, rfl, rfl, rfl, trivial⟩ ?_)
  refine CmpD.split (fun (c4 : x.lb ≤ s4) => ?_) (fun (c4 : ¬ (x.lb ≤ s4)) => ?_)
  · repeat (first
      | refine LoadD.own 0 rfl _ rfl rfl ?_
      | refine LoadD.own 1 rfl _ rfl rfl ?_
      | refine LoadD.own 2 rfl _ rfl rfl ?_
      | refine LoadD.own 3 rfl _ rfl rfl ?_
      | refine LoadP.at 0 rfl _ rfl rfl ?_
      | refine LoadP.at 1 rfl _ rfl rfl ?_
      | refine LoadP.at 2 rfl _ rfl rfl ?_
      | refine LoadP.at 3 rfl _ rfl rfl ?_
      | refine StoreD.st 0 rfl rfl rfl ?_
      | refine StoreD.st 1 rfl rfl rfl ?_
      | refine StoreD.st 2 rfl rfl rfl ?_
      | refine StoreD.st 3 rfl rfl rfl ?_
      | refine CmpD.yes rfl ?_
      | refine CmpD.yes (by decide) ?_
      | refine CmpD.no (by decide) ?_
      | refine Chk.mk ⟨rfl, trivial⟩ ?_
      | refine Chk.mk ⟨rfl, rfl, trivial⟩ ?_
      | refine Chk.mk ⟨rfl, rfl, rfl, trivial⟩ ?_
      | refine Chk.mk ⟨rfl, rfl, rfl, rfl, trivial⟩ ?_
      | refine Chk.mk ⟨rfl, rfl, rfl, rfl, rfl, trivial⟩ ?_
      | refine Chk.mk ⟨rfl, rfl, rfl, rfl, rfl, rfl, trivial⟩ ?_)
    exact Done.mk (badS _ _ (Drop.pick [0] _ rfl) (fun h => by have : s4 < layL n := h.2.2.2.2.1; omega))
  repeat (first
    | refine LoadD.own 0 rfl _ rfl rfl ?_
    | refine LoadD.own 1 rfl _ rfl rfl ?_
    | refine LoadD.own 2 rfl _ rfl rfl ?_
    | refine LoadD.own 3 rfl _ rfl rfl ?_
    | refine LoadP.at 0 rfl _ rfl rfl ?_
    | refine LoadP.at 1 rfl _ rfl rfl ?_
    | refine LoadP.at 2 rfl _ rfl rfl ?_
    | refine LoadP.at 3 rfl _ rfl rfl ?_
    | refine StoreD.st 0 rfl rfl rfl ?_
    | refine StoreD.st 1 rfl rfl rfl ?_
    | refine StoreD.st 2 rfl rfl rfl ?_
    | refine StoreD.st 3 rfl rfl rfl ?_
    | refine CmpD.yes rfl ?_
    | refine CmpD.yes (by decide) ?_
    | refine CmpD.no (by decide) ?_
    | refine Chk.mk ⟨rfl, trivial⟩ ?_
    | refine Chk.mk ⟨rfl, rfl, trivial⟩ ?_
    | refine Chk.mk ⟨rfl, rfl, rfl, trivial⟩ ?_
    | refine Chk.mk ⟨rfl, rfl, rfl, rfl, trivial⟩ ?_
    | refine Chk.mk ⟨rfl, rfl, rfl, rfl, rfl, trivial⟩ ?_
    | refine Chk.mk ⟨rfl, rfl, rfl, rfl, rfl, rfl, trivial⟩ ?_)
  refine CmpD.split (fun (c5 : s2 < 1) => ?_) (fun (c5 : ¬ (s2 < 1)) => ?_)
  · repeat (first
      | refine LoadD.own 0 rfl _ rfl rfl ?_
      | refine LoadD.own 1 rfl _ rfl rfl ?_
      | refine LoadD.own 2 rfl _ rfl rfl ?_
      | refine LoadD.own 3 rfl _ rfl rfl ?_
      | refine LoadP.at 0 rfl _ rfl rfl ?_
      | refine LoadP.at 1 rfl _ rfl rfl ?_
      | refine LoadP.at 2 rfl _ rfl rfl ?_
      | refine LoadP.at 3 rfl _ rfl rfl ?_
      | refine StoreD.st 0 rfl rfl rfl ?_
      | refine StoreD.st 1 rfl rfl rfl ?_
      | refine StoreD.st 2 rfl rfl rfl ?_
      | refine StoreD.st 3 rfl rfl rfl ?_
      | refine CmpD.yes rfl ?_
      | refine CmpD.yes (by decide) ?_
      | refine CmpD.no (by decide) ?_
      | refine Chk.mk ⟨rfl, trivial⟩ ?_
      | refine Chk.mk ⟨rfl, rfl, trivial⟩ ?_
      | refine Chk.mk ⟨rfl, rfl, rfl, trivial⟩ ?_
      | refine Chk.mk ⟨rfl, rfl, rfl, rfl, trivial⟩ ?_
      | refine Chk.mk ⟨rfl, rfl, rfl, rfl, rfl, trivial⟩ ?_
      | refine Chk.mk ⟨rfl, rfl, rfl, rfl, rfl, rfl, trivial⟩ ?_)
    exact Done.mk (badS _ _ (Drop.pick [0] _ rfl) (fun h => by have : 1 ≤ s2 := h.2.2.2.2.2.1; omega))
  repeat (first
    | refine LoadD.own 0 rfl _ rfl rfl ?_
    | refine LoadD.own 1 rfl _ rfl rfl ?_
    | refine LoadD.own 2 rfl _ rfl rfl ?_
    | refine LoadD.own 3 rfl _ rfl rfl ?_
    | refine LoadP.at 0 rfl _ rfl rfl ?_
    | refine LoadP.at 1 rfl _ rfl rfl ?_
    | refine LoadP.at 2 rfl _ rfl rfl ?_
    | refine LoadP.at 3 rfl _ rfl rfl ?_
    | refine StoreD.st 0 rfl rfl rfl ?_
    | refine StoreD.st 1 rfl rfl rfl ?_
    | refine StoreD.st 2 rfl rfl rfl ?_
    | refine StoreD.st 3 rfl rfl rfl ?_
    | refine CmpD.yes rfl ?_
    | refine CmpD.yes (by decide) ?_
    | refine CmpD.no (by decide) ?_
    | refine Chk.mk ⟨rfl, trivial⟩ ?_
    | refine Chk.mk ⟨rfl, rfl, trivial⟩ ?_
    | refine Chk.mk ⟨rfl, rfl, rfl, trivial⟩ ?_
    | refine Chk.mk ⟨rfl, rfl, rfl, rfl, trivial⟩ ?_
    | refine Chk.mk ⟨rfl, rfl, rfl, rfl, rfl, trivial⟩ ?_
    | refine Chk.mk ⟨rfl, rfl, rfl, rfl, rfl, rfl, trivial⟩ ?_)
  refine CmpD.split (fun (c6 : (8388608 : Int) < s2) => ?_) (fun (c6 : ¬ ((8388608 : Int) < s2)) => ?_)
  · repeat (first
      | refine LoadD.own 0 rfl _ rfl rfl ?_
      | refine LoadD.own 1 rfl _ rfl rfl ?_
      | refine LoadD.own 2 rfl _ rfl rfl ?_
      | refine LoadD.own 3 rfl _ rfl rfl ?_
      | refine LoadP.at 0 rfl _ rfl rfl ?_
      | refine LoadP.at 1 rfl _ rfl rfl ?_
      | refine LoadP.at 2 rfl _ rfl rfl ?_
      | refine LoadP.at 3 rfl _ rfl rfl ?_
      | refine StoreD.st 0 rfl rfl rfl ?_
      | refine StoreD.st 1 rfl rfl rfl ?_
      | refine StoreD.st 2 rfl rfl rfl ?_
      | refine StoreD.st 3 rfl rfl rfl ?_
      | refine CmpD.yes rfl ?_
      | refine CmpD.yes (by decide) ?_
      | refine CmpD.no (by decide) ?_
      | refine Chk.mk ⟨rfl, trivial⟩ ?_
      | refine Chk.mk ⟨rfl, rfl, trivial⟩ ?_
      | refine Chk.mk ⟨rfl, rfl, rfl, trivial⟩ ?_
      | refine Chk.mk ⟨rfl, rfl, rfl, rfl, trivial⟩ ?_
      | refine Chk.mk ⟨rfl, rfl, rfl, rfl, rfl, trivial⟩ ?_
      | refine Chk.mk ⟨rfl, rfl, rfl, rfl, rfl, rfl, trivial⟩ ?_)
    exact Done.mk (badS _ _ (Drop.pick [0] _ rfl) (fun h => by have : s2 ≤ 8388608 := h.2.2.2.2.2.2.1; omega))
  repeat (first
    | refine LoadD.own 0 rfl _ rfl rfl ?_
    | refine LoadD.own 1 rfl _ rfl rfl ?_
    | refine LoadD.own 2 rfl _ rfl rfl ?_
    | refine LoadD.own 3 rfl _ rfl rfl ?_
    | refine LoadP.at 0 rfl _ rfl rfl ?_
    | refine LoadP.at 1 rfl _ rfl rfl ?_
    | refine LoadP.at 2 rfl _ rfl rfl ?_
    | refine LoadP.at 3 rfl _ rfl rfl ?_
    | refine StoreD.st 0 rfl rfl rfl ?_
    | refine StoreD.st 1 rfl rfl rfl ?_
    | refine StoreD.st 2 rfl rfl rfl ?_
    | refine StoreD.st 3 rfl rfl rfl ?_
    | refine CmpD.yes rfl ?_
    | refine CmpD.yes (by decide) ?_
    | refine CmpD.no (by decide) ?_
    | refine Chk.mk ⟨rfl, trivial⟩ ?_
    | refine Chk.mk ⟨rfl, rfl, trivial⟩ ?_
    | refine Chk.mk ⟨rfl, rfl, rfl, trivial⟩ ?_
    | refine Chk.mk ⟨rfl, rfl, rfl, rfl, trivial⟩ ?_
    | refine Chk.mk ⟨rfl, rfl, rfl, rfl, rfl, trivial⟩ ?_
    | refine Chk.mk ⟨rfl, rfl, rfl, rfl, rfl, rfl, trivial⟩ ?_)
  refine CmpD.split (fun (c7 : s3 < 1) => ?_) (fun (c7 : ¬ (s3 < 1)) => ?_)
  · repeat (first
      | refine LoadD.own 0 rfl _ rfl rfl ?_
      | refine LoadD.own 1 rfl _ rfl rfl ?_
      | refine LoadD.own 2 rfl _ rfl rfl ?_
      | refine LoadD.own 3 rfl _ rfl rfl ?_
      | refine LoadP.at 0 rfl _ rfl rfl ?_
      | refine LoadP.at 1 rfl _ rfl rfl ?_
      | refine LoadP.at 2 rfl _ rfl rfl ?_
      | refine LoadP.at 3 rfl _ rfl rfl ?_
      | refine StoreD.st 0 rfl rfl rfl ?_
      | refine StoreD.st 1 rfl rfl rfl ?_
      | refine StoreD.st 2 rfl rfl rfl ?_
      | refine StoreD.st 3 rfl rfl rfl ?_
      | refine CmpD.yes rfl ?_
      | refine CmpD.yes (by decide) ?_
      | refine CmpD.no (by decide) ?_
      | refine Chk.mk ⟨rfl, trivial⟩ ?_
      | refine Chk.mk ⟨rfl, rfl, trivial⟩ ?_
      | refine Chk.mk ⟨rfl, rfl, rfl, trivial⟩ ?_
      | refine Chk.mk ⟨rfl, rfl, rfl, rfl, trivial⟩ ?_
      | refine Chk.mk ⟨rfl, rfl, rfl, rfl, rfl, trivial⟩ ?_
      | refine Chk.mk ⟨rfl, rfl, rfl, rfl, rfl, rfl, trivial⟩ ?_)
    exact Done.mk (badS _ _ (Drop.pick [0] _ rfl) (fun h => by have : 1 ≤ s3 := h.2.2.2.2.2.2.2.1; omega))
  repeat (first
    | refine LoadD.own 0 rfl _ rfl rfl ?_
    | refine LoadD.own 1 rfl _ rfl rfl ?_
    | refine LoadD.own 2 rfl _ rfl rfl ?_
    | refine LoadD.own 3 rfl _ rfl rfl ?_
    | refine LoadP.at 0 rfl _ rfl rfl ?_
    | refine LoadP.at 1 rfl _ rfl rfl ?_
    | refine LoadP.at 2 rfl _ rfl rfl ?_
    | refine LoadP.at 3 rfl _ rfl rfl ?_
    | refine StoreD.st 0 rfl rfl rfl ?_
    | refine StoreD.st 1 rfl rfl rfl ?_
    | refine StoreD.st 2 rfl rfl rfl ?_
    | refine StoreD.st 3 rfl rfl rfl ?_
    | refine CmpD.yes rfl ?_
    | refine CmpD.yes (by decide) ?_
    | refine CmpD.no (by decide) ?_
    | refine Chk.mk ⟨rfl, trivial⟩ ?_
    | refine Chk.mk ⟨rfl, rfl, trivial⟩ ?_
    | refine Chk.mk ⟨rfl, rfl, rfl, trivial⟩ ?_
    | refine Chk.mk ⟨rfl, rfl, rfl, rfl, trivial⟩ ?_
    | refine Chk.mk ⟨rfl, rfl, rfl, rfl, rfl, trivial⟩ ?_
    | refine Chk.mk ⟨rfl, rfl, rfl, rfl, rfl, rfl, trivial⟩ ?_)
  refine CmpD.split (fun (c8 : (549755813888 : Int) < s3) => ?_) (fun (c8 : ¬ ((549755813888 : Int) < s3)) => ?_)
  · repeat (first
      | refine LoadD.own 0 rfl _ rfl rfl ?_
      | refine LoadD.own 1 rfl _ rfl rfl ?_
      | refine LoadD.own 2 rfl _ rfl rfl ?_
      | refine LoadD.own 3 rfl _ rfl rfl ?_
      | refine LoadP.at 0 rfl _ rfl rfl ?_
      | refine LoadP.at 1 rfl _ rfl rfl ?_
      | refine LoadP.at 2 rfl _ rfl rfl ?_
      | refine LoadP.at 3 rfl _ rfl rfl ?_
      | refine StoreD.st 0 rfl rfl rfl ?_
      | refine StoreD.st 1 rfl rfl rfl ?_
      | refine StoreD.st 2 rfl rfl rfl ?_
      | refine StoreD.st 3 rfl rfl rfl ?_
      | refine CmpD.yes rfl ?_
      | refine CmpD.yes (by decide) ?_
      | refine CmpD.no (by decide) ?_
      | refine Chk.mk ⟨rfl, trivial⟩ ?_
      | refine Chk.mk ⟨rfl, rfl, trivial⟩ ?_
      | refine Chk.mk ⟨rfl, rfl, rfl, trivial⟩ ?_
      | refine Chk.mk ⟨rfl, rfl, rfl, rfl, trivial⟩ ?_
      | refine Chk.mk ⟨rfl, rfl, rfl, rfl, rfl, trivial⟩ ?_
      | refine Chk.mk ⟨rfl, rfl, rfl, rfl, rfl, rfl, trivial⟩ ?_)
    exact Done.mk (badS _ _ (Drop.pick [0] _ rfl) (fun h => by have : s3 ≤ 549755813888 := h.2.2.2.2.2.2.2.2; omega))
  have hok : ScanOk n x ⟨s1, s2, s3, s4⟩ := ⟨by omega, hx, c2, by show 0 ≤ s4; omega, by show s4 < _; omega, by show 1 ≤ s2; omega, by show s2 ≤ _; omega, by show 1 ≤ s3; omega, by show s3 ≤ _; omega⟩
  clear badS
  repeat (first
    | refine LoadD.own 0 rfl _ rfl rfl ?_
    | refine LoadD.own 1 rfl _ rfl rfl ?_
    | refine LoadD.own 2 rfl _ rfl rfl ?_
    | refine LoadD.own 3 rfl _ rfl rfl ?_
    | refine LoadP.at 0 rfl _ rfl rfl ?_
    | refine LoadP.at 1 rfl _ rfl rfl ?_
    | refine LoadP.at 2 rfl _ rfl rfl ?_
    | refine LoadP.at 3 rfl _ rfl rfl ?_
    | refine StoreD.st 0 rfl rfl rfl ?_
    | refine StoreD.st 1 rfl rfl rfl ?_
    | refine StoreD.st 2 rfl rfl rfl ?_
    | refine StoreD.st 3 rfl rfl rfl ?_
    | refine CmpD.yes rfl ?_
    | refine CmpD.yes (by decide) ?_
    | refine CmpD.no (by decide) ?_
    | refine Chk.mk ⟨rfl, trivial⟩ ?_
    | refine Chk.mk ⟨rfl, rfl, trivial⟩ ?_
    | refine Chk.mk ⟨rfl, rfl, rfl, trivial⟩ ?_
    | refine Chk.mk ⟨rfl, rfl, rfl, rfl, trivial⟩ ?_
    | refine Chk.mk ⟨rfl, rfl, rfl, rfl, rfl, trivial⟩ ?_
    | refine Chk.mk ⟨rfl, rfl, rfl, rfl, rfl, rfl, trivial⟩ ?_)
  conv => whnf
  intro bR
  repeat (first
    | refine LoadD.own 0 rfl _ rfl rfl ?_
    | refine LoadD.own 1 rfl _ rfl rfl ?_
    | refine LoadD.own 2 rfl _ rfl rfl ?_
    | refine LoadD.own 3 rfl _ rfl rfl ?_
    | refine LoadP.at 0 rfl _ rfl rfl ?_
    | refine LoadP.at 1 rfl _ rfl rfl ?_
    | refine LoadP.at 2 rfl _ rfl rfl ?_
    | refine LoadP.at 3 rfl _ rfl rfl ?_
    | refine StoreD.st 0 rfl rfl rfl ?_
    | refine StoreD.st 1 rfl rfl rfl ?_
    | refine StoreD.st 2 rfl rfl rfl ?_
    | refine StoreD.st 3 rfl rfl rfl ?_
    | refine CmpD.yes rfl ?_
    | refine CmpD.yes (by decide) ?_
    | refine CmpD.no (by decide) ?_
    | refine Chk.mk ⟨rfl, trivial⟩ ?_
    | refine Chk.mk ⟨rfl, rfl, trivial⟩ ?_
    | refine Chk.mk ⟨rfl, rfl, rfl, trivial⟩ ?_
    | refine Chk.mk ⟨rfl, rfl, rfl, rfl, trivial⟩ ?_
    | refine Chk.mk ⟨rfl, rfl, rfl, rfl, rfl, trivial⟩ ?_
    | refine Chk.mk ⟨rfl, rfl, rfl, rfl, rfl, rfl, trivial⟩ ?_)
  conv => whnf
  intro b12
  repeat (first
    | refine LoadD.own 0 rfl _ rfl rfl ?_
    | refine LoadD.own 1 rfl _ rfl rfl ?_
    | refine LoadD.own 2 rfl _ rfl rfl ?_
    | refine LoadD.own 3 rfl _ rfl rfl ?_
    | refine LoadP.at 0 rfl _ rfl rfl ?_
    | refine LoadP.at 1 rfl _ rfl rfl ?_
    | refine LoadP.at 2 rfl _ rfl rfl ?_
    | refine LoadP.at 3 rfl _ rfl rfl ?_
    | refine StoreD.st 0 rfl rfl rfl ?_
    | refine StoreD.st 1 rfl rfl rfl ?_
    | refine StoreD.st 2 rfl rfl rfl ?_
    | refine StoreD.st 3 rfl rfl rfl ?_
    | refine CmpD.yes rfl ?_
    | refine CmpD.yes (by decide) ?_
    | refine CmpD.no (by decide) ?_
    | refine Chk.mk ⟨rfl, trivial⟩ ?_
    | refine Chk.mk ⟨rfl, rfl, trivial⟩ ?_
    | refine Chk.mk ⟨rfl, rfl, rfl, trivial⟩ ?_
    | refine Chk.mk ⟨rfl, rfl, rfl, rfl, trivial⟩ ?_
    | refine Chk.mk ⟨rfl, rfl, rfl, rfl, rfl, trivial⟩ ?_
    | refine Chk.mk ⟨rfl, rfl, rfl, rfl, rfl, rfl, trivial⟩ ?_)
  conv => whnf
  intro b13
  repeat (first
    | refine LoadD.own 0 rfl _ rfl rfl ?_
    | refine LoadD.own 1 rfl _ rfl rfl ?_
    | refine LoadD.own 2 rfl _ rfl rfl ?_
    | refine LoadD.own 3 rfl _ rfl rfl ?_
    | refine LoadD.own 4 rfl _ rfl rfl ?_
    | refine LoadD.own 5 rfl _ rfl rfl ?_
    | refine LoadD.own 6 rfl _ rfl rfl ?_
    | refine LoadD.own 7 rfl _ rfl rfl ?_
    | refine LoadP.at 0 rfl _ rfl rfl ?_
    | refine LoadP.at 1 rfl _ rfl rfl ?_
    | refine LoadP.at 2 rfl _ rfl rfl ?_
    | refine LoadP.at 3 rfl _ rfl rfl ?_
    | refine LoadP.at 4 rfl _ rfl rfl ?_
    | refine LoadP.at 5 rfl _ rfl rfl ?_
    | refine LoadP.at 6 rfl _ rfl rfl ?_
    | refine LoadP.at 7 rfl _ rfl rfl ?_
    | refine StoreD.st 0 rfl rfl rfl ?_
    | refine StoreD.st 1 rfl rfl rfl ?_
    | refine StoreD.st 2 rfl rfl rfl ?_
    | refine StoreD.st 3 rfl rfl rfl ?_
    | refine StoreD.st 4 rfl rfl rfl ?_
    | refine StoreD.st 5 rfl rfl rfl ?_
    | refine StoreD.st 6 rfl rfl rfl ?_
    | refine StoreD.st 7 rfl rfl rfl ?_
    | refine CmpD.yes rfl ?_
    | refine CmpD.yes (by decide) ?_
    | refine CmpD.no (by decide) ?_
    | refine Chk.mk ⟨rfl, trivial⟩ ?_
    | refine Chk.mk ⟨rfl, rfl, trivial⟩ ?_
    | refine Chk.mk ⟨rfl, rfl, rfl, trivial⟩ ?_
    | refine Chk.mk ⟨rfl, rfl, rfl, rfl, trivial⟩ ?_
    | refine Chk.mk ⟨rfl, rfl, rfl, rfl, rfl, trivial⟩ ?_
    | refine Chk.mk ⟨rfl, rfl, rfl, rfl, rfl, rfl, trivial⟩ ?_)
  refine Tri.frame (ring_groups bR ⟨s1, s2, s3, s4⟩ I) [] rfl rfl ?_
  rintro v J A' hJ ⟨bS, bP, rfl, rfl, rfl⟩
  refine ⟨by simp, ?_⟩
  obtain ⟨tail, rfl⟩ : ∃ t : Nat, s4 = t := ⟨s4.toNat, by omega⟩
  obtain ⟨lb, hlb⟩ : ∃ lb : Nat, layL n = lb := ⟨(layL n).toNat, by omega⟩
  have hxlb : x.lb = lb := by rw [hxl, hlb]
  have hxl2 : x.l = (2 : Nat) := by rw [hx]; rfl
  have hfit : 2 + lb ≤ d.now.length := by rw [← hn]; unfold layL at hlb; split at hlb <;> omega
  cases hdn : d.down with
  | true =>
    refine CodeF.rangeJ rfl [[(b12, row [.slice none 0 0] 64)], [(b13, row [.int .i64 tail] 3)]] (scIt bS bP bR bD ⟨s1, s2, s3, tail⟩ x 0 chD) (Drop.pick [5, 6, 8, 7, 4, 0] _ rfl) (scan_down hD hdn x 2 lb hxl2 hxlb (by omega) hfit ⟨s1, s2, s3, tail⟩ tail rfl)
      (fun _ _ _ _ h => h.elim) (fun _ _ S' => S' = [[(b12, row [.slice none 0 0] 64)], [(b13, row [.int .i64 tail] 3)]]) (fun _ _ _ _ _ h => h) (fun _ _ _ => False) rfl ?round ?done ?stop
    case round => rintro _ _ _ _ _ _ h; exact h.elim
    case stop => rintro _ _ _ _ _ h; exact h.elim
    case done =>
      rintro _ J S' R hJ rfl rfl
      repeat (first
        | refine LoadD.own 0 rfl _ rfl rfl ?_
        | refine LoadD.own 1 rfl _ rfl rfl ?_
        | refine LoadD.own 2 rfl _ rfl rfl ?_
        | refine LoadD.own 3 rfl _ rfl rfl ?_
        | refine LoadD.own 4 rfl _ rfl rfl ?_
        | refine LoadD.own 5 rfl _ rfl rfl ?_
        | refine LoadP.at 0 rfl _ rfl rfl ?_
        | refine LoadP.at 1 rfl _ rfl rfl ?_
        | refine LoadP.at 2 rfl _ rfl rfl ?_
        | refine LoadP.at 3 rfl _ rfl rfl ?_
        | refine LoadP.at 4 rfl _ rfl rfl ?_
        | refine LoadP.at 5 rfl _ rfl rfl ?_
        | refine StoreD.st 0 rfl rfl rfl ?_
        | refine StoreD.st 1 rfl rfl rfl ?_
        | refine StoreD.st 2 rfl rfl rfl ?_
        | refine StoreD.st 3 rfl rfl rfl ?_
        | refine StoreD.st 4 rfl rfl rfl ?_
        | refine StoreD.st 5 rfl rfl rfl ?_
        | refine CmpD.yes rfl ?_
        | refine CmpD.yes (by decide) ?_
        | refine CmpD.no (by decide) ?_
        | refine Chk.mk ⟨rfl, trivial⟩ ?_
        | refine Chk.mk ⟨rfl, rfl, trivial⟩ ?_
        | refine Chk.mk ⟨rfl, rfl, rfl, trivial⟩ ?_
        | refine Chk.mk ⟨rfl, rfl, rfl, rfl, trivial⟩ ?_
        | refine Chk.mk ⟨rfl, rfl, rfl, rfl, rfl, trivial⟩ ?_
        | refine Chk.mk ⟨rfl, rfl, rfl, rfl, rfl, rfl, trivial⟩ ?_)
      refine CodeF.sched [[], [0], [0, 1], [0, 1, 2], [], [4], [0, 1, 2, 3, 4, 5]] [0, 1, 2, 3, 4, 5, 6] (by kernel_rfl) ?_
      repeat (first
        | refine LoadD.own 0 rfl _ rfl rfl ?_
        | refine LoadD.own 1 rfl _ rfl rfl ?_
        | refine LoadD.own 2 rfl _ rfl rfl ?_
        | refine LoadD.own 3 rfl _ rfl rfl ?_
        | refine LoadD.own 4 rfl _ rfl rfl ?_
        | refine LoadD.own 5 rfl _ rfl rfl ?_
        | refine LoadP.at 0 rfl _ rfl rfl ?_
        | refine LoadP.at 1 rfl _ rfl rfl ?_
        | refine LoadP.at 2 rfl _ rfl rfl ?_
        | refine LoadP.at 3 rfl _ rfl rfl ?_
        | refine LoadP.at 4 rfl _ rfl rfl ?_
        | refine LoadP.at 5 rfl _ rfl rfl ?_
        | refine StoreD.st 0 rfl rfl rfl ?_
        | refine StoreD.st 1 rfl rfl rfl ?_
        | refine StoreD.st 2 rfl rfl rfl ?_
        | refine StoreD.st 3 rfl rfl rfl ?_
        | refine StoreD.st 4 rfl rfl rfl ?_
        | refine StoreD.st 5 rfl rfl rfl ?_
        | refine CmpD.yes rfl ?_
        | refine CmpD.yes (by decide) ?_
        | refine CmpD.no (by decide) ?_
        | refine Chk.mk ⟨rfl, trivial⟩ ?_
        | refine Chk.mk ⟨rfl, rfl, trivial⟩ ?_
        | refine Chk.mk ⟨rfl, rfl, rfl, trivial⟩ ?_
        | refine Chk.mk ⟨rfl, rfl, rfl, rfl, trivial⟩ ?_
        | refine Chk.mk ⟨rfl, rfl, rfl, rfl, rfl, trivial⟩ ?_
        | refine Chk.mk ⟨rfl, rfl, rfl, rfl, rfl, rfl, trivial⟩ ?_)
      exact Done.mk ⟨[chD, []], Drop.and (Drop.pick [5] _ rfl), [], rfl, .inr (.inl ⟨hok, rfl, rfl⟩)⟩
  | false =>
    have hsc : scanL d ⟨s1, s2, s3, tail⟩ = scanK (rbP d 2 lb) s2 (lb + 1) tail s3 lb := by
      unfold scanL
      rw [← hn, hlb]; rfl
    have hlbn : (layL n).toNat = lb := by rw [hlb]; rfl
    obtain ⟨L, hLe⟩ : ∃ L, L = scanL d ⟨s1, s2, s3, tail⟩ := ⟨_, rfl⟩
    have hbd := scan_bound (rb := rbP d 2 lb) (ep := s2) (lb + 1) tail s3 lb
    rw [← hsc, ← hLe] at hbd
    refine CodeF.rangeJ rfl [[(b12, row [.slice none 0 0] 64)], [(b13, row [.int .i64 tail] 3)], []] (scIt bS bP bR bD ⟨s1, s2, s3, tail⟩ x 0 chD) ((Drop.pick [5, 6, 8, 7, 4, 0] _ rfl).trans (Drop.flat (by simp [St.at]; exact ⟨rfl, rfl⟩))) (scan_up hD hdn x 2 lb hxl2 hxlb (by omega) hfit ⟨s1, s2, s3, tail⟩ tail rfl (by omega) ⟨by show 1 ≤ s3; omega, by show s3 ≤ _; omega⟩)
      (fun _ _ _ _ ⟨_, _, _, _, _, _, _, _, _, _, h, _⟩ => by rw [h]; rfl)
      (fun a J' S' => ∃ (aO : Option Addr) (capO : Nat) (chO : List Blk) (gl : List Grp) (acc : List G3), S' = [[(b12, row [.slice aO gl.length capO] 64)], [(b13, row [.int .i64 (placeP lb tail acc : Nat)] 3)], chO] ∧ OwnC chO 3 aO gl.length capO (grpCells gl) ∧ GrpsOk J' gl acc ∧ acc ++ scanK (rbP d 2 lb) s2 a.f a.at' a.seq a.room = L ∧ a.at' = tail + (acc.map fun g => g.2.2.length + 1).sum)
      (fun a J1 J2 S' hJ ⟨aO, capO, chO, gl, acc, h1, h2, h3, h4⟩ => ⟨aO, capO, chO, gl, acc, h1, h2, h3.mono hJ, h4⟩) (fun _ _ _ => False)
      ⟨none, 0, [], [], [], by rw [show placeP lb tail [] = tail from by unfold placeP; exact Nat.mod_eq_of_lt (by simp; omega)]; rfl, OwnC.nil _ _, ⟨by simp, rfl⟩, by rw [hLe, hsc]; rfl, by simp⟩ ?round ?done ?stop
    case stop => rintro _ _ _ _ _ h; exact h.elim
    case round =>
      rintro ⟨f, at_, seq, room⟩ xs ⟨f', at', seq', room'⟩ J' S' hJ' ⟨e, sn, li, aI, capI, gs, hf, hg, he, hs, rfl, hgs, hgp, hat, hsq, hrm⟩ ⟨aO, capO, chO, gl, acc, rfl, hO, hok2, hacc, hatl⟩
      dsimp only at hf hg hs hat hsq hrm hacc hatl
      subst hf hat hsq hrm
      rw [scanK, hg] at hacc
      dsimp only at hacc
      rw [if_pos ⟨he, hs⟩] at hacc
      have hgl2 := hok2.len
      have hll : L.length = acc.length + ((scanK (rbP d 2 lb) s2 f' (at_ + (li.length + 1)) (seq + 1) (room - (li.length + 1))).length + 1) := by rw [← hacc, List.length_append, List.length_cons]
      conv => whnf
      intro b15
      repeat (first
        | refine LoadD.own 0 rfl _ rfl rfl ?_
        | refine LoadD.own 1 rfl _ rfl rfl ?_
        | refine LoadD.own 2 rfl _ rfl rfl ?_
        | refine LoadD.own 3 rfl _ rfl rfl ?_
        | refine LoadD.own 4 rfl _ rfl rfl ?_
        | refine LoadD.own 5 rfl _ rfl rfl ?_
        | refine LoadP.at 0 rfl _ rfl rfl ?_
        | refine LoadP.at 1 rfl _ rfl rfl ?_
        | refine LoadP.at 2 rfl _ rfl rfl ?_
        | refine LoadP.at 3 rfl _ rfl rfl ?_
        | refine LoadP.at 4 rfl _ rfl rfl ?_
        | refine LoadP.at 5 rfl _ rfl rfl ?_
        | refine StoreD.st 0 rfl rfl rfl ?_
        | refine StoreD.st 1 rfl rfl rfl ?_
        | refine StoreD.st 2 rfl rfl rfl ?_
        | refine StoreD.st 3 rfl rfl rfl ?_
        | refine StoreD.st 4 rfl rfl rfl ?_
        | refine StoreD.st 5 rfl rfl rfl ?_
        | refine CmpD.yes rfl ?_
        | refine CmpD.yes (by decide) ?_
        | refine CmpD.no (by decide) ?_
        | refine Chk.mk ⟨rfl, trivial⟩ ?_
        | refine Chk.mk ⟨rfl, rfl, trivial⟩ ?_
        | refine Chk.mk ⟨rfl, rfl, rfl, trivial⟩ ?_
        | refine Chk.mk ⟨rfl, rfl, rfl, rfl, trivial⟩ ?_
        | refine Chk.mk ⟨rfl, rfl, rfl, rfl, rfl, trivial⟩ ?_
        | refine Chk.mk ⟨rfl, rfl, rfl, rfl, rfl, rfl, trivial⟩ ?_)
      conv => whnf
      intro bN
      refine appendD tabOk rfl rfl rfl rfl rfl rfl rfl 2 rfl hO (SrcOk.slice (n := 1) (news := grpCells [⟨e, sn, aI, capI, gs⟩]) tabOk rfl ((OwnC.whole (len := 1) (size := 3) rfl).slC 4 rfl) (by intro v hv; simp [grpCells] at hv; rcases hv with rfl | rfl | rfl <;> rfl)) rfl (by show (gl.length + 1) * 40 ≤ _; omega) (by omega) ?_
      intro a2 cap2 ch2 hO2
      repeat (first
        | refine LoadD.own 0 rfl _ rfl rfl ?_
        | refine LoadD.own 1 rfl _ rfl rfl ?_
        | refine LoadD.own 2 rfl _ rfl rfl ?_
        | refine LoadD.own 3 rfl _ rfl rfl ?_
        | refine LoadD.own 4 rfl _ rfl rfl ?_
        | refine LoadD.own 5 rfl _ rfl rfl ?_
        | refine LoadP.at 0 rfl _ rfl rfl ?_
        | refine LoadP.at 1 rfl _ rfl rfl ?_
        | refine LoadP.at 2 rfl _ rfl rfl ?_
        | refine LoadP.at 3 rfl _ rfl rfl ?_
        | refine LoadP.at 4 rfl _ rfl rfl ?_
        | refine LoadP.at 5 rfl _ rfl rfl ?_
        | refine StoreD.st 0 rfl rfl rfl ?_
        | refine StoreD.st 1 rfl rfl rfl ?_
        | refine StoreD.st 2 rfl rfl rfl ?_
        | refine StoreD.st 3 rfl rfl rfl ?_
        | refine StoreD.st 4 rfl rfl rfl ?_
        | refine StoreD.st 5 rfl rfl rfl ?_
        | refine CmpD.yes rfl ?_
        | refine CmpD.yes (by decide) ?_
        | refine CmpD.no (by decide) ?_
        | refine Chk.mk ⟨rfl, trivial⟩ ?_
        | refine Chk.mk ⟨rfl, rfl, trivial⟩ ?_
        | refine Chk.mk ⟨rfl, rfl, rfl, trivial⟩ ?_
        | refine Chk.mk ⟨rfl, rfl, rfl, rfl, trivial⟩ ?_
        | refine Chk.mk ⟨rfl, rfl, rfl, rfl, rfl, trivial⟩ ?_
        | refine Chk.mk ⟨rfl, rfl, rfl, rfl, rfl, rfl, trivial⟩ ?_)
      have hll3 : (gl ++ [⟨e, sn, aI, capI, gs⟩] : List Grp).length = gl.length + 1 := by simp
      refine ⟨[[(b12, row [.slice a2 (gl.length + 1) cap2] 64)], [(b13, row [.int .i64 ((at_ + (li.length + 1)) % lb : Nat)] 3)], ch2], Drop.pick [0, 1, 2] _ rfl, a2, cap2, ch2, gl ++ [⟨e, sn, aI, capI, gs⟩], acc ++ [(e, sn, li)], ?_, ?_, ⟨?_, ?_⟩, ?_, ?_⟩
      · rw [hll3, placeP_snoc, ← hatl]
      · rw [hll3, grpCells_snoc]; exact hO2
      · intro g hg
        rcases List.mem_append.1 hg with hg | hg
        · exact hok2.each g hg
        · simp only [List.mem_singleton] at hg
          subst hg
          exact hgs
      · rw [List.map_append, List.map_append, hok2.g3, List.map_singleton, List.map_singleton]
        show _ ++ [((e : Int), (sn : Int), gs.map Img.pr)] = _
        rw [hgp]; rfl
      · rw [List.append_assoc]; exact hacc
      · show at_ + (li.length + 1) = _
        rw [List.map_append, List.sum_append, hatl]
        simp [Nat.add_assoc]
    case done =>
      rintro ⟨f, at_, seq, room⟩ J' S' R hJ' ⟨hfin, rfl⟩ ⟨aO, capO, chO, gl, acc, rfl, hO, hok2, hacc, hatl⟩
      rw [hfin, List.append_nil] at hacc
      subst hacc
      repeat (first
        | refine LoadD.own 0 rfl _ rfl rfl ?_
        | refine LoadD.own 1 rfl _ rfl rfl ?_
        | refine LoadD.own 2 rfl _ rfl rfl ?_
        | refine LoadD.own 3 rfl _ rfl rfl ?_
        | refine LoadD.own 4 rfl _ rfl rfl ?_
        | refine LoadD.own 5 rfl _ rfl rfl ?_
        | refine LoadP.at 0 rfl _ rfl rfl ?_
        | refine LoadP.at 1 rfl _ rfl rfl ?_
        | refine LoadP.at 2 rfl _ rfl rfl ?_
        | refine LoadP.at 3 rfl _ rfl rfl ?_
        | refine LoadP.at 4 rfl _ rfl rfl ?_
        | refine LoadP.at 5 rfl _ rfl rfl ?_
        | refine StoreD.st 0 rfl rfl rfl ?_
        | refine StoreD.st 1 rfl rfl rfl ?_
        | refine StoreD.st 2 rfl rfl rfl ?_
        | refine StoreD.st 3 rfl rfl rfl ?_
        | refine StoreD.st 4 rfl rfl rfl ?_
        | refine StoreD.st 5 rfl rfl rfl ?_
        | refine CmpD.yes rfl ?_
        | refine CmpD.yes (by decide) ?_
        | refine CmpD.no (by decide) ?_
        | refine Chk.mk ⟨rfl, trivial⟩ ?_
        | refine Chk.mk ⟨rfl, rfl, trivial⟩ ?_
        | refine Chk.mk ⟨rfl, rfl, rfl, trivial⟩ ?_
        | refine Chk.mk ⟨rfl, rfl, rfl, rfl, trivial⟩ ?_
        | refine Chk.mk ⟨rfl, rfl, rfl, rfl, rfl, trivial⟩ ?_
        | refine Chk.mk ⟨rfl, rfl, rfl, rfl, rfl, rfl, trivial⟩ ?_)
      refine CodeF.sched [[], [], [0], [0, 1, 2], [0, 1, 2, 3]] [0, 1, 2, 3, 4] (by kernel_rfl) ?_
      repeat (first
        | refine LoadD.own 0 rfl _ rfl rfl ?_
        | refine LoadD.own 1 rfl _ rfl rfl ?_
        | refine LoadD.own 2 rfl _ rfl rfl ?_
        | refine LoadD.own 3 rfl _ rfl rfl ?_
        | refine LoadD.own 4 rfl _ rfl rfl ?_
        | refine LoadD.own 5 rfl _ rfl rfl ?_
        | refine LoadP.at 0 rfl _ rfl rfl ?_
        | refine LoadP.at 1 rfl _ rfl rfl ?_
        | refine LoadP.at 2 rfl _ rfl rfl ?_
        | refine LoadP.at 3 rfl _ rfl rfl ?_
        | refine LoadP.at 4 rfl _ rfl rfl ?_
        | refine LoadP.at 5 rfl _ rfl rfl ?_
        | refine StoreD.st 0 rfl rfl rfl ?_
        | refine StoreD.st 1 rfl rfl rfl ?_
        | refine StoreD.st 2 rfl rfl rfl ?_
        | refine StoreD.st 3 rfl rfl rfl ?_
        | refine StoreD.st 4 rfl rfl rfl ?_
        | refine StoreD.st 5 rfl rfl rfl ?_
        | refine CmpD.yes rfl ?_
        | refine CmpD.yes (by decide) ?_
        | refine CmpD.no (by decide) ?_
        | refine Chk.mk ⟨rfl, trivial⟩ ?_
        | refine Chk.mk ⟨rfl, rfl, trivial⟩ ?_
        | refine Chk.mk ⟨rfl, rfl, rfl, trivial⟩ ?_
        | refine Chk.mk ⟨rfl, rfl, rfl, rfl, trivial⟩ ?_
        | refine Chk.mk ⟨rfl, rfl, rfl, rfl, rfl, trivial⟩ ?_
        | refine Chk.mk ⟨rfl, rfl, rfl, rfl, rfl, rfl, trivial⟩ ?_)
      refine Done.mk ⟨[chD, chO], Drop.pick [6, 2] _ rfl, chO, rfl, .inr (.inr ⟨hok, rfl, aO, capO, gl, ?_, hO, ?_⟩)⟩
      · rw [hlbn, ← hLe]; rfl
      · rw [← hLe]; exact hok2
end Go.Proofs.Ytbpdbgcndfcilaa
namespace Go.Proofs.Ytbpdbgcndfcilaa
open Go.RowKit Go.Sl
set_option maxRecDepth 20000

structure RDk (I : Imm) (v : Value) (d : DSt) : Prop where
  wf : d.Wf
  snd : ∀ i, i < d.safe.length → d.now[i]? = some (atP (d.safe.getD i []) d.writes i)
  ex : ∃ (s w : Hd) (bS : List Bk) (gs : List Img), v = rV s w d.count d.down (gv d.arm) (gv d.fault) ∧ Rds I s.a s.len (bS.map Bk.cell) ∧ (∀ b ∈ bS, BkOk I b) ∧ bS.map Bk.data = d.safe ∧ ImgsOk I w.a gs ∧ w.len = gs.length ∧ gs.map Img.pr = d.writes
theorem RDk.mono {I J : Imm} {v : Value} {d : DSt} (h : RDk I v d) (hJ : I.le J) : RDk J v d := by
  obtain ⟨s, w, bS, gs, e, h1, h2, h3, h4, h5, h6⟩ := h.ex
  exact ⟨h.wf, h.snd, s, w, bS, gs, e, h1.mono hJ, fun b hb => (h2 b hb).mono hJ, h3, h4.mono hJ, h5, h6⟩
theorem RDk.stop {I : Imm} {s w : Hd} {d : DSt} {bS : List Bk} {gs : List Img} (h : d.Wf) (hs : ∀ i, i < d.safe.length → d.now[i]? = some (atP (d.safe.getD i []) d.writes i)) (h1 : Rds I s.a s.len (bS.map Bk.cell)) (h2 : ∀ b ∈ bS, BkOk I b) (h3 : bS.map Bk.data = d.safe) (h4 : ImgsOk I w.a gs) (h5 : w.len = gs.length) (h6 : gs.map Img.pr = d.writes) :
    RDk I (rV s w d.count d.stop.1.down (gv d.stop.1.arm) (gv d.stop.1.fault)) d.stop.1 := by
  obtain ⟨e1, e2, e3, e4⟩ := d.stop_same
  exact ⟨h.stop, by rw [e1, e2, e3]; exact hs, s, w, bS, gs, by rw [e4], h1, h2, by rw [e1]; exact h3, h4, h5, by rw [e3]; exact h6⟩
end Go.Proofs.Ytbpdbgcndfcilaa
namespace Go.Proofs.Ytbpdbgcndfcilaa
open Go.RowKit Go.Sl
set_option maxRecDepth 20000

end Go.Proofs.Ytbpdbgcndfcilaa
namespace Go.Proofs.Ytbpdbgcndfcilaa
open Go.RowKit Go.Sl
set_option maxRecDepth 20000

end Go.Proofs.Ytbpdbgcndfcilaa
namespace Go.Proofs.Ytbpdbgcndfcilaa
open Go.RowKit Go.Sl
set_option maxRecDepth 20000

end Go.Proofs.Ytbpdbgcndfcilaa
namespace Go.Proofs.Ytbpdbgcndfcilaa
open Go.RowKit Go.Sl
set_option maxRecDepth 20000

end Go.Proofs.Ytbpdbgcndfcilaa
namespace Go.Proofs.Ytbpdbgcndfcilaa
open Go.RowKit Go.Sl
set_option maxRecDepth 20000

theorem rdk_fresh {I : Imm} {l : List Dat} {bS : List Bk} {a : Option Addr} {n cap : Nat} (hn : 1 ≤ n ∧ n ≤ 512) (hR : Rds I a n (bS.map Bk.cell)) (hok : ∀ b ∈ bS, BkOk I b) (hd : bS.map Bk.data = l) (hl : l.length = n) (h4 : ∀ b ∈ l, b.length = 4096) :
    RDk I (rV ⟨a, n, cap⟩ ⟨none, 0, 0⟩ 0 false (-1) (-1)) (DSt.of l) := by
  refine ⟨⟨rfl, by show 1 ≤ l.length ∧ l.length ≤ 512; omega, h4, h4, fun w hw => (List.not_mem_nil hw).elim, fun h => (Bool.false_ne_true h).elim, fun h => (Bool.false_ne_true h).elim⟩, ?_, ⟨a, n, cap⟩, ⟨none, 0, 0⟩, bS, [], rfl, hR, hok, hd, ⟨⟨rfl, .inl rfl⟩, by simp⟩, rfl, rfl⟩
  intro i hi
  show l[i]? = some (l.getD i [])
  have hi : i < l.length := hi
  rw [List.getD_eq_getElem?_getD, List.getElem?_eq_getElem hi]; rfl
set_option maxHeartbeats 1000000 in
theorem r4_Load {I : Imm} (a : Option Addr) (n cap : Nat) (l : Dat) (hn : 1 ≤ n ∧ n ≤ 512) (h : Rds I a (n * 4096) (bts l)) (hcap : n * 4096 ≤ cap) :
    Tri Try.prog 45 #[.slice a (n * 4096 : Nat) cap] I [] fun r J _ => ∃ v', r = .tuple #[v', .int .i64 0] ∧ RDk J v' (DSt.of (blocksOf l n)) := by
  refine Tri.fixed (Q := fun r J S' => ∃ v' ch, r = .tuple #[v', .int .i64 0] ∧ S' = [ch] ∧ ∀ J', J.le J' → (∀ x ∈ ch, J' x.1 = some x.2) → RDk J' v' (DSt.of (blocksOf l n))) ?_ ?_
  rotate_left
  · rintro r J S' hJ ⟨v', ch, rfl, rfl, h⟩
    exact ⟨0, ch, rfl, fun J' hJ' hm => ⟨v', rfl, h J' hJ' hm⟩⟩
  have hll : l.length = n * 4096 := by rw [← bts_length, h.len]
  rcases h.mem with q0 | ⟨b, off, c, T, fr, rfl, hIb, hc⟩
  · omega
  refine Tri.lay (S2 := [[]]) (by simp) ?_
  refine Tri.drop ?_ (fun _ _ _ _ h => h)
  refine Tri.of (args := [.slice (some ⟨b, off, none⟩) (n * 4096 : Nat) cap]) tabOk Try.func45 rfl (by kernel_rfl) (by kernel_rfl) ?_
  conv => whnf
  intro b2
  conv => whnf
  intro b4
  repeat (first
    | refine LoadD.own 0 rfl _ rfl rfl ?_
    | refine LoadD.own 1 rfl _ rfl rfl ?_
    | refine LoadD.own 2 rfl _ rfl rfl ?_
    | refine LoadP.at 0 rfl _ rfl rfl ?_
    | refine LoadP.at 1 rfl _ rfl rfl ?_
    | refine LoadP.at 2 rfl _ rfl rfl ?_
    | refine StoreD.st 0 rfl rfl rfl ?_
    | refine StoreD.st 1 rfl rfl rfl ?_
    | refine StoreD.st 2 rfl rfl rfl ?_
    | refine CmpD.yes rfl ?_
    | refine CmpD.yes (by decide) ?_
    | refine CmpD.no (by decide) ?_
    | refine Chk.mk ⟨rfl, trivial⟩ ?_
    | refine Chk.mk ⟨rfl, rfl, trivial⟩ ?_
    | refine Chk.mk ⟨rfl, rfl, rfl, trivial⟩ ?_
    | refine Chk.mk ⟨rfl, rfl, rfl, rfl, trivial⟩ ?_
    | refine Chk.mk ⟨rfl, rfl, rfl, rfl, rfl, trivial⟩ ?_
    | refine Chk.mk ⟨rfl, rfl, rfl, rfl, rfl, rfl, trivial⟩ ?_)
  refine CmpD.no (by omega) ?_
  repeat (first
    | refine LoadD.own 0 rfl _ rfl rfl ?_
    | refine LoadD.own 1 rfl _ rfl rfl ?_
    | refine LoadD.own 2 rfl _ rfl rfl ?_
    | refine LoadP.at 0 rfl _ rfl rfl ?_
    | refine LoadP.at 1 rfl _ rfl rfl ?_
    | refine LoadP.at 2 rfl _ rfl rfl ?_
    | refine StoreD.st 0 rfl rfl rfl ?_
    | refine StoreD.st 1 rfl rfl rfl ?_
    | refine StoreD.st 2 rfl rfl rfl ?_
    | refine CmpD.yes rfl ?_
    | refine CmpD.yes (by decide) ?_
    | refine CmpD.no (by decide) ?_
    | refine Chk.mk ⟨rfl, trivial⟩ ?_
    | refine Chk.mk ⟨rfl, rfl, trivial⟩ ?_
    | refine Chk.mk ⟨rfl, rfl, rfl, trivial⟩ ?_
    | refine Chk.mk ⟨rfl, rfl, rfl, rfl, trivial⟩ ?_
    | refine Chk.mk ⟨rfl, rfl, rfl, rfl, rfl, trivial⟩ ?_
    | refine Chk.mk ⟨rfl, rfl, rfl, rfl, rfl, rfl, trivial⟩ ?_)
  refine CmpD.no (by omega) ?_
  repeat (first
    | refine LoadD.own 0 rfl _ rfl rfl ?_
    | refine LoadD.own 1 rfl _ rfl rfl ?_
    | refine LoadD.own 2 rfl _ rfl rfl ?_
    | refine LoadP.at 0 rfl _ rfl rfl ?_
    | refine LoadP.at 1 rfl _ rfl rfl ?_
    | refine LoadP.at 2 rfl _ rfl rfl ?_
    | refine StoreD.st 0 rfl rfl rfl ?_
    | refine StoreD.st 1 rfl rfl rfl ?_
    | refine StoreD.st 2 rfl rfl rfl ?_
    | refine CmpD.yes rfl ?_
    | refine CmpD.yes (by decide) ?_
    | refine CmpD.no (by decide) ?_
    | refine Chk.mk ⟨rfl, trivial⟩ ?_
    | refine Chk.mk ⟨rfl, rfl, trivial⟩ ?_
    | refine Chk.mk ⟨rfl, rfl, rfl, trivial⟩ ?_
    | refine Chk.mk ⟨rfl, rfl, rfl, rfl, trivial⟩ ?_
    | refine Chk.mk ⟨rfl, rfl, rfl, rfl, rfl, trivial⟩ ?_
    | refine Chk.mk ⟨rfl, rfl, rfl, rfl, rfl, rfl, trivial⟩ ?_)
  refine Chk.mk (by decide) ?_
  refine ToD.rem (by omega) ?_
  refine CmpD.yes (by omega) ?_
  repeat (first
    | refine LoadD.own 0 rfl _ rfl rfl ?_
    | refine LoadD.own 1 rfl _ rfl rfl ?_
    | refine LoadD.own 2 rfl _ rfl rfl ?_
    | refine LoadP.at 0 rfl _ rfl rfl ?_
    | refine LoadP.at 1 rfl _ rfl rfl ?_
    | refine LoadP.at 2 rfl _ rfl rfl ?_
    | refine StoreD.st 0 rfl rfl rfl ?_
    | refine StoreD.st 1 rfl rfl rfl ?_
    | refine StoreD.st 2 rfl rfl rfl ?_
    | refine CmpD.yes rfl ?_
    | refine CmpD.yes (by decide) ?_
    | refine CmpD.no (by decide) ?_
    | refine Chk.mk ⟨rfl, trivial⟩ ?_
    | refine Chk.mk ⟨rfl, rfl, trivial⟩ ?_
    | refine Chk.mk ⟨rfl, rfl, rfl, trivial⟩ ?_
    | refine Chk.mk ⟨rfl, rfl, rfl, rfl, trivial⟩ ?_
    | refine Chk.mk ⟨rfl, rfl, rfl, rfl, rfl, trivial⟩ ?_
    | refine Chk.mk ⟨rfl, rfl, rfl, rfl, rfl, rfl, trivial⟩ ?_)
  refine CodeF.loopD [0, 2, 4, 5] (fun vs J' S' => ∃ (i : Nat) (aS : Option Addr) (capS : Nat) (ch : List Blk) (bks : List Bk), i ≤ n ∧ OwnC ch 1 aS i capS (bks.map Bk.cell) ∧ bks.map Bk.data = blocksOf l i ∧ (∀ b ∈ bks, BkOk J' b) ∧ I.le J' ∧ vs = [.slice (some ⟨b, off, none⟩) (n * 4096 : Nat) cap, .pointer (some ⟨b2, 0, none⟩), .pointer (some ⟨b4, 0, none⟩), .int .i64 (i * 4096 : Nat)] ∧
      S' = [ch, [(b2, row [.slice none 0 0, .slice none 0 0, .int .i64 0, .bool false, .int .i64 0, .int .i64 0] 79)], [(b4, row [.slice aS i capS, .slice none 0 0, .int .i64 0, .bool false, .int .i64 (-1), .int .i64 (-1)] 79)]])
    (fun vs _ _ => match vs with | [_, _, _, .int _ i] => ((n * 4096 : Nat) - i).toNat | _ => 0) ?_ ?_
  · exact ⟨_, Drop.pick [0, 1, 2] _ rfl, 0, none, 0, [], [], by omega, OwnC.nil 1 none, by unfold blocksOf; rfl, by simp, Imm.le_refl _, rfl, rfl⟩
  rintro vs gE J' S' hJ' ⟨i, aS, capS, ch, bks, hi, hO, hdat, hok, hle, rfl, rfl⟩
  refine CmpD.split (fun c1 => ?_) (fun c1 => ?_)
  · have hlt : i < n := by omega
    refine CodeF.sched [[], [0], [], [], [], [4], [2, 3, 4, 5], [2, 3, 4, 5, 6], [2, 3, 4, 5, 6, 7], [0, 1, 2, 3, 4, 5, 6, 7, 8], [0, 1, 2, 3, 4, 5, 6, 7, 8, 9], [0, 1, 2, 3, 4, 5, 6, 7, 8, 9, 10]] [0, 1, 2, 3, 4, 5, 6, 7, 8, 9, 10, 11] (by kernel_rfl) ?_
    refine LoadP.at 2 rfl _ rfl rfl ?_
    refine ToD.to ((i * 4096 + 4096 : Nat) : Int) (by rw [wrap_i64 (by omega) (by omega)]; omega) ?_
    refine sliceD tabOk rfl rfl rfl rfl (i * 4096) (i * 4096 + 4096) cap ⟨_, rfl⟩ ⟨_, rfl⟩ rfl (.inl rfl) (by omega) ?_
    repeat (first
      | refine LoadD.own 0 rfl _ rfl rfl ?_
      | refine LoadD.own 1 rfl _ rfl rfl ?_
      | refine LoadD.own 2 rfl _ rfl rfl ?_
      | refine LoadP.at 0 rfl _ rfl rfl ?_
      | refine LoadP.at 1 rfl _ rfl rfl ?_
      | refine LoadP.at 2 rfl _ rfl rfl ?_
      | refine StoreD.st 0 rfl rfl rfl ?_
      | refine StoreD.st 1 rfl rfl rfl ?_
      | refine StoreD.st 2 rfl rfl rfl ?_
      | refine CmpD.yes rfl ?_
      | refine CmpD.yes (by decide) ?_
      | refine CmpD.no (by decide) ?_
      | refine Chk.mk ⟨rfl, trivial⟩ ?_
      | refine Chk.mk ⟨rfl, rfl, trivial⟩ ?_
      | refine Chk.mk ⟨rfl, rfl, rfl, trivial⟩ ?_
      | refine Chk.mk ⟨rfl, rfl, rfl, rfl, trivial⟩ ?_
      | refine Chk.mk ⟨rfl, rfl, rfl, rfl, rfl, trivial⟩ ?_
      | refine Chk.mk ⟨rfl, rfl, rfl, rfl, rfl, rfl, trivial⟩ ?_)
    have hp := (Rds_part h (i * 4096) 4096 (by omega)).mono hle
    have hx : Value.slice (slAddr (some ⟨b, off, none⟩) (i * 4096) cap 1) (i * 4096 + 4096 - i * 4096) (cap - i * 4096) = .slice (some ⟨b, off + i * 4096, none⟩) 4096 (cap - i * 4096) := by
      unfold slAddr
      rw [if_neg (by omega), Nat.add_sub_cancel_left]
      simp [add_none]
    have hcall := copy_fix J' _ 4096 (cap - i * 4096) _ hp (by omega)
    rw [← hx] at hcall
    refine Tri.free hcall ?_
    rintro v J1 _ hJ1 ⟨aC, capC, rfl, hC⟩
    repeat (first
      | refine LoadD.own 0 rfl _ rfl rfl ?_
      | refine LoadD.own 1 rfl _ rfl rfl ?_
      | refine LoadD.own 2 rfl _ rfl rfl ?_
      | refine LoadP.at 0 rfl _ rfl rfl ?_
      | refine LoadP.at 1 rfl _ rfl rfl ?_
      | refine LoadP.at 2 rfl _ rfl rfl ?_
      | refine StoreD.st 0 rfl rfl rfl ?_
      | refine StoreD.st 1 rfl rfl rfl ?_
      | refine StoreD.st 2 rfl rfl rfl ?_
      | refine CmpD.yes rfl ?_
      | refine CmpD.yes (by decide) ?_
      | refine CmpD.no (by decide) ?_
      | refine Chk.mk ⟨rfl, trivial⟩ ?_
      | refine Chk.mk ⟨rfl, rfl, trivial⟩ ?_
      | refine Chk.mk ⟨rfl, rfl, rfl, trivial⟩ ?_
      | refine Chk.mk ⟨rfl, rfl, rfl, rfl, trivial⟩ ?_
      | refine Chk.mk ⟨rfl, rfl, rfl, rfl, rfl, trivial⟩ ?_
      | refine Chk.mk ⟨rfl, rfl, rfl, rfl, rfl, rfl, trivial⟩ ?_)
    conv => whnf
    intro b36
    repeat (first
      | refine LoadD.own 0 rfl _ rfl rfl ?_
      | refine LoadD.own 1 rfl _ rfl rfl ?_
      | refine LoadD.own 2 rfl _ rfl rfl ?_
      | refine LoadP.at 0 rfl _ rfl rfl ?_
      | refine LoadP.at 1 rfl _ rfl rfl ?_
      | refine LoadP.at 2 rfl _ rfl rfl ?_
      | refine StoreD.st 0 rfl rfl rfl ?_
      | refine StoreD.st 1 rfl rfl rfl ?_
      | refine StoreD.st 2 rfl rfl rfl ?_
      | refine CmpD.yes rfl ?_
      | refine CmpD.yes (by decide) ?_
      | refine CmpD.no (by decide) ?_
      | refine Chk.mk ⟨rfl, trivial⟩ ?_
      | refine Chk.mk ⟨rfl, rfl, trivial⟩ ?_
      | refine Chk.mk ⟨rfl, rfl, rfl, trivial⟩ ?_
      | refine Chk.mk ⟨rfl, rfl, rfl, rfl, trivial⟩ ?_
      | refine Chk.mk ⟨rfl, rfl, rfl, rfl, rfl, trivial⟩ ?_
      | refine Chk.mk ⟨rfl, rfl, rfl, rfl, rfl, rfl, trivial⟩ ?_)
    refine appendD tabOk rfl rfl rfl rfl rfl rfl rfl 0 rfl hO (SrcOk.slice (n := 1) (news := [.slice aC 4096 capC]) tabOk rfl ((OwnC.whole (len := 1) (size := 1) rfl).slC 3 rfl) (by intro v hv; simp only [List.mem_singleton] at hv; subst hv; rfl)) rfl (by show (i + 1) * 24 ≤ _; omega) (by omega) ?_
    intro a2 cap2 ch2 hO2
    repeat (first
      | refine LoadD.own 0 rfl _ rfl rfl ?_
      | refine LoadD.own 1 rfl _ rfl rfl ?_
      | refine LoadD.own 2 rfl _ rfl rfl ?_
      | refine LoadP.at 0 rfl _ rfl rfl ?_
      | refine LoadP.at 1 rfl _ rfl rfl ?_
      | refine LoadP.at 2 rfl _ rfl rfl ?_
      | refine StoreD.st 0 rfl rfl rfl ?_
      | refine StoreD.st 1 rfl rfl rfl ?_
      | refine StoreD.st 2 rfl rfl rfl ?_
      | refine CmpD.yes rfl ?_
      | refine CmpD.yes (by decide) ?_
      | refine CmpD.no (by decide) ?_
      | refine Chk.mk ⟨rfl, trivial⟩ ?_
      | refine Chk.mk ⟨rfl, rfl, trivial⟩ ?_
      | refine Chk.mk ⟨rfl, rfl, rfl, trivial⟩ ?_
      | refine Chk.mk ⟨rfl, rfl, rfl, rfl, trivial⟩ ?_
      | refine Chk.mk ⟨rfl, rfl, rfl, rfl, rfl, trivial⟩ ?_
      | refine Chk.mk ⟨rfl, rfl, rfl, rfl, rfl, rfl, trivial⟩ ?_)
    refine ToD.to ((((i + 1) * 4096 : Nat)) : Int) (by rw [wrap_i64 (by omega) (by omega)]; omega) ?_
    refine ⟨_, Drop.pick [0, 1, 2] _ rfl, ⟨i + 1, a2, cap2, ch2, bks ++ [⟨aC, capC, (l.drop (i * 4096)).take 4096⟩], by omega, by rw [List.map_append]; exact hO2, ?_, ?_, Imm.le_trans hle hJ1, rfl, rfl⟩, ?_⟩
    · rw [List.map_append, hdat, blocksOf_succ]; rfl
    · intro x hx
      rcases List.mem_append.1 hx with hx | hx
      · exact (hok x hx).mono hJ1
      · simp only [List.mem_singleton] at hx
        subst hx
        exact hC
    · show ((n * 4096 : Nat) - ((((i + 1) * 4096 : Nat)) : Int)).toNat < ((n * 4096 : Nat) - (((i * 4096 : Nat)) : Int)).toNat
      omega
  · obtain rfl : i = n := by omega
    repeat (first
      | refine LoadD.own 0 rfl _ rfl rfl ?_
      | refine LoadD.own 1 rfl _ rfl rfl ?_
      | refine LoadD.own 2 rfl _ rfl rfl ?_
      | refine LoadP.at 0 rfl _ rfl rfl ?_
      | refine LoadP.at 1 rfl _ rfl rfl ?_
      | refine LoadP.at 2 rfl _ rfl rfl ?_
      | refine StoreD.st 0 rfl rfl rfl ?_
      | refine StoreD.st 1 rfl rfl rfl ?_
      | refine StoreD.st 2 rfl rfl rfl ?_
      | refine CmpD.yes rfl ?_
      | refine CmpD.yes (by decide) ?_
      | refine CmpD.no (by decide) ?_
      | refine Chk.mk ⟨rfl, trivial⟩ ?_
      | refine Chk.mk ⟨rfl, rfl, trivial⟩ ?_
      | refine Chk.mk ⟨rfl, rfl, rfl, trivial⟩ ?_
      | refine Chk.mk ⟨rfl, rfl, rfl, rfl, trivial⟩ ?_
      | refine Chk.mk ⟨rfl, rfl, rfl, rfl, rfl, trivial⟩ ?_
      | refine Chk.mk ⟨rfl, rfl, rfl, rfl, rfl, rfl, trivial⟩ ?_)
    refine Done.mk ⟨[ch], Drop.pick [0] _ rfl, _, ch, rfl, rfl, fun J2 hJ2 hm => ?_⟩
    refine rdk_fresh hn (Rds.of_own hO hm) (fun x hx => (hok x hx).mono hJ2) hdat (blocksOf_length l i) ?_
    intro x hx
    unfold blocksOf at hx
    obtain ⟨k, hk, rfl⟩ := List.mem_map.1 hx
    have := List.mem_range.1 hk
    rw [List.length_take, List.length_drop]
    omega
end Go.Proofs.Ytbpdbgcndfcilaa
namespace Go.Proofs.Ytbpdbgcndfcilaa
open Go.RowKit Go.Sl
set_option maxRecDepth 20000

theorem grpP_hd {rb : Nat → Dat} {at_ room e s : Nat} {l : List PImg} (h : grpP rb at_ room = some (e, s, l)) : ∃ l', hdP (rb at_) = some (e, s, l') ∧ l'.length = l.length ∧ l.length + 1 ≤ room := by
  have hr := (grpP_room h).1
  unfold grpP at h
  cases hd : hdP (rb at_) with
  | none => rw [hd] at h; cases h
  | some p =>
    obtain ⟨e', s', l'⟩ := p
    rw [hd] at h
    dsimp only at h
    split at h
    · rename_i hc
      obtain ⟨hR, hp⟩ := getP_some h
      have hlen := congrArg List.length hp
      rw [putP_length, List.length_map, List.length_range] at hlen
      rw [List.range_succ_eq_map, List.map_cons, Nat.add_zero] at h
      unfold getP at h
      dsimp only at h
      rw [hd] at h
      dsimp only at h
      split at h
      · cases h
        exact ⟨l', rfl, by omega, hr⟩
      · cases h
    · cases h
theorem grpP_get {rb : Nat → Dat} {at_ room e s : Nat} {l : List PImg} (h : hdP (rb at_) = some (e, s, l)) (hr : l.length + 1 ≤ room) : grpP rb at_ room = getP ((List.range (l.length + 1)).map fun i => rb (at_ + i)) := by
  unfold grpP
  rw [h]
  dsimp only
  rw [if_pos hr]
theorem scanK_stop {rb : Nat → Dat} {ep : Int} {f at_ : Nat} {seq : Int} {room : Nat} (h : ∀ e s l, grpP rb at_ room = some (e, s, l) → ¬ ((e : Int) = ep ∧ (s : Int) = seq)) : scanK rb ep f at_ seq room = [] := by
  cases f with
  | zero => rfl
  | succ f =>
    rw [scanK]
    cases hg : grpP rb at_ room with
    | none => rfl
    | some p =>
      obtain ⟨e, s, l⟩ := p
      dsimp only
      rw [if_neg (h e s l hg)]
set_option maxHeartbeats 8000000 in
theorem r9_Groups {I : Imm} {vD : Value} {d : DSt} (hD : RDk I vD d) (hF : d.writes.length ≤ 1000000) (x : Lay) (s : Sup) :
    Tri Try.prog 46 #[vD, x.v, s.v] I [] fun v J _ =>
      (¬ ScanOk d.now.length x s ∧ v = .tuple #[.slice none 0 0, .int .i64 0, .int .i64 2]) ∨
      (ScanOk d.now.length x s ∧ d.down = true ∧ v = .tuple #[.slice none 0 0, .int .i64 0, .int .i64 6]) ∨
      (ScanOk d.now.length x s ∧ d.down = false ∧ ∃ aO capO gl, v = .tuple #[.slice aO gl.length capO, .int .i64 (placeP (layL d.now.length).toNat s.tail.toNat (scanL d s) : Nat), .int .i64 0] ∧ Rds J aO (gl.length * 3) (grpCells gl) ∧ GrpsOk J gl (scanL d s)) := by
  have hr := hD.wf.range
  refine Tri.fixed (Q := fun v J S' => ∃ chO, S' = [chO] ∧
      ((¬ ScanOk d.now.length x s ∧ v = .tuple #[.slice none 0 0, .int .i64 0, .int .i64 2]) ∨
       (ScanOk d.now.length x s ∧ d.down = true ∧ v = .tuple #[.slice none 0 0, .int .i64 0, .int .i64 6]) ∨
       (ScanOk d.now.length x s ∧ d.down = false ∧ ∃ aO capO gl, v = .tuple #[.slice aO gl.length capO, .int .i64 (placeP (layL d.now.length).toNat s.tail.toNat (scanL d s) : Nat), .int .i64 0] ∧ OwnC chO 3 aO gl.length capO (grpCells gl) ∧ GrpsOk J gl (scanL d s)))) ?_ ?_
  rotate_left
  · rintro v J S' hJ ⟨chO, rfl, h⟩
    refine ⟨0, chO, rfl, fun J' hJ' hm => ?_⟩
    rcases h with h | h | ⟨h1, h2, aO, capO, gl, rfl, hO, hg⟩
    · exact .inl h
    · exact .inr (.inl h)
    · exact .inr (.inr ⟨h1, h2, aO, capO, gl, rfl, Rds.of_ownS hO hm, hg.mono hJ'⟩)
  refine Tri.drop ?_ (fun _ _ _ _ h => h)
  obtain ⟨hS, w, bS, gs, rfl, hSr, hbS, hbd, hW, hwl, hgw⟩ := hD.ex
  obtain ⟨sa, sl, sc⟩ := hS
  obtain ⟨wa, wl, wc⟩ := w
  obtain ⟨s1, s2, s3, s4⟩ := s
  dsimp only at hSr hwl hW
  obtain ⟨n, hn⟩ : ∃ n, n = d.now.length := ⟨_, rfl⟩
  have hbSl : bS.length = sl := by have := hSr.len; rwa [List.length_map] at this
  have hsn : sl = n := by
    have := congrArg List.length hbd
    rw [List.length_map, hD.wf.len, ← hn] at this
    omega
  subst hsn
  subst hwl
  have hgl0 : gs.length = d.writes.length := by rw [← hgw, List.length_map]
  have hat := fun (J : Imm) (hJ : I.le J) (i : Nat) (bk : Bk) (hi : bS[i]? = some bk) (hok : BkOk J bk) => r4_At ⟨sa, sl, sc⟩ ⟨wa, gs.length, wc⟩ d.count d.down (gv d.arm) (gv d.fault) bS gs J (hSr.mono hJ) (by show sl ≤ _; omega) (hW.mono hJ) rfl (by omega) i hi hok
  refine Tri.of (args := [rV ⟨sa, sl, sc⟩ ⟨wa, gs.length, wc⟩ d.count d.down (gv d.arm) (gv d.fault), x.v, (⟨s1, s2, s3, s4⟩ : Sup).v]) tabOk Try.func46 rfl (by kernel_rfl) (by kernel_rfl) ?_
  conv => whnf
  intro b3
  conv => whnf
  intro b4
  conv => whnf
  intro b5
  repeat (first
    | refine LoadD.own 0 rfl _ rfl rfl ?_
    | refine LoadD.own 1 rfl _ rfl rfl ?_
    | refine LoadD.own 2 rfl _ rfl rfl ?_
    | refine LoadP.at 0 rfl _ rfl rfl ?_
    | refine LoadP.at 1 rfl _ rfl rfl ?_
    | refine LoadP.at 2 rfl _ rfl rfl ?_
    | refine StoreD.st 0 rfl rfl rfl ?_
    | refine StoreD.st 1 rfl rfl rfl ?_
    | refine StoreD.st 2 rfl rfl rfl ?_
    | refine CmpD.yes rfl ?_
    | refine CmpD.yes (by decide) ?_
    | refine CmpD.no (by decide) ?_
    | refine Chk.mk ⟨rfl, trivial⟩ ?_
    | refine Chk.mk ⟨rfl, rfl, trivial⟩ ?_
    | refine Chk.mk ⟨rfl, rfl, rfl, trivial⟩ ?_
    | refine Chk.mk ⟨rfl, rfl, rfl, rfl, trivial⟩ ?_
    | refine Chk.mk ⟨rfl, rfl, rfl, rfl, rfl, trivial⟩ ?_
    | refine Chk.mk ⟨rfl, rfl, rfl, rfl, rfl, rfl, trivial⟩ ?_)
  rw [← hn] at hr ⊢
  refine Tri.free (ref_Of sl I) ?_
  rintro v J _ hJ ⟨rfl, rfl⟩
  have badS : ∀ (J : Imm) (S : St), ¬ ScanOk sl x ⟨s1, s2, s3, s4⟩ → ∃ S'', Drop S S'' ∧ ∃ chO, S'' = [chO] ∧
      ((¬ ScanOk sl x ⟨s1, s2, s3, s4⟩ ∧ Value.tuple #[.slice none 0 0, .int .i64 0, .int .i64 2] = .tuple #[.slice none 0 0, .int .i64 0, .int .i64 2]) ∨
       (ScanOk sl x ⟨s1, s2, s3, s4⟩ ∧ d.down = true ∧ Value.tuple #[.slice none 0 0, .int .i64 0, .int .i64 2] = .tuple #[.slice none 0 0, .int .i64 0, .int .i64 6]) ∨
       (ScanOk sl x ⟨s1, s2, s3, s4⟩ ∧ d.down = false ∧ ∃ aO capO gl, Value.tuple #[.slice none 0 0, .int .i64 0, .int .i64 2] = .tuple #[.slice aO gl.length capO, .int .i64 (placeP (layL sl).toNat s4.toNat (scanL d ⟨s1, s2, s3, s4⟩) : Nat), .int .i64 0] ∧ OwnC chO 3 aO gl.length capO (grpCells gl) ∧ GrpsOk J gl (scanL d ⟨s1, s2, s3, s4⟩))) :=
    fun J S hno => ⟨[[]], (Drop.pick [] _ rfl).trans (Drop.flat rfl), [], rfl, .inl ⟨hno, rfl⟩⟩
  by_cases hb : (sl : Int) < 64 ∨ 512 < (sl : Int)
  · rw [layA, if_pos hb]
    conv => whnf
    intro b9
    repeat (first
      | refine LoadD.own 0 rfl _ rfl rfl ?_
      | refine LoadD.own 1 rfl _ rfl rfl ?_
      | refine LoadD.own 2 rfl _ rfl rfl ?_
      | refine LoadD.own 3 rfl _ rfl rfl ?_
      | refine LoadP.at 0 rfl _ rfl rfl ?_
      | refine LoadP.at 1 rfl _ rfl rfl ?_
      | refine LoadP.at 2 rfl _ rfl rfl ?_
      | refine LoadP.at 3 rfl _ rfl rfl ?_
      | refine StoreD.st 0 rfl rfl rfl ?_
      | refine StoreD.st 1 rfl rfl rfl ?_
      | refine StoreD.st 2 rfl rfl rfl ?_
      | refine StoreD.st 3 rfl rfl rfl ?_
      | refine CmpD.yes rfl ?_
      | refine CmpD.yes (by decide) ?_
      | refine CmpD.no (by decide) ?_
      | refine Chk.mk ⟨rfl, trivial⟩ ?_
      | refine Chk.mk ⟨rfl, rfl, trivial⟩ ?_
      | refine Chk.mk ⟨rfl, rfl, rfl, trivial⟩ ?_
      | refine Chk.mk ⟨rfl, rfl, rfl, rfl, trivial⟩ ?_
      | refine Chk.mk ⟨rfl, rfl, rfl, rfl, rfl, trivial⟩ ?_
      | refine Chk.mk ⟨rfl, rfl, rfl, rfl, rfl, rfl, trivial⟩ ?_)
    exact Done.mk (badS _ _ (fun h => by have := h.1; omega))
  rw [layA, if_neg hb]
  have hL := layL_range (n := (sl : Int)) (by omega)
  conv => whnf
  intro b9
  repeat (first
    | refine LoadD.own 0 rfl _ rfl rfl ?_
    | refine LoadD.own 1 rfl _ rfl rfl ?_
    | refine LoadD.own 2 rfl _ rfl rfl ?_
    | refine LoadD.own 3 rfl _ rfl rfl ?_
    | refine LoadP.at 0 rfl _ rfl rfl ?_
    | refine LoadP.at 1 rfl _ rfl rfl ?_
    | refine LoadP.at 2 rfl _ rfl rfl ?_
    | refine LoadP.at 3 rfl _ rfl rfl ?_
    | refine StoreD.st 0 rfl rfl rfl ?_
    | refine StoreD.st 1 rfl rfl rfl ?_
    | refine StoreD.st 2 rfl rfl rfl ?_
    | refine StoreD.st 3 rfl rfl rfl ?_
    | refine CmpD.yes rfl ?_
    | refine CmpD.yes (by decide) ?_
    | refine CmpD.no (by decide) ?_
    | refine Chk.mk ⟨rfl, trivial⟩ ?_
    | refine Chk.mk ⟨rfl, rfl, trivial⟩ ?_
    | refine Chk.mk ⟨rfl, rfl, rfl, trivial⟩ ?_
    | refine Chk.mk ⟨rfl, rfl, rfl, rfl, trivial⟩ ?_
    | refine Chk.mk ⟨rfl, rfl, rfl, rfl, rfl, trivial⟩ ?_
    | refine Chk.mk ⟨rfl, rfl, rfl, rfl, rfl, rfl, trivial⟩ ?_)
  refine lay_cmp (layOf sl) x rfl (.inr rfl) rfl rfl ?_
  refine CmpD.split (fun c1 => ?_) (fun c1 => ?_)
  rotate_left
  · repeat (first
      | refine LoadD.own 0 rfl _ rfl rfl ?_
      | refine LoadD.own 1 rfl _ rfl rfl ?_
      | refine LoadD.own 2 rfl _ rfl rfl ?_
      | refine LoadD.own 3 rfl _ rfl rfl ?_
      | refine LoadP.at 0 rfl _ rfl rfl ?_
      | refine LoadP.at 1 rfl _ rfl rfl ?_
      | refine LoadP.at 2 rfl _ rfl rfl ?_
      | refine LoadP.at 3 rfl _ rfl rfl ?_
      | refine StoreD.st 0 rfl rfl rfl ?_
      | refine StoreD.st 1 rfl rfl rfl ?_
      | refine StoreD.st 2 rfl rfl rfl ?_
      | refine StoreD.st 3 rfl rfl rfl ?_
      | refine CmpD.yes rfl ?_
      | refine CmpD.yes (by decide) ?_
      | refine CmpD.no (by decide) ?_
      | refine Chk.mk ⟨rfl, trivial⟩ ?_
      | refine Chk.mk ⟨rfl, rfl, trivial⟩ ?_
      | refine Chk.mk ⟨rfl, rfl, rfl, trivial⟩ ?_
      | refine Chk.mk ⟨rfl, rfl, rfl, rfl, trivial⟩ ?_
      | refine Chk.mk ⟨rfl, rfl, rfl, rfl, rfl, trivial⟩ ?_
      | refine Chk.mk ⟨rfl, rfl, rfl, rfl, rfl, rfl, trivial⟩ ?_)
    refine Done.mk (badS _ _ (fun h => c1 ?_))
    rw [← h.2.1]
  have hx : x = layOf sl := by
    simp only [List.cons.injEq, and_true] at c1
    obtain ⟨q1, q2, q3, q4, q5, q6, q7⟩ := c1
    obtain ⟨x1, x2, x3, x4, x5, x6, x7⟩ := x
    dsimp only at q1 q2 q3 q4 q5 q6 q7 ⊢
    rw [Lay.mk.injEq]
    exact ⟨q1.symm, q2.symm, q3.symm, q4.symm, q5.symm, q6.symm, q7.symm⟩
  have hxl : x.lb = layL sl := by rw [hx]; rfl
  repeat (first
    | refine LoadD.own 0 rfl _ rfl rfl ?_
    | refine LoadD.own 1 rfl _ rfl rfl ?_
    | refine LoadD.own 2 rfl _ rfl rfl ?_
    | refine LoadD.own 3 rfl _ rfl rfl ?_
    | refine LoadP.at 0 rfl _ rfl rfl ?_
    | refine LoadP.at 1 rfl _ rfl rfl ?_
    | refine LoadP.at 2 rfl _ rfl rfl ?_
    | refine LoadP.at 3 rfl _ rfl rfl ?_
    | refine StoreD.st 0 rfl rfl rfl ?_
    | refine StoreD.st 1 rfl rfl rfl ?_
    | refine StoreD.st 2 rfl rfl rfl ?_
    | refine StoreD.st 3 rfl rfl rfl ?_
    | refine CmpD.yes rfl ?_
    | refine CmpD.yes (by decide) ?_
    | refine CmpD.no (by decide) ?_
    | refine Chk.mk ⟨rfl, trivial⟩ ?_
    | refine Chk.mk ⟨rfl, rfl, trivial⟩ ?_
    | refine Chk.mk ⟨rfl, rfl, rfl, trivial⟩ ?_
    | refine Chk.mk ⟨rfl, rfl, rfl, rfl, trivial⟩ ?_
    | refine Chk.mk ⟨rfl, rfl, rfl, rfl, rfl, trivial⟩ ?_
    | refine Chk.mk ⟨rfl, rfl, rfl, rfl, rfl, rfl, trivial⟩ ?_)
  refine CmpD.split (fun (c2 : s1 = (sl : Int)) => ?_) (fun (c2 : ¬ (s1 = (sl : Int))) => ?_)
  rotate_left
  · repeat (first
      | refine LoadD.own 0 rfl _ rfl rfl ?_
      | refine LoadD.own 1 rfl _ rfl rfl ?_
      | refine LoadD.own 2 rfl _ rfl rfl ?_
      | refine LoadD.own 3 rfl _ rfl rfl ?_
      | refine LoadP.at 0 rfl _ rfl rfl ?_
      | refine LoadP.at 1 rfl _ rfl rfl ?_
      | refine LoadP.at 2 rfl _ rfl rfl ?_
      | refine LoadP.at 3 rfl _ rfl rfl ?_
      | refine StoreD.st 0 rfl rfl rfl ?_
      | refine StoreD.st 1 rfl rfl rfl ?_
      | refine StoreD.st 2 rfl rfl rfl ?_
      | refine StoreD.st 3 rfl rfl rfl ?_
      | refine CmpD.yes rfl ?_
      | refine CmpD.yes (by decide) ?_
      | refine CmpD.no (by decide) ?_
      | refine Chk.mk ⟨rfl, trivial⟩ ?_
      | refine Chk.mk ⟨rfl, rfl, trivial⟩ ?_
      | refine Chk.mk ⟨rfl, rfl, rfl, trivial⟩ ?_
      | refine Chk.mk ⟨rfl, rfl, rfl, rfl, trivial⟩ ?_
      | refine Chk.mk ⟨rfl, rfl, rfl, rfl, rfl, trivial⟩ ?_
      | refine Chk.mk ⟨rfl, rfl, rfl, rfl, rfl, rfl, trivial⟩ ?_)
    exact Done.mk (badS _ _ (fun h => c2 h.2.2.1))
  repeat (first
    | refine LoadD.own 0 rfl _ rfl rfl ?_
    | refine LoadD.own 1 rfl _ rfl rfl ?_
    | refine LoadD.own 2 rfl _ rfl rfl ?_
    | refine LoadD.own 3 rfl _ rfl rfl ?_
    | refine LoadP.at 0 rfl _ rfl rfl ?_
    | refine LoadP.at 1 rfl _ rfl rfl ?_
    | refine LoadP.at 2 rfl _ rfl rfl ?_
    | refine LoadP.at 3 rfl _ rfl rfl ?_
    | refine StoreD.st 0 rfl rfl rfl ?_
    | refine StoreD.st 1 rfl rfl rfl ?_
    | refine StoreD.st 2 rfl rfl rfl ?_
    | refine StoreD.st 3 rfl rfl rfl ?_
    | refine CmpD.yes rfl ?_
    | refine CmpD.yes (by decide) ?_
    | refine CmpD.no (by decide) ?_
    | refine Chk.mk ⟨rfl, trivial⟩ ?_
    | refine Chk.mk ⟨rfl, rfl, trivial⟩ ?_
    | refine Chk.mk ⟨rfl, rfl, rfl, trivial⟩ ?_
    | refine Chk.mk ⟨rfl, rfl, rfl, rfl, trivial⟩ ?_
    | refine Chk.mk ⟨rfl, rfl, rfl, rfl, rfl, trivial⟩ ?_
    | refine Chk.mk ⟨rfl, rfl, rfl, rfl, rfl, rfl, trivial⟩ ?_)
  refine CmpD.split (fun (c3 : s4 < 0) => ?_) (fun (c3 : ¬ (s4 < 0)) => ?_)
  · repeat (first
      | refine LoadD.own 0 rfl _ rfl rfl ?_
      | refine LoadD.own 1 rfl _ rfl rfl ?_
      | refine LoadD.own 2 rfl _ rfl rfl ?_
      | refine LoadD.own 3 rfl _ rfl rfl ?_
      | refine LoadP.at 0 rfl _ rfl rfl ?_
      | refine LoadP.at 1 rfl _ rfl rfl ?_
      | refine LoadP.at 2 rfl _ rfl rfl ?_
      | refine LoadP.at 3 rfl _ rfl rfl ?_
      | refine StoreD.st 0 rfl rfl rfl ?_
      | refine StoreD.st 1 rfl rfl rfl ?_
      | refine StoreD.st 2 rfl rfl rfl ?_
      | refine StoreD.st 3 rfl rfl rfl ?_
      | refine CmpD.yes rfl ?_
      | refine CmpD.yes (by decide) ?_
      | refine CmpD.no (by decide) ?_
      | refine Chk.mk ⟨rfl, trivial⟩ ?_
      | refine Chk.mk ⟨rfl, rfl, trivial⟩ ?_
      | refine Chk.mk ⟨rfl, rfl, rfl, trivial⟩ ?_
      | refine Chk.mk ⟨rfl, rfl, rfl, rfl, trivial⟩ ?_
      | refine Chk.mk ⟨rfl, rfl, rfl, rfl, rfl, trivial⟩ ?_
      | refine Chk.mk ⟨rfl, rfl, rfl, rfl, rfl, rfl, trivial⟩ ?_)
    exact Done.mk (badS _ _ (fun h => by have : 0 ≤ s4 := h.2.2.2.1; omega))
  repeat (first
    | refine LoadD.own 0 rfl _ rfl rfl ?_
    | refine LoadD.own 1 rfl _ rfl rfl ?_
    | refine LoadD.own 2 rfl _ rfl rfl ?_
    | refine LoadD.own 3 rfl _ rfl rfl ?_
    | refine LoadP.at 0 rfl _ rfl rfl ?_
    | refine LoadP.at 1 rfl _ rfl rfl ?_
    | refine LoadP.at 2 rfl _ rfl rfl ?_
    | refine LoadP.at 3 rfl _ rfl rfl ?_
    | refine StoreD.st 0 rfl rfl rfl ?_
    | refine StoreD.st 1 rfl rfl rfl ?_
    | refine StoreD.st 2 rfl rfl rfl ?_
    | refine StoreD.st 3 rfl rfl rfl ?_
    | refine CmpD.yes rfl ?_
    | refine CmpD.yes (by decide) ?_
    | refine CmpD.no (by decide) ?_
    | refine Chk.mk ⟨rfl, trivial⟩ ?_
    | refine Chk.mk ⟨rfl, rfl, trivial⟩ ?_
    | refine Chk.mk ⟨rfl, rfl, rfl, trivial⟩ ?_
    | refine Chk.mk ⟨rfl, rfl, rfl, rfl, trivial⟩ ?_
    | refine Chk.mk ⟨rfl, rfl, rfl, rfl, rfl, trivial⟩ ?_
    | refine Chk.mk ⟨rfl, rfl, rfl, rfl, rfl, rfl, trivial⟩ ?_)
  refine CmpD.split (fun (c4 : x.lb ≤ s4) => ?_) (fun (c4 : ¬ (x.lb ≤ s4)) => ?_)
  · repeat (first
      | refine LoadD.own 0 rfl _ rfl rfl ?_
      | refine LoadD.own 1 rfl _ rfl rfl ?_
      | refine LoadD.own 2 rfl _ rfl rfl ?_
      | refine LoadD.own 3 rfl _ rfl rfl ?_
      | refine LoadP.at 0 rfl _ rfl rfl ?_
      | refine LoadP.at 1 rfl _ rfl rfl ?_
      | refine LoadP.at 2 rfl _ rfl rfl ?_
      | refine LoadP.at 3 rfl _ rfl rfl ?_
      | refine StoreD.st 0 rfl rfl rfl ?_
      | refine StoreD.st 1 rfl rfl rfl ?_
      | refine StoreD.st 2 rfl rfl rfl ?_
      | refine StoreD.st 3 rfl rfl rfl ?_
      | refine CmpD.yes rfl ?_
      | refine CmpD.yes (by decide) ?_
      | refine CmpD.no (by decide) ?_
      | refine Chk.mk ⟨rfl, trivial⟩ ?_
      | refine Chk.mk ⟨rfl, rfl, trivial⟩ ?_
      | refine Chk.mk ⟨rfl, rfl, rfl, trivial⟩ ?_
      | refine Chk.mk ⟨rfl, rfl, rfl, rfl, trivial⟩ ?_
      | refine Chk.mk ⟨rfl, rfl, rfl, rfl, rfl, trivial⟩ ?_
      | refine Chk.mk ⟨rfl, rfl, rfl, rfl, rfl, rfl, trivial⟩ ?_)
    exact Done.mk (badS _ _ (fun h => by have : s4 < layL sl := h.2.2.2.2.1; omega))
  repeat (first
    | refine LoadD.own 0 rfl _ rfl rfl ?_
    | refine LoadD.own 1 rfl _ rfl rfl ?_
    | refine LoadD.own 2 rfl _ rfl rfl ?_
    | refine LoadD.own 3 rfl _ rfl rfl ?_
    | refine LoadP.at 0 rfl _ rfl rfl ?_
    | refine LoadP.at 1 rfl _ rfl rfl ?_
    | refine LoadP.at 2 rfl _ rfl rfl ?_
    | refine LoadP.at 3 rfl _ rfl rfl ?_
    | refine StoreD.st 0 rfl rfl rfl ?_
    | refine StoreD.st 1 rfl rfl rfl ?_
    | refine StoreD.st 2 rfl rfl rfl ?_
    | refine StoreD.st 3 rfl rfl rfl ?_
    | refine CmpD.yes rfl ?_
    | refine CmpD.yes (by decide) ?_
    | refine CmpD.no (by decide) ?_
    | refine Chk.mk ⟨rfl, trivial⟩ ?_
    | refine Chk.mk ⟨rfl, rfl, trivial⟩ ?_
    | refine Chk.mk ⟨rfl, rfl, rfl, trivial⟩ ?_
    | refine Chk.mk ⟨rfl, rfl, rfl, rfl, trivial⟩ ?_
    | refine Chk.mk ⟨rfl, rfl, rfl, rfl, rfl, trivial⟩ ?_
    | refine Chk.mk ⟨rfl, rfl, rfl, rfl, rfl, rfl, trivial⟩ ?_)
  refine CmpD.split (fun (c5 : s2 < 1) => ?_) (fun (c5 : ¬ (s2 < 1)) => ?_)
  · repeat (first
      | refine LoadD.own 0 rfl _ rfl rfl ?_
      | refine LoadD.own 1 rfl _ rfl rfl ?_
      | refine LoadD.own 2 rfl _ rfl rfl ?_
      | refine LoadD.own 3 rfl _ rfl rfl ?_
      | refine LoadP.at 0 rfl _ rfl rfl ?_
      | refine LoadP.at 1 rfl _ rfl rfl ?_
      | refine LoadP.at 2 rfl _ rfl rfl ?_
      | refine LoadP.at 3 rfl _ rfl rfl ?_
      | refine StoreD.st 0 rfl rfl rfl ?_
      | refine StoreD.st 1 rfl rfl rfl ?_
      | refine StoreD.st 2 rfl rfl rfl ?_
      | refine StoreD.st 3 rfl rfl rfl ?_
      | refine CmpD.yes rfl ?_
      | refine CmpD.yes (by decide) ?_
      | refine CmpD.no (by decide) ?_
      | refine Chk.mk ⟨rfl, trivial⟩ ?_
      | refine Chk.mk ⟨rfl, rfl, trivial⟩ ?_
      | refine Chk.mk ⟨rfl, rfl, rfl, trivial⟩ ?_
      | refine Chk.mk ⟨rfl, rfl, rfl, rfl, trivial⟩ ?_
      | refine Chk.mk ⟨rfl, rfl, rfl, rfl, rfl, trivial⟩ ?_
      | refine Chk.mk ⟨rfl, rfl, rfl, rfl, rfl, rfl, trivial⟩ ?_)
    exact Done.mk (badS _ _ (fun h => by have : 1 ≤ s2 := h.2.2.2.2.2.1; omega))
  repeat (first
    | refine LoadD.own 0 rfl _ rfl rfl ?_
    | refine LoadD.own 1 rfl _ rfl rfl ?_
    | refine LoadD.own 2 rfl _ rfl rfl ?_
    | refine LoadD.own 3 rfl _ rfl rfl ?_
    | refine LoadP.at 0 rfl _ rfl rfl ?_
    | refine LoadP.at 1 rfl _ rfl rfl ?_
    | refine LoadP.at 2 rfl _ rfl rfl ?_
    | refine LoadP.at 3 rfl _ rfl rfl ?_
    | refine StoreD.st 0 rfl rfl rfl ?_
    | refine StoreD.st 1 rfl rfl rfl ?_
    | refine StoreD.st 2 rfl rfl rfl ?_
    | refine StoreD.st 3 rfl rfl rfl ?_
    | refine CmpD.yes rfl ?_
    | refine CmpD.yes (by decide) ?_
    | refine CmpD.no (by decide) ?_
    | refine Chk.mk ⟨rfl, trivial⟩ ?_
    | refine Chk.mk ⟨rfl, rfl, trivial⟩ ?_
    | refine Chk.mk ⟨rfl, rfl, rfl, trivial⟩ ?_
    | refine Chk.mk ⟨rfl, rfl, rfl, rfl, trivial⟩ ?_
    | refine Chk.mk ⟨rfl, rfl, rfl, rfl, rfl, trivial⟩ ?_
    | refine Chk.mk ⟨rfl, rfl, rfl, rfl, rfl, rfl, trivial⟩ ?_)
  refine CmpD.split (fun (c6 : (8388608 : Int) < s2) => ?_) (fun (c6 : ¬ ((8388608 : Int) < s2)) => ?_)
  · repeat (first
      | refine LoadD.own 0 rfl _ rfl rfl ?_
      | refine LoadD.own 1 rfl _ rfl rfl ?_
      | refine LoadD.own 2 rfl _ rfl rfl ?_
      | refine LoadD.own 3 rfl _ rfl rfl ?_
      | refine LoadP.at 0 rfl _ rfl rfl ?_
      | refine LoadP.at 1 rfl _ rfl rfl ?_
      | refine LoadP.at 2 rfl _ rfl rfl ?_
      | refine LoadP.at 3 rfl _ rfl rfl ?_
      | refine StoreD.st 0 rfl rfl rfl ?_
      | refine StoreD.st 1 rfl rfl rfl ?_
      | refine StoreD.st 2 rfl rfl rfl ?_
      | refine StoreD.st 3 rfl rfl rfl ?_
      | refine CmpD.yes rfl ?_
      | refine CmpD.yes (by decide) ?_
      | refine CmpD.no (by decide) ?_
      | refine Chk.mk ⟨rfl, trivial⟩ ?_
      | refine Chk.mk ⟨rfl, rfl, trivial⟩ ?_
      | refine Chk.mk ⟨rfl, rfl, rfl, trivial⟩ ?_
      | refine Chk.mk ⟨rfl, rfl, rfl, rfl, trivial⟩ ?_
      | refine Chk.mk ⟨rfl, rfl, rfl, rfl, rfl, trivial⟩ ?_
      | refine Chk.mk ⟨rfl, rfl, rfl, rfl, rfl, rfl, trivial⟩ ?_)
    exact Done.mk (badS _ _ (fun h => by have : s2 ≤ 8388608 := h.2.2.2.2.2.2.1; omega))
  repeat (first
    | refine LoadD.own 0 rfl _ rfl rfl ?_
    | refine LoadD.own 1 rfl _ rfl rfl ?_
    | refine LoadD.own 2 rfl _ rfl rfl ?_
    | refine LoadD.own 3 rfl _ rfl rfl ?_
    | refine LoadP.at 0 rfl _ rfl rfl ?_
    | refine LoadP.at 1 rfl _ rfl rfl ?_
    | refine LoadP.at 2 rfl _ rfl rfl ?_
    | refine LoadP.at 3 rfl _ rfl rfl ?_
    | refine StoreD.st 0 rfl rfl rfl ?_
    | refine StoreD.st 1 rfl rfl rfl ?_
    | refine StoreD.st 2 rfl rfl rfl ?_
    | refine StoreD.st 3 rfl rfl rfl ?_
    | refine CmpD.yes rfl ?_
    | refine CmpD.yes (by decide) ?_
    | refine CmpD.no (by decide) ?_
    | refine Chk.mk ⟨rfl, trivial⟩ ?_
    | refine Chk.mk ⟨rfl, rfl, trivial⟩ ?_
    | refine Chk.mk ⟨rfl, rfl, rfl, trivial⟩ ?_
    | refine Chk.mk ⟨rfl, rfl, rfl, rfl, trivial⟩ ?_
    | refine Chk.mk ⟨rfl, rfl, rfl, rfl, rfl, trivial⟩ ?_
    | refine Chk.mk ⟨rfl, rfl, rfl, rfl, rfl, rfl, trivial⟩ ?_)
  refine CmpD.split (fun (c7 : s3 < 1) => ?_) (fun (c7 : ¬ (s3 < 1)) => ?_)
  · repeat (first
      | refine LoadD.own 0 rfl _ rfl rfl ?_
      | refine LoadD.own 1 rfl _ rfl rfl ?_
      | refine LoadD.own 2 rfl _ rfl rfl ?_
      | refine LoadD.own 3 rfl _ rfl rfl ?_
      | refine LoadP.at 0 rfl _ rfl rfl ?_
      | refine LoadP.at 1 rfl _ rfl rfl ?_
      | refine LoadP.at 2 rfl _ rfl rfl ?_
      | refine LoadP.at 3 rfl _ rfl rfl ?_
      | refine StoreD.st 0 rfl rfl rfl ?_
      | refine StoreD.st 1 rfl rfl rfl ?_
      | refine StoreD.st 2 rfl rfl rfl ?_
      | refine StoreD.st 3 rfl rfl rfl ?_
      | refine CmpD.yes rfl ?_
      | refine CmpD.yes (by decide) ?_
      | refine CmpD.no (by decide) ?_
      | refine Chk.mk ⟨rfl, trivial⟩ ?_
      | refine Chk.mk ⟨rfl, rfl, trivial⟩ ?_
      | refine Chk.mk ⟨rfl, rfl, rfl, trivial⟩ ?_
      | refine Chk.mk ⟨rfl, rfl, rfl, rfl, trivial⟩ ?_
      | refine Chk.mk ⟨rfl, rfl, rfl, rfl, rfl, trivial⟩ ?_
      | refine Chk.mk ⟨rfl, rfl, rfl, rfl, rfl, rfl, trivial⟩ ?_)
    exact Done.mk (badS _ _ (fun h => by have : 1 ≤ s3 := h.2.2.2.2.2.2.2.1; omega))
  repeat (first
    | refine LoadD.own 0 rfl _ rfl rfl ?_
    | refine LoadD.own 1 rfl _ rfl rfl ?_
    | refine LoadD.own 2 rfl _ rfl rfl ?_
    | refine LoadD.own 3 rfl _ rfl rfl ?_
    | refine LoadP.at 0 rfl _ rfl rfl ?_
    | refine LoadP.at 1 rfl _ rfl rfl ?_
    | refine LoadP.at 2 rfl _ rfl rfl ?_
    | refine LoadP.at 3 rfl _ rfl rfl ?_
    | refine StoreD.st 0 rfl rfl rfl ?_
    | refine StoreD.st 1 rfl rfl rfl ?_
    | refine StoreD.st 2 rfl rfl rfl ?_
    | refine StoreD.st 3 rfl rfl rfl ?_
    | refine CmpD.yes rfl ?_
    | refine CmpD.yes (by decide) ?_
    | refine CmpD.no (by decide) ?_
    | refine Chk.mk ⟨rfl, trivial⟩ ?_
    | refine Chk.mk ⟨rfl, rfl, trivial⟩ ?_
    | refine Chk.mk ⟨rfl, rfl, rfl, trivial⟩ ?_
    | refine Chk.mk ⟨rfl, rfl, rfl, rfl, trivial⟩ ?_
    | refine Chk.mk ⟨rfl, rfl, rfl, rfl, rfl, trivial⟩ ?_
    | refine Chk.mk ⟨rfl, rfl, rfl, rfl, rfl, rfl, trivial⟩ ?_)
  refine CmpD.split (fun (c8 : (549755813888 : Int) < s3) => ?_) (fun (c8 : ¬ ((549755813888 : Int) < s3)) => ?_)
  · repeat (first
      | refine LoadD.own 0 rfl _ rfl rfl ?_
      | refine LoadD.own 1 rfl _ rfl rfl ?_
      | refine LoadD.own 2 rfl _ rfl rfl ?_
      | refine LoadD.own 3 rfl _ rfl rfl ?_
      | refine LoadP.at 0 rfl _ rfl rfl ?_
      | refine LoadP.at 1 rfl _ rfl rfl ?_
      | refine LoadP.at 2 rfl _ rfl rfl ?_
      | refine LoadP.at 3 rfl _ rfl rfl ?_
      | refine StoreD.st 0 rfl rfl rfl ?_
      | refine StoreD.st 1 rfl rfl rfl ?_
      | refine StoreD.st 2 rfl rfl rfl ?_
      | refine StoreD.st 3 rfl rfl rfl ?_
      | refine CmpD.yes rfl ?_
      | refine CmpD.yes (by decide) ?_
      | refine CmpD.no (by decide) ?_
      | refine Chk.mk ⟨rfl, trivial⟩ ?_
      | refine Chk.mk ⟨rfl, rfl, trivial⟩ ?_
      | refine Chk.mk ⟨rfl, rfl, rfl, trivial⟩ ?_
      | refine Chk.mk ⟨rfl, rfl, rfl, rfl, trivial⟩ ?_
      | refine Chk.mk ⟨rfl, rfl, rfl, rfl, rfl, trivial⟩ ?_
      | refine Chk.mk ⟨rfl, rfl, rfl, rfl, rfl, rfl, trivial⟩ ?_)
    exact Done.mk (badS _ _ (fun h => by have : s3 ≤ 549755813888 := h.2.2.2.2.2.2.2.2; omega))
  have hok : ScanOk sl x ⟨s1, s2, s3, s4⟩ := ⟨by omega, hx, c2, by show 0 ≤ s4; omega, by show s4 < _; omega, by show 1 ≤ s2; omega, by show s2 ≤ _; omega, by show 1 ≤ s3; omega, by show s3 ≤ _; omega⟩
  clear badS
  obtain ⟨tail, rfl⟩ : ∃ t : Nat, s4 = t := ⟨s4.toNat, by omega⟩
  obtain ⟨lb, hlb⟩ : ∃ lb : Nat, layL sl = lb := ⟨(layL sl).toNat, by omega⟩
  have hxlb : x.lb = lb := by rw [hxl, hlb]
  have hxl2 : x.l = (2 : Nat) := by rw [hx]; rfl
  have hfit : 2 + lb ≤ sl := by unfold layL at hlb; split at hlb <;> omega
  cases hdn : d.down with
  | true =>
    repeat (first
      | refine LoadD.own 0 rfl _ rfl rfl ?_
      | refine LoadD.own 1 rfl _ rfl rfl ?_
      | refine LoadD.own 2 rfl _ rfl rfl ?_
      | refine LoadD.own 3 rfl _ rfl rfl ?_
      | refine LoadP.at 0 rfl _ rfl rfl ?_
      | refine LoadP.at 1 rfl _ rfl rfl ?_
      | refine LoadP.at 2 rfl _ rfl rfl ?_
      | refine LoadP.at 3 rfl _ rfl rfl ?_
      | refine StoreD.st 0 rfl rfl rfl ?_
      | refine StoreD.st 1 rfl rfl rfl ?_
      | refine StoreD.st 2 rfl rfl rfl ?_
      | refine StoreD.st 3 rfl rfl rfl ?_
      | refine CmpD.yes rfl ?_
      | refine CmpD.yes (by decide) ?_
      | refine CmpD.no (by decide) ?_
      | refine Chk.mk ⟨rfl, trivial⟩ ?_
      | refine Chk.mk ⟨rfl, rfl, trivial⟩ ?_
      | refine Chk.mk ⟨rfl, rfl, rfl, trivial⟩ ?_
      | refine Chk.mk ⟨rfl, rfl, rfl, rfl, trivial⟩ ?_
      | refine Chk.mk ⟨rfl, rfl, rfl, rfl, rfl, trivial⟩ ?_
      | refine Chk.mk ⟨rfl, rfl, rfl, rfl, rfl, rfl, trivial⟩ ?_)
    exact Done.mk ⟨[[]], (Drop.pick [] _ rfl).trans (Drop.flat rfl), [], rfl, .inr (.inl ⟨hok, rfl, rfl⟩)⟩
  | false =>
  rw [hdn] at hat
  repeat (first
    | refine LoadD.own 0 rfl _ rfl rfl ?_
    | refine LoadD.own 1 rfl _ rfl rfl ?_
    | refine LoadD.own 2 rfl _ rfl rfl ?_
    | refine LoadD.own 3 rfl _ rfl rfl ?_
    | refine LoadP.at 0 rfl _ rfl rfl ?_
    | refine LoadP.at 1 rfl _ rfl rfl ?_
    | refine LoadP.at 2 rfl _ rfl rfl ?_
    | refine LoadP.at 3 rfl _ rfl rfl ?_
    | refine StoreD.st 0 rfl rfl rfl ?_
    | refine StoreD.st 1 rfl rfl rfl ?_
    | refine StoreD.st 2 rfl rfl rfl ?_
    | refine StoreD.st 3 rfl rfl rfl ?_
    | refine CmpD.yes rfl ?_
    | refine CmpD.yes (by decide) ?_
    | refine CmpD.no (by decide) ?_
    | refine Chk.mk ⟨rfl, trivial⟩ ?_
    | refine Chk.mk ⟨rfl, rfl, trivial⟩ ?_
    | refine Chk.mk ⟨rfl, rfl, rfl, trivial⟩ ?_
    | refine Chk.mk ⟨rfl, rfl, rfl, rfl, trivial⟩ ?_
    | refine Chk.mk ⟨rfl, rfl, rfl, rfl, rfl, trivial⟩ ?_
    | refine Chk.mk ⟨rfl, rfl, rfl, rfl, rfl, rfl, trivial⟩ ?_)
  obtain ⟨x1, x2, x3, x4, x5, x6, x7⟩ := x
  dsimp only at hxlb hxl2
  subst hxlb hxl2
  have hsc : scanL d ⟨s1, s2, s3, tail⟩ = scanK (rbP d 2 lb) s2 (lb + 1) tail s3 lb := by
    unfold scanL
    rw [← hn, hlb]; rfl
  have hlbn : (layL sl).toNat = lb := by rw [hlb]; rfl
  obtain ⟨LL, hLe⟩ : ∃ L, L = scanL d ⟨s1, s2, s3, tail⟩ := ⟨_, rfl⟩
  have hbd2 := scan_bound (rb := rbP d 2 lb) (ep := s2) (lb + 1) tail s3 lb
  rw [← hsc, ← hLe] at hbd2
  refine CodeF.loopD [3, 4, 5, 11, 12] (fun vs J' S' => ∃ (i : Nat) (aB : Option Addr) (capB : Nat) (chB : List Blk) (bks : List Bk), i ≤ lb ∧ OwnC chB 1 aB i capB (bks.map Bk.cell) ∧ bks.map Bk.data = (List.range i).map (fun k => rbP d 2 lb (tail + k)) ∧ (∀ y ∈ bks, BkOk I y) ∧ I = J' ∧
      vs = [.pointer (some ⟨b3, 0, none⟩), .pointer (some ⟨b4, 0, none⟩), .pointer (some ⟨b5, 0, none⟩), .slice aB i capB, .int .i64 i] ∧
      S' = [[(b3, row [.slice sa sl sc, .slice wa gs.length wc, .int .i64 d.count, .bool false, .int .i64 (gv d.arm), .int .i64 (gv d.fault)] 79)], [(b4, row [.int .i64 x1, .int .i64 (2 : Nat), .int .i64 lb, .int .i64 x4, .int .i64 x5, .int .i64 x6, .int .i64 x7] 25)], sBoxS b5 ⟨s1, s2, s3, tail⟩, chB])
    (fun vs _ _ => match vs with | [_, _, _, _, .int _ i] => ((lb : Int) - i).toNat | _ => 0) ?_ ?_
  · exact ⟨_, Drop.and (Drop.pick [0, 1, 2] _ rfl), 0, none, 0, [], [], by omega, OwnC.nil _ _, rfl, by simp, rfl, rfl, rfl⟩
  rintro vs gE J' S' hJ' ⟨i, aB, capB, chB, bks, hi, hB, hdat, hbok, rfl, rfl, rfl⟩
  refine LoadD.own 1 rfl _ rfl rfl ?_
  refine CmpD.split (fun (c9 : (i : Int) < lb) => ?_) (fun (c9 : ¬ (i : Int) < lb) => ?_)
  · have hm := Nat.mod_lt (tail + i) (show 0 < lb by omega)
    have hil : 2 + (tail + i) % lb < bS.length := by omega
    have hsd := hD.snd (2 + (tail + i) % lb) (by rw [← hbd, List.length_map]; exact hil)
    have hsg : d.safe.getD (2 + (tail + i) % lb) [] = (bS[2 + (tail + i) % lb]).data := by
      rw [← hbd, List.getD_eq_getElem?_getD, List.getElem?_map, List.getElem?_eq_getElem hil]; rfl
    rw [hsg] at hsd
    have hnw : rbP d 2 lb (tail + i) = atP (bS[2 + (tail + i) % lb]).data d.writes (2 + (tail + i) % lb : Nat) := by
      unfold rbP
      rw [List.getD_eq_getElem?_getD, hsd]; rfl
    have h4 : (rbP d 2 lb (tail + i)).length = 4096 := by
      unfold rbP
      rw [List.getD_eq_getElem?_getD, List.getElem?_eq_getElem (by omega : 2 + (tail + i) % lb < d.now.length)]
      exact hD.wf.now _ (List.getElem_mem _)
    have hA := hat I (Imm.le_refl _) (2 + (tail + i) % lb) _ (List.getElem?_eq_getElem hil) (hbS _ (List.getElem_mem hil))
    rw [hgw, ← hnw] at hA
    refine CodeF.sched [[], [], [], [2], [], [4], [], [4, 5, 6], [], [8], [4, 5, 6, 7, 8, 9], [2, 3, 4, 5, 6, 7, 8, 9, 10], [1, 2, 3, 4, 5, 6, 7, 8, 9, 10, 11], [1, 2, 3, 4, 5, 6, 7, 8, 9, 10, 11, 12], [0, 1, 2, 3, 4, 5, 6, 7, 8, 9, 10, 11, 12, 13], [0, 1, 2, 3, 4, 5, 6, 7, 8, 9, 10, 11, 12, 13, 14]] [0, 1, 2, 3, 4, 5, 6, 7, 8, 9, 10, 11, 12, 13, 14, 15] (by kernel_rfl) ?_
    repeat (first
      | refine LoadD.own 0 rfl _ rfl rfl ?_
      | refine LoadD.own 1 rfl _ rfl rfl ?_
      | refine LoadD.own 2 rfl _ rfl rfl ?_
      | refine LoadD.own 3 rfl _ rfl rfl ?_
      | refine LoadP.at 0 rfl _ rfl rfl ?_
      | refine LoadP.at 1 rfl _ rfl rfl ?_
      | refine LoadP.at 2 rfl _ rfl rfl ?_
      | refine LoadP.at 3 rfl _ rfl rfl ?_
      | refine StoreD.st 0 rfl rfl rfl ?_
      | refine StoreD.st 1 rfl rfl rfl ?_
      | refine StoreD.st 2 rfl rfl rfl ?_
      | refine StoreD.st 3 rfl rfl rfl ?_
      | refine CmpD.yes rfl ?_
      | refine CmpD.yes (by decide) ?_
      | refine CmpD.no (by decide) ?_
      | refine Chk.mk ⟨rfl, trivial⟩ ?_
      | refine Chk.mk ⟨rfl, rfl, trivial⟩ ?_
      | refine Chk.mk ⟨rfl, rfl, rfl, trivial⟩ ?_
      | refine Chk.mk ⟨rfl, rfl, rfl, rfl, trivial⟩ ?_
      | refine Chk.mk ⟨rfl, rfl, rfl, rfl, rfl, trivial⟩ ?_
      | refine Chk.mk ⟨rfl, rfl, rfl, rfl, rfl, rfl, trivial⟩ ?_)
    refine ToD.to ((tail + i : Nat) : Int) (by show IntKind.i64.wrap ((tail : Int) + (i : Int)) = _; rw [wrap_i64 (by omega) (by omega)]; omega) ?_
    repeat (first
      | refine LoadD.own 0 rfl _ rfl rfl ?_
      | refine LoadD.own 1 rfl _ rfl rfl ?_
      | refine LoadD.own 2 rfl _ rfl rfl ?_
      | refine LoadD.own 3 rfl _ rfl rfl ?_
      | refine LoadP.at 0 rfl _ rfl rfl ?_
      | refine LoadP.at 1 rfl _ rfl rfl ?_
      | refine LoadP.at 2 rfl _ rfl rfl ?_
      | refine LoadP.at 3 rfl _ rfl rfl ?_
      | refine StoreD.st 0 rfl rfl rfl ?_
      | refine StoreD.st 1 rfl rfl rfl ?_
      | refine StoreD.st 2 rfl rfl rfl ?_
      | refine StoreD.st 3 rfl rfl rfl ?_
      | refine CmpD.yes rfl ?_
      | refine CmpD.yes (by decide) ?_
      | refine CmpD.no (by decide) ?_
      | refine Chk.mk ⟨rfl, trivial⟩ ?_
      | refine Chk.mk ⟨rfl, rfl, trivial⟩ ?_
      | refine Chk.mk ⟨rfl, rfl, rfl, trivial⟩ ?_
      | refine Chk.mk ⟨rfl, rfl, rfl, rfl, trivial⟩ ?_
      | refine Chk.mk ⟨rfl, rfl, rfl, rfl, rfl, trivial⟩ ?_
      | refine Chk.mk ⟨rfl, rfl, rfl, rfl, rfl, rfl, trivial⟩ ?_)
    refine Chk.mk (by show (lb : Int) ≠ 0; omega) ?_
    refine ToD.to _ (tmod_nat _ _) ?_
    refine ToD.to ((2 + (tail + i) % lb : Nat) : Int) (by show IntKind.i64.wrap (((2 : Nat) : Int) + (((tail + i) % lb : Nat) : Int)) = _; rw [wrap_i64 (by omega) (by omega)]; omega) ?_
    repeat (first
      | refine LoadD.own 0 rfl _ rfl rfl ?_
      | refine LoadD.own 1 rfl _ rfl rfl ?_
      | refine LoadD.own 2 rfl _ rfl rfl ?_
      | refine LoadD.own 3 rfl _ rfl rfl ?_
      | refine LoadP.at 0 rfl _ rfl rfl ?_
      | refine LoadP.at 1 rfl _ rfl rfl ?_
      | refine LoadP.at 2 rfl _ rfl rfl ?_
      | refine LoadP.at 3 rfl _ rfl rfl ?_
      | refine StoreD.st 0 rfl rfl rfl ?_
      | refine StoreD.st 1 rfl rfl rfl ?_
      | refine StoreD.st 2 rfl rfl rfl ?_
      | refine StoreD.st 3 rfl rfl rfl ?_
      | refine CmpD.yes rfl ?_
      | refine CmpD.yes (by decide) ?_
      | refine CmpD.no (by decide) ?_
      | refine Chk.mk ⟨rfl, trivial⟩ ?_
      | refine Chk.mk ⟨rfl, rfl, trivial⟩ ?_
      | refine Chk.mk ⟨rfl, rfl, rfl, trivial⟩ ?_
      | refine Chk.mk ⟨rfl, rfl, rfl, rfl, trivial⟩ ?_
      | refine Chk.mk ⟨rfl, rfl, rfl, rfl, rfl, trivial⟩ ?_
      | refine Chk.mk ⟨rfl, rfl, rfl, rfl, rfl, rfl, trivial⟩ ?_)
    refine Tri.free hA ?_
    rintro v _ _ hJ ⟨rfl, aN, lenN, capN, rfl, hN⟩
    have hlN : lenN = 4096 := by have := hN.len; rw [bts_length] at this; omega
    subst hlN
    conv => whnf
    intro bN
    refine appendD tabOk rfl rfl rfl rfl rfl rfl rfl 3 rfl hB (SrcOk.slice (n := 1) (news := [Bk.cell ⟨aN, capN, rbP d 2 lb (tail + i)⟩]) tabOk rfl ((OwnC.whole (len := 1) (size := 1) rfl).slC 4 rfl) (by intro v hv; simp only [List.mem_singleton] at hv; subst hv; rfl)) rfl (by show (i + 1) * 24 ≤ _; omega) (by omega) ?_
    intro a2 cap2 ch2 hO2
    repeat (first
      | refine LoadD.own 0 rfl _ rfl rfl ?_
      | refine LoadD.own 1 rfl _ rfl rfl ?_
      | refine LoadD.own 2 rfl _ rfl rfl ?_
      | refine LoadD.own 3 rfl _ rfl rfl ?_
      | refine LoadP.at 0 rfl _ rfl rfl ?_
      | refine LoadP.at 1 rfl _ rfl rfl ?_
      | refine LoadP.at 2 rfl _ rfl rfl ?_
      | refine LoadP.at 3 rfl _ rfl rfl ?_
      | refine StoreD.st 0 rfl rfl rfl ?_
      | refine StoreD.st 1 rfl rfl rfl ?_
      | refine StoreD.st 2 rfl rfl rfl ?_
      | refine StoreD.st 3 rfl rfl rfl ?_
      | refine CmpD.yes rfl ?_
      | refine CmpD.yes (by decide) ?_
      | refine CmpD.no (by decide) ?_
      | refine Chk.mk ⟨rfl, trivial⟩ ?_
      | refine Chk.mk ⟨rfl, rfl, trivial⟩ ?_
      | refine Chk.mk ⟨rfl, rfl, rfl, trivial⟩ ?_
      | refine Chk.mk ⟨rfl, rfl, rfl, rfl, trivial⟩ ?_
      | refine Chk.mk ⟨rfl, rfl, rfl, rfl, rfl, trivial⟩ ?_
      | refine Chk.mk ⟨rfl, rfl, rfl, rfl, rfl, rfl, trivial⟩ ?_)
    refine ToD.i64 (by omega) (by omega) ?_
    refine ⟨_, Drop.pick [0, 1, 2, 3] _ rfl, ⟨i + 1, a2, cap2, ch2, bks ++ [⟨aN, capN, rbP d 2 lb (tail + i)⟩], by omega, by rw [List.map_append]; exact hO2, ?_, ?_, rfl, rfl, rfl⟩, ?_⟩
    · rw [List.map_append, hdat, List.range_succ, List.map_append]; rfl
    · intro y hy
      rcases List.mem_append.1 hy with hy | hy
      · exact hbok y hy
      · simp only [List.mem_singleton] at hy
        subst hy
        exact hN
    · show ((lb : Int) - ((i : Int) + 1)).toNat < ((lb : Int) - i).toNat; omega
  obtain rfl : i = lb := by omega
  have hbl : bks.length = i := by have := congrArg List.length hdat; rwa [List.length_map, List.length_map, List.length_range] at this
  have hBle := hB.le
  refine CodeF.fixD 3 (ch := chB) rfl fun I1 hI1 hBm => ?_
  have hBR : Rds I1 aB i (bks.map Bk.cell) := Rds.of_own hB hBm
  have hbok1 : ∀ y ∈ bks, BkOk I1 y := fun y hy => Rds.mono (hbok y hy) hI1
  rcases hBR.mem with q0 | ⟨bB, oB, cB, TB, fB, rfl, hIB, hcB⟩
  · omega
  have fin : ∀ (J : Imm) (chO : List Blk) (aO : Option Addr) (capO : Nat) (gl : List Grp) {k : Nat} {acc : List G3}, OwnC chO 3 aO gl.length capO (grpCells gl) → GrpsOk J gl acc → acc ++ scanK (rbP d 2 i) s2 (i + 1 - acc.length) (tail + k) (s3 + acc.length) (i - k) = LL ∧ k = (acc.map fun g => g.2.2.length + 1).sum → scanK (rbP d 2 i) s2 (i + 1 - acc.length) (tail + k) (s3 + acc.length) (i - k) = [] →
      ∃ chO', [chO] = [chO'] ∧ ((¬ ScanOk sl ⟨x1, (2 : Nat), i, x4, x5, x6, x7⟩ ⟨s1, s2, s3, tail⟩ ∧ Value.tuple #[.slice aO gl.length capO, .int .i64 ((tail + k) % i : Nat), .int .i64 0] = .tuple #[.slice none 0 0, .int .i64 0, .int .i64 2]) ∨
       (ScanOk sl ⟨x1, (2 : Nat), i, x4, x5, x6, x7⟩ ⟨s1, s2, s3, tail⟩ ∧ false = true ∧ Value.tuple #[.slice aO gl.length capO, .int .i64 ((tail + k) % i : Nat), .int .i64 0] = .tuple #[.slice none 0 0, .int .i64 0, .int .i64 6]) ∨
       (ScanOk sl ⟨x1, (2 : Nat), i, x4, x5, x6, x7⟩ ⟨s1, s2, s3, tail⟩ ∧ false = false ∧ ∃ aO' capO' gl', Value.tuple #[.slice aO gl.length capO, .int .i64 ((tail + k) % i : Nat), .int .i64 0] = .tuple #[.slice aO' gl'.length capO', .int .i64 (placeP (layL sl).toNat (tail : Int).toNat (scanL d ⟨s1, s2, s3, tail⟩) : Nat), .int .i64 0] ∧ OwnC chO' 3 aO' gl'.length capO' (grpCells gl') ∧ GrpsOk J gl' (scanL d ⟨s1, s2, s3, tail⟩))) := by
    intro J chO aO capO gl k acc h1 h2 h3 h4
    obtain ⟨h3, h5⟩ := h3
    rw [h4, List.append_nil] at h3
    subst h3
    refine ⟨chO, rfl, .inr (.inr ⟨hok, rfl, aO, capO, gl, ?_, h1, by rw [← hLe]; exact h2⟩)⟩
    rw [hlbn, ← hLe, placeP, ← h5]; rfl
  refine CodeF.loopD [3, 4, 5, 11, 13, 14] (fun vs J' S' => ∃ (k : Nat) (aO : Option Addr) (capO : Nat) (chO : List Blk) (gl : List Grp) (acc : List G3), k ≤ i ∧ acc.length ≤ k ∧ OwnC chO 3 aO gl.length capO (grpCells gl) ∧ GrpsOk J' gl acc ∧ (acc ++ scanK (rbP d 2 i) s2 (i + 1 - acc.length) (tail + k) (s3 + acc.length) (i - k) = LL ∧ k = (acc.map fun g => g.2.2.length + 1).sum) ∧ I1.le J' ∧
      vs = [.pointer (some ⟨b3, 0, none⟩), .pointer (some ⟨b4, 0, none⟩), .pointer (some ⟨b5, 0, none⟩), .slice (some ⟨bB, oB, none⟩) i capB, .slice aO gl.length capO, .int .i64 k] ∧
      S' = [[(b3, row [.slice sa sl sc, .slice wa gs.length wc, .int .i64 d.count, .bool false, .int .i64 (gv d.arm), .int .i64 (gv d.fault)] 79)], [(b4, row [.int .i64 x1, .int .i64 (2 : Nat), .int .i64 i, .int .i64 x4, .int .i64 x5, .int .i64 x6, .int .i64 x7] 25)], sBoxS b5 ⟨s1, s2, s3, tail⟩, [], chO])
    (fun vs _ _ => match vs with | [_, _, _, _, _, .int _ k] => ((i : Int) - k).toNat | _ => 0) ?_ ?_
  · exact ⟨_, Drop.and (Drop.refl _), 0, none, 0, [], [], [], by omega, Nat.le_refl _, OwnC.nil _ _, ⟨by simp, rfl⟩, ⟨by rw [hLe, hsc]; simp, rfl⟩, Imm.le_refl _, rfl, rfl⟩
  rintro vs gE2 J' S' hJ' ⟨k, aO, capO, chO, gl, acc, hk, hak, hO, hgl, hacc, hle, rfl, rfl⟩
  have hgla := hgl.len
  refine CmpD.split (fun (d1 : (k : Int) < i) => ?_) (fun (d1 : ¬ (k : Int) < i) => ?_)
  rotate_left
  · obtain rfl : k = i := by omega
    repeat (first
      | refine LoadD.own 0 rfl _ rfl rfl ?_
      | refine LoadD.own 1 rfl _ rfl rfl ?_
      | refine LoadD.own 2 rfl _ rfl rfl ?_
      | refine LoadD.own 3 rfl _ rfl rfl ?_
      | refine LoadD.own 4 rfl _ rfl rfl ?_
      | refine LoadD.own 5 rfl _ rfl rfl ?_
      | refine LoadP.at 0 rfl _ rfl rfl ?_
      | refine LoadP.at 1 rfl _ rfl rfl ?_
      | refine LoadP.at 2 rfl _ rfl rfl ?_
      | refine LoadP.at 3 rfl _ rfl rfl ?_
      | refine LoadP.at 4 rfl _ rfl rfl ?_
      | refine LoadP.at 5 rfl _ rfl rfl ?_
      | refine StoreD.st 0 rfl rfl rfl ?_
      | refine StoreD.st 1 rfl rfl rfl ?_
      | refine StoreD.st 2 rfl rfl rfl ?_
      | refine StoreD.st 3 rfl rfl rfl ?_
      | refine StoreD.st 4 rfl rfl rfl ?_
      | refine StoreD.st 5 rfl rfl rfl ?_
      | refine CmpD.yes rfl ?_
      | refine CmpD.yes (by decide) ?_
      | refine CmpD.no (by decide) ?_
      | refine Chk.mk ⟨rfl, trivial⟩ ?_
      | refine Chk.mk ⟨rfl, rfl, trivial⟩ ?_
      | refine Chk.mk ⟨rfl, rfl, rfl, trivial⟩ ?_
      | refine Chk.mk ⟨rfl, rfl, rfl, rfl, trivial⟩ ?_
      | refine Chk.mk ⟨rfl, rfl, rfl, rfl, rfl, trivial⟩ ?_
      | refine Chk.mk ⟨rfl, rfl, rfl, rfl, rfl, rfl, trivial⟩ ?_)
    refine CodeF.sched [[], [], [1], [], [1, 2, 3], [], [5], [1, 2, 3, 4, 5, 6], [0], [0, 1, 2, 3, 4, 5, 6, 7, 8], [0, 1, 2, 3, 4, 5, 6, 7, 8, 9]] [0, 1, 2, 3, 4, 5, 6, 7, 8, 9, 10] (by kernel_rfl) ?_
    repeat (first
      | refine LoadD.own 0 rfl _ rfl rfl ?_
      | refine LoadD.own 1 rfl _ rfl rfl ?_
      | refine LoadD.own 2 rfl _ rfl rfl ?_
      | refine LoadD.own 3 rfl _ rfl rfl ?_
      | refine LoadD.own 4 rfl _ rfl rfl ?_
      | refine LoadD.own 5 rfl _ rfl rfl ?_
      | refine LoadP.at 0 rfl _ rfl rfl ?_
      | refine LoadP.at 1 rfl _ rfl rfl ?_
      | refine LoadP.at 2 rfl _ rfl rfl ?_
      | refine LoadP.at 3 rfl _ rfl rfl ?_
      | refine LoadP.at 4 rfl _ rfl rfl ?_
      | refine LoadP.at 5 rfl _ rfl rfl ?_
      | refine StoreD.st 0 rfl rfl rfl ?_
      | refine StoreD.st 1 rfl rfl rfl ?_
      | refine StoreD.st 2 rfl rfl rfl ?_
      | refine StoreD.st 3 rfl rfl rfl ?_
      | refine StoreD.st 4 rfl rfl rfl ?_
      | refine StoreD.st 5 rfl rfl rfl ?_
      | refine CmpD.yes rfl ?_
      | refine CmpD.yes (by decide) ?_
      | refine CmpD.no (by decide) ?_
      | refine Chk.mk ⟨rfl, trivial⟩ ?_
      | refine Chk.mk ⟨rfl, rfl, trivial⟩ ?_
      | refine Chk.mk ⟨rfl, rfl, rfl, trivial⟩ ?_
      | refine Chk.mk ⟨rfl, rfl, rfl, rfl, trivial⟩ ?_
      | refine Chk.mk ⟨rfl, rfl, rfl, rfl, rfl, trivial⟩ ?_
      | refine Chk.mk ⟨rfl, rfl, rfl, rfl, rfl, rfl, trivial⟩ ?_)
    refine ToD.to ((tail + k : Nat) : Int) (by show IntKind.i64.wrap ((tail : Int) + (k : Int)) = _; rw [wrap_i64 (by omega) (by omega)]; omega) ?_
    repeat (first
      | refine LoadD.own 0 rfl _ rfl rfl ?_
      | refine LoadD.own 1 rfl _ rfl rfl ?_
      | refine LoadD.own 2 rfl _ rfl rfl ?_
      | refine LoadD.own 3 rfl _ rfl rfl ?_
      | refine LoadD.own 4 rfl _ rfl rfl ?_
      | refine LoadD.own 5 rfl _ rfl rfl ?_
      | refine LoadP.at 0 rfl _ rfl rfl ?_
      | refine LoadP.at 1 rfl _ rfl rfl ?_
      | refine LoadP.at 2 rfl _ rfl rfl ?_
      | refine LoadP.at 3 rfl _ rfl rfl ?_
      | refine LoadP.at 4 rfl _ rfl rfl ?_
      | refine LoadP.at 5 rfl _ rfl rfl ?_
      | refine StoreD.st 0 rfl rfl rfl ?_
      | refine StoreD.st 1 rfl rfl rfl ?_
      | refine StoreD.st 2 rfl rfl rfl ?_
      | refine StoreD.st 3 rfl rfl rfl ?_
      | refine StoreD.st 4 rfl rfl rfl ?_
      | refine StoreD.st 5 rfl rfl rfl ?_
      | refine CmpD.yes rfl ?_
      | refine CmpD.yes (by decide) ?_
      | refine CmpD.no (by decide) ?_
      | refine Chk.mk ⟨rfl, trivial⟩ ?_
      | refine Chk.mk ⟨rfl, rfl, trivial⟩ ?_
      | refine Chk.mk ⟨rfl, rfl, rfl, trivial⟩ ?_
      | refine Chk.mk ⟨rfl, rfl, rfl, rfl, trivial⟩ ?_
      | refine Chk.mk ⟨rfl, rfl, rfl, rfl, rfl, trivial⟩ ?_
      | refine Chk.mk ⟨rfl, rfl, rfl, rfl, rfl, rfl, trivial⟩ ?_)
    refine Chk.mk (by first | (show (i : Int) ≠ 0; omega) | (show (k : Int) ≠ 0; omega)) ?_
    refine ToD.to _ (tmod_nat _ _) ?_
    repeat (first
      | refine LoadD.own 0 rfl _ rfl rfl ?_
      | refine LoadD.own 1 rfl _ rfl rfl ?_
      | refine LoadD.own 2 rfl _ rfl rfl ?_
      | refine LoadD.own 3 rfl _ rfl rfl ?_
      | refine LoadD.own 4 rfl _ rfl rfl ?_
      | refine LoadD.own 5 rfl _ rfl rfl ?_
      | refine LoadP.at 0 rfl _ rfl rfl ?_
      | refine LoadP.at 1 rfl _ rfl rfl ?_
      | refine LoadP.at 2 rfl _ rfl rfl ?_
      | refine LoadP.at 3 rfl _ rfl rfl ?_
      | refine LoadP.at 4 rfl _ rfl rfl ?_
      | refine LoadP.at 5 rfl _ rfl rfl ?_
      | refine StoreD.st 0 rfl rfl rfl ?_
      | refine StoreD.st 1 rfl rfl rfl ?_
      | refine StoreD.st 2 rfl rfl rfl ?_
      | refine StoreD.st 3 rfl rfl rfl ?_
      | refine StoreD.st 4 rfl rfl rfl ?_
      | refine StoreD.st 5 rfl rfl rfl ?_
      | refine CmpD.yes rfl ?_
      | refine CmpD.yes (by decide) ?_
      | refine CmpD.no (by decide) ?_
      | refine Chk.mk ⟨rfl, trivial⟩ ?_
      | refine Chk.mk ⟨rfl, rfl, trivial⟩ ?_
      | refine Chk.mk ⟨rfl, rfl, rfl, trivial⟩ ?_
      | refine Chk.mk ⟨rfl, rfl, rfl, rfl, trivial⟩ ?_
      | refine Chk.mk ⟨rfl, rfl, rfl, rfl, rfl, trivial⟩ ?_
      | refine Chk.mk ⟨rfl, rfl, rfl, rfl, rfl, rfl, trivial⟩ ?_)
    exact Done.mk ⟨[chO], Drop.pick [4] _ rfl, fin _ _ _ _ _ hO hgl hacc (scanK_stop fun e s l hg => by have := (grpP_room hg).1; omega)⟩
  have hki : k < bks.length := by omega
  have hbkd : (bks[k]).data = rbP d 2 i (tail + k) := by
    have := congrArg (·[k]?) hdat
    simp only [List.getElem?_map, List.getElem?_range (show k < i by omega), Option.map_some, List.getElem?_eq_getElem hki, Option.some.injEq] at this
    exact this
  have hbkc : (bks.map Bk.cell)[k]? = some (bks[k]).cell := by rw [List.getElem?_map, List.getElem?_eq_getElem hki]; rfl
  have hbko := Rds.mono (hbok1 _ (List.getElem_mem hki)) hle
  obtain ⟨bk, hbk⟩ : ∃ bk, bk = bks[k] := ⟨_, rfl⟩
  rw [← hbk] at hbkd hbkc hbko
  refine Chk.mk (by omega) ?_
  refine LoadD.imm (hle _ _ hIB) [bk.cell] (take_get hcB hbkc) rfl ?_
  refine Tri.free (r6_Head hbko (by omega)) ?_
  rintro v _ _ hJ ⟨rfl, rfl⟩
  rw [headV, hbkd]
  have hstop : ∀ p, hdP (rbP d 2 i (tail + k)) = some p → ¬ ((p.1 : Int) = s2 ∧ (p.2.1 : Int) = s3 + acc.length ∧ p.2.2.length + 1 ≤ i - k) → scanK (rbP d 2 i) s2 (i + 1 - acc.length) (tail + k) (s3 + acc.length) (i - k) = [] := by
    intro p hp hno
    refine scanK_stop fun e s l hg h' => hno ?_
    obtain ⟨l', q1, q2, q3⟩ := grpP_hd hg
    rw [hp, Option.some.injEq] at q1
    subst q1
    exact ⟨h'.1, h'.2, by dsimp only; omega⟩
  cases hd : hdP (rbP d 2 i (tail + k)) with
  | none =>
    dsimp only
    repeat (first
      | refine LoadD.own 0 rfl _ rfl rfl ?_
      | refine LoadD.own 1 rfl _ rfl rfl ?_
      | refine LoadD.own 2 rfl _ rfl rfl ?_
      | refine LoadD.own 3 rfl _ rfl rfl ?_
      | refine LoadD.own 4 rfl _ rfl rfl ?_
      | refine LoadD.own 5 rfl _ rfl rfl ?_
      | refine LoadP.at 0 rfl _ rfl rfl ?_
      | refine LoadP.at 1 rfl _ rfl rfl ?_
      | refine LoadP.at 2 rfl _ rfl rfl ?_
      | refine LoadP.at 3 rfl _ rfl rfl ?_
      | refine LoadP.at 4 rfl _ rfl rfl ?_
      | refine LoadP.at 5 rfl _ rfl rfl ?_
      | refine StoreD.st 0 rfl rfl rfl ?_
      | refine StoreD.st 1 rfl rfl rfl ?_
      | refine StoreD.st 2 rfl rfl rfl ?_
      | refine StoreD.st 3 rfl rfl rfl ?_
      | refine StoreD.st 4 rfl rfl rfl ?_
      | refine StoreD.st 5 rfl rfl rfl ?_
      | refine CmpD.yes rfl ?_
      | refine CmpD.yes (by decide) ?_
      | refine CmpD.no (by decide) ?_
      | refine Chk.mk ⟨rfl, trivial⟩ ?_
      | refine Chk.mk ⟨rfl, rfl, trivial⟩ ?_
      | refine Chk.mk ⟨rfl, rfl, rfl, trivial⟩ ?_
      | refine Chk.mk ⟨rfl, rfl, rfl, rfl, trivial⟩ ?_
      | refine Chk.mk ⟨rfl, rfl, rfl, rfl, rfl, trivial⟩ ?_
      | refine Chk.mk ⟨rfl, rfl, rfl, rfl, rfl, rfl, trivial⟩ ?_)
    refine CodeF.sched [[], [], [1], [], [1, 2, 3], [], [5], [1, 2, 3, 4, 5, 6], [0], [0, 1, 2, 3, 4, 5, 6, 7, 8], [0, 1, 2, 3, 4, 5, 6, 7, 8, 9]] [0, 1, 2, 3, 4, 5, 6, 7, 8, 9, 10] (by kernel_rfl) ?_
    repeat (first
      | refine LoadD.own 0 rfl _ rfl rfl ?_
      | refine LoadD.own 1 rfl _ rfl rfl ?_
      | refine LoadD.own 2 rfl _ rfl rfl ?_
      | refine LoadD.own 3 rfl _ rfl rfl ?_
      | refine LoadD.own 4 rfl _ rfl rfl ?_
      | refine LoadD.own 5 rfl _ rfl rfl ?_
      | refine LoadP.at 0 rfl _ rfl rfl ?_
      | refine LoadP.at 1 rfl _ rfl rfl ?_
      | refine LoadP.at 2 rfl _ rfl rfl ?_
      | refine LoadP.at 3 rfl _ rfl rfl ?_
      | refine LoadP.at 4 rfl _ rfl rfl ?_
      | refine LoadP.at 5 rfl _ rfl rfl ?_
      | refine StoreD.st 0 rfl rfl rfl ?_
      | refine StoreD.st 1 rfl rfl rfl ?_
      | refine StoreD.st 2 rfl rfl rfl ?_
      | refine StoreD.st 3 rfl rfl rfl ?_
      | refine StoreD.st 4 rfl rfl rfl ?_
      | refine StoreD.st 5 rfl rfl rfl ?_
      | refine CmpD.yes rfl ?_
      | refine CmpD.yes (by decide) ?_
      | refine CmpD.no (by decide) ?_
      | refine Chk.mk ⟨rfl, trivial⟩ ?_
      | refine Chk.mk ⟨rfl, rfl, trivial⟩ ?_
      | refine Chk.mk ⟨rfl, rfl, rfl, trivial⟩ ?_
      | refine Chk.mk ⟨rfl, rfl, rfl, rfl, trivial⟩ ?_
      | refine Chk.mk ⟨rfl, rfl, rfl, rfl, rfl, trivial⟩ ?_
      | refine Chk.mk ⟨rfl, rfl, rfl, rfl, rfl, rfl, trivial⟩ ?_)
    refine ToD.to ((tail + k : Nat) : Int) (by show IntKind.i64.wrap ((tail : Int) + (k : Int)) = _; rw [wrap_i64 (by omega) (by omega)]; omega) ?_
    repeat (first
      | refine LoadD.own 0 rfl _ rfl rfl ?_
      | refine LoadD.own 1 rfl _ rfl rfl ?_
      | refine LoadD.own 2 rfl _ rfl rfl ?_
      | refine LoadD.own 3 rfl _ rfl rfl ?_
      | refine LoadD.own 4 rfl _ rfl rfl ?_
      | refine LoadD.own 5 rfl _ rfl rfl ?_
      | refine LoadP.at 0 rfl _ rfl rfl ?_
      | refine LoadP.at 1 rfl _ rfl rfl ?_
      | refine LoadP.at 2 rfl _ rfl rfl ?_
      | refine LoadP.at 3 rfl _ rfl rfl ?_
      | refine LoadP.at 4 rfl _ rfl rfl ?_
      | refine LoadP.at 5 rfl _ rfl rfl ?_
      | refine StoreD.st 0 rfl rfl rfl ?_
      | refine StoreD.st 1 rfl rfl rfl ?_
      | refine StoreD.st 2 rfl rfl rfl ?_
      | refine StoreD.st 3 rfl rfl rfl ?_
      | refine StoreD.st 4 rfl rfl rfl ?_
      | refine StoreD.st 5 rfl rfl rfl ?_
      | refine CmpD.yes rfl ?_
      | refine CmpD.yes (by decide) ?_
      | refine CmpD.no (by decide) ?_
      | refine Chk.mk ⟨rfl, trivial⟩ ?_
      | refine Chk.mk ⟨rfl, rfl, trivial⟩ ?_
      | refine Chk.mk ⟨rfl, rfl, rfl, trivial⟩ ?_
      | refine Chk.mk ⟨rfl, rfl, rfl, rfl, trivial⟩ ?_
      | refine Chk.mk ⟨rfl, rfl, rfl, rfl, rfl, trivial⟩ ?_
      | refine Chk.mk ⟨rfl, rfl, rfl, rfl, rfl, rfl, trivial⟩ ?_)
    refine Chk.mk (by first | (show (i : Int) ≠ 0; omega) | (show (k : Int) ≠ 0; omega)) ?_
    refine ToD.to _ (tmod_nat _ _) ?_
    repeat (first
      | refine LoadD.own 0 rfl _ rfl rfl ?_
      | refine LoadD.own 1 rfl _ rfl rfl ?_
      | refine LoadD.own 2 rfl _ rfl rfl ?_
      | refine LoadD.own 3 rfl _ rfl rfl ?_
      | refine LoadD.own 4 rfl _ rfl rfl ?_
      | refine LoadD.own 5 rfl _ rfl rfl ?_
      | refine LoadP.at 0 rfl _ rfl rfl ?_
      | refine LoadP.at 1 rfl _ rfl rfl ?_
      | refine LoadP.at 2 rfl _ rfl rfl ?_
      | refine LoadP.at 3 rfl _ rfl rfl ?_
      | refine LoadP.at 4 rfl _ rfl rfl ?_
      | refine LoadP.at 5 rfl _ rfl rfl ?_
      | refine StoreD.st 0 rfl rfl rfl ?_
      | refine StoreD.st 1 rfl rfl rfl ?_
      | refine StoreD.st 2 rfl rfl rfl ?_
      | refine StoreD.st 3 rfl rfl rfl ?_
      | refine StoreD.st 4 rfl rfl rfl ?_
      | refine StoreD.st 5 rfl rfl rfl ?_
      | refine CmpD.yes rfl ?_
      | refine CmpD.yes (by decide) ?_
      | refine CmpD.no (by decide) ?_
      | refine Chk.mk ⟨rfl, trivial⟩ ?_
      | refine Chk.mk ⟨rfl, rfl, trivial⟩ ?_
      | refine Chk.mk ⟨rfl, rfl, rfl, trivial⟩ ?_
      | refine Chk.mk ⟨rfl, rfl, rfl, rfl, trivial⟩ ?_
      | refine Chk.mk ⟨rfl, rfl, rfl, rfl, rfl, trivial⟩ ?_
      | refine Chk.mk ⟨rfl, rfl, rfl, rfl, rfl, rfl, trivial⟩ ?_)
    exact Done.mk ⟨[chO], Drop.pick [4] _ rfl, fin _ _ _ _ _ hO hgl hacc (scanK_stop fun e s l hg => by obtain ⟨l', q1, _⟩ := grpP_hd hg; rw [hd] at q1; cases q1)⟩
  | some p =>
  obtain ⟨e, sq, l⟩ := p
  have hstop := hstop _ hd
  have hpr := (hdP_some hd).2.2.2.1
  have hl32 := hpr.2.2.2.2.2.1
  have hl1 := hpr.2.2.2.2.1
  have hsq := hpr.2.2.2.1
  have hgk : gl.length ≤ i := by omega
  dsimp only at hstop ⊢
  repeat (first
    | refine LoadD.own 0 rfl _ rfl rfl ?_
    | refine LoadD.own 1 rfl _ rfl rfl ?_
    | refine LoadD.own 2 rfl _ rfl rfl ?_
    | refine LoadD.own 3 rfl _ rfl rfl ?_
    | refine LoadD.own 4 rfl _ rfl rfl ?_
    | refine LoadP.at 0 rfl _ rfl rfl ?_
    | refine LoadP.at 1 rfl _ rfl rfl ?_
    | refine LoadP.at 2 rfl _ rfl rfl ?_
    | refine LoadP.at 3 rfl _ rfl rfl ?_
    | refine LoadP.at 4 rfl _ rfl rfl ?_
    | refine StoreD.st 0 rfl rfl rfl ?_
    | refine StoreD.st 1 rfl rfl rfl ?_
    | refine StoreD.st 2 rfl rfl rfl ?_
    | refine StoreD.st 3 rfl rfl rfl ?_
    | refine StoreD.st 4 rfl rfl rfl ?_
    | refine CmpD.yes rfl ?_
    | refine CmpD.yes (by decide) ?_
    | refine CmpD.no (by decide) ?_
    | refine Chk.mk ⟨rfl, trivial⟩ ?_
    | refine Chk.mk ⟨rfl, rfl, trivial⟩ ?_
    | refine Chk.mk ⟨rfl, rfl, rfl, trivial⟩ ?_
    | refine Chk.mk ⟨rfl, rfl, rfl, rfl, trivial⟩ ?_
    | refine Chk.mk ⟨rfl, rfl, rfl, rfl, rfl, trivial⟩ ?_
    | refine Chk.mk ⟨rfl, rfl, rfl, rfl, rfl, rfl, trivial⟩ ?_)
  refine CmpD.split (fun (d2 : (e : Int) = s2) => ?_) (fun (d2 : ¬ (e : Int) = s2) => ?_)
  rotate_left
  · repeat (first
      | refine LoadD.own 0 rfl _ rfl rfl ?_
      | refine LoadD.own 1 rfl _ rfl rfl ?_
      | refine LoadD.own 2 rfl _ rfl rfl ?_
      | refine LoadD.own 3 rfl _ rfl rfl ?_
      | refine LoadD.own 4 rfl _ rfl rfl ?_
      | refine LoadD.own 5 rfl _ rfl rfl ?_
      | refine LoadP.at 0 rfl _ rfl rfl ?_
      | refine LoadP.at 1 rfl _ rfl rfl ?_
      | refine LoadP.at 2 rfl _ rfl rfl ?_
      | refine LoadP.at 3 rfl _ rfl rfl ?_
      | refine LoadP.at 4 rfl _ rfl rfl ?_
      | refine LoadP.at 5 rfl _ rfl rfl ?_
      | refine StoreD.st 0 rfl rfl rfl ?_
      | refine StoreD.st 1 rfl rfl rfl ?_
      | refine StoreD.st 2 rfl rfl rfl ?_
      | refine StoreD.st 3 rfl rfl rfl ?_
      | refine StoreD.st 4 rfl rfl rfl ?_
      | refine StoreD.st 5 rfl rfl rfl ?_
      | refine CmpD.yes rfl ?_
      | refine CmpD.yes (by decide) ?_
      | refine CmpD.no (by decide) ?_
      | refine Chk.mk ⟨rfl, trivial⟩ ?_
      | refine Chk.mk ⟨rfl, rfl, trivial⟩ ?_
      | refine Chk.mk ⟨rfl, rfl, rfl, trivial⟩ ?_
      | refine Chk.mk ⟨rfl, rfl, rfl, rfl, trivial⟩ ?_
      | refine Chk.mk ⟨rfl, rfl, rfl, rfl, rfl, trivial⟩ ?_
      | refine Chk.mk ⟨rfl, rfl, rfl, rfl, rfl, rfl, trivial⟩ ?_)
    refine CodeF.sched [[], [], [1], [], [1, 2, 3], [], [5], [1, 2, 3, 4, 5, 6], [0], [0, 1, 2, 3, 4, 5, 6, 7, 8], [0, 1, 2, 3, 4, 5, 6, 7, 8, 9]] [0, 1, 2, 3, 4, 5, 6, 7, 8, 9, 10] (by kernel_rfl) ?_
    repeat (first
      | refine LoadD.own 0 rfl _ rfl rfl ?_
      | refine LoadD.own 1 rfl _ rfl rfl ?_
      | refine LoadD.own 2 rfl _ rfl rfl ?_
      | refine LoadD.own 3 rfl _ rfl rfl ?_
      | refine LoadD.own 4 rfl _ rfl rfl ?_
      | refine LoadD.own 5 rfl _ rfl rfl ?_
      | refine LoadP.at 0 rfl _ rfl rfl ?_
      | refine LoadP.at 1 rfl _ rfl rfl ?_
      | refine LoadP.at 2 rfl _ rfl rfl ?_
      | refine LoadP.at 3 rfl _ rfl rfl ?_
      | refine LoadP.at 4 rfl _ rfl rfl ?_
      | refine LoadP.at 5 rfl _ rfl rfl ?_
      | refine StoreD.st 0 rfl rfl rfl ?_
      | refine StoreD.st 1 rfl rfl rfl ?_
      | refine StoreD.st 2 rfl rfl rfl ?_
      | refine StoreD.st 3 rfl rfl rfl ?_
      | refine StoreD.st 4 rfl rfl rfl ?_
      | refine StoreD.st 5 rfl rfl rfl ?_
      | refine CmpD.yes rfl ?_
      | refine CmpD.yes (by decide) ?_
      | refine CmpD.no (by decide) ?_
      | refine Chk.mk ⟨rfl, trivial⟩ ?_
      | refine Chk.mk ⟨rfl, rfl, trivial⟩ ?_
      | refine Chk.mk ⟨rfl, rfl, rfl, trivial⟩ ?_
      | refine Chk.mk ⟨rfl, rfl, rfl, rfl, trivial⟩ ?_
      | refine Chk.mk ⟨rfl, rfl, rfl, rfl, rfl, trivial⟩ ?_
      | refine Chk.mk ⟨rfl, rfl, rfl, rfl, rfl, rfl, trivial⟩ ?_)
    refine ToD.to ((tail + k : Nat) : Int) (by show IntKind.i64.wrap ((tail : Int) + (k : Int)) = _; rw [wrap_i64 (by omega) (by omega)]; omega) ?_
    repeat (first
      | refine LoadD.own 0 rfl _ rfl rfl ?_
      | refine LoadD.own 1 rfl _ rfl rfl ?_
      | refine LoadD.own 2 rfl _ rfl rfl ?_
      | refine LoadD.own 3 rfl _ rfl rfl ?_
      | refine LoadD.own 4 rfl _ rfl rfl ?_
      | refine LoadD.own 5 rfl _ rfl rfl ?_
      | refine LoadP.at 0 rfl _ rfl rfl ?_
      | refine LoadP.at 1 rfl _ rfl rfl ?_
      | refine LoadP.at 2 rfl _ rfl rfl ?_
      | refine LoadP.at 3 rfl _ rfl rfl ?_
      | refine LoadP.at 4 rfl _ rfl rfl ?_
      | refine LoadP.at 5 rfl _ rfl rfl ?_
      | refine StoreD.st 0 rfl rfl rfl ?_
      | refine StoreD.st 1 rfl rfl rfl ?_
      | refine StoreD.st 2 rfl rfl rfl ?_
      | refine StoreD.st 3 rfl rfl rfl ?_
      | refine StoreD.st 4 rfl rfl rfl ?_
      | refine StoreD.st 5 rfl rfl rfl ?_
      | refine CmpD.yes rfl ?_
      | refine CmpD.yes (by decide) ?_
      | refine CmpD.no (by decide) ?_
      | refine Chk.mk ⟨rfl, trivial⟩ ?_
      | refine Chk.mk ⟨rfl, rfl, trivial⟩ ?_
      | refine Chk.mk ⟨rfl, rfl, rfl, trivial⟩ ?_
      | refine Chk.mk ⟨rfl, rfl, rfl, rfl, trivial⟩ ?_
      | refine Chk.mk ⟨rfl, rfl, rfl, rfl, rfl, trivial⟩ ?_
      | refine Chk.mk ⟨rfl, rfl, rfl, rfl, rfl, rfl, trivial⟩ ?_)
    refine Chk.mk (by first | (show (i : Int) ≠ 0; omega) | (show (k : Int) ≠ 0; omega)) ?_
    refine ToD.to _ (tmod_nat _ _) ?_
    repeat (first
      | refine LoadD.own 0 rfl _ rfl rfl ?_
      | refine LoadD.own 1 rfl _ rfl rfl ?_
      | refine LoadD.own 2 rfl _ rfl rfl ?_
      | refine LoadD.own 3 rfl _ rfl rfl ?_
      | refine LoadD.own 4 rfl _ rfl rfl ?_
      | refine LoadD.own 5 rfl _ rfl rfl ?_
      | refine LoadP.at 0 rfl _ rfl rfl ?_
      | refine LoadP.at 1 rfl _ rfl rfl ?_
      | refine LoadP.at 2 rfl _ rfl rfl ?_
      | refine LoadP.at 3 rfl _ rfl rfl ?_
      | refine LoadP.at 4 rfl _ rfl rfl ?_
      | refine LoadP.at 5 rfl _ rfl rfl ?_
      | refine StoreD.st 0 rfl rfl rfl ?_
      | refine StoreD.st 1 rfl rfl rfl ?_
      | refine StoreD.st 2 rfl rfl rfl ?_
      | refine StoreD.st 3 rfl rfl rfl ?_
      | refine StoreD.st 4 rfl rfl rfl ?_
      | refine StoreD.st 5 rfl rfl rfl ?_
      | refine CmpD.yes rfl ?_
      | refine CmpD.yes (by decide) ?_
      | refine CmpD.no (by decide) ?_
      | refine Chk.mk ⟨rfl, trivial⟩ ?_
      | refine Chk.mk ⟨rfl, rfl, trivial⟩ ?_
      | refine Chk.mk ⟨rfl, rfl, rfl, trivial⟩ ?_
      | refine Chk.mk ⟨rfl, rfl, rfl, rfl, trivial⟩ ?_
      | refine Chk.mk ⟨rfl, rfl, rfl, rfl, rfl, trivial⟩ ?_
      | refine Chk.mk ⟨rfl, rfl, rfl, rfl, rfl, rfl, trivial⟩ ?_)
    exact Done.mk ⟨[chO], Drop.pick [4] _ rfl, fin _ _ _ _ _ hO hgl hacc (hstop fun h' => d2 h'.1)⟩
  repeat (first
    | refine LoadD.own 0 rfl _ rfl rfl ?_
    | refine LoadD.own 1 rfl _ rfl rfl ?_
    | refine LoadD.own 2 rfl _ rfl rfl ?_
    | refine LoadD.own 3 rfl _ rfl rfl ?_
    | refine LoadD.own 4 rfl _ rfl rfl ?_
    | refine LoadP.at 0 rfl _ rfl rfl ?_
    | refine LoadP.at 1 rfl _ rfl rfl ?_
    | refine LoadP.at 2 rfl _ rfl rfl ?_
    | refine LoadP.at 3 rfl _ rfl rfl ?_
    | refine LoadP.at 4 rfl _ rfl rfl ?_
    | refine StoreD.st 0 rfl rfl rfl ?_
    | refine StoreD.st 1 rfl rfl rfl ?_
    | refine StoreD.st 2 rfl rfl rfl ?_
    | refine StoreD.st 3 rfl rfl rfl ?_
    | refine StoreD.st 4 rfl rfl rfl ?_
    | refine CmpD.yes rfl ?_
    | refine CmpD.yes (by decide) ?_
    | refine CmpD.no (by decide) ?_
    | refine Chk.mk ⟨rfl, trivial⟩ ?_
    | refine Chk.mk ⟨rfl, rfl, trivial⟩ ?_
    | refine Chk.mk ⟨rfl, rfl, rfl, trivial⟩ ?_
    | refine Chk.mk ⟨rfl, rfl, rfl, rfl, trivial⟩ ?_
    | refine Chk.mk ⟨rfl, rfl, rfl, rfl, rfl, trivial⟩ ?_
    | refine Chk.mk ⟨rfl, rfl, rfl, rfl, rfl, rfl, trivial⟩ ?_)
  refine ToD.to (s3 + gl.length) (by show IntKind.i64.wrap (s3 + (gl.length : Int)) = _; rw [wrap_i64 (by omega) (by omega)]) ?_
  refine CmpD.split (fun (d3 : (sq : Int) = s3 + gl.length) => ?_) (fun (d3 : ¬ (sq : Int) = s3 + gl.length) => ?_)
  rotate_left
  · repeat (first
      | refine LoadD.own 0 rfl _ rfl rfl ?_
      | refine LoadD.own 1 rfl _ rfl rfl ?_
      | refine LoadD.own 2 rfl _ rfl rfl ?_
      | refine LoadD.own 3 rfl _ rfl rfl ?_
      | refine LoadD.own 4 rfl _ rfl rfl ?_
      | refine LoadD.own 5 rfl _ rfl rfl ?_
      | refine LoadP.at 0 rfl _ rfl rfl ?_
      | refine LoadP.at 1 rfl _ rfl rfl ?_
      | refine LoadP.at 2 rfl _ rfl rfl ?_
      | refine LoadP.at 3 rfl _ rfl rfl ?_
      | refine LoadP.at 4 rfl _ rfl rfl ?_
      | refine LoadP.at 5 rfl _ rfl rfl ?_
      | refine StoreD.st 0 rfl rfl rfl ?_
      | refine StoreD.st 1 rfl rfl rfl ?_
      | refine StoreD.st 2 rfl rfl rfl ?_
      | refine StoreD.st 3 rfl rfl rfl ?_
      | refine StoreD.st 4 rfl rfl rfl ?_
      | refine StoreD.st 5 rfl rfl rfl ?_
      | refine CmpD.yes rfl ?_
      | refine CmpD.yes (by decide) ?_
      | refine CmpD.no (by decide) ?_
      | refine Chk.mk ⟨rfl, trivial⟩ ?_
      | refine Chk.mk ⟨rfl, rfl, trivial⟩ ?_
      | refine Chk.mk ⟨rfl, rfl, rfl, trivial⟩ ?_
      | refine Chk.mk ⟨rfl, rfl, rfl, rfl, trivial⟩ ?_
      | refine Chk.mk ⟨rfl, rfl, rfl, rfl, rfl, trivial⟩ ?_
      | refine Chk.mk ⟨rfl, rfl, rfl, rfl, rfl, rfl, trivial⟩ ?_)
    refine CodeF.sched [[], [], [1], [], [1, 2, 3], [], [5], [1, 2, 3, 4, 5, 6], [0], [0, 1, 2, 3, 4, 5, 6, 7, 8], [0, 1, 2, 3, 4, 5, 6, 7, 8, 9]] [0, 1, 2, 3, 4, 5, 6, 7, 8, 9, 10] (by kernel_rfl) ?_
    repeat (first
      | refine LoadD.own 0 rfl _ rfl rfl ?_
      | refine LoadD.own 1 rfl _ rfl rfl ?_
      | refine LoadD.own 2 rfl _ rfl rfl ?_
      | refine LoadD.own 3 rfl _ rfl rfl ?_
      | refine LoadD.own 4 rfl _ rfl rfl ?_
      | refine LoadD.own 5 rfl _ rfl rfl ?_
      | refine LoadP.at 0 rfl _ rfl rfl ?_
      | refine LoadP.at 1 rfl _ rfl rfl ?_
      | refine LoadP.at 2 rfl _ rfl rfl ?_
      | refine LoadP.at 3 rfl _ rfl rfl ?_
      | refine LoadP.at 4 rfl _ rfl rfl ?_
      | refine LoadP.at 5 rfl _ rfl rfl ?_
      | refine StoreD.st 0 rfl rfl rfl ?_
      | refine StoreD.st 1 rfl rfl rfl ?_
      | refine StoreD.st 2 rfl rfl rfl ?_
      | refine StoreD.st 3 rfl rfl rfl ?_
      | refine StoreD.st 4 rfl rfl rfl ?_
      | refine StoreD.st 5 rfl rfl rfl ?_
      | refine CmpD.yes rfl ?_
      | refine CmpD.yes (by decide) ?_
      | refine CmpD.no (by decide) ?_
      | refine Chk.mk ⟨rfl, trivial⟩ ?_
      | refine Chk.mk ⟨rfl, rfl, trivial⟩ ?_
      | refine Chk.mk ⟨rfl, rfl, rfl, trivial⟩ ?_
      | refine Chk.mk ⟨rfl, rfl, rfl, rfl, trivial⟩ ?_
      | refine Chk.mk ⟨rfl, rfl, rfl, rfl, rfl, trivial⟩ ?_
      | refine Chk.mk ⟨rfl, rfl, rfl, rfl, rfl, rfl, trivial⟩ ?_)
    refine ToD.to ((tail + k : Nat) : Int) (by show IntKind.i64.wrap ((tail : Int) + (k : Int)) = _; rw [wrap_i64 (by omega) (by omega)]; omega) ?_
    repeat (first
      | refine LoadD.own 0 rfl _ rfl rfl ?_
      | refine LoadD.own 1 rfl _ rfl rfl ?_
      | refine LoadD.own 2 rfl _ rfl rfl ?_
      | refine LoadD.own 3 rfl _ rfl rfl ?_
      | refine LoadD.own 4 rfl _ rfl rfl ?_
      | refine LoadD.own 5 rfl _ rfl rfl ?_
      | refine LoadP.at 0 rfl _ rfl rfl ?_
      | refine LoadP.at 1 rfl _ rfl rfl ?_
      | refine LoadP.at 2 rfl _ rfl rfl ?_
      | refine LoadP.at 3 rfl _ rfl rfl ?_
      | refine LoadP.at 4 rfl _ rfl rfl ?_
      | refine LoadP.at 5 rfl _ rfl rfl ?_
      | refine StoreD.st 0 rfl rfl rfl ?_
      | refine StoreD.st 1 rfl rfl rfl ?_
      | refine StoreD.st 2 rfl rfl rfl ?_
      | refine StoreD.st 3 rfl rfl rfl ?_
      | refine StoreD.st 4 rfl rfl rfl ?_
      | refine StoreD.st 5 rfl rfl rfl ?_
      | refine CmpD.yes rfl ?_
      | refine CmpD.yes (by decide) ?_
      | refine CmpD.no (by decide) ?_
      | refine Chk.mk ⟨rfl, trivial⟩ ?_
      | refine Chk.mk ⟨rfl, rfl, trivial⟩ ?_
      | refine Chk.mk ⟨rfl, rfl, rfl, trivial⟩ ?_
      | refine Chk.mk ⟨rfl, rfl, rfl, rfl, trivial⟩ ?_
      | refine Chk.mk ⟨rfl, rfl, rfl, rfl, rfl, trivial⟩ ?_
      | refine Chk.mk ⟨rfl, rfl, rfl, rfl, rfl, rfl, trivial⟩ ?_)
    refine Chk.mk (by first | (show (i : Int) ≠ 0; omega) | (show (k : Int) ≠ 0; omega)) ?_
    refine ToD.to _ (tmod_nat _ _) ?_
    repeat (first
      | refine LoadD.own 0 rfl _ rfl rfl ?_
      | refine LoadD.own 1 rfl _ rfl rfl ?_
      | refine LoadD.own 2 rfl _ rfl rfl ?_
      | refine LoadD.own 3 rfl _ rfl rfl ?_
      | refine LoadD.own 4 rfl _ rfl rfl ?_
      | refine LoadD.own 5 rfl _ rfl rfl ?_
      | refine LoadP.at 0 rfl _ rfl rfl ?_
      | refine LoadP.at 1 rfl _ rfl rfl ?_
      | refine LoadP.at 2 rfl _ rfl rfl ?_
      | refine LoadP.at 3 rfl _ rfl rfl ?_
      | refine LoadP.at 4 rfl _ rfl rfl ?_
      | refine LoadP.at 5 rfl _ rfl rfl ?_
      | refine StoreD.st 0 rfl rfl rfl ?_
      | refine StoreD.st 1 rfl rfl rfl ?_
      | refine StoreD.st 2 rfl rfl rfl ?_
      | refine StoreD.st 3 rfl rfl rfl ?_
      | refine StoreD.st 4 rfl rfl rfl ?_
      | refine StoreD.st 5 rfl rfl rfl ?_
      | refine CmpD.yes rfl ?_
      | refine CmpD.yes (by decide) ?_
      | refine CmpD.no (by decide) ?_
      | refine Chk.mk ⟨rfl, trivial⟩ ?_
      | refine Chk.mk ⟨rfl, rfl, trivial⟩ ?_
      | refine Chk.mk ⟨rfl, rfl, rfl, trivial⟩ ?_
      | refine Chk.mk ⟨rfl, rfl, rfl, rfl, trivial⟩ ?_
      | refine Chk.mk ⟨rfl, rfl, rfl, rfl, rfl, trivial⟩ ?_
      | refine Chk.mk ⟨rfl, rfl, rfl, rfl, rfl, rfl, trivial⟩ ?_)
    exact Done.mk ⟨[chO], Drop.pick [4] _ rfl, fin _ _ _ _ _ hO hgl hacc (hstop fun h' => d3 (by omega))⟩
  refine ToD.to ((k + l.length : Nat) : Int) (by rw [wrap_i64 (by omega) (by omega)]; omega) ?_
  refine ToD.to ((k + l.length + 1 : Nat) : Int) (by rw [wrap_i64 (by omega) (by omega)]; omega) ?_
  refine CmpD.split (fun (d4 : (i : Int) < (k + l.length + 1 : Nat)) => ?_) (fun (d4 : ¬ (i : Int) < (k + l.length + 1 : Nat)) => ?_)
  · repeat (first
      | refine LoadD.own 0 rfl _ rfl rfl ?_
      | refine LoadD.own 1 rfl _ rfl rfl ?_
      | refine LoadD.own 2 rfl _ rfl rfl ?_
      | refine LoadD.own 3 rfl _ rfl rfl ?_
      | refine LoadD.own 4 rfl _ rfl rfl ?_
      | refine LoadD.own 5 rfl _ rfl rfl ?_
      | refine LoadP.at 0 rfl _ rfl rfl ?_
      | refine LoadP.at 1 rfl _ rfl rfl ?_
      | refine LoadP.at 2 rfl _ rfl rfl ?_
      | refine LoadP.at 3 rfl _ rfl rfl ?_
      | refine LoadP.at 4 rfl _ rfl rfl ?_
      | refine LoadP.at 5 rfl _ rfl rfl ?_
      | refine StoreD.st 0 rfl rfl rfl ?_
      | refine StoreD.st 1 rfl rfl rfl ?_
      | refine StoreD.st 2 rfl rfl rfl ?_
      | refine StoreD.st 3 rfl rfl rfl ?_
      | refine StoreD.st 4 rfl rfl rfl ?_
      | refine StoreD.st 5 rfl rfl rfl ?_
      | refine CmpD.yes rfl ?_
      | refine CmpD.yes (by decide) ?_
      | refine CmpD.no (by decide) ?_
      | refine Chk.mk ⟨rfl, trivial⟩ ?_
      | refine Chk.mk ⟨rfl, rfl, trivial⟩ ?_
      | refine Chk.mk ⟨rfl, rfl, rfl, trivial⟩ ?_
      | refine Chk.mk ⟨rfl, rfl, rfl, rfl, trivial⟩ ?_
      | refine Chk.mk ⟨rfl, rfl, rfl, rfl, rfl, trivial⟩ ?_
      | refine Chk.mk ⟨rfl, rfl, rfl, rfl, rfl, rfl, trivial⟩ ?_)
    refine CodeF.sched [[], [], [1], [], [1, 2, 3], [], [5], [1, 2, 3, 4, 5, 6], [0], [0, 1, 2, 3, 4, 5, 6, 7, 8], [0, 1, 2, 3, 4, 5, 6, 7, 8, 9]] [0, 1, 2, 3, 4, 5, 6, 7, 8, 9, 10] (by kernel_rfl) ?_
    repeat (first
      | refine LoadD.own 0 rfl _ rfl rfl ?_
      | refine LoadD.own 1 rfl _ rfl rfl ?_
      | refine LoadD.own 2 rfl _ rfl rfl ?_
      | refine LoadD.own 3 rfl _ rfl rfl ?_
      | refine LoadD.own 4 rfl _ rfl rfl ?_
      | refine LoadD.own 5 rfl _ rfl rfl ?_
      | refine LoadP.at 0 rfl _ rfl rfl ?_
      | refine LoadP.at 1 rfl _ rfl rfl ?_
      | refine LoadP.at 2 rfl _ rfl rfl ?_
      | refine LoadP.at 3 rfl _ rfl rfl ?_
      | refine LoadP.at 4 rfl _ rfl rfl ?_
      | refine LoadP.at 5 rfl _ rfl rfl ?_
      | refine StoreD.st 0 rfl rfl rfl ?_
      | refine StoreD.st 1 rfl rfl rfl ?_
      | refine StoreD.st 2 rfl rfl rfl ?_
      | refine StoreD.st 3 rfl rfl rfl ?_
      | refine StoreD.st 4 rfl rfl rfl ?_
      | refine StoreD.st 5 rfl rfl rfl ?_
      | refine CmpD.yes rfl ?_
      | refine CmpD.yes (by decide) ?_
      | refine CmpD.no (by decide) ?_
      | refine Chk.mk ⟨rfl, trivial⟩ ?_
      | refine Chk.mk ⟨rfl, rfl, trivial⟩ ?_
      | refine Chk.mk ⟨rfl, rfl, rfl, trivial⟩ ?_
      | refine Chk.mk ⟨rfl, rfl, rfl, rfl, trivial⟩ ?_
      | refine Chk.mk ⟨rfl, rfl, rfl, rfl, rfl, trivial⟩ ?_
      | refine Chk.mk ⟨rfl, rfl, rfl, rfl, rfl, rfl, trivial⟩ ?_)
    refine ToD.to ((tail + k : Nat) : Int) (by show IntKind.i64.wrap ((tail : Int) + (k : Int)) = _; rw [wrap_i64 (by omega) (by omega)]; omega) ?_
    repeat (first
      | refine LoadD.own 0 rfl _ rfl rfl ?_
      | refine LoadD.own 1 rfl _ rfl rfl ?_
      | refine LoadD.own 2 rfl _ rfl rfl ?_
      | refine LoadD.own 3 rfl _ rfl rfl ?_
      | refine LoadD.own 4 rfl _ rfl rfl ?_
      | refine LoadD.own 5 rfl _ rfl rfl ?_
      | refine LoadP.at 0 rfl _ rfl rfl ?_
      | refine LoadP.at 1 rfl _ rfl rfl ?_
      | refine LoadP.at 2 rfl _ rfl rfl ?_
      | refine LoadP.at 3 rfl _ rfl rfl ?_
      | refine LoadP.at 4 rfl _ rfl rfl ?_
      | refine LoadP.at 5 rfl _ rfl rfl ?_
      | refine StoreD.st 0 rfl rfl rfl ?_
      | refine StoreD.st 1 rfl rfl rfl ?_
      | refine StoreD.st 2 rfl rfl rfl ?_
      | refine StoreD.st 3 rfl rfl rfl ?_
      | refine StoreD.st 4 rfl rfl rfl ?_
      | refine StoreD.st 5 rfl rfl rfl ?_
      | refine CmpD.yes rfl ?_
      | refine CmpD.yes (by decide) ?_
      | refine CmpD.no (by decide) ?_
      | refine Chk.mk ⟨rfl, trivial⟩ ?_
      | refine Chk.mk ⟨rfl, rfl, trivial⟩ ?_
      | refine Chk.mk ⟨rfl, rfl, rfl, trivial⟩ ?_
      | refine Chk.mk ⟨rfl, rfl, rfl, rfl, trivial⟩ ?_
      | refine Chk.mk ⟨rfl, rfl, rfl, rfl, rfl, trivial⟩ ?_
      | refine Chk.mk ⟨rfl, rfl, rfl, rfl, rfl, rfl, trivial⟩ ?_)
    refine Chk.mk (by first | (show (i : Int) ≠ 0; omega) | (show (k : Int) ≠ 0; omega)) ?_
    refine ToD.to _ (tmod_nat _ _) ?_
    repeat (first
      | refine LoadD.own 0 rfl _ rfl rfl ?_
      | refine LoadD.own 1 rfl _ rfl rfl ?_
      | refine LoadD.own 2 rfl _ rfl rfl ?_
      | refine LoadD.own 3 rfl _ rfl rfl ?_
      | refine LoadD.own 4 rfl _ rfl rfl ?_
      | refine LoadD.own 5 rfl _ rfl rfl ?_
      | refine LoadP.at 0 rfl _ rfl rfl ?_
      | refine LoadP.at 1 rfl _ rfl rfl ?_
      | refine LoadP.at 2 rfl _ rfl rfl ?_
      | refine LoadP.at 3 rfl _ rfl rfl ?_
      | refine LoadP.at 4 rfl _ rfl rfl ?_
      | refine LoadP.at 5 rfl _ rfl rfl ?_
      | refine StoreD.st 0 rfl rfl rfl ?_
      | refine StoreD.st 1 rfl rfl rfl ?_
      | refine StoreD.st 2 rfl rfl rfl ?_
      | refine StoreD.st 3 rfl rfl rfl ?_
      | refine StoreD.st 4 rfl rfl rfl ?_
      | refine StoreD.st 5 rfl rfl rfl ?_
      | refine CmpD.yes rfl ?_
      | refine CmpD.yes (by decide) ?_
      | refine CmpD.no (by decide) ?_
      | refine Chk.mk ⟨rfl, trivial⟩ ?_
      | refine Chk.mk ⟨rfl, rfl, trivial⟩ ?_
      | refine Chk.mk ⟨rfl, rfl, rfl, trivial⟩ ?_
      | refine Chk.mk ⟨rfl, rfl, rfl, rfl, trivial⟩ ?_
      | refine Chk.mk ⟨rfl, rfl, rfl, rfl, rfl, trivial⟩ ?_
      | refine Chk.mk ⟨rfl, rfl, rfl, rfl, rfl, rfl, trivial⟩ ?_)
    exact Done.mk ⟨[chO], Drop.pick [4] _ rfl, fin _ _ _ _ _ hO hgl hacc (hstop fun h' => by omega)⟩
  refine ToD.to ((k + l.length : Nat) : Int) (by rw [wrap_i64 (by omega) (by omega)]; omega) ?_
  refine ToD.to ((k + l.length + 1 : Nat) : Int) (by rw [wrap_i64 (by omega) (by omega)]; omega) ?_
  refine sliceD tabOk rfl rfl rfl rfl k (k + l.length + 1) capB ⟨_, rfl⟩ ⟨_, rfl⟩ rfl (.inl rfl) (by omega) ?_
  have hpart := (slC_part ((hBR.mono hle).slC (S := [])) (cap := capB) k (l.length + 1) (by omega) (by omega) hBle).rds
  rw [← List.map_drop, ← List.map_take] at hpart
  have hget := r6_Get J' _ (l.length + 1) (capB - k) ((bks.drop k).take (l.length + 1)) (by omega) hpart (fun y hy => Rds.mono (hbok1 y (List.mem_of_mem_drop (List.mem_of_mem_take hy))) hle)
  have hdd : ((bks.drop k).take (l.length + 1)).map Bk.data = (List.range (l.length + 1)).map fun j => rbP d 2 i (tail + k + j) := by
    rw [List.map_take, List.map_drop, hdat]
    refine getElem_eq_of (by simp; omega) fun j j1 j2 => ?_
    simp [Nat.add_assoc]
  rw [hdd, ← grpP_get (room := i - k) hd (by omega)] at hget
  rw [show k + l.length + 1 - k = l.length + 1 by omega]
  refine Tri.free hget ?_
  rintro v J2 _ hJ2 (⟨hno, rfl⟩ | ⟨e2, s2', l2, hso, aI, capI, gsI, rfl, hgs, hgp⟩)
  · have hgl := hgl.mono hJ2
    conv => whnf
    intro b19
    repeat (first
      | refine LoadD.own 0 rfl _ rfl rfl ?_
      | refine LoadD.own 1 rfl _ rfl rfl ?_
      | refine LoadD.own 2 rfl _ rfl rfl ?_
      | refine LoadD.own 3 rfl _ rfl rfl ?_
      | refine LoadD.own 4 rfl _ rfl rfl ?_
      | refine LoadD.own 5 rfl _ rfl rfl ?_
      | refine LoadP.at 0 rfl _ rfl rfl ?_
      | refine LoadP.at 1 rfl _ rfl rfl ?_
      | refine LoadP.at 2 rfl _ rfl rfl ?_
      | refine LoadP.at 3 rfl _ rfl rfl ?_
      | refine LoadP.at 4 rfl _ rfl rfl ?_
      | refine LoadP.at 5 rfl _ rfl rfl ?_
      | refine StoreD.st 0 rfl rfl rfl ?_
      | refine StoreD.st 1 rfl rfl rfl ?_
      | refine StoreD.st 2 rfl rfl rfl ?_
      | refine StoreD.st 3 rfl rfl rfl ?_
      | refine StoreD.st 4 rfl rfl rfl ?_
      | refine StoreD.st 5 rfl rfl rfl ?_
      | refine CmpD.yes rfl ?_
      | refine CmpD.yes (by decide) ?_
      | refine CmpD.no (by decide) ?_
      | refine Chk.mk ⟨rfl, trivial⟩ ?_
      | refine Chk.mk ⟨rfl, rfl, trivial⟩ ?_
      | refine Chk.mk ⟨rfl, rfl, rfl, trivial⟩ ?_
      | refine Chk.mk ⟨rfl, rfl, rfl, rfl, trivial⟩ ?_
      | refine Chk.mk ⟨rfl, rfl, rfl, rfl, rfl, trivial⟩ ?_
      | refine Chk.mk ⟨rfl, rfl, rfl, rfl, rfl, rfl, trivial⟩ ?_)
    refine CodeF.sched [[], [], [1], [], [1, 2, 3], [], [5], [1, 2, 3, 4, 5, 6], [0], [0, 1, 2, 3, 4, 5, 6, 7, 8], [0, 1, 2, 3, 4, 5, 6, 7, 8, 9]] [0, 1, 2, 3, 4, 5, 6, 7, 8, 9, 10] (by kernel_rfl) ?_
    repeat (first
      | refine LoadD.own 0 rfl _ rfl rfl ?_
      | refine LoadD.own 1 rfl _ rfl rfl ?_
      | refine LoadD.own 2 rfl _ rfl rfl ?_
      | refine LoadD.own 3 rfl _ rfl rfl ?_
      | refine LoadD.own 4 rfl _ rfl rfl ?_
      | refine LoadD.own 5 rfl _ rfl rfl ?_
      | refine LoadP.at 0 rfl _ rfl rfl ?_
      | refine LoadP.at 1 rfl _ rfl rfl ?_
      | refine LoadP.at 2 rfl _ rfl rfl ?_
      | refine LoadP.at 3 rfl _ rfl rfl ?_
      | refine LoadP.at 4 rfl _ rfl rfl ?_
      | refine LoadP.at 5 rfl _ rfl rfl ?_
      | refine StoreD.st 0 rfl rfl rfl ?_
      | refine StoreD.st 1 rfl rfl rfl ?_
      | refine StoreD.st 2 rfl rfl rfl ?_
      | refine StoreD.st 3 rfl rfl rfl ?_
      | refine StoreD.st 4 rfl rfl rfl ?_
      | refine StoreD.st 5 rfl rfl rfl ?_
      | refine CmpD.yes rfl ?_
      | refine CmpD.yes (by decide) ?_
      | refine CmpD.no (by decide) ?_
      | refine Chk.mk ⟨rfl, trivial⟩ ?_
      | refine Chk.mk ⟨rfl, rfl, trivial⟩ ?_
      | refine Chk.mk ⟨rfl, rfl, rfl, trivial⟩ ?_
      | refine Chk.mk ⟨rfl, rfl, rfl, rfl, trivial⟩ ?_
      | refine Chk.mk ⟨rfl, rfl, rfl, rfl, rfl, trivial⟩ ?_
      | refine Chk.mk ⟨rfl, rfl, rfl, rfl, rfl, rfl, trivial⟩ ?_)
    refine ToD.to ((tail + k : Nat) : Int) (by show IntKind.i64.wrap ((tail : Int) + (k : Int)) = _; rw [wrap_i64 (by omega) (by omega)]; omega) ?_
    repeat (first
      | refine LoadD.own 0 rfl _ rfl rfl ?_
      | refine LoadD.own 1 rfl _ rfl rfl ?_
      | refine LoadD.own 2 rfl _ rfl rfl ?_
      | refine LoadD.own 3 rfl _ rfl rfl ?_
      | refine LoadD.own 4 rfl _ rfl rfl ?_
      | refine LoadD.own 5 rfl _ rfl rfl ?_
      | refine LoadP.at 0 rfl _ rfl rfl ?_
      | refine LoadP.at 1 rfl _ rfl rfl ?_
      | refine LoadP.at 2 rfl _ rfl rfl ?_
      | refine LoadP.at 3 rfl _ rfl rfl ?_
      | refine LoadP.at 4 rfl _ rfl rfl ?_
      | refine LoadP.at 5 rfl _ rfl rfl ?_
      | refine StoreD.st 0 rfl rfl rfl ?_
      | refine StoreD.st 1 rfl rfl rfl ?_
      | refine StoreD.st 2 rfl rfl rfl ?_
      | refine StoreD.st 3 rfl rfl rfl ?_
      | refine StoreD.st 4 rfl rfl rfl ?_
      | refine StoreD.st 5 rfl rfl rfl ?_
      | refine CmpD.yes rfl ?_
      | refine CmpD.yes (by decide) ?_
      | refine CmpD.no (by decide) ?_
      | refine Chk.mk ⟨rfl, trivial⟩ ?_
      | refine Chk.mk ⟨rfl, rfl, trivial⟩ ?_
      | refine Chk.mk ⟨rfl, rfl, rfl, trivial⟩ ?_
      | refine Chk.mk ⟨rfl, rfl, rfl, rfl, trivial⟩ ?_
      | refine Chk.mk ⟨rfl, rfl, rfl, rfl, rfl, trivial⟩ ?_
      | refine Chk.mk ⟨rfl, rfl, rfl, rfl, rfl, rfl, trivial⟩ ?_)
    refine Chk.mk (by first | (show (i : Int) ≠ 0; omega) | (show (k : Int) ≠ 0; omega)) ?_
    refine ToD.to _ (tmod_nat _ _) ?_
    repeat (first
      | refine LoadD.own 0 rfl _ rfl rfl ?_
      | refine LoadD.own 1 rfl _ rfl rfl ?_
      | refine LoadD.own 2 rfl _ rfl rfl ?_
      | refine LoadD.own 3 rfl _ rfl rfl ?_
      | refine LoadD.own 4 rfl _ rfl rfl ?_
      | refine LoadD.own 5 rfl _ rfl rfl ?_
      | refine LoadP.at 0 rfl _ rfl rfl ?_
      | refine LoadP.at 1 rfl _ rfl rfl ?_
      | refine LoadP.at 2 rfl _ rfl rfl ?_
      | refine LoadP.at 3 rfl _ rfl rfl ?_
      | refine LoadP.at 4 rfl _ rfl rfl ?_
      | refine LoadP.at 5 rfl _ rfl rfl ?_
      | refine StoreD.st 0 rfl rfl rfl ?_
      | refine StoreD.st 1 rfl rfl rfl ?_
      | refine StoreD.st 2 rfl rfl rfl ?_
      | refine StoreD.st 3 rfl rfl rfl ?_
      | refine StoreD.st 4 rfl rfl rfl ?_
      | refine StoreD.st 5 rfl rfl rfl ?_
      | refine CmpD.yes rfl ?_
      | refine CmpD.yes (by decide) ?_
      | refine CmpD.no (by decide) ?_
      | refine Chk.mk ⟨rfl, trivial⟩ ?_
      | refine Chk.mk ⟨rfl, rfl, trivial⟩ ?_
      | refine Chk.mk ⟨rfl, rfl, rfl, trivial⟩ ?_
      | refine Chk.mk ⟨rfl, rfl, rfl, rfl, trivial⟩ ?_
      | refine Chk.mk ⟨rfl, rfl, rfl, rfl, rfl, trivial⟩ ?_
      | refine Chk.mk ⟨rfl, rfl, rfl, rfl, rfl, rfl, trivial⟩ ?_)
    exact Done.mk ⟨[chO], Drop.pick [4] _ rfl, fin _ _ _ _ _ hO hgl hacc (scanK_stop fun e s l hg => by rw [hno] at hg; cases hg)⟩
  · obtain ⟨l', q1, q2, q3⟩ := grpP_hd hso
    rw [hd, Option.some.injEq] at q1
    cases q1
    have hgil : gsI.length = l.length := by rw [← q2.symm.trans rfl, ← hgp, List.length_map]
    conv => whnf
    intro b19
    repeat (first
      | refine LoadD.own 0 rfl _ rfl rfl ?_
      | refine LoadD.own 1 rfl _ rfl rfl ?_
      | refine LoadD.own 2 rfl _ rfl rfl ?_
      | refine LoadD.own 3 rfl _ rfl rfl ?_
      | refine LoadD.own 4 rfl _ rfl rfl ?_
      | refine LoadD.own 5 rfl _ rfl rfl ?_
      | refine LoadP.at 0 rfl _ rfl rfl ?_
      | refine LoadP.at 1 rfl _ rfl rfl ?_
      | refine LoadP.at 2 rfl _ rfl rfl ?_
      | refine LoadP.at 3 rfl _ rfl rfl ?_
      | refine LoadP.at 4 rfl _ rfl rfl ?_
      | refine LoadP.at 5 rfl _ rfl rfl ?_
      | refine StoreD.st 0 rfl rfl rfl ?_
      | refine StoreD.st 1 rfl rfl rfl ?_
      | refine StoreD.st 2 rfl rfl rfl ?_
      | refine StoreD.st 3 rfl rfl rfl ?_
      | refine StoreD.st 4 rfl rfl rfl ?_
      | refine StoreD.st 5 rfl rfl rfl ?_
      | refine CmpD.yes rfl ?_
      | refine CmpD.yes (by decide) ?_
      | refine CmpD.no (by decide) ?_
      | refine Chk.mk ⟨rfl, trivial⟩ ?_
      | refine Chk.mk ⟨rfl, rfl, trivial⟩ ?_
      | refine Chk.mk ⟨rfl, rfl, rfl, trivial⟩ ?_
      | refine Chk.mk ⟨rfl, rfl, rfl, rfl, trivial⟩ ?_
      | refine Chk.mk ⟨rfl, rfl, rfl, rfl, rfl, trivial⟩ ?_
      | refine Chk.mk ⟨rfl, rfl, rfl, rfl, rfl, rfl, trivial⟩ ?_)
    conv => whnf
    intro bN
    refine appendD tabOk rfl rfl rfl rfl rfl rfl rfl 4 rfl hO (SrcOk.slice (n := 1) (news := grpCells [⟨e, sq, aI, capI, gsI⟩]) tabOk rfl ((OwnC.whole (len := 1) (size := 3) rfl).slC 6 rfl) (by intro v hv; simp [grpCells] at hv; rcases hv with rfl | rfl | rfl <;> rfl)) rfl (by show (gl.length + 1) * 40 ≤ _; omega) (by omega) ?_
    intro a2 cap2 ch2 hO2
    repeat (first
      | refine LoadD.own 0 rfl _ rfl rfl ?_
      | refine LoadD.own 1 rfl _ rfl rfl ?_
      | refine LoadD.own 2 rfl _ rfl rfl ?_
      | refine LoadD.own 3 rfl _ rfl rfl ?_
      | refine LoadD.own 4 rfl _ rfl rfl ?_
      | refine LoadD.own 5 rfl _ rfl rfl ?_
      | refine LoadP.at 0 rfl _ rfl rfl ?_
      | refine LoadP.at 1 rfl _ rfl rfl ?_
      | refine LoadP.at 2 rfl _ rfl rfl ?_
      | refine LoadP.at 3 rfl _ rfl rfl ?_
      | refine LoadP.at 4 rfl _ rfl rfl ?_
      | refine LoadP.at 5 rfl _ rfl rfl ?_
      | refine StoreD.st 0 rfl rfl rfl ?_
      | refine StoreD.st 1 rfl rfl rfl ?_
      | refine StoreD.st 2 rfl rfl rfl ?_
      | refine StoreD.st 3 rfl rfl rfl ?_
      | refine StoreD.st 4 rfl rfl rfl ?_
      | refine StoreD.st 5 rfl rfl rfl ?_
      | refine CmpD.yes rfl ?_
      | refine CmpD.yes (by decide) ?_
      | refine CmpD.no (by decide) ?_
      | refine Chk.mk ⟨rfl, trivial⟩ ?_
      | refine Chk.mk ⟨rfl, rfl, trivial⟩ ?_
      | refine Chk.mk ⟨rfl, rfl, rfl, trivial⟩ ?_
      | refine Chk.mk ⟨rfl, rfl, rfl, rfl, trivial⟩ ?_
      | refine Chk.mk ⟨rfl, rfl, rfl, rfl, rfl, trivial⟩ ?_
      | refine Chk.mk ⟨rfl, rfl, rfl, rfl, rfl, rfl, trivial⟩ ?_)
    refine ToD.to ((k + l.length : Nat) : Int) (by rw [wrap_i64 (by omega) (by omega)]; omega) ?_
    refine ToD.to ((k + l.length + 1 : Nat) : Int) (by rw [wrap_i64 (by omega) (by omega)]; omega) ?_
    have hll3 : (gl ++ [⟨e, sq, aI, capI, gsI⟩] : List Grp).length = gl.length + 1 := by simp
    refine ⟨_, Drop.pick [0, 1, 2, 3, 4] _ rfl, ⟨k + l.length + 1, a2, cap2, ch2, gl ++ [⟨e, sq, aI, capI, gsI⟩], acc ++ [(e, sq, l2)], by omega, by simp; omega, ?_, ⟨?_, ?_⟩, ⟨?_, ?_⟩, Imm.le_trans hle hJ2, ?_, rfl⟩, ?_⟩
    · rw [hll3, grpCells_snoc]; exact hO2
    · intro g hg
      rcases List.mem_append.1 hg with hg | hg
      · exact (hgl.mono hJ2).each g hg
      · simp only [List.mem_singleton] at hg
        subst hg
        exact hgs
    · rw [List.map_append, List.map_append, hgl.g3, List.map_singleton, List.map_singleton]
      show _ ++ [((e : Int), (sq : Int), gsI.map Img.pr)] = _
      rw [hgp]; rfl
    · rw [← hacc.1]
      obtain ⟨f, hf⟩ : ∃ f, i + 1 - acc.length = f + 1 := ⟨i - acc.length, by omega⟩
      rw [hf, scanK, hso]
      dsimp only
      rw [if_pos ⟨d2, by omega⟩, List.append_assoc, List.length_append, List.length_singleton, List.singleton_append]
      rw [show i + 1 - (acc.length + 1) = f by omega, show tail + (k + l.length + 1) = tail + k + (l2.length + 1) by omega, show i - (k + l.length + 1) = i - k - (l2.length + 1) by omega, show s3 + ((acc.length + 1 : Nat) : Int) = s3 + acc.length + 1 by omega]
    · rw [List.map_append, List.sum_append, ← hacc.2]
      simp; omega
    · rw [hll3]; rfl
    · show ((i : Int) - ((k + l.length + 1 : Nat) : Int)).toNat < ((i : Int) - k).toNat; omega
end Go.Proofs.Ytbpdbgcndfcilaa
namespace Go.Proofs.Ytbpdbgcndfcilaa
open Go.RowKit Go.Sl
set_option maxRecDepth 20000

theorem fresh_calm (l : List Dat) : (DSt.of l).Calm := ⟨rfl, rfl, rfl⟩
theorem JSt.Wf.append {j : JSt} (hj : j.Wf) {d : DSt} {l : List PImg} {held : Bool} (h8 : j.groups.length ≤ 999999) : (j.appendB d l held).1.Wf := by
  have hr := hj.ring
  unfold JSt.appendB JSt.append
  split
  · exact hj
  split
  · exact hj
  rename_i hR
  have hR : RightP j.epoch j.next l := Decidable.of_not_not hR
  split
  · exact hj
  generalize hp : putS j.s j.t j.u j.h (l.length + 1) (if held then l.length + 1 else 0) = q
  obtain ⟨⟨s, t, u, h, e⟩, at_⟩ := q
  dsimp only
  split
  · exact hj
  rename_i he
  have he : e = 0 := Decidable.of_not_not he
  obtain ⟨e1, e2, h3, _, _⟩ := putS_mid hr hp he
  have hn := hj.next
  have hs := hj.synced
  have hl := hR.2.2.2.2.2.1
  have hs2 := hR.2.2.2.1
  generalize wrAll (fun i => j.lay.l + (at_ + i) % s) (putP j.epoch.toNat j.next.toNat l) 0 d = q
  obtain ⟨d', e'⟩ := q
  dsimp only
  split
  · exact ⟨hj.log, h3, hj.epoch, hj.next, hj.synced, hj.few, hj.groups⟩
  · refine ⟨hj.log, h3, hj.epoch, ?_, ?_, ?_, ?_⟩
    · show 1 ≤ j.next + 1 ∧ j.next + 1 ≤ _; omega
    · show 0 ≤ j.synced ∧ j.synced < j.next + 1; omega
    · show (j.groups ++ [_]).length ≤ _; simp; omega
    · intro g hg
      rcases List.mem_append.1 hg with hg | hg
      · exact hj.groups g hg
      · simp only [List.mem_singleton] at hg
        subst hg
        unfold In64; dsimp only; omega
/-- a group that fits is appended: what the journal is then -/
theorem JSt.append_next {j : JSt} (hj : j.Wf) (h8 : j.groups.length ≤ 999999) {d : DSt} {l : List PImg} {held : Bool} (hb : j.broken = false) (hR : RightP j.epoch j.next l) (hs : (l.length : Int) + 1 ≤ j.s) (hd : d.Calm) (hlen : j.s + 2 ≤ d.now.length)
    {t u h at_ : Int} (hp : putS j.s j.t j.u j.h (l.length + 1) (if held then l.length + 1 else 0) = ((j.s, t, u, h, 0), at_)) :
    ∃ j', j.appendB d l held = (j', wrD (fun i => 2 + (at_ + i) % j.s) (putP j.epoch.toNat j.next.toNat l) 0 d, j.next, 0) ∧ j'.lay = j.lay ∧ j'.s = j.s ∧ j'.t = t ∧ j'.u = u ∧ j'.h = h ∧ j'.epoch = j.epoch ∧ j'.next = j.next + 1 ∧ j'.synced = j.synced ∧ j'.groups = j.groups ++ [(j.next, (l.length + 1 : Int))] ∧ j'.broken = false ∧ j'.Wf := by
  have e := JSt.append_calm hb hR hs hj.log hd hlen hp
  have w := hj.append (d := d) (l := l) (held := held) h8
  rw [e] at w
  exact ⟨_, e, rfl, rfl, rfl, rfl, rfl, rfl, rfl, rfl, rfl, hb, w⟩
end Go.Proofs.Ytbpdbgcndfcilaa
namespace Go.Proofs.Ytbpdbgcndfcilaa
open Go.RowKit Go.Sl
set_option maxRecDepth 20000

end Go.Proofs.Ytbpdbgcndfcilaa
namespace Go.Proofs.Ytbpdbgcndfcilaa
open Go.RowKit Go.Sl

def pickS (n m : Int) : Int := if m ≤ 0 then 0 else n % m
theorem pickS_range {n m : Int} (h : 0 < m) : 0 ≤ pickS n m ∧ pickS n m < m := by
  unfold pickS
  rw [if_neg (by omega)]
  exact ⟨Int.emod_nonneg _ (by omega), Int.emod_lt_of_pos _ h⟩
theorem emod_of_tmod (n m : Int) (hm : 0 < m) : n % m = if n.tmod m < 0 then n.tmod m + m else n.tmod m := by
  have h1 : n = m * n.tdiv m + n.tmod m := (Int.mul_tdiv_add_tmod n m).symm
  have h2 := Int.tmod_lt_of_pos n hm
  have h3 : -m < n.tmod m := by
    have h4 := Int.tmod_lt_of_pos (-n) hm
    rw [Int.neg_tmod] at h4; omega
  split
  · have e : n = (n.tmod m + m) + m * (n.tdiv m - 1) := by
      conv => lhs; rw [h1]
      rw [Int.mul_sub]; omega
    conv => lhs; rw [e]
    rw [Int.add_mul_emod_self_left, Int.emod_eq_of_lt (by omega) (by omega)]
  · have e : n = n.tmod m + m * n.tdiv m := by omega
    conv => lhs; rw [e]
    rw [Int.add_mul_emod_self_left, Int.emod_eq_of_lt (by omega) (by omega)]
theorem low_Pick (n m : Int) (I : Imm) (_hn : In64 n) (hm : In64 m) : Tri Try.prog 35 #[.int .i64 n, .int .i64 m] I [] fun v J _ => v = .int .i64 (pickS n m) ∧ I = J := by
  unfold In64 at *
  refine Tri.of (args := [.int .i64 n, .int .i64 m]) tabOk Try.func35 rfl (by kernel_rfl) (by kernel_rfl) ?_
  refine CmpD.split (fun c => ?_) (fun c => ?_)
  · refine Done.mk ⟨?_, rfl⟩
    rw [pickS, if_pos c]; rfl
  have h2 := Int.tmod_lt_of_pos n (show 0 < m by omega)
  have h3 : -m < n.tmod m := by
    have h4 := Int.tmod_lt_of_pos (-n) (show 0 < m by omega)
    rw [Int.neg_tmod] at h4; omega
  have e := emod_of_tmod n m (by omega)
  refine Chk.mk (by omega) ?_
  refine ToD.to (n.tmod m) rfl ?_
  refine CmpD.split (fun c2 => ?_) (fun c2 => ?_)
  · refine ToD.i64 (by omega) (by omega) ?_
    refine Done.mk ⟨?_, rfl⟩
    rw [pickS, if_neg c, e, if_pos c2]; rfl
  · refine Done.mk ⟨?_, rfl⟩
    rw [pickS, if_neg c, e, if_neg c2]; rfl
end Go.Proofs.Ytbpdbgcndfcilaa
namespace Go.Proofs.Ytbpdbgcndfcilaa
open Go.RowKit Go.Sl
set_option maxRecDepth 20000

def im9 (n : Nat) (seed : Int) : List PImg := (List.range n).map fun (i : Nat) => (30 + (i : Int), madeL (IntKind.i64.wrap (seed + (i : Int))) 4096)
theorem im9_length (n : Nat) (seed : Int) : (im9 n seed).length = n := by simp [im9]
theorem im9_succ (n : Nat) (seed : Int) : im9 (n + 1) seed = im9 n seed ++ [(30 + (n : Int), madeL (IntKind.i64.wrap (seed + (n : Int))) 4096)] := by simp [im9, List.range_succ]
theorem im9_right {e s : Int} (h1 : 1 ≤ e ∧ e ≤ 8388608) (h2 : 1 ≤ s ∧ s ≤ 549755813888) (n : Nat) (hn : 1 ≤ n ∧ n ≤ 32) (seed : Int) : RightP e s (im9 n seed) := by
  refine ⟨h1.1, h1.2, h2.1, h2.2, by rw [im9_length]; omega, by rw [im9_length]; omega, ?_, ?_⟩
  · intro g hg
    unfold im9 at hg
    obtain ⟨i, hi, rfl⟩ := List.mem_map.1 hg
    have := List.mem_range.1 hi
    exact ⟨by show (0 : Int) ≤ 30 + (i : Int); omega, by show 30 + (i : Int) < 512; omega, madeL_length _ _⟩
  · unfold im9
    rw [List.map_map, List.nodup_iff_pairwise_ne, List.pairwise_map]
    refine List.Pairwise.imp ?_ List.nodup_range
    intro a b hab he
    have he : 30 + (a : Int) = 30 + (b : Int) := he
    exact hab (by omega)
theorem images9 (n : Nat) (hn : n ≤ 40) (seed : Int) (I : Imm) : Tri Try.prog 92 #[.int .i64 n, .int .i64 seed] I [] fun v J _ => ∃ a cap gs, v = .slice a gs.length cap ∧ ImgsOk J a gs ∧ gs.map Img.pr = im9 n seed := by
  refine Tri.fixed (Q := fun v J S' => ∃ (a : Option Addr) (cap : Nat) (ch : List Blk) (gs : List Img), v = .slice a gs.length cap ∧ OwnC ch 2 a gs.length cap (imgCells gs) ∧ (∀ g ∈ gs, ImgOk J g) ∧ gs.map Img.pr = im9 n seed ∧ S' = [ch]) ?_ ?_
  rotate_left
  · rintro v J S' hJ ⟨a, cap, ch, gs, rfl, hO, hok, hp, rfl⟩
    exact ⟨0, ch, rfl, fun J' hJ' hm => ⟨a, cap, gs, rfl, ⟨Rds.of_ownS hO hm, fun g hg => (hok g hg).mono hJ'⟩, hp⟩⟩
  refine Tri.of (args := [.int .i64 n, .int .i64 seed]) tabOk Try.func92 rfl (by kernel_rfl) (by kernel_rfl) ?_
  refine CodeF.loopD [0, 1, 5, 6] (fun vs J S' => ∃ (i : Nat) (a : Option Addr) (cap : Nat) (ch : List Blk) (gs : List Img), i ≤ n ∧ OwnC ch 2 a i cap (imgCells gs) ∧ gs.length = i ∧ gs.map Img.pr = im9 i seed ∧ (∀ g ∈ gs, ImgOk J g) ∧ I.le J ∧
      vs = [.int .i64 n, .int .i64 seed, .slice a i cap, .int .i64 i] ∧ S' = [ch])
    (fun vs _ _ => match vs with | [_, _, _, .int _ i] => ((n : Int) - i).toNat | _ => 0) ?_ ?_
  · exact ⟨_, Drop.and (Drop.refl _), 0, none, 0, [], [], by omega, OwnC.nil _ _, rfl, rfl, by simp, I.le_refl, rfl, rfl⟩
  rintro vs g J S' hJ ⟨i, a, cap, ch, gs, hi, hO, hgl, hgp, hok, hle, rfl, rfl⟩
  refine CmpD.split (fun c1 => ?_) (fun c1 => ?_)
  · refine ToD.i64 (by omega) (by omega) ?_
    refine ToD.keep ?_
    refine Tri.free (made (IntKind.i64.wrap (seed + (i : Int))) 4096 (by omega) J) ?_
    rintro v J1 _ hJ1 ⟨aD, rfl, hrD⟩
    conv => whnf
    intro bN
    refine appendD tabOk rfl rfl rfl rfl rfl rfl rfl 0 rfl hO (SrcOk.slice (n := 1) (news := imgCells [⟨30 + (i : Int), aD, 4096, 4096, madeL (IntKind.i64.wrap (seed + (i : Int))) 4096⟩]) tabOk rfl ((OwnC.whole (len := 1) (size := 2) rfl).slC 1 rfl) (by intro v hv; simp [imgCells] at hv; rcases hv with rfl | rfl <;> rfl)) rfl (by show (i + 1) * 32 ≤ _; omega) (by omega) ?_
    intro a2 cap2 ch2 hO2
    refine ToD.i64 (by omega) (by omega) ?_
    refine ⟨_, Drop.pick [0] _ rfl, ⟨i + 1, a2, cap2, ch2, gs ++ [⟨30 + (i : Int), aD, 4096, 4096, madeL (IntKind.i64.wrap (seed + (i : Int))) 4096⟩], by omega, by rw [imgCells_snoc]; exact hO2, by simp [hgl], by rw [List.map_append, hgp, im9_succ]; rfl, ?_, Imm.le_trans hle hJ1, rfl, rfl⟩, ?_⟩
    · intro y hy
      rcases List.mem_append.1 hy with hy | hy
      · exact (hok y hy).mono hJ1
      · simp only [List.mem_singleton] at hy
        subst hy
        exact ⟨by show In64 (30 + (i : Int)); unfold In64; omega, hrD⟩
    · show ((n : Int) - ((i : Int) + 1)).toNat < ((n : Int) - (i : Int)).toNat; omega
  · obtain rfl : i = n := by omega
    exact Done.mk ⟨a, cap, ch, gs, by rw [hgl]; rfl, by rw [hgl]; exact hO, hok, hgp, rfl⟩
theorem layout9 (I : Imm) : Tri Try.prog 37 #[] I [] fun v J _ => v = (layOf 64).v ∧ I = J := by
  refine Tri.of (args := []) tabOk Try.func37 rfl (by kernel_rfl) (by kernel_rfl) ?_
  conv => whnf
  intro b0
  refine Tri.free (ref_Of 64 I) ?_
  rintro v J _ hJ ⟨rfl, rfl⟩
  rw [layA, if_neg (by omega)]
  conv => whnf
  intro b1
  repeat (first
    | refine LoadD.own 0 rfl _ rfl rfl ?_
    | refine LoadD.own 1 rfl _ rfl rfl ?_
    | refine LoadD.own 2 rfl _ rfl rfl ?_
    | refine LoadP.at 0 rfl _ rfl rfl ?_
    | refine LoadP.at 1 rfl _ rfl rfl ?_
    | refine LoadP.at 2 rfl _ rfl rfl ?_
    | refine StoreD.st 0 rfl rfl rfl ?_
    | refine StoreD.st 1 rfl rfl rfl ?_
    | refine StoreD.st 2 rfl rfl rfl ?_
    | refine CmpD.yes rfl ?_
    | refine CmpD.yes (by decide) ?_
    | refine CmpD.no (by decide) ?_
    | refine Chk.mk ⟨rfl, trivial⟩ ?_
    | refine Chk.mk ⟨rfl, rfl, trivial⟩ ?_
    | refine Chk.mk ⟨rfl, rfl, rfl, trivial⟩ ?_
    | refine Chk.mk ⟨rfl, rfl, rfl, rfl, trivial⟩ ?_
    | refine Chk.mk ⟨rfl, rfl, rfl, rfl, rfl, trivial⟩ ?_
    | refine Chk.mk ⟨rfl, rfl, rfl, rfl, rfl, rfl, trivial⟩ ?_)
  exact Done.mk ⟨rfl, rfl⟩
/-! ### written -/
def wrtStep (j : JSt) (d : DSt) (all : List (List PImg)) (sz : Int) : JSt × DSt × List (List PImg) :=
  ((j.appendB d (im9 (1 + pickS sz 5).toNat sz) false).1, (j.appendB d (im9 (1 + pickS sz 5).toNat sz) false).2.1, if (j.appendB d (im9 (1 + pickS sz 5).toNat sz) false).2.2.2 = 0 then all ++ [im9 (1 + pickS sz 5).toNat sz] else all)
def wrtK (x : JSt × DSt × List (List PImg)) (l : List Int) : JSt × DSt × List (List PImg) := l.foldl (fun y z => wrtStep y.1 y.2.1 y.2.2 z) x
def wrt0 (epoch tail : Int) : JSt × DSt × List (List PImg) := (openJ 64 epoch 1 tail, DSt.of (List.replicate 64 noughts), [])
def wrtP (epoch tail : Int) (l : List Int) : JSt × DSt × List (List PImg) := wrtK (wrt0 epoch tail) (l.take 12)
/-- images, told as lists of lists -/
structure Ims where
  a : Option Addr
  cap : Nat
  gs : List Img
@[reducible] def Ims.cell (m : Ims) : Value := .slice m.a m.gs.length m.cap
def Ims.pr (m : Ims) : List PImg := m.gs.map Img.pr
end Go.Proofs.Ytbpdbgcndfcilaa

/- Texts of this claim laid together: Home2, SameImgs, Awake10, LowPick, ReplaySpares. -/
import Derived.Test.YtbpdbgcndfcilaaBReplaySpares3
import Derived.Test.YtbpdbgcndfcilaaBReplaySpares1
import Derived.Test.YtbpdbgcndfcilaaBReplaySpares2
namespace Go.Proofs.Ytbpdbgcndfcilaa
open Go.RowKit Go.Sl
set_option maxRecDepth 20000

def OwnImgs : List (List Blk) → List Img → Prop
  | [], [] => True
  | c :: cs, g :: gs => OwnB c g.a g.len g.cap g.data ∧ OwnImgs cs gs
  | _, _ => False
theorem OwnImgs.snoc : ∀ {cs : List (List Blk)} {gs : List Img} {c : List Blk} {g : Img}, OwnImgs cs gs → OwnB c g.a g.len g.cap g.data → OwnImgs (cs ++ [c]) (gs ++ [g])
  | [], [], _, _, _, h => ⟨h, trivial⟩
  | _ :: _, _ :: _, _, _, h, k => ⟨h.1, OwnImgs.snoc h.2 k⟩
  | [], _ :: _, _, _, h, _ => h.elim
  | _ :: _, [], _, _, h, _ => h.elim
theorem lookup_both : ∀ (ms : List Img) (n : Int), n ∈ ms.map Img.blk → ∃ g ∈ ms, g.blk = n ∧ mget (ms.map hdr) n = some (.slice g.a g.len g.cap) ∧ (ms.map Img.pr).lookup n = some g.data
  | [], n, h => by simp at h
  | x :: ms, n, h => by
    by_cases hx : n = x.blk
    · refine ⟨x, by simp, hx.symm, ?_, ?_⟩
      · unfold mget
        rw [List.map_cons, hdr, List.lookup_cons, show (n == x.blk) = true by simpa using hx]
      · rw [List.map_cons, Img.pr, List.lookup_cons, show (n == x.blk) = true by simpa using hx]
    · have hn : n ∈ ms.map Img.blk := by
        rw [List.map_cons] at h
        rcases List.mem_cons.1 h with h | h
        · exact absurd h hx
        · exact h
      obtain ⟨g, hg, h1, h2, h3⟩ := lookup_both ms n hn
      have hb : (n == x.blk) = false := by simpa using hx
      refine ⟨g, by simp [hg], h1, ?_, ?_⟩
      · unfold mget at h2 ⊢
        rw [List.map_cons, hdr, List.lookup_cons, hb]; exact h2
      · rw [List.map_cons, Img.pr, List.lookup_cons, hb]; exact h3
def allI (l : List Grp) : List Img := l.flatMap Grp.gs
def allP (l : List Grp) : List PImg := l.flatMap fun g => g.gs.map Img.pr
theorem allP_eq (l : List Grp) : allP l = (allI l).map Img.pr := by unfold allP allI; rw [List.map_flatMap]
theorem foldl_pr (l : List Img) : ∀ ms : List Img, (l.foldl iput ms).map Img.pr = (l.map Img.pr).foldl pput (ms.map Img.pr) := by
  induction l with
  | nil => intro ms; rfl
  | cons g l ih => intro ms; rw [List.foldl_cons, ih, iput_pr, List.map_cons, List.foldl_cons]
theorem fold_mem : ∀ (l ms : List Img), ∀ x ∈ l.foldl iput ms, x ∈ l ∨ x ∈ ms
  | [], ms, x, h => .inr h
  | g :: l, ms, x, h => by
    rcases fold_mem l (iput ms g) x h with h | h
    · exact .inl (by simp [h])
    · rcases iput_mem h with rfl | h
      · exact .inl (by simp)
      · exact .inr h
theorem fold_len : ∀ (l ms : List Img), (l.foldl iput ms).length ≤ ms.length + l.length
  | [], ms => by simp
  | g :: l, ms => by
    have h1 := fold_len l (iput ms g)
    have h2 := iput_len ms g
    rw [List.foldl_cons, List.length_cons]; omega
@[reducible] def layBox (b : Nat) (x : Lay) : List Blk := [(b, row x.vals 25)]
set_option maxHeartbeats 8000000 in
theorem home_one (c0 : List Blk) {I : Imm} {aG : Option Addr} {capG : Nat} {l : List Grp} (hG : GrpsR I [c0] aG l) (hl : l.length ≤ 1000000) (hall : (allI l).length ≤ 1000000) (hfew : ∀ g ∈ allI l, g.len ≤ 100000000) (x : Lay) :
    Tri Try.prog 50 #[x.v, .slice aG l.length capG] I [c0] fun v _ S' =>
      ((¬ (64 ≤ x.b ∧ x.b ≤ 512 ∧ x = layOf x.b.toNat) ∧ v = .tuple #[.slice none 0 0, .int .i64 2] ∧ S' = [c0]) ∨
       ((64 ≤ x.b ∧ x.b ≤ 512 ∧ x = layOf x.b.toNat) ∧ ¬ HomeOk x (allP l) ∧ v = .tuple #[.slice none 0 0, .int .i64 90] ∧ S' = [c0]) ∨
       ((64 ≤ x.b ∧ x.b ≤ 512 ∧ x = layOf x.b.toNat) ∧ HomeOk x (allP l) ∧ ∃ (aO : Option Addr) (capO : Nat) (chO : List Blk) (chs : List (List Blk)) (outs : List Img), v = .tuple #[.slice aO outs.length capO, .int .i64 0] ∧ OwnC chO 2 aO outs.length capO (imgCells outs) ∧ OwnImgs chs outs ∧ outs.map Img.pr = homeP (allP l) ∧ S' = c0 :: chO :: chs)) := by
  refine Tri.drop ?_ (fun _ _ _ _ h => h)
  refine Tri.of (args := [x.v, .slice aG l.length capG]) tabOk Try.func50 rfl (by kernel_rfl) (by kernel_rfl) ?_
  conv => whnf
  intro bl
  repeat (first
    | refine LoadD.own 0 rfl _ rfl rfl ?_
    | refine LoadD.own 1 rfl _ rfl rfl ?_
    | refine LoadP.at 0 rfl _ rfl rfl ?_
    | refine LoadP.at 1 rfl _ rfl rfl ?_
    | refine StoreD.st 0 rfl rfl rfl ?_
    | refine StoreD.st 1 rfl rfl rfl ?_
    | refine CmpD.yes rfl ?_
    | refine CmpD.yes (by decide) ?_
    | refine CmpD.no (by decide) ?_
    | refine Chk.mk ⟨rfl, trivial⟩ ?_
    | refine Chk.mk ⟨rfl, rfl, trivial⟩ ?_
    | refine Chk.mk ⟨rfl, rfl, rfl, trivial⟩ ?_
    | refine Chk.mk ⟨rfl, rfl, rfl, rfl, trivial⟩ ?_
    | refine Chk.mk ⟨rfl, rfl, rfl, rfl, rfl, trivial⟩ ?_
    | refine Chk.mk ⟨rfl, rfl, rfl, rfl, rfl, rfl, trivial⟩ ?_)
  refine Tri.free (layout_Of x.b I) ?_
  rintro v J _ hJ ⟨rfl, rfl⟩
  by_cases hb : x.b < 64 ∨ 512 < x.b
  · rw [layA, if_pos hb]
    conv => whnf
    intro b6
    repeat (first
      | refine LoadD.own 0 rfl _ rfl rfl ?_
      | refine LoadD.own 1 rfl _ rfl rfl ?_
      | refine LoadD.own 2 rfl _ rfl rfl ?_
      | refine LoadP.at 0 rfl _ rfl rfl ?_
      | refine LoadP.at 1 rfl _ rfl rfl ?_
      | refine LoadP.at 2 rfl _ rfl rfl ?_
      | refine StoreD.st 0 rfl rfl rfl ?_
      | refine StoreD.st 1 rfl rfl rfl ?_
      | refine StoreD.st 2 rfl rfl rfl ?_
      | refine CmpD.yes rfl ?_
      | refine CmpD.yes (by decide) ?_
      | refine CmpD.no (by decide) ?_
      | refine Chk.mk ⟨rfl, trivial⟩ ?_
      | refine Chk.mk ⟨rfl, rfl, trivial⟩ ?_
      | refine Chk.mk ⟨rfl, rfl, rfl, trivial⟩ ?_
      | refine Chk.mk ⟨rfl, rfl, rfl, rfl, trivial⟩ ?_
      | refine Chk.mk ⟨rfl, rfl, rfl, rfl, rfl, trivial⟩ ?_
      | refine Chk.mk ⟨rfl, rfl, rfl, rfl, rfl, rfl, trivial⟩ ?_)
    exact Done.mk ⟨[c0], Drop.pick [0] _ rfl, .inl ⟨by omega, rfl, rfl⟩⟩
  rw [layA, if_neg hb]
  conv => whnf
  intro b6
  repeat (first
    | refine LoadD.own 0 rfl _ rfl rfl ?_
    | refine LoadD.own 1 rfl _ rfl rfl ?_
    | refine LoadD.own 2 rfl _ rfl rfl ?_
    | refine LoadP.at 0 rfl _ rfl rfl ?_
    | refine LoadP.at 1 rfl _ rfl rfl ?_
    | refine LoadP.at 2 rfl _ rfl rfl ?_
    | refine StoreD.st 0 rfl rfl rfl ?_
    | refine StoreD.st 1 rfl rfl rfl ?_
    | refine StoreD.st 2 rfl rfl rfl ?_
    | refine CmpD.yes rfl ?_
    | refine CmpD.yes (by decide) ?_
    | refine CmpD.no (by decide) ?_
    | refine Chk.mk ⟨rfl, trivial⟩ ?_
    | refine Chk.mk ⟨rfl, rfl, trivial⟩ ?_
    | refine Chk.mk ⟨rfl, rfl, rfl, trivial⟩ ?_
    | refine Chk.mk ⟨rfl, rfl, rfl, rfl, trivial⟩ ?_
    | refine Chk.mk ⟨rfl, rfl, rfl, rfl, rfl, trivial⟩ ?_
    | refine Chk.mk ⟨rfl, rfl, rfl, rfl, rfl, rfl, trivial⟩ ?_)
  refine lay_cmp (layOf x.b.toNat) x rfl (.inr rfl) ?_ ?_ ?_
  · show Value.agg _ = _
    have hx : ((x.b.toNat : Nat) : Int) = x.b := by omega
    unfold layOf
    rw [hx]; rfl
  · rfl
  refine CmpD.split (fun c1 => ?_) (fun c1 => ?_)
  rotate_left
  · repeat (first
      | refine LoadD.own 0 rfl _ rfl rfl ?_
      | refine LoadD.own 1 rfl _ rfl rfl ?_
      | refine LoadD.own 2 rfl _ rfl rfl ?_
      | refine LoadP.at 0 rfl _ rfl rfl ?_
      | refine LoadP.at 1 rfl _ rfl rfl ?_
      | refine LoadP.at 2 rfl _ rfl rfl ?_
      | refine StoreD.st 0 rfl rfl rfl ?_
      | refine StoreD.st 1 rfl rfl rfl ?_
      | refine StoreD.st 2 rfl rfl rfl ?_
      | refine CmpD.yes rfl ?_
      | refine CmpD.yes (by decide) ?_
      | refine CmpD.no (by decide) ?_
      | refine Chk.mk ⟨rfl, trivial⟩ ?_
      | refine Chk.mk ⟨rfl, rfl, trivial⟩ ?_
      | refine Chk.mk ⟨rfl, rfl, rfl, trivial⟩ ?_
      | refine Chk.mk ⟨rfl, rfl, rfl, rfl, trivial⟩ ?_
      | refine Chk.mk ⟨rfl, rfl, rfl, rfl, rfl, trivial⟩ ?_
      | refine Chk.mk ⟨rfl, rfl, rfl, rfl, rfl, rfl, trivial⟩ ?_)
    refine Done.mk ⟨[c0], Drop.pick [0] _ rfl, .inl ⟨fun h => c1 ?_, rfl, rfl⟩⟩
    rw [← h.2.2]
  have hx : x = layOf x.b.toNat := by
    simp only [List.cons.injEq, and_true] at c1
    obtain ⟨q1, q2, q3, q4, q5, q6, q7⟩ := c1
    obtain ⟨x1, x2, x3, x4, x5, x6, x7⟩ := x
    dsimp only at q1 q2 q3 q4 q5 q6 q7 ⊢
    rw [Lay.mk.injEq]
    exact ⟨q1.symm, q2.symm, q3.symm, q4.symm, q5.symm, q6.symm, q7.symm⟩
  have hX : 64 ≤ x.b ∧ x.b ≤ 512 ∧ x = layOf x.b.toNat := ⟨by omega, by omega, hx⟩
  repeat (first
    | refine LoadD.own 0 rfl _ rfl rfl ?_
    | refine LoadD.own 1 rfl _ rfl rfl ?_
    | refine LoadD.own 2 rfl _ rfl rfl ?_
    | refine LoadP.at 0 rfl _ rfl rfl ?_
    | refine LoadP.at 1 rfl _ rfl rfl ?_
    | refine LoadP.at 2 rfl _ rfl rfl ?_
    | refine StoreD.st 0 rfl rfl rfl ?_
    | refine StoreD.st 1 rfl rfl rfl ?_
    | refine StoreD.st 2 rfl rfl rfl ?_
    | refine CmpD.yes rfl ?_
    | refine CmpD.yes (by decide) ?_
    | refine CmpD.no (by decide) ?_
    | refine Chk.mk ⟨rfl, trivial⟩ ?_
    | refine Chk.mk ⟨rfl, rfl, trivial⟩ ?_
    | refine Chk.mk ⟨rfl, rfl, rfl, trivial⟩ ?_
    | refine Chk.mk ⟨rfl, rfl, rfl, rfl, trivial⟩ ?_
    | refine Chk.mk ⟨rfl, rfl, rfl, rfl, rfl, trivial⟩ ?_
    | refine Chk.mk ⟨rfl, rfl, rfl, rfl, rfl, rfl, trivial⟩ ?_)
  refine makeMapD rfl ?_
  intro r
  repeat (first
    | refine LoadD.own 0 rfl _ rfl rfl ?_
    | refine LoadD.own 1 rfl _ rfl rfl ?_
    | refine LoadD.own 2 rfl _ rfl rfl ?_
    | refine LoadP.at 0 rfl _ rfl rfl ?_
    | refine LoadP.at 1 rfl _ rfl rfl ?_
    | refine LoadP.at 2 rfl _ rfl rfl ?_
    | refine StoreD.st 0 rfl rfl rfl ?_
    | refine StoreD.st 1 rfl rfl rfl ?_
    | refine StoreD.st 2 rfl rfl rfl ?_
    | refine CmpD.yes rfl ?_
    | refine CmpD.yes (by decide) ?_
    | refine CmpD.no (by decide) ?_
    | refine Chk.mk ⟨rfl, trivial⟩ ?_
    | refine Chk.mk ⟨rfl, rfl, trivial⟩ ?_
    | refine Chk.mk ⟨rfl, rfl, rfl, trivial⟩ ?_
    | refine Chk.mk ⟨rfl, rfl, rfl, rfl, trivial⟩ ?_
    | refine Chk.mk ⟨rfl, rfl, rfl, rfl, rfl, trivial⟩ ?_
    | refine Chk.mk ⟨rfl, rfl, rfl, rfl, rfl, rfl, trivial⟩ ?_)
  refine CodeF.loopD [2, 8, 30, 31, 32] (fun vs J' S' => ∃ (i : Nat) (ob : Obj), i ≤ l.length ∧ HomeOk x (allP (l.take i)) ∧ MapR ob (((allI (l.take i)).foldl iput []).map hdr) ∧ vs = [.pointer (some ⟨bl, 0, none⟩), .map (some r), .slice aG l.length capG, .int .i64 l.length, .int .i64 i] ∧ I = J' ∧ S' = [c0, layBox bl x, [(r, ob)]])
    (fun vs _ _ => match vs with | [_, _, _, _, .int _ i] => ((l.length : Int) - i).toNat | _ => 0) ?_ ?_
  · exact ⟨_, Drop.pick [0, 1, 3] _ rfl, 0, _, by omega, by intro g hg; simp [allP] at hg, MapR.nil, rfl, rfl, rfl⟩
  rintro vs gE J' S' hJ' ⟨i, ob, hi, hok, hM, rfl, rfl, rfl⟩
  refine CmpD.split (fun c2 => ?_) (fun c2 => ?_)
  · have hil : i < l.length := by omega
    have hg := hG.each _ (List.getElem_mem hil)
    have htk : l.take (i + 1) = l.take i ++ [l[i]] := by rw [List.take_add_one, List.getElem?_eq_getElem hil]; rfl
    rcases (hG.sl.mores [layBox bl x, [(r, ob)]]).mem with h0 | ⟨bg, off, rfl, hc⟩
    · omega
    have hcell := hc.part (i := i * 3) (m := 3) (by omega)
    rw [grpCells_at hil] at hcell
    generalize hgi : l[i] = gi at *
    obtain ⟨hgR, hgl⟩ := hg
    refine Chk.mk (by omega) ?_
    refine LoadD.mk _ hcell ?_
    conv => whnf
    intro b10
    repeat (first
      | refine LoadD.own 0 rfl _ rfl rfl ?_
      | refine LoadD.own 1 rfl _ rfl rfl ?_
      | refine LoadD.own 2 rfl _ rfl rfl ?_
      | refine LoadD.own 3 rfl _ rfl rfl ?_
      | refine LoadP.at 0 rfl _ rfl rfl ?_
      | refine LoadP.at 1 rfl _ rfl rfl ?_
      | refine LoadP.at 2 rfl _ rfl rfl ?_
      | refine LoadP.at 3 rfl _ rfl rfl ?_
      | refine StoreD.st 0 rfl rfl rfl ?_
      | refine StoreD.st 1 rfl rfl rfl ?_
      | refine StoreD.st 2 rfl rfl rfl ?_
      | refine StoreD.st 3 rfl rfl rfl ?_
      | refine CmpD.yes rfl ?_
      | refine CmpD.yes (by decide) ?_
      | refine CmpD.no (by decide) ?_
      | refine Chk.mk ⟨rfl, trivial⟩ ?_
      | refine Chk.mk ⟨rfl, rfl, trivial⟩ ?_
      | refine Chk.mk ⟨rfl, rfl, rfl, trivial⟩ ?_
      | refine Chk.mk ⟨rfl, rfl, rfl, rfl, trivial⟩ ?_
      | refine Chk.mk ⟨rfl, rfl, rfl, rfl, rfl, trivial⟩ ?_
      | refine Chk.mk ⟨rfl, rfl, rfl, rfl, rfl, rfl, trivial⟩ ?_)
    refine CodeF.loopD [2, 8, 30, 31, 32, 37, 38, 39] (fun vs J' S' => ∃ (k : Nat) (ob : Obj), k ≤ gi.gs.length ∧ HomeOk x (allP (l.take i) ++ (gi.gs.take k).map Img.pr) ∧ MapR ob (((allI (l.take i) ++ gi.gs.take k).foldl iput []).map hdr) ∧ vs = [.pointer (some ⟨bl, 0, none⟩), .map (some r), .slice (some ⟨bg, off, none⟩) l.length capG, .int .i64 l.length, .int .i64 i, .slice gi.a gi.gs.length gi.cap, .int .i64 gi.gs.length, .int .i64 k] ∧ I = J' ∧ S' = [c0, layBox bl x, [(r, ob)]])
      (fun vs _ _ => match vs with | [_, _, _, _, _, _, _, .int _ k] => ((gi.gs.length : Int) - k).toNat | _ => 0) ?_ ?_
    · exact ⟨_, Drop.pick [0, 1, 2] _ rfl, 0, ob, by omega, by simpa using hok, by simpa using hM, rfl, rfl, rfl⟩
    rintro vs gE2 J2 S2 hJ2 ⟨k, ob2, hk, hok2, hM2, rfl, rfl, rfl⟩
    refine CmpD.split (fun c3 => ?_) (fun c3 => ?_)
    · have hkl : k < gi.gs.length := by omega
      have him := hgR.each _ (List.getElem_mem hkl)
      have htk2 : gi.gs.take (k + 1) = gi.gs.take k ++ [gi.gs[k]] := by rw [List.take_add_one, List.getElem?_eq_getElem hkl]; rfl
      have hmem : gi.gs[k].pr ∈ allP l := by
        unfold allP
        exact List.mem_flatMap.2 ⟨gi, by rw [← hgi]; exact List.getElem_mem hil, List.mem_map_of_mem (List.getElem_mem hkl)⟩
      rcases (hgR.sl.mores [layBox bl x, [(r, ob2)]]).mem with h0 | ⟨bi, offi, hgia, hci⟩
      · omega
      have hcelli := hci.part (i := k * 2) (m := 2) (by omega)
      rw [imgCells_at hkl] at hcelli
      generalize hgk : gi.gs[k] = g at *
      rw [hgia]
      refine Chk.mk (by omega) ?_
      refine LoadD.mk _ hcelli ?_
      conv => whnf
      intro b12
      repeat (first
        | refine LoadD.own 0 rfl _ rfl rfl ?_
        | refine LoadD.own 1 rfl _ rfl rfl ?_
        | refine LoadD.own 2 rfl _ rfl rfl ?_
        | refine LoadD.own 3 rfl _ rfl rfl ?_
        | refine LoadP.at 0 rfl _ rfl rfl ?_
        | refine LoadP.at 1 rfl _ rfl rfl ?_
        | refine LoadP.at 2 rfl _ rfl rfl ?_
        | refine LoadP.at 3 rfl _ rfl rfl ?_
        | refine StoreD.st 0 rfl rfl rfl ?_
        | refine StoreD.st 1 rfl rfl rfl ?_
        | refine StoreD.st 2 rfl rfl rfl ?_
        | refine StoreD.st 3 rfl rfl rfl ?_
        | refine CmpD.yes rfl ?_
        | refine CmpD.yes (by decide) ?_
        | refine CmpD.no (by decide) ?_
        | refine Chk.mk ⟨rfl, trivial⟩ ?_
        | refine Chk.mk ⟨rfl, rfl, trivial⟩ ?_
        | refine Chk.mk ⟨rfl, rfl, rfl, trivial⟩ ?_
        | refine Chk.mk ⟨rfl, rfl, rfl, rfl, trivial⟩ ?_
        | refine Chk.mk ⟨rfl, rfl, rfl, rfl, rfl, trivial⟩ ?_
        | refine Chk.mk ⟨rfl, rfl, rfl, rfl, rfl, rfl, trivial⟩ ?_)
      refine CmpD.split (fun c4 => ?_) (fun c4 => ?_)
      · repeat (first
          | refine LoadD.own 0 rfl _ rfl rfl ?_
          | refine LoadD.own 1 rfl _ rfl rfl ?_
          | refine LoadD.own 2 rfl _ rfl rfl ?_
          | refine LoadD.own 3 rfl _ rfl rfl ?_
          | refine LoadP.at 0 rfl _ rfl rfl ?_
          | refine LoadP.at 1 rfl _ rfl rfl ?_
          | refine LoadP.at 2 rfl _ rfl rfl ?_
          | refine LoadP.at 3 rfl _ rfl rfl ?_
          | refine StoreD.st 0 rfl rfl rfl ?_
          | refine StoreD.st 1 rfl rfl rfl ?_
          | refine StoreD.st 2 rfl rfl rfl ?_
          | refine StoreD.st 3 rfl rfl rfl ?_
          | refine CmpD.yes rfl ?_
          | refine CmpD.yes (by decide) ?_
          | refine CmpD.no (by decide) ?_
          | refine Chk.mk ⟨rfl, trivial⟩ ?_
          | refine Chk.mk ⟨rfl, rfl, trivial⟩ ?_
          | refine Chk.mk ⟨rfl, rfl, rfl, trivial⟩ ?_
          | refine Chk.mk ⟨rfl, rfl, rfl, rfl, trivial⟩ ?_
          | refine Chk.mk ⟨rfl, rfl, rfl, rfl, rfl, trivial⟩ ?_
          | refine Chk.mk ⟨rfl, rfl, rfl, rfl, rfl, rfl, trivial⟩ ?_)
        refine Done.mk ⟨[c0], Drop.pick [0] _ rfl, .inr (.inl ⟨hX, fun h => ?_, rfl, rfl⟩)⟩
        have := (h _ hmem).1
        exact absurd c4 (by show ¬ g.blk < x.bi; exact Int.not_lt.2 this)
      repeat (first
        | refine LoadD.own 0 rfl _ rfl rfl ?_
        | refine LoadD.own 1 rfl _ rfl rfl ?_
        | refine LoadD.own 2 rfl _ rfl rfl ?_
        | refine LoadD.own 3 rfl _ rfl rfl ?_
        | refine LoadP.at 0 rfl _ rfl rfl ?_
        | refine LoadP.at 1 rfl _ rfl rfl ?_
        | refine LoadP.at 2 rfl _ rfl rfl ?_
        | refine LoadP.at 3 rfl _ rfl rfl ?_
        | refine StoreD.st 0 rfl rfl rfl ?_
        | refine StoreD.st 1 rfl rfl rfl ?_
        | refine StoreD.st 2 rfl rfl rfl ?_
        | refine StoreD.st 3 rfl rfl rfl ?_
        | refine CmpD.yes rfl ?_
        | refine CmpD.yes (by decide) ?_
        | refine CmpD.no (by decide) ?_
        | refine Chk.mk ⟨rfl, trivial⟩ ?_
        | refine Chk.mk ⟨rfl, rfl, trivial⟩ ?_
        | refine Chk.mk ⟨rfl, rfl, rfl, trivial⟩ ?_
        | refine Chk.mk ⟨rfl, rfl, rfl, rfl, trivial⟩ ?_
        | refine Chk.mk ⟨rfl, rfl, rfl, rfl, rfl, trivial⟩ ?_
        | refine Chk.mk ⟨rfl, rfl, rfl, rfl, rfl, rfl, trivial⟩ ?_)
      refine CmpD.split (fun c5 => ?_) (fun c5 => ?_)
      · repeat (first
          | refine LoadD.own 0 rfl _ rfl rfl ?_
          | refine LoadD.own 1 rfl _ rfl rfl ?_
          | refine LoadD.own 2 rfl _ rfl rfl ?_
          | refine LoadD.own 3 rfl _ rfl rfl ?_
          | refine LoadP.at 0 rfl _ rfl rfl ?_
          | refine LoadP.at 1 rfl _ rfl rfl ?_
          | refine LoadP.at 2 rfl _ rfl rfl ?_
          | refine LoadP.at 3 rfl _ rfl rfl ?_
          | refine StoreD.st 0 rfl rfl rfl ?_
          | refine StoreD.st 1 rfl rfl rfl ?_
          | refine StoreD.st 2 rfl rfl rfl ?_
          | refine StoreD.st 3 rfl rfl rfl ?_
          | refine CmpD.yes rfl ?_
          | refine CmpD.yes (by decide) ?_
          | refine CmpD.no (by decide) ?_
          | refine Chk.mk ⟨rfl, trivial⟩ ?_
          | refine Chk.mk ⟨rfl, rfl, trivial⟩ ?_
          | refine Chk.mk ⟨rfl, rfl, rfl, trivial⟩ ?_
          | refine Chk.mk ⟨rfl, rfl, rfl, rfl, trivial⟩ ?_
          | refine Chk.mk ⟨rfl, rfl, rfl, rfl, rfl, trivial⟩ ?_
          | refine Chk.mk ⟨rfl, rfl, rfl, rfl, rfl, rfl, trivial⟩ ?_)
        refine Done.mk ⟨[c0], Drop.pick [0] _ rfl, .inr (.inl ⟨hX, fun h => ?_, rfl, rfl⟩)⟩
        have := (h _ hmem).2
        exact absurd c5 (by show ¬ x.b ≤ g.blk; exact Int.not_le.2 this)
      repeat (first
        | refine LoadD.own 0 rfl _ rfl rfl ?_
        | refine LoadD.own 1 rfl _ rfl rfl ?_
        | refine LoadD.own 2 rfl _ rfl rfl ?_
        | refine LoadD.own 3 rfl _ rfl rfl ?_
        | refine LoadP.at 0 rfl _ rfl rfl ?_
        | refine LoadP.at 1 rfl _ rfl rfl ?_
        | refine LoadP.at 2 rfl _ rfl rfl ?_
        | refine LoadP.at 3 rfl _ rfl rfl ?_
        | refine StoreD.st 0 rfl rfl rfl ?_
        | refine StoreD.st 1 rfl rfl rfl ?_
        | refine StoreD.st 2 rfl rfl rfl ?_
        | refine StoreD.st 3 rfl rfl rfl ?_
        | refine CmpD.yes rfl ?_
        | refine CmpD.yes (by decide) ?_
        | refine CmpD.no (by decide) ?_
        | refine Chk.mk ⟨rfl, trivial⟩ ?_
        | refine Chk.mk ⟨rfl, rfl, trivial⟩ ?_
        | refine Chk.mk ⟨rfl, rfl, rfl, trivial⟩ ?_
        | refine Chk.mk ⟨rfl, rfl, rfl, rfl, trivial⟩ ?_
        | refine Chk.mk ⟨rfl, rfl, rfl, rfl, rfl, trivial⟩ ?_
        | refine Chk.mk ⟨rfl, rfl, rfl, rfl, rfl, rfl, trivial⟩ ?_)
      refine mapUpdateD tabOk rfl rfl rfl rfl rfl 2 rfl hM2 ?_
      intro ob3 hM3
      repeat (first
        | refine LoadD.own 0 rfl _ rfl rfl ?_
        | refine LoadD.own 1 rfl _ rfl rfl ?_
        | refine LoadD.own 2 rfl _ rfl rfl ?_
        | refine LoadD.own 3 rfl _ rfl rfl ?_
        | refine LoadP.at 0 rfl _ rfl rfl ?_
        | refine LoadP.at 1 rfl _ rfl rfl ?_
        | refine LoadP.at 2 rfl _ rfl rfl ?_
        | refine LoadP.at 3 rfl _ rfl rfl ?_
        | refine StoreD.st 0 rfl rfl rfl ?_
        | refine StoreD.st 1 rfl rfl rfl ?_
        | refine StoreD.st 2 rfl rfl rfl ?_
        | refine StoreD.st 3 rfl rfl rfl ?_
        | refine CmpD.yes rfl ?_
        | refine CmpD.yes (by decide) ?_
        | refine CmpD.no (by decide) ?_
        | refine Chk.mk ⟨rfl, trivial⟩ ?_
        | refine Chk.mk ⟨rfl, rfl, trivial⟩ ?_
        | refine Chk.mk ⟨rfl, rfl, rfl, trivial⟩ ?_
        | refine Chk.mk ⟨rfl, rfl, rfl, rfl, trivial⟩ ?_
        | refine Chk.mk ⟨rfl, rfl, rfl, rfl, rfl, trivial⟩ ?_
        | refine Chk.mk ⟨rfl, rfl, rfl, rfl, rfl, rfl, trivial⟩ ?_)
      refine ToD.i64 (by omega) (by omega) ?_
      refine ⟨_, Drop.pick [0, 1, 2] _ rfl, ⟨k + 1, ob3, by omega, ?_, ?_, by rw [← hgia]; rfl, rfl, rfl⟩, ?_⟩
      · rw [htk2, List.map_append, ← List.append_assoc]
        intro q hq
        rcases List.mem_append.1 hq with hq | hq
        · exact hok2 q hq
        · simp only [List.map_cons, List.map_nil, List.mem_singleton] at hq
          subst hq
          exact ⟨Int.not_lt.1 c4, Int.not_le.1 c5⟩
      · rw [htk2, ← List.append_assoc, List.foldl_append, List.foldl_cons, List.foldl_nil, iput_hdr]
        exact hM3
      · show ((gi.gs.length : Int) - ((k : Int) + 1)).toNat < ((gi.gs.length : Int) - (k : Int)).toNat
        omega
    · obtain rfl : k = gi.gs.length := by omega
      rw [List.take_length] at hok2 hM2
      refine ToD.i64 (by omega) (by omega) ?_
      refine ⟨_, Drop.refl _, ⟨i + 1, ob2, by omega, ?_, ?_, rfl, rfl, rfl⟩, ?_⟩
      · rw [htk]; unfold allP at hok2 ⊢; rw [List.flatMap_append]; simpa using hok2
      · rw [htk]; unfold allI at hM2 ⊢; rw [List.flatMap_append]; simpa using hM2
      · show ((l.length : Int) - ((i : Int) + 1)).toNat < ((l.length : Int) - (i : Int)).toNat
        omega
  · obtain rfl : i = l.length := by omega
    rw [List.take_length] at hok hM
    obtain ⟨ms, hms⟩ : ∃ ms, ms = (allI l).foldl iput [] := ⟨_, rfl⟩
    rw [← hms] at hM
    have hmsl : ms.length ≤ 1000000 := by rw [hms]; have := fold_len (allI l) []; simp at this; omega
    have hmspr : ms.map Img.pr = lastP (allP l) := by rw [hms, foldl_pr, allP_eq]; rfl
    have hmsR : ∀ g ∈ ms, ImgR I [c0] g := by
      intro g hg
      rw [hms] at hg
      rcases fold_mem _ _ g hg with h | h
      · unfold allI at h
        obtain ⟨gr, hgr, hgg⟩ := List.mem_flatMap.1 h
        exact (hG.each gr hgr).1.each g hgg
      · simp at h
    have hmsF : ∀ g ∈ ms, g.len ≤ 100000000 := by
      intro g hg
      rw [hms] at hg
      rcases fold_mem _ _ g hg with h | h
      · exact hfew g h
      · simp at h
    have hkeys : keysOf (ms.map hdr) = sortI ((lastP (allP l)).map Prod.fst) := by
      unfold keysOf
      rw [← hmspr, List.map_map, List.map_map]; rfl
    have hkl := keysOf_length (ms.map hdr)
    rw [List.length_map] at hkl
    have hkm : ∀ n ∈ keysOf (ms.map hdr), n ∈ ms.map Img.blk := by
      intro n hn
      unfold keysOf at hn
      have := (sortI_perm _).mem_iff.1 hn
      rw [List.map_map] at this; exact this
    refine Tri.nf (keys_of r I _) ?_
    rintro v J S' hJ ⟨bk, rfl, rfl, rfl⟩
    refine Tri.frameX (sorted_keys bk r ob (ms.map hdr) hM (by rw [List.length_map]; exact hmsl) I) [3, 2] rfl rfl ?_
    rintro v J S' hJK ⟨aK, capK, chK, rfl, hK, hle, rfl⟩
    rw [List.length_map] at hK ⊢
    obtain ⟨KS, hKS⟩ : ∃ KS, KS = keysOf (ms.map hdr) := ⟨_, rfl⟩
    rw [← hKS] at hK hkeys hkl hkm
    refine CodeF.loopD [8, 13, 64, 65, 66] (fun vs J' S' => ∃ (k : Nat) (aO : Option Addr) (capO : Nat) (chO : List Blk) (chs : List (List Blk)) (outs : List Img), k ≤ ms.length ∧ outs.length = k ∧ OwnC chO 2 aO k capO (imgCells outs) ∧ OwnImgs chs outs ∧ outs.map Img.pr = (KS.take k).map (fun n => (n, ((lastP (allP l)).lookup n).getD [])) ∧
        vs = [.map (some r), .slice aO k capO, .slice aK ms.length capK, .int .i64 ms.length, .int .i64 k] ∧ J = J' ∧ S' = c0 :: [(r, ob)] :: chK :: chO :: chs)
      (fun vs _ _ => match vs with | [_, _, _, _, .int _ k] => ((ms.length : Int) - k).toNat | _ => 0) ?_ ?_
    · exact ⟨_, Drop.and (Drop.pick [0, 4, 5] _ rfl), 0, none, 0, [], [], [], by omega, rfl, OwnC.nil _ _, trivial, rfl, rfl, rfl, rfl⟩
    rintro vs gE J' S' hJ' ⟨k, aO, capO, chO, chs, outs, hk, hol, hO, hcs, hpr, rfl, rfl, rfl⟩
    refine CmpD.split (fun c3 => ?_) (fun c3 => ?_)
    · have hkK : k < KS.length := by omega
      have htk : KS.take (k + 1) = KS.take k ++ [KS[k]] := by rw [List.take_add_one, List.getElem?_eq_getElem hkK]; rfl
      obtain ⟨g, hgm, hgb, hget, hlk⟩ := lookup_both ms KS[k] (hkm _ (List.getElem_mem hkK))
      rw [hmspr] at hlk
      have hgR := hmsR g hgm
      have hcell : (ints KS)[k]? = some (.int .i64 KS[k]) := ints_get (List.getElem?_eq_getElem hkK)
      generalize hn : KS[k] = n at *
      rcases hK.at' with q0 | ⟨bK, pre, post, TK, rfl, rfl, hpost⟩
      · have := hK.le; omega
      refine Chk.mk (by omega) ?_
      refine LoadD.own 2 rfl _ (take_get (own_take pre (ints KS) post) hcell) rfl ?_
      refine lookupD tabOk rfl rfl rfl rfl rfl rfl 1 rfl hM ?_
      rw [hget]
      refine Tri.mono (clone_bytes J _ g.a g.len g.cap (bts g.data) (by rw [Nat.mul_one]; exact (hgR.rd.mores ([(r, ob)] :: _ :: chO :: chs)).imm hJK) (bts_plain _) (by have := hmsF g hgm; omega)) ?_
      rintro v J3 S3 hJ3 ⟨a', cap', ch', rfl, hown', rfl, rfl⟩
      conv => whnf
      intro bN
      refine appendD tabOk rfl rfl rfl rfl rfl rfl rfl 3 rfl hO (SrcOk.slice (n := 1) (news := imgCells [⟨n, a', g.len, cap', g.data⟩]) tabOk rfl ((OwnC.whole (len := 1) (size := 2) rfl).slC _ (two_get1 (c0 :: [(r, ob)] :: _ :: chO :: chs) ch' _)) (by intro v hv; simp [imgCells] at hv; rcases hv with rfl | rfl <;> rfl)) rfl (by show (k + 1) * 32 ≤ _; omega) (by omega) ?_
      intro a2 cap2 ch2 hO2
      refine ToD.i64 (by omega) (by omega) ?_
      refine ⟨c0 :: [(r, ob)] :: _ :: ch2 :: (chs ++ [ch']), Drop.init (c0 :: [(r, ob)] :: _ :: ch2 :: (chs ++ [ch'])) _, ⟨k + 1, a2, cap2, ch2, chs ++ [ch'], outs ++ [⟨n, a', g.len, cap', g.data⟩], by omega, by simp [hol], by rw [imgCells_snoc]; exact hO2, hcs.snoc hown', ?_, rfl, rfl, rfl⟩, ?_⟩
      · rw [htk, List.map_append, List.map_append, hpr]
        simp [hlk]
      · show ((ms.length : Int) - ((k : Int) + 1)).toNat < ((ms.length : Int) - (k : Int)).toNat
        omega
    · obtain rfl : k = ms.length := by omega
      repeat (first
        | refine LoadD.own 0 rfl _ rfl rfl ?_
        | refine LoadD.own 1 rfl _ rfl rfl ?_
        | refine LoadD.own 2 rfl _ rfl rfl ?_
        | refine LoadP.at 0 rfl _ rfl rfl ?_
        | refine LoadP.at 1 rfl _ rfl rfl ?_
        | refine LoadP.at 2 rfl _ rfl rfl ?_
        | refine StoreD.st 0 rfl rfl rfl ?_
        | refine StoreD.st 1 rfl rfl rfl ?_
        | refine StoreD.st 2 rfl rfl rfl ?_
        | refine CmpD.yes rfl ?_
        | refine CmpD.yes (by decide) ?_
        | refine CmpD.no (by decide) ?_
        | refine Chk.mk ⟨rfl, trivial⟩ ?_
        | refine Chk.mk ⟨rfl, rfl, trivial⟩ ?_
        | refine Chk.mk ⟨rfl, rfl, rfl, trivial⟩ ?_
        | refine Chk.mk ⟨rfl, rfl, rfl, rfl, trivial⟩ ?_
        | refine Chk.mk ⟨rfl, rfl, rfl, rfl, rfl, trivial⟩ ?_
        | refine Chk.mk ⟨rfl, rfl, rfl, rfl, rfl, rfl, trivial⟩ ?_)
      refine Done.mk ⟨c0 :: chO :: chs, ?_, .inr (.inr ⟨hX, hok, aO, capO, chO, chs, outs, by rw [hol]; rfl, by rw [hol]; exact hO, hcs, ?_, rfl⟩)⟩
      · exact ⟨[(r, ob)] ++ chK, by
          classical
          refine List.perm_iff_count.2 fun y => ?_
          simp only [List.flatten_cons, List.count_append]
          omega⟩
      · rw [hpr, List.take_of_length_le (by omega), hkeys]; rfl
theorem ImgsR.pack {I : Imm} {S : St} {a : Option Addr} {gs : List Img} (h : ImgsR I S a gs) : ImgsR I [S.flatten] a gs := ⟨h.sl.pack, fun g hg => ⟨(h.each g hg).rd.pack⟩⟩
theorem home_any {I : Imm} {S : St} {aG : Option Addr} {capG : Nat} {l : List Grp} (hG : GrpsR I S aG l) (hl : l.length ≤ 1000000) (hall : (allI l).length ≤ 1000000) (hfew : ∀ g ∈ allI l, g.len ≤ 100000000) (x : Lay) :
    Tri Try.prog 50 #[x.v, .slice aG l.length capG] I S fun v _ S' =>
      ((¬ (64 ≤ x.b ∧ x.b ≤ 512 ∧ x = layOf x.b.toNat) ∧ v = .tuple #[.slice none 0 0, .int .i64 2] ∧ S' = S) ∨
       ((64 ≤ x.b ∧ x.b ≤ 512 ∧ x = layOf x.b.toNat) ∧ ¬ HomeOk x (allP l) ∧ v = .tuple #[.slice none 0 0, .int .i64 90] ∧ S' = S) ∨
       ((64 ≤ x.b ∧ x.b ≤ 512 ∧ x = layOf x.b.toNat) ∧ HomeOk x (allP l) ∧ ∃ (aO : Option Addr) (capO : Nat) (chO : List Blk) (chs : List (List Blk)) (outs : List Img), v = .tuple #[.slice aO outs.length capO, .int .i64 0] ∧ OwnC chO 2 aO outs.length capO (imgCells outs) ∧ OwnImgs chs outs ∧ outs.map Img.pr = homeP (allP l) ∧ S' = S ++ (chO :: chs))) := by
  refine Tri.pack ((home_one S.flatten ⟨hG.sl.pack, fun g hg => ⟨(hG.each g hg).1.pack, (hG.each g hg).2⟩⟩ hl hall hfew x).mono ?_)
  rintro v J S' hJ (⟨h1, rfl, rfl⟩ | ⟨h1, h2, rfl, rfl⟩ | ⟨h1, h2, aO, capO, chO, chs, outs, rfl, h3, h4, h5, rfl⟩)
  · exact ⟨[], rfl, .inl ⟨h1, rfl, by simp⟩⟩
  · exact ⟨[], rfl, .inr (.inl ⟨h1, h2, rfl, by simp⟩)⟩
  · exact ⟨chO :: chs, rfl, .inr (.inr ⟨h1, h2, aO, capO, chO, chs, outs, rfl, h3, h4, h5, rfl⟩)⟩
theorem OwnImgs.at' : ∀ {cs : List (List Blk)} {gs : List Img}, OwnImgs cs gs → ∀ g ∈ gs, ∃ (i : Nat) (c : List Blk), cs[i]? = some c ∧ OwnB c g.a g.len g.cap g.data
  | [], [], _, g, hg => by simp at hg
  | c :: cs, x :: gs, h, g, hg => by
    rcases List.mem_cons.1 hg with rfl | hg
    · exact ⟨0, c, rfl, h.1⟩
    · obtain ⟨i, c', hi, ho⟩ := OwnImgs.at' h.2 g hg
      exact ⟨i + 1, c', hi, ho⟩
  | [], _ :: _, h, _, _ => h.elim
  | _ :: _, [], h, _, _ => h.elim
theorem imgsR_own {I : Imm} (S : St) {aO : Option Addr} {capO : Nat} {chO : List Blk} {chs : List (List Blk)} {outs : List Img} (h : OwnC chO 2 aO outs.length capO (imgCells outs)) (k : OwnImgs chs outs) (R : St) : ImgsR I (S ++ ((chO :: chs) ++ R)) aO outs := by
  refine ⟨h.slC S.length (by rw [List.getElem?_append_right (Nat.le_refl _), Nat.sub_self]; rfl), fun g hg => ?_⟩
  obtain ⟨i, c, hi, ho⟩ := k.at' g hg
  refine ⟨ho.slC1 (S.length + (i + 1)) ?_⟩
  rw [List.getElem?_append_right (by omega), Nat.add_sub_cancel_left, List.cons_append, List.getElem?_cons_succ]
  have hl : i < chs.length := by
    rcases Nat.lt_or_ge i chs.length with g | g
    · exact g
    · rw [List.getElem?_eq_none g] at hi; cases hi
  rw [List.getElem?_append_left hl]; exact hi
end Go.Proofs.Ytbpdbgcndfcilaa
namespace Go.Proofs.Ytbpdbgcndfcilaa
open Go.RowKit Go.Sl
set_option maxRecDepth 20000

theorem imgCells_0 {gs : List Img} {i : Nat} (h : i < gs.length) : (imgCells gs)[i * 2]? = some (.int .i64 gs[i].blk) := by
  have := imgCells_at h
  have e := congrArg (·[0]?) this
  simpa using e
theorem imgCells_1 {gs : List Img} {i : Nat} (h : i < gs.length) : (imgCells gs)[i * 2 + 1]? = some (.slice gs[i].a gs[i].len gs[i].cap) := by
  have := imgCells_at h
  have e := congrArg (·[1]?) this
  simpa using e
theorem take_pr_eq {g1 g2 : List Img} {i : Nat} (h1 : i < g1.length) (h2 : i < g2.length) (ht : (g1.take i).map Img.pr = (g2.take i).map Img.pr) :
    ((g1.take (i + 1)).map Img.pr = (g2.take (i + 1)).map Img.pr) ↔ (g1[i].blk = g2[i].blk ∧ g1[i].data = g2[i].data) := by
  rw [List.take_add_one, List.take_add_one, List.getElem?_eq_getElem h1, List.getElem?_eq_getElem h2, List.map_append, List.map_append, ht]
  simp
theorem SlC.split {I : Imm} {S : St} {a : Option Addr} {n : Nat} {vs : List Value} (h : SlC I S a n vs) (hn : n ≠ 0) : ∃ b off, a = some ⟨b, off, none⟩ ∧ Cells I S b off n vs := by
  rcases h.mem with h0 | h
  · exact absurd h0 hn
  · exact h
theorem LoadP_any {I : Imm} {c0 : List Blk} {b off n : Nat} {K : List Value → List Nat → Prop} (vs : List Value) (h : Cells I [c0] b off n vs) (k : K vs [0]) : LoadP I [c0] b off n K := .own 0 vs h k
set_option maxHeartbeats 4000000 in
theorem same_imgs1 (c0 : List Blk) {I : Imm} {a1 a2 : Option Addr} {c1 c2 : Nat} {g1 g2 : List Img} (h1 : ImgsR I [c0] a1 g1) (h2 : ImgsR I [c0] a2 g2) (hl1 : g1.length ≤ 1000000000) :
    Tri Try.prog 52 #[.slice a1 g1.length c1, .slice a2 g2.length c2] I [c0] fun v J S' => v = .bool (decide (g1.map Img.pr = g2.map Img.pr)) ∧ I = J ∧ S' = [c0] := by
  refine Tri.of (args := [.slice a1 g1.length c1, .slice a2 g2.length c2]) tabOk Try.func52 rfl (by kernel_rfl) (by kernel_rfl) ?_
  refine CmpD.split (fun c => ?_) (fun c => ?_)
  rotate_left
  · refine Done.mk ⟨?_, rfl, rfl⟩
    show Value.bool _ = Value.bool _
    rw [decide_eq_false (fun h => c (by have := congrArg List.length h; simp at this; omega))]
  have hl : g1.length = g2.length := by omega
  refine CodeF.loopD [0, 1, 5] (fun vs J' S' => ∃ (i : Nat), i ≤ g1.length ∧ (g1.take i).map Img.pr = (g2.take i).map Img.pr ∧ vs = [.slice a1 g1.length c1, .slice a2 g2.length c2, .int .i64 i] ∧ I = J' ∧ S' = [c0])
    (fun vs _ _ => match vs with | [_, _, .int _ i] => ((g1.length : Int) - i).toNat | _ => 0) ?_ ?_
  · exact ⟨_, Drop.refl _, 0, by omega, rfl, rfl, rfl, rfl⟩
  rintro vs gE J' S' hJ' ⟨i, hi, hpre, rfl, rfl, rfl⟩
  refine CmpD.split (fun c1' => ?_) (fun c1' => ?_)
  · have i1 : i < g1.length := by omega
    have i2 : i < g2.length := by omega
    have hiff := take_pr_eq i1 i2 hpre
    have no : ¬ (g1[i].blk = g2[i].blk ∧ g1[i].data = g2[i].data) → decide (g1.map Img.pr = g2.map Img.pr) = false := by
      intro h
      refine decide_eq_false fun h' => h (hiff.1 ?_)
      rw [List.map_take, List.map_take, h']
    obtain ⟨b1, o1, rfl, hc1⟩ := SlC.split h1.sl (by omega)
    obtain ⟨b2, o2, rfl, hc2⟩ := SlC.split h2.sl (by omega)
    have r1 := h1.each _ (List.getElem_mem i1)
    have r2 := h2.each _ (List.getElem_mem i2)
    refine CodeF.sched [[], [], [0, 1], [0, 1, 2], [0, 1, 2, 3], [], [], [5, 6], [5, 6, 7], [5, 6, 7, 8], [0, 1, 2, 3, 4, 5, 6, 7, 8, 9], [0, 1, 2, 3, 4, 5, 6, 7, 8, 9, 10], [0, 1, 2, 3, 4, 5, 6, 7, 8, 9, 10, 11], [0, 1, 2, 3, 4, 5, 6, 7, 8, 9, 10, 11], [0, 1, 2, 3, 4, 5, 6, 7, 8, 9, 10, 11, 12, 13], [0, 1, 2, 3, 4, 5, 6, 7, 8, 9, 10, 11, 12, 13, 14], [0, 1, 2, 3, 4, 5, 6, 7, 8, 9, 10, 11, 12, 13, 14, 15], [0, 1, 2, 3, 4, 5, 6, 7, 8, 9, 10, 11], [0, 1, 2, 3, 4, 5, 6, 7, 8, 9, 10, 11], [0, 1, 2, 3, 4, 5, 6, 7, 8, 9, 10, 11, 17, 18], [0, 1, 2, 3, 4, 5, 6, 7, 8, 9, 10, 11, 17, 18, 19], [0, 1, 2, 3, 4, 5, 6, 7, 8, 9, 10, 11, 17, 18, 19, 20], [0, 1, 2, 3, 4, 5, 6, 7, 8, 9, 10, 11, 12, 13, 14, 15, 16, 17, 18, 19, 20, 21], [0, 1, 2, 3, 4, 5, 6, 7, 8, 9, 10, 11, 12, 13, 14, 15, 16, 17, 18, 19, 20, 21, 22], [0, 1, 2, 3, 4, 5, 6, 7, 8, 9, 10, 11, 12, 13, 14, 15, 16, 17, 18, 19, 20, 21, 22, 23]] [0, 1, 2, 3, 4, 5, 6, 7, 8, 9, 10, 11, 12, 13, 14, 15, 16, 17, 18, 19, 20, 21, 22, 23, 24] (by kernel_rfl) ?_
    refine Chk.mk (by omega) ?_
    refine LoadP_any _ (hc1.at (imgCells_0 i1)) ?_
    refine Chk.mk (by omega) ?_
    refine LoadP_any _ (hc2.at (imgCells_0 i2)) ?_
    refine CmpD.split (fun c2' => ?_) (fun c2' => ?_)
    · refine Chk.mk (by omega) ?_
      refine LoadP_any _ (hc1.at (imgCells_1 i1)) ?_
      refine Chk.mk (by omega) ?_
      refine LoadP_any _ (hc2.at (imgCells_1 i2)) ?_
      refine Tri.nf (same_bytes r1.rd r2.rd) ?_
      rintro v J S' hJ ⟨rfl, rfl, rfl⟩
      by_cases hd : g1[i].data = g2[i].data
      · rw [decide_eq_true hd]
        refine ToD.i64 (by omega) (by omega) ?_
        refine ⟨_, Drop.refl _, ⟨i + 1, by omega, hiff.2 ⟨c2', hd⟩, rfl, rfl, rfl⟩, ?_⟩
        show ((g1.length : Int) - ((i : Int) + 1)).toNat < ((g1.length : Int) - (i : Int)).toNat
        omega
      · rw [decide_eq_false hd]
        refine Done.mk ⟨?_, rfl, rfl⟩
        show Value.bool _ = Value.bool _
        rw [no (fun h => hd h.2)]
    · refine Done.mk ⟨?_, rfl, rfl⟩
      show Value.bool _ = Value.bool _
      rw [no (fun h => c2' h.1)]
  · obtain rfl : i = g1.length := by omega
    refine Done.mk ⟨?_, rfl, rfl⟩
    show Value.bool _ = Value.bool _
    rw [List.take_length, hl, List.take_length] at hpre
    rw [decide_eq_true hpre]
theorem same_imgs {I : Imm} {S : St} {a1 a2 : Option Addr} {c1 c2 : Nat} {g1 g2 : List Img} (h1 : ImgsR I S a1 g1) (h2 : ImgsR I S a2 g2) (hl1 : g1.length ≤ 1000000000) :
    Tri Try.prog 52 #[.slice a1 g1.length c1, .slice a2 g2.length c2] I S fun v J S' => v = .bool (decide (g1.map Img.pr = g2.map Img.pr)) ∧ I = J ∧ S' = S := by
  refine Tri.pack ((same_imgs1 _ h1.pack h2.pack hl1).mono ?_)
  rintro v J S' hJ ⟨rfl, rfl, rfl⟩
  exact ⟨[], rfl, rfl, rfl, by simp⟩
end Go.Proofs.Ytbpdbgcndfcilaa
namespace Go.Proofs.Ytbpdbgcndfcilaa
open Go.RowKit Go.Sl
set_option maxRecDepth 20000

theorem law_made (n seed : Int) (I : Imm) : Tri Try.prog 49 #[.int .i64 n, .int .i64 seed] I [] fun v J _ => ∃ a, v = .agg #[.int .i64 n, .slice a 4096 4096] ∧ Rds J a 4096 (bts (madeL seed 4096)) := by
  refine Tri.of (args := [.int .i64 n, .int .i64 seed]) tabOk Try.func49 rfl (by kernel_rfl) (by kernel_rfl) ?_
  conv => whnf
  intro b
  repeat (first
    | refine LoadD.own 0 rfl _ rfl rfl ?_
    | refine LoadP.at 0 rfl _ rfl rfl ?_
    | refine StoreD.st 0 rfl rfl rfl ?_
    | refine CmpD.yes rfl ?_
    | refine CmpD.yes (by decide) ?_
    | refine CmpD.no (by decide) ?_
    | refine Chk.mk ⟨rfl, trivial⟩ ?_
    | refine Chk.mk ⟨rfl, rfl, trivial⟩ ?_
    | refine Chk.mk ⟨rfl, rfl, rfl, trivial⟩ ?_
    | refine Chk.mk ⟨rfl, rfl, rfl, rfl, trivial⟩ ?_
    | refine Chk.mk ⟨rfl, rfl, rfl, rfl, rfl, trivial⟩ ?_
    | refine Chk.mk ⟨rfl, rfl, rfl, rfl, rfl, rfl, trivial⟩ ?_)
  refine Tri.free (made seed 4096 (by omega) I) ?_
  rintro v J _ hJ ⟨a, rfl, hr⟩
  repeat (first
    | refine LoadD.own 0 rfl _ rfl rfl ?_
    | refine LoadP.at 0 rfl _ rfl rfl ?_
    | refine StoreD.st 0 rfl rfl rfl ?_
    | refine CmpD.yes rfl ?_
    | refine CmpD.yes (by decide) ?_
    | refine CmpD.no (by decide) ?_
    | refine Chk.mk ⟨rfl, trivial⟩ ?_
    | refine Chk.mk ⟨rfl, rfl, trivial⟩ ?_
    | refine Chk.mk ⟨rfl, rfl, rfl, trivial⟩ ?_
    | refine Chk.mk ⟨rfl, rfl, rfl, rfl, trivial⟩ ?_
    | refine Chk.mk ⟨rfl, rfl, rfl, rfl, rfl, trivial⟩ ?_
    | refine Chk.mk ⟨rfl, rfl, rfl, rfl, rfl, rfl, trivial⟩ ?_)
  exact Done.mk ⟨a, rfl, hr⟩
theorem sup_cmp {o : Oper} {ρ : Env} {yt : TypeId} {x y : Operand} {K : Value → Prop} {op : BinOp} (p q : Sup) (ho : o.op = .binOp op 56 x y yt) (hop : op = .eql ∨ op = .neq)
    (hx : ρ.ev x = p.v) (hy : ρ.ev y = q.v) (h : CmpD ([p.blocks, p.epoch, p.seq, p.tail] = [q.blocks, q.epoch, q.seq, q.tail]) fun t => boolF (xor (op == .neq) t) fun t => K (.bool t)) : PureD Try.prog o ρ K :=
  eq_ints (k := .i64) tabOk [p.blocks, p.epoch, p.seq, p.tail] [q.blocks, q.epoch, q.seq, q.tail] ho hop rfl hx hy (by kernel_rfl) (by kernel_rfl) (by kernel_rfl) rfl rfl h
theorem right_of (e s : Int) (he : 1 ≤ e ∧ e ≤ 8388608) (hs : 1 ≤ s ∧ s ≤ 549755813888) : RightS (superOf e s) := ⟨by show (64 : Int) ≤ 64; decide, by show (64 : Int) ≤ 512; decide, he.1, he.2, hs.1, hs.2, by show (0 : Int) ≤ 0; decide, by show (0 : Int) ≤ 511; decide⟩
theorem get_supL {s : Sup} (h : RightS s) : getS (supL s) = some s := getS_some.2 ⟨h, rfl⟩
theorem sortI_of {l m : List Int} (h : l.Perm m) (hm : m.Pairwise (fun a b => a ≤ b)) : sortI l = m :=
  List.Perm.eq_of_pairwise (le := fun a b => a ≤ b) (fun _ _ _ _ h1 h2 => Int.le_antisymm h1 h2) (sortI_le l) hm ((sortI_perm l).trans h)
theorem home_ex (x y z : Dat) : homeP [(40, x), (30, y), (40, z)] = [(30, y), (40, z)] := by
  have h : lastP [(40, x), (30, y), (40, z)] = [(40, z), (30, y)] := by simp [lastP, pput]
  unfold homeP
  rw [h, show List.map Prod.fst [((40 : Int), z), (30, y)] = [40, 30] from rfl, sortI_of (m := [30, 40]) (List.Perm.swap _ _ _) (by decide)]
  rfl
set_option maxHeartbeats 4000000 in
theorem awake10 (I : Imm) (S : St) : Tri Try.prog 54 #[] I S fun v _ _ => v = .bool true := by
  refine Tri.free (Q := fun v _ _ => v = .bool true) ?_ (fun v J _ _ h => h)
  refine Tri.of (args := []) tabOk Try.func54 rfl (by kernel_rfl) (by kernel_rfl) ?_
  refine Tri.free (law_bytes 1 5 (right_of _ _ (by decide) (by decide)) I) ?_
  rintro v J _ hJ ⟨a1, c1, rfl, h1⟩
  refine Tri.free (law_bytes 2 1 (right_of _ _ (by decide) (by decide)) J) ?_
  rintro v J2 _ hJ2 ⟨a2, c2, rfl, h2⟩
  refine Tri.free (replay_Choose (h1.mono hJ2) h2 (by decide) (by decide)) ?_
  rintro v J3 _ hJ3 ⟨rfl, rfl⟩
  rw [get_supL (right_of _ _ (by decide) (by decide)), get_supL (right_of _ _ (by decide) (by decide))]
  rw [show chooseP (some (superOf 1 5)) (some (superOf 2 1)) = (superOf 2 1, 1, true) from by rw [chooseP, if_neg (by decide)]]
  conv => whnf
  intro b5
  repeat (first
    | refine LoadD.own 0 rfl _ rfl rfl ?_
    | refine LoadD.own 1 rfl _ rfl rfl ?_
    | refine LoadP.at 0 rfl _ rfl rfl ?_
    | refine LoadP.at 1 rfl _ rfl rfl ?_
    | refine StoreD.st 0 rfl rfl rfl ?_
    | refine StoreD.st 1 rfl rfl rfl ?_
    | refine CmpD.yes rfl ?_
    | refine CmpD.yes (by decide) ?_
    | refine CmpD.no (by decide) ?_
    | refine Chk.mk ⟨rfl, trivial⟩ ?_
    | refine Chk.mk ⟨rfl, rfl, trivial⟩ ?_
    | refine Chk.mk ⟨rfl, rfl, rfl, trivial⟩ ?_
    | refine Chk.mk ⟨rfl, rfl, rfl, rfl, trivial⟩ ?_
    | refine Chk.mk ⟨rfl, rfl, rfl, rfl, rfl, trivial⟩ ?_
    | refine Chk.mk ⟨rfl, rfl, rfl, rfl, rfl, rfl, trivial⟩ ?_)
  refine Tri.free (law_layout64 _) ?_
  rintro v J4 _ hJ4 ⟨rfl, rfl⟩
  refine Tri.free (law_made 40 1 _) ?_
  rintro v J5 _ hJ5 ⟨aM1, rfl, m1⟩
  refine Tri.free (law_made 30 2 _) ?_
  rintro v J6 _ hJ6 ⟨aM2, rfl, m2⟩
  conv => whnf
  intro b17
  repeat (first
    | refine LoadD.own 0 rfl _ rfl rfl ?_
    | refine LoadD.own 1 rfl _ rfl rfl ?_
    | refine LoadP.at 0 rfl _ rfl rfl ?_
    | refine LoadP.at 1 rfl _ rfl rfl ?_
    | refine StoreD.st 0 rfl rfl rfl ?_
    | refine StoreD.st 1 rfl rfl rfl ?_
    | refine CmpD.yes rfl ?_
    | refine CmpD.yes (by decide) ?_
    | refine CmpD.no (by decide) ?_
    | refine Chk.mk ⟨rfl, trivial⟩ ?_
    | refine Chk.mk ⟨rfl, rfl, trivial⟩ ?_
    | refine Chk.mk ⟨rfl, rfl, rfl, trivial⟩ ?_
    | refine Chk.mk ⟨rfl, rfl, rfl, rfl, trivial⟩ ?_
    | refine Chk.mk ⟨rfl, rfl, rfl, rfl, rfl, trivial⟩ ?_
    | refine Chk.mk ⟨rfl, rfl, rfl, rfl, rfl, rfl, trivial⟩ ?_)
  refine Tri.free (law_made 40 3 _) ?_
  rintro v J7 _ hJ7 ⟨aM3, rfl, m3⟩
  conv => whnf
  intro b20
  repeat (first
    | refine LoadD.own 0 rfl _ rfl rfl ?_
    | refine LoadD.own 1 rfl _ rfl rfl ?_
    | refine LoadP.at 0 rfl _ rfl rfl ?_
    | refine LoadP.at 1 rfl _ rfl rfl ?_
    | refine StoreD.st 0 rfl rfl rfl ?_
    | refine StoreD.st 1 rfl rfl rfl ?_
    | refine CmpD.yes rfl ?_
    | refine CmpD.yes (by decide) ?_
    | refine CmpD.no (by decide) ?_
    | refine Chk.mk ⟨rfl, trivial⟩ ?_
    | refine Chk.mk ⟨rfl, rfl, trivial⟩ ?_
    | refine Chk.mk ⟨rfl, rfl, rfl, trivial⟩ ?_
    | refine Chk.mk ⟨rfl, rfl, rfl, rfl, trivial⟩ ?_
    | refine Chk.mk ⟨rfl, rfl, rfl, rfl, rfl, trivial⟩ ?_
    | refine Chk.mk ⟨rfl, rfl, rfl, rfl, rfl, rfl, trivial⟩ ?_)
  conv => whnf
  intro b22
  have im1 : ImgR J7 [] ⟨40, aM1, 4096, 4096, madeL 1 4096⟩ := ⟨(m1.mono (Imm.le_trans hJ6 hJ7)).slC⟩
  have im2 : ImgR J7 [] ⟨30, aM2, 4096, 4096, madeL 2 4096⟩ := ⟨(m2.mono hJ7).slC⟩
  have im3 : ImgR J7 [] ⟨40, aM3, 4096, 4096, madeL 3 4096⟩ := ⟨m3.slC⟩
  refine Tri.mono (home_any (l := [⟨0, 0, some ⟨b17, 0, none⟩, 2, [⟨40, aM1, 4096, 4096, madeL 1 4096⟩, ⟨30, aM2, 4096, 4096, madeL 2 4096⟩]⟩, ⟨0, 0, some ⟨b20, 0, none⟩, 1, [⟨40, aM3, 4096, 4096, madeL 3 4096⟩]⟩]) ?_ (by simp) (by simp [allI]) (by intro g hg; simp [allI] at hg; rcases hg with rfl | rfl | rfl <;> simp) (layOf 64)) ?_
  · refine ⟨⟨rfl, .inr ⟨b22, 0, rfl, _, _, _, .own 3 List.mem_cons_self, rfl, rfl⟩⟩, ?_⟩
    intro g hg
    simp only [List.mem_cons, List.not_mem_nil, or_false] at hg
    rcases hg with rfl | rfl
    · refine ⟨⟨⟨rfl, .inr ⟨b17, 0, rfl, _, _, _, .own 1 List.mem_cons_self, rfl, rfl⟩⟩, ?_⟩, by simp⟩
      intro g hg
      simp only [List.mem_cons, List.not_mem_nil, or_false] at hg
      rcases hg with rfl | rfl
      · exact im1.mores _
      · exact im2.mores _
    · refine ⟨⟨⟨rfl, .inr ⟨b20, 0, rfl, _, _, _, .own 2 List.mem_cons_self, rfl, rfl⟩⟩, ?_⟩, by simp⟩
      intro g hg
      simp only [List.mem_cons, List.not_mem_nil, or_false] at hg
      subst hg
      exact im3.mores _
  have hX : 64 ≤ (layOf 64).b ∧ (layOf 64).b ≤ 512 ∧ layOf 64 = layOf (layOf 64).b.toNat := ⟨by decide, by decide, rfl⟩
  have hP : allP [⟨0, 0, some ⟨b17, 0, none⟩, 2, [⟨40, aM1, 4096, 4096, madeL 1 4096⟩, ⟨30, aM2, 4096, 4096, madeL 2 4096⟩]⟩, ⟨0, 0, some ⟨b20, 0, none⟩, 1, [⟨40, aM3, 4096, 4096, madeL 3 4096⟩]⟩] = [(40, madeL 1 4096), (30, madeL 2 4096), (40, madeL 3 4096)] := rfl
  have hL : layL ((64 : Nat) : Int) = 16 := layL_64'
  have hok : HomeOk (layOf 64) [(40, madeL 1 4096), (30, madeL 2 4096), (40, madeL 3 4096)] := by
    intro g hg
    have e1 : (layOf 64).bi = 18 := by show 2 + layL ((64 : Nat) : Int) = 18; rw [hL]; rfl
    have e2 : (layOf 64).b = 64 := rfl
    rw [e1, e2]
    simp only [List.mem_cons, List.not_mem_nil, or_false] at hg
    rcases hg with rfl | rfl | rfl <;> exact ⟨by decide, by decide⟩
  rw [hP]
  rintro v J8 S8 hJ8 (⟨h, _⟩ | ⟨_, h, _⟩ | ⟨_, _, aO, capO, chO, chs, outs, rfl, hO, hcs, hpr, rfl⟩)
  · exact absurd hX h
  · exact absurd hok h
  rw [home_ex] at hpr
  refine CodeF.sched [[], [], [0, 1], [0, 1, 2], [0, 1, 2, 3], [0, 1, 2, 3, 4], [0, 1, 2, 3, 4, 5], [0, 1, 2, 3, 4, 5, 6], [0, 1, 2, 3, 4, 5, 6, 7], [0, 1, 2, 3, 4, 5, 6, 7, 8], [0, 1, 2, 3, 4, 5, 6, 7, 8, 9], [0, 1, 2, 3, 4, 5, 6, 7, 8, 9, 10], [0, 1, 2, 3, 4, 5, 6, 7, 8, 9, 10, 11], [0, 1, 2, 3, 4, 5, 6, 7, 8, 9, 10, 11, 12], [0, 1, 2, 3, 4, 5, 6, 7, 8, 9, 10, 11, 12, 13], [0, 1, 2, 3, 4, 5, 6, 7, 8, 9, 10, 11, 12, 13, 14], [0, 1, 2, 3, 4, 5, 6, 7, 8, 9, 10, 11, 12, 13, 14], [0, 1, 2, 3, 4, 5, 6, 7, 8, 9, 10, 11, 12, 13, 14, 16], [0, 1, 2, 3, 4, 5, 6, 7, 8, 9, 10, 11, 12, 13, 14, 16, 17], [0, 1, 2, 3, 4, 5, 6, 7, 8, 9, 10, 11, 12, 13, 14, 15, 16, 17, 18], [0, 1, 2, 3, 4, 5, 6, 7, 8, 9, 10, 11, 12, 13, 14, 15, 16, 17, 18, 19], [0, 1, 2, 3, 4, 5, 6, 7, 8, 9, 10, 11, 12, 13, 14, 15, 16, 17, 18, 19, 20]] [0, 1, 2, 3, 4, 5, 6, 7, 8, 9, 10, 11, 12, 13, 14, 15, 16, 17, 18, 19, 20, 21] (by kernel_rfl) ?_
  repeat (first
    | refine LoadD.own 0 rfl _ rfl rfl ?_
    | refine LoadD.own 1 rfl _ rfl rfl ?_
    | refine LoadP.at 0 rfl _ rfl rfl ?_
    | refine LoadP.at 1 rfl _ rfl rfl ?_
    | refine StoreD.st 0 rfl rfl rfl ?_
    | refine StoreD.st 1 rfl rfl rfl ?_
    | refine CmpD.yes rfl ?_
    | refine CmpD.yes (by decide) ?_
    | refine CmpD.no (by decide) ?_
    | refine Chk.mk ⟨rfl, trivial⟩ ?_
    | refine Chk.mk ⟨rfl, rfl, trivial⟩ ?_
    | refine Chk.mk ⟨rfl, rfl, rfl, trivial⟩ ?_
    | refine Chk.mk ⟨rfl, rfl, rfl, rfl, trivial⟩ ?_
    | refine Chk.mk ⟨rfl, rfl, rfl, rfl, rfl, trivial⟩ ?_
    | refine Chk.mk ⟨rfl, rfl, rfl, rfl, rfl, rfl, trivial⟩ ?_)
  refine Tri.free (law_of 2 1 J8) ?_
  rintro v J9 _ hJ9 ⟨rfl, rfl⟩
  repeat (first
    | refine LoadD.own 0 rfl _ rfl rfl ?_
    | refine LoadD.own 1 rfl _ rfl rfl ?_
    | refine LoadP.at 0 rfl _ rfl rfl ?_
    | refine LoadP.at 1 rfl _ rfl rfl ?_
    | refine StoreD.st 0 rfl rfl rfl ?_
    | refine StoreD.st 1 rfl rfl rfl ?_
    | refine CmpD.yes rfl ?_
    | refine CmpD.yes (by decide) ?_
    | refine CmpD.no (by decide) ?_
    | refine Chk.mk ⟨rfl, trivial⟩ ?_
    | refine Chk.mk ⟨rfl, rfl, trivial⟩ ?_
    | refine Chk.mk ⟨rfl, rfl, rfl, trivial⟩ ?_
    | refine Chk.mk ⟨rfl, rfl, rfl, rfl, trivial⟩ ?_
    | refine Chk.mk ⟨rfl, rfl, rfl, rfl, rfl, trivial⟩ ?_
    | refine Chk.mk ⟨rfl, rfl, rfl, rfl, rfl, rfl, trivial⟩ ?_)
  refine sup_cmp (superOf 2 1) (superOf 2 1) rfl (.inl rfl) rfl rfl ?_
  repeat (first
    | refine LoadD.own 0 rfl _ rfl rfl ?_
    | refine LoadD.own 1 rfl _ rfl rfl ?_
    | refine LoadP.at 0 rfl _ rfl rfl ?_
    | refine LoadP.at 1 rfl _ rfl rfl ?_
    | refine StoreD.st 0 rfl rfl rfl ?_
    | refine StoreD.st 1 rfl rfl rfl ?_
    | refine CmpD.yes rfl ?_
    | refine CmpD.yes (by decide) ?_
    | refine CmpD.no (by decide) ?_
    | refine Chk.mk ⟨rfl, trivial⟩ ?_
    | refine Chk.mk ⟨rfl, rfl, trivial⟩ ?_
    | refine Chk.mk ⟨rfl, rfl, rfl, trivial⟩ ?_
    | refine Chk.mk ⟨rfl, rfl, rfl, rfl, trivial⟩ ?_
    | refine Chk.mk ⟨rfl, rfl, rfl, rfl, rfl, trivial⟩ ?_
    | refine Chk.mk ⟨rfl, rfl, rfl, rfl, rfl, rfl, trivial⟩ ?_)
  refine Tri.free (law_made 30 2 _) ?_
  rintro v J10 _ hJ10 ⟨aN2, rfl, n2⟩
  repeat (first
    | refine LoadD.own 0 rfl _ rfl rfl ?_
    | refine LoadD.own 1 rfl _ rfl rfl ?_
    | refine LoadP.at 0 rfl _ rfl rfl ?_
    | refine LoadP.at 1 rfl _ rfl rfl ?_
    | refine StoreD.st 0 rfl rfl rfl ?_
    | refine StoreD.st 1 rfl rfl rfl ?_
    | refine CmpD.yes rfl ?_
    | refine CmpD.yes (by decide) ?_
    | refine CmpD.no (by decide) ?_
    | refine Chk.mk ⟨rfl, trivial⟩ ?_
    | refine Chk.mk ⟨rfl, rfl, trivial⟩ ?_
    | refine Chk.mk ⟨rfl, rfl, rfl, trivial⟩ ?_
    | refine Chk.mk ⟨rfl, rfl, rfl, rfl, trivial⟩ ?_
    | refine Chk.mk ⟨rfl, rfl, rfl, rfl, rfl, trivial⟩ ?_
    | refine Chk.mk ⟨rfl, rfl, rfl, rfl, rfl, rfl, trivial⟩ ?_)
  refine Tri.free (law_made 40 3 _) ?_
  rintro v J11 _ hJ11 ⟨aN3, rfl, n3⟩
  repeat (first
    | refine LoadD.own 0 rfl _ rfl rfl ?_
    | refine LoadD.own 1 rfl _ rfl rfl ?_
    | refine LoadP.at 0 rfl _ rfl rfl ?_
    | refine LoadP.at 1 rfl _ rfl rfl ?_
    | refine StoreD.st 0 rfl rfl rfl ?_
    | refine StoreD.st 1 rfl rfl rfl ?_
    | refine CmpD.yes rfl ?_
    | refine CmpD.yes (by decide) ?_
    | refine CmpD.no (by decide) ?_
    | refine Chk.mk ⟨rfl, trivial⟩ ?_
    | refine Chk.mk ⟨rfl, rfl, trivial⟩ ?_
    | refine Chk.mk ⟨rfl, rfl, rfl, trivial⟩ ?_
    | refine Chk.mk ⟨rfl, rfl, rfl, rfl, trivial⟩ ?_
    | refine Chk.mk ⟨rfl, rfl, rfl, rfl, rfl, trivial⟩ ?_
    | refine Chk.mk ⟨rfl, rfl, rfl, rfl, rfl, rfl, trivial⟩ ?_)
  conv => whnf
  intro b44
  repeat (first
    | refine LoadD.own 0 rfl _ rfl rfl ?_
    | refine LoadD.own 1 rfl _ rfl rfl ?_
    | refine LoadP.at 0 rfl _ rfl rfl ?_
    | refine LoadP.at 1 rfl _ rfl rfl ?_
    | refine StoreD.st 0 rfl rfl rfl ?_
    | refine StoreD.st 1 rfl rfl rfl ?_
    | refine CmpD.yes rfl ?_
    | refine CmpD.yes (by decide) ?_
    | refine CmpD.no (by decide) ?_
    | refine Chk.mk ⟨rfl, trivial⟩ ?_
    | refine Chk.mk ⟨rfl, rfl, trivial⟩ ?_
    | refine Chk.mk ⟨rfl, rfl, rfl, trivial⟩ ?_
    | refine Chk.mk ⟨rfl, rfl, rfl, rfl, trivial⟩ ?_
    | refine Chk.mk ⟨rfl, rfl, rfl, rfl, rfl, trivial⟩ ?_
    | refine Chk.mk ⟨rfl, rfl, rfl, rfl, rfl, rfl, trivial⟩ ?_)
  refine Tri.mono (same_imgs (g1 := outs) (g2 := [⟨30, aN2, 4096, 4096, madeL 2 4096⟩, ⟨40, aN3, 4096, 4096, madeL 3 4096⟩]) ?_ ?_ ?_) ?_
  · exact imgsR_own [_, _, _, _] hO hcs [_]
  · refine ⟨⟨rfl, .inr ⟨b44, 0, rfl, _, _, _, .own _ (mem_getD (last_get ([_, _, _, _] ++ (chO :: chs)) _) (List.mem_singleton.2 rfl)), rfl, rfl⟩⟩, ?_⟩
    intro g hg
    simp only [List.mem_cons, List.not_mem_nil, or_false] at hg
    rcases hg with rfl | rfl
    · exact ⟨(n2.mono hJ11).slC⟩
    · exact ⟨n3.slC⟩
  · have := congrArg List.length hpr
    simp at this; omega
  rintro v J12 S12 hJ12 ⟨rfl, rfl, rfl⟩
  rw [decide_eq_true (show outs.map Img.pr = List.map Img.pr [⟨30, aN2, 4096, 4096, madeL 2 4096⟩, ⟨40, aN3, 4096, 4096, madeL 3 4096⟩] from hpr)]
  exact Done.mk rfl
end Go.Proofs.Ytbpdbgcndfcilaa
namespace Go.Proofs.Ytbpdbgcndfcilaa
open Go.RowKit Go.Sl

def pickS (n m : Int) : Int := if m ≤ 0 then 0 else n % m
theorem pickS_range {n m : Int} (h : 0 < m) : 0 ≤ pickS n m ∧ pickS n m < m := by
  unfold pickS
  rw [if_neg (by omega)]
  exact ⟨Int.emod_nonneg _ (by omega), Int.emod_lt_of_pos _ h⟩
theorem emod_of_tmod (n m : Int) (hm : 0 < m) : n % m = if n.tmod m < 0 then n.tmod m + m else n.tmod m := by
  have h1 : n = m * n.tdiv m + n.tmod m := (Int.mul_tdiv_add_tmod n m).symm
  have h2 := Int.tmod_lt_of_pos n hm
  have h3 : -m < n.tmod m := by
    have h4 := Int.tmod_lt_of_pos (-n) hm
    rw [Int.neg_tmod] at h4; omega
  split
  · have e : n = (n.tmod m + m) + m * (n.tdiv m - 1) := by
      conv => lhs; rw [h1]
      rw [Int.mul_sub]; omega
    conv => lhs; rw [e]
    rw [Int.add_mul_emod_self_left, Int.emod_eq_of_lt (by omega) (by omega)]
  · have e : n = n.tmod m + m * n.tdiv m := by omega
    conv => lhs; rw [e]
    rw [Int.add_mul_emod_self_left, Int.emod_eq_of_lt (by omega) (by omega)]
theorem low_Pick (n m : Int) (I : Imm) (_hn : In64 n) (hm : In64 m) : Tri Try.prog 35 #[.int .i64 n, .int .i64 m] I [] fun v J _ => v = .int .i64 (pickS n m) ∧ I = J := by
  unfold In64 at *
  refine Tri.of (args := [.int .i64 n, .int .i64 m]) tabOk Try.func35 rfl (by kernel_rfl) (by kernel_rfl) ?_
  refine CmpD.split (fun c => ?_) (fun c => ?_)
  · refine Done.mk ⟨?_, rfl⟩
    rw [pickS, if_pos c]; rfl
  have h2 := Int.tmod_lt_of_pos n (show 0 < m by omega)
  have h3 : -m < n.tmod m := by
    have h4 := Int.tmod_lt_of_pos (-n) (show 0 < m by omega)
    rw [Int.neg_tmod] at h4; omega
  have e := emod_of_tmod n m (by omega)
  refine Chk.mk (by omega) ?_
  refine ToD.to (n.tmod m) rfl ?_
  refine CmpD.split (fun c2 => ?_) (fun c2 => ?_)
  · refine ToD.i64 (by omega) (by omega) ?_
    refine Done.mk ⟨?_, rfl⟩
    rw [pickS, if_neg c, e, if_pos c2]; rfl
  · refine Done.mk ⟨?_, rfl⟩
    rw [pickS, if_neg c, e, if_neg c2]; rfl
end Go.Proofs.Ytbpdbgcndfcilaa
namespace Go.Proofs.Ytbpdbgcndfcilaa
open Go.RowKit Go.Sl
set_option maxRecDepth 20000

theorem law_made_own (n seed : Int) (I : Imm) : Tri Try.prog 49 #[.int .i64 n, .int .i64 seed] I [] fun v J S' => ∃ b ch, v = .agg #[.int .i64 n, .slice (some ⟨b, 0, none⟩) 4096 4096] ∧ OwnB ch (some ⟨b, 0, none⟩) 4096 4096 (madeL seed 4096) ∧ I = J ∧ S' = [ch] := by
  refine Tri.drop ?_ (fun _ _ _ _ h => h)
  refine Tri.of (args := [.int .i64 n, .int .i64 seed]) tabOk Try.func49 rfl (by kernel_rfl) (by kernel_rfl) ?_
  conv => whnf
  intro b
  repeat (first
    | refine LoadD.own 0 rfl _ rfl rfl ?_
    | refine LoadP.at 0 rfl _ rfl rfl ?_
    | refine StoreD.st 0 rfl rfl rfl ?_
    | refine CmpD.yes rfl ?_
    | refine CmpD.yes (by decide) ?_
    | refine CmpD.no (by decide) ?_
    | refine Chk.mk ⟨rfl, trivial⟩ ?_
    | refine Chk.mk ⟨rfl, rfl, trivial⟩ ?_
    | refine Chk.mk ⟨rfl, rfl, rfl, trivial⟩ ?_
    | refine Chk.mk ⟨rfl, rfl, rfl, rfl, trivial⟩ ?_
    | refine Chk.mk ⟨rfl, rfl, rfl, rfl, rfl, trivial⟩ ?_
    | refine Chk.mk ⟨rfl, rfl, rfl, rfl, rfl, rfl, trivial⟩ ?_)
  refine Tri.frameX (made_own seed 4096 (by omega) I) [] rfl rfl ?_
  rintro v J A' hJ ⟨b2, ch, rfl, hr, rfl, rfl⟩
  repeat (first
    | refine LoadD.own 0 rfl _ rfl rfl ?_
    | refine LoadD.own 1 rfl _ rfl rfl ?_
    | refine LoadP.at 0 rfl _ rfl rfl ?_
    | refine LoadP.at 1 rfl _ rfl rfl ?_
    | refine StoreD.st 0 rfl rfl rfl ?_
    | refine StoreD.st 1 rfl rfl rfl ?_
    | refine CmpD.yes rfl ?_
    | refine CmpD.yes (by decide) ?_
    | refine CmpD.no (by decide) ?_
    | refine Chk.mk ⟨rfl, trivial⟩ ?_
    | refine Chk.mk ⟨rfl, rfl, trivial⟩ ?_
    | refine Chk.mk ⟨rfl, rfl, rfl, trivial⟩ ?_
    | refine Chk.mk ⟨rfl, rfl, rfl, rfl, trivial⟩ ?_
    | refine Chk.mk ⟨rfl, rfl, rfl, rfl, rfl, trivial⟩ ?_
    | refine Chk.mk ⟨rfl, rfl, rfl, rfl, rfl, rfl, trivial⟩ ?_)
  exact Done.mk ⟨[ch], Drop.pick [1] _ rfl, b2, ch, rfl, hr, rfl, rfl⟩
theorem home_pair (x y : Int) (d1 d2 : Dat) (h1 : d1.length = 4096) (h2 : d2.length = 4096) : (homeP [(x, d1), (y, d2)]).length ≤ 2 ∧ 1 ≤ (homeP [(x, d1), (y, d2)]).length ∧ ∀ g ∈ homeP [(x, d1), (y, d2)], g.2.length = 4096 := by
  by_cases h : y = x
  · subst h
    have e : lastP [(y, d1), (y, d2)] = [(y, d2)] := by simp [lastP, pput]
    unfold homeP
    rw [e, show List.map Prod.fst [(y, d2)] = [y] from rfl, sortI_of (m := [y]) (List.Perm.refl _) (by simp)]
    refine ⟨by simp, by simp, ?_⟩
    intro g hg
    simp at hg
    subst hg; exact h2
  · have e : lastP [(x, d1), (y, d2)] = [(x, d1), (y, d2)] := by simp [lastP, pput, h]
    unfold homeP
    rw [e, show List.map Prod.fst [(x, d1), (y, d2)] = [x, y] from rfl]
    have hp := sortI_perm [x, y]
    refine ⟨by rw [List.length_map, hp.length_eq]; simp, by rw [List.length_map, hp.length_eq]; simp, ?_⟩
    intro g hg
    obtain ⟨n, hn, rfl⟩ := List.mem_map.1 hg
    have := hp.mem_iff.1 hn
    simp only [List.mem_cons, List.not_mem_nil, or_false] at this
    rcases this with rfl | rfl
    · simp [h1]
    · have hb : (n == x) = false := by simpa using h
      simp [List.lookup_cons, hb, h2]
theorem AB.img {c : List Blk} {g : Img} (h : OwnB c g.a g.len g.cap g.data) (hd : g.data.length = 4096) : ∃ x : AB, x.Ok ∧ c = x.ch ∧ Value.slice g.a g.len g.cap = x.cell := by
  have hn := h.n
  rw [bts_length, hd] at hn
  have e : g.len = 4096 := by omega
  rw [e] at h ⊢
  obtain ⟨x, h1, h2, h3, _⟩ := AB.of h
  exact ⟨x, h1, h2, h3.symm⟩
theorem OwnImgs.few : ∀ {cs : List (List Blk)} {gs : List Img}, OwnImgs cs gs → 1 ≤ gs.length → gs.length ≤ 2 → (∃ p k, gs = [p] ∧ cs = [k]) ∨ (∃ p p' k k', gs = [p, p'] ∧ cs = [k, k'])
  | [c], [g], _, _, _ => .inl ⟨g, c, rfl, rfl⟩
  | [c, c'], [g, g'], _, _, _ => .inr ⟨g, g', c, c', rfl, rfl⟩
  | _, [], _, h, _ => by simp at h
  | _, _ :: _ :: _ :: _, _, _, h => by simp at h
  | [], _ :: _, h, _, _ => h.elim
  | _ :: _ :: _, [_], h, _, _ => h.2.elim
  | [_], [_, _], h, _, _ => h.2.elim
  | _ :: _ :: _ :: _, [_, _], h, _, _ => h.2.2.elim
def hdV (o : List Img) (j : Nat) : Value := match o[j]? with
  | some g => .slice g.a g.len g.cap
  | none => undef
def allC (o1 o2 : List Img) (i : Nat) : List Value := (List.range i).flatMap fun j => [hdV o1 j, hdV o2 j]
theorem allC_succ (o1 o2 : List Img) (i : Nat) : allC o1 o2 (i + 1) = allC o1 o2 i ++ [hdV o1 i, hdV o2 i] := by
  unfold allC
  rw [List.range_succ, List.flatMap_append]; simp
theorem allC_length (o1 o2 : List Img) : ∀ (i : Nat), (allC o1 o2 i).length = 2 * i
  | 0 => rfl
  | i + 1 => by rw [allC_succ, List.length_append, allC_length o1 o2 i]; simp; omega
set_option maxHeartbeats 8000000 in
theorem replaySpares_walk (n : Int) (hn : In64 n) (m : Int) (hm : In64 m) (I : Imm) : Tri Try.prog 8 #[.int .i64 n, .int .i64 m] I [] fun v _ _ => v = .bool true := by
  refine Tri.of (args := [.int .i64 n, .int .i64 m]) tabOk Try.func8 rfl (by kernel_rfl) (by kernel_rfl) ?_
  have hp1 := pickS_range (n := n) (m := 46) (by decide)
  have hp2 := pickS_range (n := m) (m := 46) (by decide)
  refine Tri.free (low_Pick n 46 I hn (by unfold In64; omega)) ?_
  rintro v _ _ hJ ⟨rfl, rfl⟩
  refine ToD.to (18 + pickS n 46) (by show IntKind.i64.wrap (18 + pickS n 46) = _; exact wrap_i64 (by omega) (by omega)) ?_
  refine Tri.free (low_Pick m 46 I hm (by unfold In64; omega)) ?_
  rintro v _ _ hJ ⟨rfl, rfl⟩
  refine ToD.to (18 + pickS m 46) (by show IntKind.i64.wrap (18 + pickS m 46) = _; exact wrap_i64 (by omega) (by omega)) ?_
  obtain ⟨x, hx⟩ : ∃ x, x = 18 + pickS n 46 := ⟨_, rfl⟩
  obtain ⟨y, hy⟩ : ∃ y, y = 18 + pickS m 46 := ⟨_, rfl⟩
  rw [← hx, ← hy]
  refine Tri.frameX (law_made_own x 1 I) [] rfl rfl ?_
  rintro v _ A' hJ ⟨m1, cm1, rfl, ho1, rfl, rfl⟩
  conv => whnf
  intro b1
  refine Tri.frameX (law_made_own y 2 I) [] rfl rfl ?_
  rintro v _ A' hJ ⟨m2, cm2, rfl, ho2, rfl, rfl⟩
  conv => whnf
  intro b2
  conv => whnf
  intro bg
  refine Tri.free (law_layout64 I) ?_
  rintro v _ _ hJ ⟨rfl, rfl⟩
  obtain ⟨im1, him1⟩ : ∃ g : Img, g = ⟨x, some ⟨m1, 0, none⟩, 4096, 4096, madeL 1 4096⟩ := ⟨_, rfl⟩
  obtain ⟨im2, him2⟩ : ∃ g : Img, g = ⟨y, some ⟨m2, 0, none⟩, 4096, 4096, madeL 2 4096⟩ := ⟨_, rfl⟩
  obtain ⟨gl, hgl⟩ : ∃ gl : List Grp, gl = [⟨0, 0, some ⟨b1, 0, none⟩, 1, [im1]⟩, ⟨0, 0, some ⟨b2, 0, none⟩, 1, [im2]⟩] := ⟨_, rfl⟩
  have hallP : allP gl = [(x, madeL 1 4096), (y, madeL 2 4096)] := by rw [hgl, him1, him2]; rfl
  have hG : ∀ (K : Imm) (c1 c2 : List Blk) (R : St), c1 = [(b1, row [.int .i64 x, .slice (some ⟨m1, 0, none⟩) 4096 4096] 87)] → c2 = [(b2, row [.int .i64 y, .slice (some ⟨m2, 0, none⟩) 4096 4096] 87)] → GrpsR K ([cm1, c1, cm2, c2, [(bg, row [.int .i64 0, .int .i64 0, .slice (some ⟨b1, 0, none⟩) 1 1, .int .i64 0, .int .i64 0, .slice (some ⟨b2, 0, none⟩) 1 1] 69)]] ++ R) (some ⟨bg, 0, none⟩) gl := by
    intro K c1 c2 R h1 h2
    rw [hgl]
    refine ⟨⟨rfl, .inr ⟨bg, 0, rfl, _, _, _, .own 4 List.mem_cons_self, rfl, rfl⟩⟩, ?_⟩
    intro g hg
    simp only [List.mem_cons, List.not_mem_nil, or_false] at hg
    rcases hg with rfl | rfl
    · refine ⟨⟨⟨rfl, .inr ⟨b1, 0, rfl, _, _, _, .own 1 (by rw [h1]; exact List.mem_cons_self), by rw [him1]; rfl, rfl⟩⟩, ?_⟩, by simp⟩
      intro g hg
      simp only [List.mem_cons, List.not_mem_nil, or_false] at hg
      rw [hg, him1]
      exact ⟨ho1.slC1 0 rfl⟩
    · refine ⟨⟨⟨rfl, .inr ⟨b2, 0, rfl, _, _, _, .own 3 (by rw [h2]; exact List.mem_cons_self), by rw [him2]; rfl, rfl⟩⟩, ?_⟩, by simp⟩
      intro g hg
      simp only [List.mem_cons, List.not_mem_nil, or_false] at hg
      rw [hg, him2]
      exact ⟨ho2.slC1 2 rfl⟩
  have hall : (allI gl).length ≤ 1000000 := by rw [hgl]; simp [allI]
  have hfew : ∀ g ∈ allI gl, g.len ≤ 100000000 := by intro g hg; rw [hgl, him1, him2] at hg; simp [allI] at hg; rcases hg with rfl | rfl <;> simp
  have hok : HomeOk (layOf 64) (allP gl) := by
    rw [hallP]
    intro g hg
    show (18 : Int) ≤ g.1 ∧ g.1 < 64
    simp only [List.mem_cons, List.not_mem_nil, or_false] at hg
    rcases hg with rfl | rfl
    · show 18 ≤ x ∧ x < 64; omega
    · show 18 ≤ y ∧ y < 64; omega
  obtain ⟨hh1, hh2, hh3⟩ := home_pair x y _ _ (madeL_length 1 4096) (madeL_length 2 4096)
  rw [← hallP] at hh1 hh2 hh3
  have hlg : gl.length = 2 := by rw [hgl]; rfl
  have hX : 64 ≤ (layOf 64).b ∧ (layOf 64).b ≤ 512 ∧ layOf 64 = layOf ((layOf 64).b.toNat : Nat) := ⟨by decide, by decide, rfl⟩
  have hc1 := home_any (capG := 2) (hG I _ _ [] rfl rfl) (by rw [hlg]; omega) hall hfew (layOf 64)
  rw [hlg] at hc1
  refine Tri.mono hc1 ?_
  rintro v J S' hJ (⟨h, _⟩ | ⟨_, h, _⟩ | ⟨_, _, aO, capO, chO, chs, outs, rfl, hO, hcs, hpr, rfl⟩)
  · exact absurd hX h
  · exact absurd hok h
  obtain ⟨c1, hc1⟩ : ∃ c, c = [(b1, row [.int .i64 x, .slice (some ⟨m1, 0, none⟩) 4096 4096] 87)] := ⟨_, rfl⟩
  obtain ⟨c2, hc2⟩ : ∃ c, c = [(b2, row [.int .i64 y, .slice (some ⟨m2, 0, none⟩) 4096 4096] 87)] := ⟨_, rfl⟩
  obtain ⟨c3, hc3⟩ : ∃ c, c = [(bg, row [.int .i64 0, .int .i64 0, .slice (some ⟨b1, 0, none⟩) 1 1, .int .i64 0, .int .i64 0, .slice (some ⟨b2, 0, none⟩) 1 1] 69)] := ⟨_, rfl⟩
  refine Tri.free (law_layout64 J) ?_
  rintro v _ _ hJ2 ⟨rfl, rfl⟩
  have hcc2 := home_any (I := J) (capG := 2) (S := [cm1, c1, cm2, c2, c3] ++ (chO :: chs)) (by
    have := hG J c1 c2 (chO :: chs) hc1 hc2
    rw [← hc3] at this
    exact this) (by rw [hlg]; omega) hall hfew (layOf 64)
  rw [hlg, hc1, hc2, hc3] at hcc2
  refine Tri.mono hcc2 ?_
  rintro v J2 S' hJ2 (⟨h, _⟩ | ⟨_, h, _⟩ | ⟨_, _, aO2, capO2, chO2, chs2, outs2, rfl, hO2, hcs2, hpr2, rfl⟩)
  · exact absurd hX h
  · exact absurd hok h
  rw [← hc1, ← hc2, ← hc3]
  have hol : outs.length = outs2.length := by rw [← List.length_map (f := Img.pr), hpr, ← hpr2, List.length_map]
  have hL : outs.length ≤ 2 ∧ 1 ≤ outs.length := by rw [← List.length_map (f := Img.pr), hpr]; exact ⟨hh1, hh2⟩
  have hd1 : ∀ g ∈ outs, g.data.length = 4096 := fun g hg => hh3 g.pr (by rw [← hpr]; exact List.mem_map_of_mem hg)
  have hd2 : ∀ g ∈ outs2, g.data.length = 4096 := fun g hg => hh3 g.pr (by rw [← hpr2]; exact List.mem_map_of_mem hg)
  have hi1 : ImgsR J2 ([cm1, c1, cm2, c2, c3] ++ (chO :: chs) ++ (chO2 :: chs2)) aO outs := by
    have := imgsR_own (I := J2) [cm1, c1, cm2, c2, c3] hO hcs (chO2 :: chs2)
    rwa [← List.append_assoc] at this
  have hi2 : ImgsR J2 ([cm1, c1, cm2, c2, c3] ++ (chO :: chs) ++ (chO2 :: chs2)) aO2 outs2 := by
    have := imgsR_own (I := J2) ([cm1, c1, cm2, c2, c3] ++ (chO :: chs)) hO2 hcs2 []
    rwa [List.append_nil] at this
  refine ToD.to 0 rfl ?_
  repeat (first
    | refine LoadD.own 0 rfl _ rfl rfl ?_
    | refine LoadP.at 0 rfl _ rfl rfl ?_
    | refine StoreD.st 0 rfl rfl rfl ?_
    | refine CmpD.yes rfl ?_
    | refine CmpD.yes (by decide) ?_
    | refine CmpD.no (by decide) ?_
    | refine Chk.mk ⟨rfl, trivial⟩ ?_
    | refine Chk.mk ⟨rfl, rfl, trivial⟩ ?_
    | refine Chk.mk ⟨rfl, rfl, rfl, trivial⟩ ?_
    | refine Chk.mk ⟨rfl, rfl, rfl, rfl, trivial⟩ ?_
    | refine Chk.mk ⟨rfl, rfl, rfl, rfl, rfl, trivial⟩ ?_
    | refine Chk.mk ⟨rfl, rfl, rfl, rfl, rfl, rfl, trivial⟩ ?_)
  refine Tri.mono (same_imgs hi1 hi2 (by omega)) ?_
  rintro v _ _ hJ3 ⟨rfl, rfl, rfl⟩
  rw [hpr, hpr2, decide_eq_true rfl]
  obtain ⟨S0, hS0⟩ : ∃ S0, S0 = [cm1, c1, cm2, c2, c3] ++ (chO :: chs) ++ (chO2 :: chs2) := ⟨_, rfl⟩
  have g1 : S0[1]? = some [(b1, row [.int .i64 x, .slice (some ⟨m1, 0, none⟩) 4096 4096] 87)] := by rw [hS0, hc1]; rfl
  have g2 : S0[3]? = some [(b2, row [.int .i64 y, .slice (some ⟨m2, 0, none⟩) 4096 4096] 87)] := by rw [hS0, hc2]; rfl
  have g3 : S0[4]? = some [(bg, row [.int .i64 0, .int .i64 0, .slice (some ⟨b1, 0, none⟩) 1 1, .int .i64 0, .int .i64 0, .slice (some ⟨b2, 0, none⟩) 1 1] 69)] := by rw [hS0, hc3]; rfl
  rw [← hS0] at hi1 hi2 ⊢
  refine CodeF.sched [[], [0], [0, 1], [0, 1, 2], [0, 1, 2, 3], [0, 1, 2, 3, 4], [0, 1, 2, 3, 4, 5], [], [7], [7, 8], [7, 8, 9], [7, 8, 9, 10], [7, 8, 9, 10, 11], [7, 8, 9, 10, 11, 12], [0, 1, 2, 3, 4, 5, 6, 7, 8, 9, 10, 11, 12, 13], [0, 1, 2, 3, 4, 5, 6, 7, 8, 9, 10, 11, 12, 13, 14]] [0, 1, 2, 3, 4, 5, 6, 7, 8, 9, 10, 11, 12, 13, 14, 15] (by kernel_rfl) ?_
  refine Chk.mk (by decide) ?_
  refine LoadP.at 4 g3 [.slice (some ⟨b1, 0, none⟩) 1 1] rfl rfl ?_
  refine Chk.mk (by decide) ?_
  refine LoadP.at 1 g1 [.slice (some ⟨m1, 0, none⟩) 4096 4096] rfl rfl ?_
  refine Chk.mk (by decide) ?_
  refine LoadP.at 4 g3 [.slice (some ⟨b2, 0, none⟩) 1 1] rfl rfl ?_
  refine Chk.mk (by decide) ?_
  refine LoadP.at 3 g2 [.slice (some ⟨m2, 0, none⟩) 4096 4096] rfl rfl ?_
  conv => whnf
  intro bA
  obtain ⟨base, hbase⟩ : ∃ l : List Value, l = [.slice (some ⟨m1, 0, none⟩) 4096 4096, .slice (some ⟨m2, 0, none⟩) 4096 4096] := ⟨_, rfl⟩
  have g5 : S0[5]? = some chO := by rw [hS0]; rfl
  have g6 : S0[5 + 1 + chs.length]? = some chO2 := by
    rw [hS0, List.getElem?_append_right (by simp; omega), show 5 + 1 + chs.length - ([cm1, c1, cm2, c2, c3] ++ chO :: chs).length = 0 by simp; omega]; rfl
  have hl5 := (List.getElem?_eq_some_iff.1 g5).1
  have hl6 := (List.getElem?_eq_some_iff.1 g6).1
  obtain ⟨k6, hk6⟩ : ∃ k, k = 5 + 1 + chs.length := ⟨_, rfl⟩
  rw [← hk6] at g6 hl6
  obtain ⟨L, hLL⟩ : ∃ L, L = outs.length := ⟨_, rfl⟩
  rw [← hLL] at hL hol hO ⊢
  rw [← hol] at hO2 ⊢
  refine CodeF.loopD [6, 8, 10, 11] (fun vs J' S' => ∃ (i : Nat) (aA : Option Addr) (capA : Nat) (chA : List Blk), i ≤ L ∧ OwnC chA 1 aA (2 + 2 * i) capA (base ++ allC outs outs2 i) ∧ J2 = J' ∧
      vs = [.slice aO L capO, .slice aO2 L capO2, .slice aA (2 + 2 * i) capA, .int .i64 i] ∧ S' = S0 ++ [chA])
    (fun vs _ _ => match vs with | [_, _, _, .int _ i] => ((L : Int) - i).toNat | _ => 0) ?_ ?_
  · exact ⟨_, Drop.refl _, 0, _, 2, _, by omega, OwnC.whole (by rw [hbase]; rfl), rfl, rfl, by rw [hbase]; rfl⟩
  rintro vs gE J' S' hJ' ⟨i, aA, capA, chA, hi, hA, rfl, rfl, rfl⟩
  refine CmpD.split (fun (c1 : (i : Int) < L) => ?_) (fun (c1 : ¬ (i : Int) < L) => ?_)
  · obtain ⟨g, hg⟩ : ∃ g, outs[i]? = some g := ⟨_, List.getElem?_eq_getElem (by omega)⟩
    obtain ⟨h, hh⟩ : ∃ g, outs2[i]? = some g := ⟨_, List.getElem?_eq_getElem (by omega)⟩
    have w1 : (imgCells outs)[i * 2 + 1]? = some (.slice g.a g.len g.cap) := by
      obtain ⟨q1, q2⟩ := List.getElem?_eq_some_iff.1 hg
      rw [imgCells_1 q1, q2]
    have w2 : (imgCells outs2)[i * 2 + 1]? = some (.slice h.a h.len h.cap) := by
      obtain ⟨q1, q2⟩ := List.getElem?_eq_some_iff.1 hh
      rw [imgCells_1 q1, q2]
    have e5 : (S0 ++ [chA])[5]? = some chO := by rw [List.getElem?_append_left hl5]; exact g5
    have e6 : (S0 ++ [chA])[k6]? = some chO2 := by rw [List.getElem?_append_left hl6]; exact g6
    obtain ⟨bO, fO, rfl, hcO⟩ := hO.cellsP (I := J2) 5 e5 (by omega)
    obtain ⟨bO2, fO2, rfl, hcO2⟩ := hO2.cellsP (I := J2) k6 e6 (by omega)
    have v1 := hcO.at w1
    have v2 := hcO2.at w2
    refine CodeF.sched [[], [], [], [1, 2], [1, 2, 3], [1, 2, 3, 4], [], [], [6, 7], [6, 7, 8], [6, 7, 8, 9], [1, 2, 3, 4, 5, 6, 7, 8, 9, 10], [0, 1, 2, 3, 4, 5, 6, 7, 8, 9, 10, 11], [0, 1, 2, 3, 4, 5, 6, 7, 8, 9, 10, 11, 12]] [0, 1, 2, 3, 4, 5, 6, 7, 8, 9, 10, 11, 12, 13] (by kernel_rfl) ?_
    refine Chk.mk (by omega) ?_
    refine LoadP.own 5 [.slice g.a g.len g.cap] v1 ?_
    refine Chk.mk (by omega) ?_
    refine LoadP.own k6 [.slice h.a h.len h.cap] v2 ?_
    conv => whnf
    intro bN
    have hnew : base ++ allC outs outs2 i ++ [.slice g.a g.len g.cap, .slice h.a h.len h.cap] = base ++ allC outs outs2 (i + 1) := by
      rw [allC_succ, List.append_assoc]
      unfold hdV
      rw [hg, hh]
    refine appendD tabOk rfl rfl rfl rfl rfl rfl rfl S0.length (two_get S0 chA _) hA (SrcOk.slice (n := 2) (news := [.slice g.a g.len g.cap, .slice h.a h.len h.cap]) tabOk rfl ((OwnC.whole (len := 2) (size := 1) rfl).slC (S0.length + 1) (two_get1 S0 chA _)) (by intro v hv; simp only [List.mem_cons, List.not_mem_nil, or_false] at hv; rcases hv with rfl | rfl <;> rfl)) rfl (by show (2 + 2 * i + 2) * 24 ≤ _; omega) (by omega) ?_
    intro a2 cap2 ch2 hO'
    rw [hnew] at hO'
    refine ToD.i64 (by omega) (by omega) ?_
    refine ⟨S0 ++ [ch2], ?_, ⟨i + 1, a2, cap2, ch2, by omega, hO', rfl, rfl, rfl⟩, ?_⟩
    · rw [two_set]; exact Drop.init _ _
    · show ((L : Int) - ((i : Int) + 1)).toNat < ((L : Int) - (i : Int)).toNat; omega
  · obtain rfl : i = L := by omega
    have hA' := hA
    have fin : ∀ (I' : Imm) (xs : List AB) (is : List Nat), (∀ z ∈ xs, z.Ok) → base ++ allC outs outs2 i = xs.map AB.cell → okAt ((S0 ++ [chA]).set S0.length []).length is = true → St.at ((S0 ++ [chA]).set S0.length []) is = xs.map AB.ch → Rds I' aA (2 + 2 * i) (base ++ allC outs outs2 i) →
        Tri Try.prog 53 #[.slice aA (2 + 2 * i) capA] I' ((S0 ++ [chA]).set S0.length []) fun v _ _ => v = .bool true := by
      intro I' xs is hx hcx hok hat hR
      have hxl : xs.length = 2 + 2 * i := by
        have := congrArg List.length hcx
        rw [List.length_append, allC_length, hbase, List.length_map] at this
        exact this.symm
      rw [hcx, ← hxl] at hR
      have := apart I' xs hx aA capA hR (by omega)
      rw [hxl] at this
      exact Tri.frameX this is hok hat (fun v J A' hJ h => by rw [spineS_eq]; exact h)
    refine Tri.fix S0.length (last_get S0 chA) fun I' hI' hIm => ?_
    have hR : Rds I' aA (2 + 2 * i) (base ++ allC outs outs2 i) := Rds.of_own hA hIm
    obtain ⟨x1, hx1, hxc1, hxv1⟩ := AB.img (c := cm1) (g := ⟨0, some ⟨m1, 0, none⟩, 4096, 4096, madeL 1 4096⟩) ho1 (madeL_length _ _)
    obtain ⟨x2, hx2, hxc2, hxv2⟩ := AB.img (c := cm2) (g := ⟨0, some ⟨m2, 0, none⟩, 4096, 4096, madeL 2 4096⟩) ho2 (madeL_length _ _)
    have hcall : Tri Try.prog 53 #[.slice aA (2 + 2 * i) capA] I' ((S0 ++ [chA]).set S0.length []) fun v _ _ => v = .bool true := by
      rcases hcs.few (by omega) (by omega) with ⟨p, k1, e1, e2⟩ | ⟨p, p', k1, k2, e1, e2⟩ <;> rcases hcs2.few (by omega) (by omega) with ⟨q, l1, e3, e4⟩ | ⟨q, q', l1, l2, e3, e4⟩
      · rw [e1, e2] at hcs
        rw [e3, e4] at hcs2
        obtain ⟨x3, hx3, hxc3, hxv3⟩ := AB.img hcs.1 (hd1 p (by rw [e1]; simp))
        obtain ⟨x4, hx4, hxc4, hxv4⟩ := AB.img hcs2.1 (hd2 q (by rw [e3]; simp))
        obtain rfl : i = 1 := by rw [hLL, e1]; rfl
        refine fin I' [x1, x2, x3, x4] [0, 2, 6, 8] ?_ ?_ ?_ ?_ hR
        · intro z hz
          simp only [List.mem_cons, List.not_mem_nil, or_false] at hz
          rcases hz with rfl | rfl | rfl | rfl <;> assumption
        · rw [hbase, e1, e3]
          show [_, _, _, _] = [x1.cell, x2.cell, x3.cell, x4.cell]
          rw [← hxv1, ← hxv2, ← hxv3, ← hxv4]; rfl
        · rw [hS0, e2, e4]; rfl
        · rw [hS0, e2, e4, hxc1, hxc2, hxc3, hxc4]; rfl
      · rw [e1] at hLL; rw [e3] at hol; simp at hLL hol; omega
      · rw [e1] at hLL; rw [e3] at hol; simp at hLL hol; omega
      · rw [e1, e2] at hcs
        rw [e3, e4] at hcs2
        obtain ⟨x3, hx3, hxc3, hxv3⟩ := AB.img hcs.1 (hd1 p (by rw [e1]; simp))
        obtain ⟨x4, hx4, hxc4, hxv4⟩ := AB.img hcs2.1 (hd2 q (by rw [e3]; simp))
        obtain ⟨x5, hx5, hxc5, hxv5⟩ := AB.img hcs.2.1 (hd1 p' (by rw [e1]; simp))
        obtain ⟨x6, hx6, hxc6, hxv6⟩ := AB.img hcs2.2.1 (hd2 q' (by rw [e3]; simp))
        obtain rfl : i = 2 := by rw [hLL, e1]; rfl
        refine fin I' [x1, x2, x3, x4, x5, x6] [0, 2, 6, 9, 7, 10] ?_ ?_ ?_ ?_ hR
        · intro z hz
          simp only [List.mem_cons, List.not_mem_nil, or_false] at hz
          rcases hz with rfl | rfl | rfl | rfl | rfl | rfl <;> assumption
        · rw [hbase, e1, e3]
          show [_, _, _, _, _, _] = [x1.cell, x2.cell, x3.cell, x4.cell, x5.cell, x6.cell]
          rw [← hxv1, ← hxv2, ← hxv3, ← hxv4, ← hxv5, ← hxv6]; rfl
        · rw [hS0, e2, e4]; rfl
        · rw [hS0, e2, e4, hxc1, hxc2, hxc3, hxc4, hxc5, hxc6]; rfl
    refine Tri.mono hcall ?_
    rintro v J3 S3 hJ3 rfl
    refine Tri.mono (awake10 J3 S3) ?_
    rintro v J4 S4 hJ4 rfl
    exact Done.mk rfl
end Go.Proofs.Ytbpdbgcndfcilaa

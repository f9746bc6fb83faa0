/- Texts of this claim laid together: ScanG, Rf4, Rf4b, CopyImgs, Rf10b, ScanA, VolP, Vol, Vol2, Awake08, Ckpt, Rf10c, Rf4c, Rf4d, Rf4e, Rf4f, Rf4g, Rf4h, Rf10d, Ref03b, Ref03c, Rf10a, Image, Awk08, JNum, JournalNumbers, ReplayNumbers, ReplayTells, Commit, Cach7, Cach8, Cach9, Cach10, LowPick, Img9, Wi, ScanP, WhP, WhL, Mount, R6a, R6b, R6g, R6c, R6d, R6e, R6f, R9a, Written, Same9, ScanAny, SameG, Num9, Torn, Crash, KeptP, AgainP, AgainL, Mount2, Format. -/
import Derived.Test.YtegdcjnjnoeinaaGreatBCacheNumbers4
import Derived.Test.YtegdcjnjnoeinaaGreatBCacheNumbers3
import Derived.Test.YtegdcjnjnoeinaaGreatBCacheNumbers2
import Derived.Test.YtegdcjnjnoeinaaGreatBCacheNumbers1
namespace Go.Proofs.YtegdcjnjnoeinaaGreat
open Go.RowKit Go.Sl
set_option maxRecDepth 20000

abbrev G3 := Nat × Nat × List PImg
/-- groups one behind the other -/
noncomputable def scanK (rb : Nat → Dat) (ep : Int) : Nat → Nat → Int → Nat → List G3
  | 0, _, _, _ => []
  | f + 1, at_, seq, room => match grpP rb at_ room with
    | none => []
    | some (e, s, l) => if (e : Int) = ep ∧ (s : Int) = seq then (e, s, l) :: scanK rb ep f (at_ + (l.length + 1)) (seq + 1) (room - (l.length + 1)) else []
theorem grpP_room {rb : Nat → Dat} {at_ room e s : Nat} {l : List PImg} (h : grpP rb at_ room = some (e, s, l)) : l.length + 1 ≤ room ∧ 1 ≤ l.length ∧ l.length ≤ 32 := by
  unfold grpP at h
  split at h
  · cases h
  · rename_i e' s' l' hh
    split at h
    · rename_i hr
      obtain ⟨hR, hp⟩ := getP_some h
      have := congrArg List.length hp
      rw [putP_length, List.length_map, List.length_range] at this
      exact ⟨by omega, hR.2.2.2.2.1, hR.2.2.2.2.2.1⟩
    · cases h
/-- a group, as it lies, told as numbers and images -/
def Grp.g3 (g : Grp) : Int × Int × List PImg := (g.e, g.s, g.gs.map Img.pr)
def up3 (g : G3) : Int × Int × List PImg := (g.1, g.2.1, g.2.2)
structure ScSt where
  f : Nat
  at' : Nat
  seq : Int
  room : Nat
@[reducible] def sBoxS (b : Nat) (s : Sup) : List Blk := [(b, row [.int .i64 s.blocks, .int .i64 s.epoch, .int .i64 s.seq, .int .i64 s.tail] 143)]
@[reducible] def scIt (bS bP bR bD : Nat) (s : Sup) (x : Lay) (e : Int) (chD : List Blk) : St := [sBoxS bS s, [(bP, row [.pointer (some ⟨bR, 0, none⟩)] 224)], rChunk bR bD x e, chD]
def ScE (rb : Nat → Dat) (ep : Int) (lb : Nat) (J : Imm) (a : ScSt) (xs : List Value) (b : ScSt) : Prop :=
  ∃ e s l aI capI gs, a.f = b.f + 1 ∧ grpP rb a.at' a.room = some (e, s, l) ∧ (e : Int) = ep ∧ (s : Int) = a.seq ∧ xs = [.int .i64 ((a.at' + (l.length + 1)) % lb : Nat), .agg #[.int .i64 (e : Nat), .int .i64 (s : Nat), .slice aI gs.length capI]] ∧ ImgsOk J aI gs ∧ gs.map Img.pr = l ∧
    b.at' = a.at' + (l.length + 1) ∧ b.seq = a.seq + 1 ∧ b.room = a.room - (l.length + 1)
set_option maxHeartbeats 4000000 in
theorem scan_up {I : Imm} {bS bP bR bD : Nat} {d : DSt} {chD : List Blk} (hD : Dk I bD d chD) (hdn : d.down = false) (x : Lay) (l lb : Nat) (hl : x.l = l) (hlb : x.lb = lb) (h0 : 0 < lb) (hlen : l + lb ≤ d.now.length) (s : Sup) (tail : Nat) (htl : s.tail = tail) (ht : tail < lb) (hseq : 1 ≤ s.seq ∧ s.seq ≤ 549755813888) :
    SeqJ Tryz.prog 198 #[.pointer (some ⟨bS, 0, none⟩), .pointer (some ⟨bP, 0, none⟩)] I (scIt bS bP bR bD s x 0 chD) (⟨lb + 1, tail, s.seq, lb⟩ : ScSt) (ScE (rbP d l lb) s.epoch lb)
      (fun a _ R => scanK (rbP d l lb) s.epoch a.f a.at' a.seq a.room = [] ∧ R = scIt bS bP bR bD s x 0 chD) (fun _ _ => True) := by
  have hr := hD.wf.range
  intro ll inv stp J c hJ hmn hY h1
  refine Tri.drop ?_ (fun _ _ _ _ h => h)
  obtain ⟨s1, s2, s3, s4⟩ := s
  obtain ⟨x1, x2, x3, x4, x5, x6, x7⟩ := x
  dsimp only at hl hlb htl hseq hY h1 ⊢
  subst hl hlb htl
  have hup := fun (J : Imm) (hJ : I.le J) => group_up (bR := bR) (hD.mono hJ) hdn ⟨x1, (l : Nat), (lb : Nat), x4, x5, x6, x7⟩ l lb rfl rfl h0 hlen
  refine Tri.of (args := [.func (.yield ll) #[] #[], .pointer (some ⟨bS, 0, none⟩), .pointer (some ⟨bP, 0, none⟩)]) tabOk Tryz.func198 rfl (by kernel_rfl) (by kernel_rfl) ?_
  refine CodeF.sched [[], [0], [], [2], [0, 1], [0, 1, 2, 3, 4]] [0, 1, 2, 3, 4, 5] (by kernel_rfl) ?_
  repeat (first | refine LoadD.own 2 rfl _ rfl rfl ?_ | refine LoadD.own 3 rfl _ rfl rfl ?_ | refine LoadP.at 1 rfl _ rfl rfl ?_)
  refine CodeF.loopD [0, 1, 2, 4, 5, 6] (fun vs J' S' => ∃ (a : ScSt) (c' : List Blk), inv a J' c' ∧ J.le J' ∧ a.room + a.at' = lb + tail ∧ a.room < a.f ∧ a.room ≤ lb ∧ s3 ≤ a.seq ∧ a.seq + a.room ≤ s3 + lb ∧
      vs = [.func (.yield ll) #[] #[], .pointer (some ⟨bS, 0, none⟩), .pointer (some ⟨bP, 0, none⟩), .int .i64 a.at', .int .i64 a.seq, .int .i64 a.room] ∧ S' = c' :: scIt bS bP bR bD ⟨s1, s2, s3, tail⟩ ⟨x1, (l : Nat), (lb : Nat), x4, x5, x6, x7⟩ 0 chD)
    (fun vs _ _ => match vs with | [_, _, _, _, _, .int _ r] => r.toNat | _ => 0) ?_ ?_
  · exact ⟨_, Drop.refl _, ⟨lb + 1, tail, s3, lb⟩, c, h1, Imm.le_refl _, rfl, by show lb < lb + 1; omega, Nat.le_refl _, Int.le_refl _, Int.le_refl _, rfl, rfl⟩
  rintro vs gE J' S' hJ' ⟨⟨f, at_, seq, room⟩, c', hinv, hle, h2, h3, h4, h5, h6, rfl, rfl⟩
  dsimp only at h2 h3 h4 h5 h6
  refine CmpD.split (fun c1 => ?_) (fun c1 => ?_)
  rotate_left
  · have c1 : ¬ (0 : Int) < room := c1
    obtain rfl : room = 0 := by omega
    refine Done.mk ⟨_, Drop.refl _, c', _, rfl, .inl ⟨⟨f, at_, seq, 0⟩, ⟨?_, rfl⟩, hinv⟩⟩
    obtain ⟨f, rfl⟩ : ∃ m, f = m + 1 := ⟨f - 1, by omega⟩
    show scanK _ _ (f + 1) at_ seq 0 = []
    rw [scanK]
    cases hg : grpP (rbP d l lb) at_ 0 with
    | none => rfl
    | some p => obtain ⟨e, s, li⟩ := p; have := (grpP_room hg).1; omega
  obtain ⟨f, rfl⟩ : ∃ m, f = m + 1 := ⟨f - 1, by omega⟩
  have c1 : (0 : Int) < room := c1
  repeat (first | refine LoadD.own 2 rfl _ rfl rfl ?_)
  refine Tri.frame (hup J' (Imm.le_trans hJ hle) at_ (by omega) room) [3, 4] rfl rfl ?_
  rintro v J1 A' hJ1 ⟨rfl, ⟨hno, rfl⟩ | ⟨e, s, li, hso, aI, capI, gs, rfl, hgs, hgp⟩⟩
  · refine ⟨by simp, ?_⟩
    conv => whnf
    intro b7
    repeat (first | refine StoreD.st 5 rfl rfl rfl ?_)
    refine Done.mk ⟨_, Drop.pick [0, 1, 2, 3, 4] _ rfl, c', _, rfl, .inl ⟨⟨f + 1, at_, seq, room⟩, ⟨?_, rfl⟩, hmn _ _ _ _ hJ1 hinv⟩⟩
    show scanK _ _ (f + 1) at_ seq room = []
    rw [scanK, hno]
  · refine ⟨by simp, ?_⟩
    have hgr := grpP_room hso
    have hgl : gs.length = li.length := by rw [← hgp, List.length_map]
    have stop : ¬ ((e : Int) = s2 ∧ (s : Int) = seq) → scanK (rbP d l lb) s2 (f + 1) at_ seq room = [] := by
      intro hn
      rw [scanK, hso]
      dsimp only
      rw [if_neg hn]
    conv => whnf
    intro b7
    repeat (first | refine LoadD.own 1 rfl _ rfl rfl ?_ | refine LoadD.own 2 rfl _ rfl rfl ?_ | refine LoadD.own 3 rfl _ rfl rfl ?_ | refine LoadD.own 5 rfl _ rfl rfl ?_ | refine StoreD.st 5 rfl rfl rfl ?_ | refine CmpD.yes rfl ?_)
    refine CmpD.split (fun c2 => ?_) (fun c2 => ?_)
    rotate_left
    · skip
      exact Done.mk ⟨_, Drop.pick [0, 1, 2, 3, 4] _ rfl, c', _, rfl, .inl ⟨⟨f + 1, at_, seq, room⟩, ⟨stop fun h' => c2 h'.1, rfl⟩, hmn _ _ _ _ hJ1 hinv⟩⟩
    repeat (first | refine LoadD.own 5 rfl _ rfl rfl ?_)
    refine CmpD.split (fun c3 => ?_) (fun c3 => ?_)
    rotate_left
    · skip
      exact Done.mk ⟨_, Drop.pick [0, 1, 2, 3, 4] _ rfl, c', _, rfl, .inl ⟨⟨f + 1, at_, seq, room⟩, ⟨stop fun h' => c3 h'.2, rfl⟩, hmn _ _ _ _ hJ1 hinv⟩⟩
    repeat (first | refine LoadD.own 5 rfl _ rfl rfl ?_)
    rw [hgl]
    refine Tri.free (record_Blocks li.length J1 []) ?_
    rintro v _ _ hJ ⟨rfl, rfl, rfl⟩
    have hbn : blocksN li.length = ((li.length + 1 : Nat) : Int) := by unfold blocksN; rw [if_neg (by omega)]; omega
    rw [hbn]
    refine ToD.to (((at_ + (li.length + 1) : Nat)) : Int) (by show IntKind.i64.wrap ((at_ : Int) + _) = _; rw [wrap_i64 (by omega) (by omega)]; omega) ?_
    refine ToD.to (((room - (li.length + 1) : Nat)) : Int) (by show IntKind.i64.wrap ((room : Int) - _) = _; rw [wrap_i64 (by omega) (by omega)]; omega) ?_
    refine CodeF.sched [[], [], [], [2], [2, 3], [2, 3, 4], [2, 3, 4, 5], [1, 2, 3, 4, 5, 6], [], [0, 1, 2, 3, 4, 5, 6, 7, 8], [0, 1, 2, 3, 4, 5, 6, 7, 8, 9]] [0, 1, 2, 3, 4, 5, 6, 7, 8, 9, 10] (by kernel_rfl) ?_
    repeat (first | refine LoadP.at 2 rfl _ rfl rfl ?_ | refine LoadP.at 3 rfl _ rfl rfl ?_)
    refine Chk.mk (by show (lb : Int) ≠ 0; omega) ?_
    refine ToD.to _ (tmod_nat _ _) ?_
    repeat (first | refine LoadP.at 5 rfl _ rfl rfl ?_)
    refine yieldD rfl rfl rfl (args := #[.int .i64 (((at_ + (li.length + 1)) % lb : Nat) : Int), .agg #[.int .i64 (e : Nat), .int .i64 (s : Nat), .slice aI li.length capI]]) rfl 0 rfl (hY ⟨f + 1, at_, seq, room⟩ [.int .i64 (((at_ + (li.length + 1)) % lb : Nat) : Int), .agg #[.int .i64 (e : Nat), .int .i64 (s : Nat), .slice aI li.length capI]] ⟨f, at_ + (li.length + 1), seq + 1, room - (li.length + 1)⟩ J1 c' (Imm.le_trans hle hJ1)
      ⟨e, s, li, aI, capI, gs, rfl, hso, c2, c3, by rw [hgl], hgs, hgp, rfl, rfl, rfl⟩ (hmn _ _ _ _ hJ1 hinv)) ?_
    rintro y J2 c2' hle2 (⟨rfl, hi2⟩ | ⟨rfl, hs2⟩)
    · skip
      refine ToD.to (seq + 1) (by show IntKind.i64.wrap (seq + 1) = _; exact wrap_i64 (by omega) (by omega)) ?_
      refine ⟨_, Drop.pick [0, 1, 2, 3, 4] _ rfl, ⟨⟨f, at_ + (li.length + 1), seq + 1, room - (li.length + 1)⟩, c2', hi2, Imm.le_trans hle (Imm.le_trans hJ1 hle2), ?_, ?_, ?_, ?_, ?_, rfl, rfl⟩, ?_⟩
      · show room - (li.length + 1) + (at_ + (li.length + 1)) = lb + tail; omega
      · show room - (li.length + 1) < f; omega
      · show room - (li.length + 1) ≤ lb; omega
      · show s3 ≤ seq + 1; omega
      · show seq + 1 + ((room - (li.length + 1) : Nat) : Int) ≤ s3 + lb; omega
      · show (((room - (li.length + 1) : Nat)) : Int).toNat < ((room : Nat) : Int).toNat; omega
    · skip
      exact Done.mk ⟨_, Drop.pick [0, 1, 2, 3, 4] _ rfl, c2', _, rfl, .inr ⟨hs2, trivial⟩⟩
set_option maxHeartbeats 2000000 in
theorem scan_down {I : Imm} {bS bP bR bD : Nat} {d : DSt} {chD : List Blk} (hD : Dk I bD d chD) (hdn : d.down = true) (x : Lay) (l lb : Nat) (hl : x.l = l) (hlb : x.lb = lb) (h0 : 0 < lb) (hlen : l + lb ≤ d.now.length) (s : Sup) (tail : Nat) (htl : s.tail = tail) :
    SeqJ Tryz.prog 198 #[.pointer (some ⟨bS, 0, none⟩), .pointer (some ⟨bP, 0, none⟩)] I (scIt bS bP bR bD s x 0 chD) () (fun _ _ _ _ => False)
      (fun _ _ R => R = scIt bS bP bR bD s x 6 chD) (fun _ _ => True) := by
  have hr := hD.wf.range
  intro ll inv stp J c hJ hmn hY h1
  refine Tri.drop ?_ (fun _ _ _ _ h => h)
  obtain ⟨s1, s2, s3, s4⟩ := s
  obtain ⟨x1, x2, x3, x4, x5, x6, x7⟩ := x
  dsimp only at hl hlb htl ⊢
  subst hl hlb htl
  have hdw := group_down (bR := bR) (hD.mono hJ) hdn ⟨x1, (l : Nat), (lb : Nat), x4, x5, x6, x7⟩ l lb rfl rfl h0 hlen
  refine Tri.of (args := [.func (.yield ll) #[] #[], .pointer (some ⟨bS, 0, none⟩), .pointer (some ⟨bP, 0, none⟩)]) tabOk Tryz.func198 rfl (by kernel_rfl) (by kernel_rfl) ?_
  refine CodeF.sched [[], [0], [], [2], [0, 1], [0, 1, 2, 3, 4]] [0, 1, 2, 3, 4, 5] (by kernel_rfl) ?_
  repeat (first | refine LoadD.own 2 rfl _ rfl rfl ?_ | refine LoadD.own 3 rfl _ rfl rfl ?_ | refine LoadP.at 1 rfl _ rfl rfl ?_)
  refine CodeF.loopD [0, 1, 2, 4, 5, 6] (fun vs J' S' => J = J' ∧ inv () J' c ∧ vs = [.func (.yield ll) #[] #[], .pointer (some ⟨bS, 0, none⟩), .pointer (some ⟨bP, 0, none⟩), .int .i64 tail, .int .i64 s3, .int .i64 lb] ∧ S' = c :: scIt bS bP bR bD ⟨s1, s2, s3, tail⟩ ⟨x1, (l : Nat), (lb : Nat), x4, x5, x6, x7⟩ 0 chD)
    (fun _ _ _ => 0) ?_ ?_
  · exact ⟨_, Drop.refl _, rfl, h1, rfl, rfl⟩
  rintro vs gE J' S' hJ' ⟨rfl, hinv, rfl, rfl⟩
  refine CmpD.yes (by show (0 : Int) < lb; omega) ?_
  repeat (first | refine LoadD.own 2 rfl _ rfl rfl ?_)
  refine Tri.frame (hdw tail lb) [3, 4] rfl rfl ?_
  rintro v J1 A' hJ1 ⟨rfl, rfl⟩
  refine ⟨by simp, ?_⟩
  conv => whnf
  intro b7
  repeat (first | refine StoreD.st 5 rfl rfl rfl ?_)
  exact Done.mk ⟨_, Drop.pick [0, 1, 2, 3, 4] _ rfl, c, _, rfl, .inl ⟨(), rfl, hmn _ _ _ _ hJ1 hinv⟩⟩
end Go.Proofs.YtegdcjnjnoeinaaGreat
namespace Go.Proofs.YtegdcjnjnoeinaaGreat
open Go.RowKit Go.Sl
set_option maxRecDepth 20000

def gv (g : Gate) : Int := if g.on then g.left else -1
@[reducible] def rV (s w : Hd) (count : Int) (down : Bool) (arm fault : Int) : Value := .agg #[s.v, w.v, .int .i64 count, .bool down, .int .i64 arm, .int .i64 fault]
end Go.Proofs.YtegdcjnjnoeinaaGreat
namespace Go.Proofs.YtegdcjnjnoeinaaGreat
open Go.RowKit Go.Sl
set_option maxRecDepth 20000

def atP (b : Dat) (l : List PImg) (n : Int) : Dat := l.foldl (fun x g => if g.1 = n then g.2 else x) b
end Go.Proofs.YtegdcjnjnoeinaaGreat
namespace Go.Proofs.YtegdcjnjnoeinaaGreat
open Go.RowKit Go.Sl
set_option maxRecDepth 20000

end Go.Proofs.YtegdcjnjnoeinaaGreat
namespace Go.Proofs.YtegdcjnjnoeinaaGreat
open Go.RowKit Go.Sl
set_option maxRecDepth 20000

def LayOk (x : Lay) : Prop := 64 ≤ x.b ∧ x.b ≤ 512 ∧ x = layOf x.b.toNat
/-! ### the last image of a block -/
def lastD (l : List PImg) (n : Int) : Option Dat := l.foldl (fun x g => if g.1 = n then some g.2 else x) none
theorem lastD_snoc (l : List PImg) (g : PImg) (n : Int) : lastD (l ++ [g]) n = if g.1 = n then some g.2 else lastD l n := by simp [lastD]
theorem lookup_pput (ms : List PImg) (g : PImg) (n : Int) : (pput ms g).lookup n = if g.1 = n then some g.2 else ms.lookup n := by
  unfold pput
  split
  · rename_i h
    induction ms with
    | nil => simp at h
    | cons x ms ih =>
      rw [List.map_cons]
      by_cases hx : x.1 = g.1
      · rw [if_pos hx]
        by_cases hn : g.1 = n
        · rw [if_pos hn, List.lookup_cons, show (n == g.1) = true by simp [hn]]
        · rw [if_neg hn, List.lookup_cons, show (n == g.1) = false by simpa using fun h' => hn h'.symm, List.lookup_cons, hx, show (n == g.1) = false by simpa using fun h' => hn h'.symm]
          by_cases hm : g.1 ∈ ms.map Prod.fst
          · have := ih hm; rw [if_neg hn] at this; exact this
          · have : ms.map (fun x => if x.1 = g.1 then g else x) = ms := by
              rw [List.map_congr_left (g := id)]
              · simp
              · intro y hy
                rw [if_neg (fun (h' : y.1 = g.1) => hm (h' ▸ List.mem_map_of_mem hy))]; rfl
            rw [this]
      · rw [if_neg hx, List.lookup_cons, List.lookup_cons]
        have hm : g.1 ∈ ms.map Prod.fst := by
          rw [List.map_cons] at h
          rcases List.mem_cons.1 h with h | h
          · exact absurd h.symm hx
          · exact h
        by_cases hn : n = x.1
        · rw [show (n == x.1) = true by simpa using hn]
          rw [if_neg (fun h' => hx (by rw [h', hn]))]
        · rw [show (n == x.1) = false by simpa using hn]
          exact ih hm
  · rename_i h
    rw [List.lookup_append]
    by_cases hn : g.1 = n
    · rw [if_pos hn]
      have : ms.lookup n = none := by
        rw [List.lookup_eq_none_iff]
        intro y hy
        simp only [bne_iff_ne, ne_eq]
        intro h'
        exact h (by rw [hn, h']; exact List.mem_map_of_mem hy)
      rw [this, List.lookup_cons, show (n == g.1) = true by simp [hn]]; rfl
    · rw [if_neg hn, List.lookup_cons, show (n == g.1) = false by simpa using fun h' => hn h'.symm]
      simp
theorem lookup_lastP (l : List PImg) (n : Int) : (lastP l).lookup n = lastD l n := by
  suffices h : ∀ (l ms : List PImg) (o : Option Dat), ms.lookup n = o → (l.foldl pput ms).lookup n = l.foldl (fun x g => if g.1 = n then some g.2 else x) o from h l [] none rfl
  intro l
  induction l with
  | nil => intro ms o h; exact h
  | cons g l ih =>
    intro ms o h
    rw [List.foldl_cons, List.foldl_cons]
    refine ih _ _ ?_
    rw [lookup_pput, h]
theorem mem_lastP (l : List PImg) (n : Int) : n ∈ (lastP l).map Prod.fst ↔ (lastD l n).isSome = true := by
  rw [← lookup_lastP, List.lookup_isSome_iff]
  constructor
  · intro h
    obtain ⟨x, hx, rfl⟩ := List.mem_map.1 h
    exact ⟨x, hx, by simp⟩
  · rintro ⟨x, hx, he⟩
    have : n = x.1 := by simpa using he
    rw [this]; exact List.mem_map_of_mem hx
end Go.Proofs.YtegdcjnjnoeinaaGreat
namespace Go.Proofs.YtegdcjnjnoeinaaGreat
open Go.RowKit Go.Sl
set_option maxRecDepth 20000

/-- the arguments are as they must be -/
def ScanOk (n : Nat) (x : Lay) (s : Sup) : Prop := 64 ≤ n ∧ x = layOf n ∧ s.blocks = n ∧ 0 ≤ s.tail ∧ s.tail < layL n ∧ 1 ≤ s.epoch ∧ s.epoch ≤ 8388608 ∧ 1 ≤ s.seq ∧ s.seq ≤ 549755813888
noncomputable def scanL (d : DSt) (s : Sup) : List G3 := scanK (rbP d 2 (layL (d.now.length : Int)).toNat) s.epoch ((layL (d.now.length : Int)).toNat + 1) s.tail.toNat s.seq (layL (d.now.length : Int)).toNat
def placeP (lb tail : Nat) (l : List G3) : Nat := (tail + (l.map fun g => g.2.2.length + 1).sum) % lb
structure GrpsOk (J : Imm) (gl : List Grp) (l : List G3) : Prop where
  each : ∀ g ∈ gl, ImgsOk J g.a g.gs
  g3 : gl.map Grp.g3 = l.map up3
theorem GrpsOk.mono {I J : Imm} {gl : List Grp} {l : List G3} (h : GrpsOk I gl l) (hJ : I.le J) : GrpsOk J gl l := ⟨fun g hg => (h.each g hg).mono hJ, h.g3⟩
theorem GrpsOk.len {J : Imm} {gl : List Grp} {l : List G3} (h : GrpsOk J gl l) : gl.length = l.length := by have := congrArg List.length h.g3; simpa using this
theorem grpCells_snoc (l : List Grp) (g : Grp) : grpCells (l ++ [g]) = grpCells l ++ [.int .i64 g.e, .int .i64 g.s, .slice g.a g.gs.length g.cap] := by simp [grpCells]
theorem scan_bound {rb : Nat → Dat} {ep : Int} : ∀ (f at_ : Nat) (seq : Int) (room : Nat), (scanK rb ep f at_ seq room).length ≤ room ∧ ((scanK rb ep f at_ seq room).map fun g => g.2.2.length + 1).sum ≤ room
  | 0, _, _, _ => by simp [scanK]
  | f + 1, at_, seq, room => by
    rw [scanK]
    cases hg : grpP rb at_ room with
    | none => simp
    | some p =>
      obtain ⟨e, s, l⟩ := p
      dsimp only
      split
      · have h1 := grpP_room hg
        obtain ⟨h2, h3⟩ := scan_bound f (at_ + (l.length + 1)) (seq + 1) (room - (l.length + 1)) (rb := rb) (ep := ep)
        simp only [List.length_cons, List.map_cons, List.sum_cons]
        omega
      · simp
theorem ring_groups (bR : Nat) (s : Sup) (I : Imm) : Tri Tryz.prog 169 #[.pointer (some ⟨bR, 0, none⟩), s.v] I [] fun v J S' => ∃ bS bP, v = .func (.func 198) #[] #[.pointer (some ⟨bS, 0, none⟩), .pointer (some ⟨bP, 0, none⟩)] ∧ I = J ∧ S' = [[(bP, row [.pointer (some ⟨bR, 0, none⟩)] 224)], sBoxS bS s] := by
  refine Tri.of (args := [.pointer (some ⟨bR, 0, none⟩), s.v]) tabOk Tryz.func169 rfl (by kernel_rfl) (by kernel_rfl) ?_
  conv => whnf
  intro bP
  conv => whnf
  intro bS
  exact Done.mk ⟨bS, bP, rfl, rfl, rfl⟩
theorem placeP_snoc (lb tail : Nat) (l : List G3) (g : G3) : placeP lb tail (l ++ [g]) = (tail + (l.map fun g => g.2.2.length + 1).sum + (g.2.2.length + 1)) % lb := by
  unfold placeP
  rw [List.map_append, List.sum_append]
  simp [Nat.add_assoc]
set_option maxHeartbeats 8000000 in
theorem scan_Groups {I : Imm} {bD : Nat} {d : DSt} {chD : List Blk} (hD : Dk I bD d chD) (x : Lay) (s : Sup) :
    Tri Tryz.prog 107 #[.pointer (some ⟨bD, 0, none⟩), x.v, s.v] I [chD] fun v J S' => S' = [chD] ∧
      ((¬ ScanOk d.now.length x s ∧ v = .tuple #[.slice none 0 0, .int .i64 0, .int .i64 2]) ∨
       (ScanOk d.now.length x s ∧ d.down = true ∧ v = .tuple #[.slice none 0 0, .int .i64 0, .int .i64 6]) ∨
       (ScanOk d.now.length x s ∧ d.down = false ∧ ∃ aO capO gl, v = .tuple #[.slice aO gl.length capO, .int .i64 (placeP (layL d.now.length).toNat s.tail.toNat (scanL d s) : Nat), .int .i64 0] ∧ Rds J aO (gl.length * 3) (grpCells gl) ∧ GrpsOk J gl (scanL d s))) := by
  have hr := hD.wf.range
  refine Tri.drop (Tri.fixed (Q := fun v J S' => ∃ chO, S' = [chD, chO] ∧
      ((¬ ScanOk d.now.length x s ∧ v = .tuple #[.slice none 0 0, .int .i64 0, .int .i64 2]) ∨
       (ScanOk d.now.length x s ∧ d.down = true ∧ v = .tuple #[.slice none 0 0, .int .i64 0, .int .i64 6]) ∨
       (ScanOk d.now.length x s ∧ d.down = false ∧ ∃ aO capO gl, v = .tuple #[.slice aO gl.length capO, .int .i64 (placeP (layL d.now.length).toNat s.tail.toNat (scanL d s) : Nat), .int .i64 0] ∧ OwnC chO 3 aO gl.length capO (grpCells gl) ∧ GrpsOk J gl (scanL d s)))) ?_
    (K := fun v J S' => S' = [chD, []] ∧
      ((¬ ScanOk d.now.length x s ∧ v = .tuple #[.slice none 0 0, .int .i64 0, .int .i64 2]) ∨
       (ScanOk d.now.length x s ∧ d.down = true ∧ v = .tuple #[.slice none 0 0, .int .i64 0, .int .i64 6]) ∨
       (ScanOk d.now.length x s ∧ d.down = false ∧ ∃ aO capO gl, v = .tuple #[.slice aO gl.length capO, .int .i64 (placeP (layL d.now.length).toNat s.tail.toNat (scanL d s) : Nat), .int .i64 0] ∧ Rds J aO (gl.length * 3) (grpCells gl) ∧ GrpsOk J gl (scanL d s)))) ?_) ?_
  rotate_left
  · rintro v J S' hJ ⟨chO, rfl, h⟩
    refine ⟨1, chO, rfl, fun J' hJ' hm => ⟨rfl, ?_⟩⟩
    rcases h with h | h | ⟨h1, h2, aO, capO, gl, rfl, hO, hg⟩
    · exact .inl h
    · exact .inr (.inl h)
    · exact .inr (.inr ⟨h1, h2, aO, capO, gl, rfl, Rds.of_ownS hO hm, hg.mono hJ'⟩)
  · rintro v J S' hJ ⟨rfl, h⟩
    exact ⟨[chD], Drop.pick [0] _ rfl, rfl, h⟩
  refine Tri.drop ?_ (fun _ _ _ _ h => h)
  obtain ⟨s1, s2, s3, s4⟩ := s
  refine Tri.of (args := [.pointer (some ⟨bD, 0, none⟩), x.v, (⟨s1, s2, s3, s4⟩ : Sup).v]) tabOk Tryz.func107 rfl (by kernel_rfl) (by kernel_rfl) ?_
  conv => whnf
  intro b4
  conv => whnf
  intro b5
  refine Tri.frame1 0 rfl (dk_Size hD) ?_
  rintro v J S' hJ ⟨rfl, rfl, rfl⟩
  refine ⟨_, rfl, ?_⟩
  refine CmpD.no (by omega) ?_
  skip
  refine Tri.frame1 0 rfl (dk_Size hD) ?_
  rintro v J S' hJ ⟨rfl, rfl, rfl⟩
  refine ⟨_, rfl, ?_⟩
  skip
  obtain ⟨n, hn⟩ : ∃ n, n = d.now.length := ⟨_, rfl⟩
  rw [← hn] at hr ⊢
  refine Tri.free (layout_Of n I) ?_
  rintro v J _ hJ ⟨rfl, rfl⟩
  have badS : ∀ (J : Imm) (S : St), Drop S [chD] → ¬ ScanOk n x ⟨s1, s2, s3, s4⟩ → ∃ S'', Drop S S'' ∧ ∃ chO, S'' = [chD, chO] ∧
      ((¬ ScanOk n x ⟨s1, s2, s3, s4⟩ ∧ Value.tuple #[.slice none 0 0, .int .i64 0, .int .i64 2] = .tuple #[.slice none 0 0, .int .i64 0, .int .i64 2]) ∨
       (ScanOk n x ⟨s1, s2, s3, s4⟩ ∧ d.down = true ∧ Value.tuple #[.slice none 0 0, .int .i64 0, .int .i64 2] = .tuple #[.slice none 0 0, .int .i64 0, .int .i64 6]) ∨
       (ScanOk n x ⟨s1, s2, s3, s4⟩ ∧ d.down = false ∧ ∃ aO capO gl, Value.tuple #[.slice none 0 0, .int .i64 0, .int .i64 2] = .tuple #[.slice aO gl.length capO, .int .i64 (placeP (layL n).toNat s4.toNat (scanL d ⟨s1, s2, s3, s4⟩) : Nat), .int .i64 0] ∧ OwnC chO 3 aO gl.length capO (grpCells gl) ∧ GrpsOk J gl (scanL d ⟨s1, s2, s3, s4⟩))) :=
    fun J S hd hno => ⟨[chD, []], hd.and, [], rfl, .inl ⟨hno, rfl⟩⟩
  by_cases hb : (n : Int) < 64 ∨ 512 < (n : Int)
  · rw [layA, if_pos hb]
    conv => whnf
    intro b9
    repeat (first | refine StoreD.st 3 rfl rfl rfl ?_)
    refine CodeF.sched [[], [0], [0, 1], [0, 1, 2], [0, 1, 2], [0, 1, 2, 3, 4], [0, 1, 2, 3, 4, 5], [0, 1, 2, 3, 4, 5, 6], [0, 1, 2, 3, 4, 5, 6, 7], [0, 1, 2, 3, 4, 5, 6, 7, 8], [0, 1, 2, 3, 4, 5, 6, 7], [0, 1, 2, 3, 4, 5, 6, 7, 10], [0, 1, 2, 3, 4, 5, 6, 7, 8, 9, 10, 11], [0, 1, 2, 3, 4, 5, 6, 7, 8, 9, 10, 11, 12], [0, 1, 2, 3, 4, 5, 6, 7, 8, 9, 10, 11, 12, 13], [0, 1, 2, 3, 4, 5, 6, 7, 8, 9, 10, 11, 12, 13, 14], [0, 1, 2, 3, 4, 5, 6, 7, 8, 9, 10, 11, 12, 13, 14, 15], [0, 1, 2, 3, 4, 5, 6, 7, 8, 9, 10, 11, 12, 13, 14, 15, 16], [0, 1, 2, 3, 4, 5, 6, 7, 8, 9, 10, 11, 12, 13, 14, 15, 16, 17], [0, 1, 2, 3, 4, 5, 6, 7, 8, 9, 10, 11, 12, 13, 14, 15, 16, 17, 18], [0, 1, 2, 3, 4, 5, 6, 7, 8, 9, 10, 11, 12, 13, 14, 15, 16, 17, 18, 19], [0, 1, 2, 3, 4, 5, 6, 7, 8, 9, 10, 11, 12, 13, 14, 15, 16, 17, 18, 19, 20], [0, 1, 2, 3, 4, 5, 6, 7, 8, 9, 10, 11, 12, 13, 14, 15, 16, 17, 18, 19], [0, 1, 2, 3, 4, 5, 6, 7, 8, 9, 10, 11, 12, 13, 14, 15, 16, 17, 18, 19, 22], [0, 1, 2, 3, 4, 5, 6, 7, 8, 9, 10, 11, 12, 13, 14, 15, 16, 17, 18, 19, 20, 21, 22, 23], [0, 1, 2, 3, 4, 5, 6, 7, 8, 9, 10, 11, 12, 13, 14, 15, 16, 17, 18, 19, 20, 21, 22, 23, 24], [0, 1, 2, 3, 4, 5, 6, 7, 8, 9, 10, 11, 12, 13, 14, 15, 16, 17, 18, 19, 20, 21, 22, 23, 24, 25], [0, 1, 2, 3, 4, 5, 6, 7, 8, 9, 10, 11, 12, 13, 14, 15, 16, 17, 18, 19, 20, 21, 22, 23, 24, 25, 26], [0, 1, 2, 3, 4, 5, 6, 7, 8, 9, 10, 11, 12, 13, 14, 15, 16, 17, 18, 19, 20, 21, 22, 23, 24, 25, 26, 27], [0, 1, 2, 3, 4, 5, 6, 7, 8, 9, 10, 11, 12, 13, 14, 15, 16, 17, 18, 19, 20, 21, 22, 23, 24, 25, 26, 27, 28], [0, 1, 2, 3, 4, 5, 6, 7, 8, 9, 10, 11, 12, 13, 14, 15, 16, 17, 18, 19, 20, 21, 22, 23, 24, 25, 26, 27, 28, 29], [0, 1, 2, 3, 4, 5, 6, 7, 8, 9, 10, 11, 12, 13, 14, 15, 16, 17, 18, 19, 20, 21, 22, 23, 24, 25, 26, 27, 28, 29, 30], [0, 1, 2, 3, 4, 5, 6, 7, 8, 9, 10, 11, 12, 13, 14, 15, 16, 17, 18, 19, 20, 21, 22, 23, 24, 25, 26, 27, 28, 29, 30, 31], [0, 1, 2, 3, 4, 5, 6, 7, 8, 9, 10, 11, 12, 13, 14, 15, 16, 17, 18, 19, 20, 21, 22, 23, 24, 25, 26, 27, 28, 29, 30, 31, 32], [0, 1, 2, 3, 4, 5, 6, 7, 8, 9, 10, 11, 12, 13, 14, 15, 16, 17, 18, 19, 20, 21, 22, 23, 24, 25, 26, 27, 28, 29, 30, 31, 32, 33], [0, 1, 2, 3, 4, 5, 6, 7, 8, 9, 10, 11, 12, 13, 14, 15, 16, 17, 18, 19, 20, 21, 22, 23, 24, 25, 26, 27, 28, 29, 30, 31, 32, 33, 34], [0, 1, 2, 3, 4, 5, 6, 7, 8, 9, 10, 11, 12, 13, 14, 15, 16, 17, 18, 19, 20, 21, 22, 23, 24, 25, 26, 27, 28, 29, 30, 31, 32, 33, 34, 35], [0, 1, 2, 3, 4, 5, 6, 7, 8, 9, 10, 11, 12, 13, 14, 15, 16, 17, 18, 19, 20, 21, 22, 23, 24, 25, 26, 27, 28, 29, 30, 31, 32, 33, 34, 35, 36], [0, 1, 2, 3, 4, 5, 6, 7, 8, 9, 10, 11, 12, 13, 14, 15, 16, 17, 18, 19, 20, 21, 22, 23, 24, 25, 26, 27, 28, 29, 30, 31, 32, 33, 34, 35, 36, 37], [0, 1, 2, 3, 4, 5, 6, 7, 8, 9, 10, 11, 12, 13, 14, 15, 16, 17, 18, 19, 20, 21, 22, 23, 24, 25, 26, 27, 28, 29, 30, 31, 32, 33, 34, 35, 36, 37, 38], [0, 1, 2, 3, 4, 5, 6, 7, 8, 9, 10, 11, 12, 13, 14, 15, 16, 17, 18, 19, 20, 21, 22, 23, 24, 25, 26, 27, 28, 29, 30, 31, 32, 33, 34, 35, 36, 37, 38, 39], [0, 1, 2, 3, 4, 5, 6, 7, 8, 9, 10, 11, 12, 13, 14, 15, 16, 17, 18, 19, 20, 21, 22, 23, 24, 25, 26, 27, 28, 29, 30, 31, 32, 33, 34, 35, 36, 37, 38, 39, 40], [0, 1, 2, 3, 4, 5, 6, 7, 8, 9, 10, 11, 12, 13, 14, 15, 16, 17, 18, 19, 20, 21, 22, 23, 24, 25, 26, 27, 28, 29, 30, 31, 32, 33, 34, 35, 36, 37, 38, 39, 40, 41], [0, 1, 2, 3, 4, 5, 6, 7, 8, 9, 10, 11, 12, 13, 14, 15, 16, 17, 18, 19, 20, 21, 22, 23, 24, 25, 26, 27, 28, 29, 30, 31, 32, 33, 34, 35, 36, 37, 38, 39, 40, 41, 42], [0, 1, 2, 3, 4, 5, 6, 7, 8, 9, 10, 11, 12, 13, 14, 15, 16, 17, 18, 19, 20, 21, 22, 23, 24, 25, 26, 27, 28, 29, 30, 31, 32, 33, 34, 35, 36, 37, 38, 39, 40, 41, 42, 43], [0, 1, 2, 3, 4, 5, 6, 7, 8, 9, 10, 11, 12, 13, 14, 15, 16, 17, 18, 19, 20, 21, 22, 23, 24, 25, 26, 27, 28, 29, 30, 31, 32, 33, 34, 35, 36, 37, 38, 39, 40, 41, 42, 43, 44]] [0, 1, 2, 3, 4, 5, 6, 7, 8, 9, 10, 11, 12, 13, 14, 15, 16, 17, 18, 19, 20, 21, 22, 23, 24, 25, 26, 27, 28, 29, 30, 31, 32, 33, 34, 35, 36, 37, 38, 39, 40, 41, 42, 43, 44, 45] (by kernel_rfl) ?_
    repeat (first | refine CmpD.no (by decide) ?_)
    exact Done.mk (badS _ _ (Drop.pick [0] _ rfl) (fun h => by have := h.1; omega))
  rw [layA, if_neg hb]
  have hL := layL_range (n := (n : Int)) (by omega)
  conv => whnf
  intro b9
  repeat (first | refine StoreD.st 3 rfl rfl rfl ?_)
  refine CodeF.sched [[], [0], [0, 1], [0, 1, 2], [0, 1, 2], [0, 1, 2, 3, 4], [0, 1, 2, 3, 4, 5], [0, 1, 2, 3, 4, 5, 6], [0, 1, 2, 3, 4, 5, 6, 7], [0, 1, 2, 3, 4, 5, 6, 7, 8], [0, 1, 2, 3, 4, 5, 6, 7], [0, 1, 2, 3, 4, 5, 6, 7, 10], [0, 1, 2, 3, 4, 5, 6, 7, 8, 9, 10, 11], [0, 1, 2, 3, 4, 5, 6, 7, 8, 9, 10, 11, 12], [0, 1, 2, 3, 4, 5, 6, 7, 8, 9, 10, 11, 12, 13], [0, 1, 2, 3, 4, 5, 6, 7, 8, 9, 10, 11, 12, 13, 14], [0, 1, 2, 3, 4, 5, 6, 7, 8, 9, 10, 11, 12, 13, 14, 15], [0, 1, 2, 3, 4, 5, 6, 7, 8, 9, 10, 11, 12, 13, 14, 15, 16], [0, 1, 2, 3, 4, 5, 6, 7, 8, 9, 10, 11, 12, 13, 14, 15, 16, 17], [0, 1, 2, 3, 4, 5, 6, 7, 8, 9, 10, 11, 12, 13, 14, 15, 16, 17, 18], [0, 1, 2, 3, 4, 5, 6, 7, 8, 9, 10, 11, 12, 13, 14, 15, 16, 17, 18, 19], [0, 1, 2, 3, 4, 5, 6, 7, 8, 9, 10, 11, 12, 13, 14, 15, 16, 17, 18, 19, 20], [0, 1, 2, 3, 4, 5, 6, 7, 8, 9, 10, 11, 12, 13, 14, 15, 16, 17, 18, 19], [0, 1, 2, 3, 4, 5, 6, 7, 8, 9, 10, 11, 12, 13, 14, 15, 16, 17, 18, 19, 22], [0, 1, 2, 3, 4, 5, 6, 7, 8, 9, 10, 11, 12, 13, 14, 15, 16, 17, 18, 19, 20, 21, 22, 23], [0, 1, 2, 3, 4, 5, 6, 7, 8, 9, 10, 11, 12, 13, 14, 15, 16, 17, 18, 19, 20, 21, 22, 23, 24], [0, 1, 2, 3, 4, 5, 6, 7, 8, 9, 10, 11, 12, 13, 14, 15, 16, 17, 18, 19, 20, 21, 22, 23, 24, 25], [0, 1, 2, 3, 4, 5, 6, 7, 8, 9, 10, 11, 12, 13, 14, 15, 16, 17, 18, 19, 20, 21, 22, 23, 24, 25, 26], [0, 1, 2, 3, 4, 5, 6, 7, 8, 9, 10, 11, 12, 13, 14, 15, 16, 17, 18, 19, 20, 21, 22, 23, 24, 25, 26, 27], [0, 1, 2, 3, 4, 5, 6, 7, 8, 9, 10, 11, 12, 13, 14, 15, 16, 17, 18, 19, 20, 21, 22, 23, 24, 25, 26, 27, 28], [0, 1, 2, 3, 4, 5, 6, 7, 8, 9, 10, 11, 12, 13, 14, 15, 16, 17, 18, 19, 20, 21, 22, 23, 24, 25, 26, 27, 28, 29], [0, 1, 2, 3, 4, 5, 6, 7, 8, 9, 10, 11, 12, 13, 14, 15, 16, 17, 18, 19, 20, 21, 22, 23, 24, 25, 26, 27, 28, 29, 30], [0, 1, 2, 3, 4, 5, 6, 7, 8, 9, 10, 11, 12, 13, 14, 15, 16, 17, 18, 19, 20, 21, 22, 23, 24, 25, 26, 27, 28, 29, 30, 31], [0, 1, 2, 3, 4, 5, 6, 7, 8, 9, 10, 11, 12, 13, 14, 15, 16, 17, 18, 19, 20, 21, 22, 23, 24, 25, 26, 27, 28, 29, 30, 31, 32], [0, 1, 2, 3, 4, 5, 6, 7, 8, 9, 10, 11, 12, 13, 14, 15, 16, 17, 18, 19, 20, 21, 22, 23, 24, 25, 26, 27, 28, 29, 30, 31, 32, 33], [0, 1, 2, 3, 4, 5, 6, 7, 8, 9, 10, 11, 12, 13, 14, 15, 16, 17, 18, 19, 20, 21, 22, 23, 24, 25, 26, 27, 28, 29, 30, 31, 32, 33, 34], [0, 1, 2, 3, 4, 5, 6, 7, 8, 9, 10, 11, 12, 13, 14, 15, 16, 17, 18, 19, 20, 21, 22, 23, 24, 25, 26, 27, 28, 29, 30, 31, 32, 33, 34, 35], [0, 1, 2, 3, 4, 5, 6, 7, 8, 9, 10, 11, 12, 13, 14, 15, 16, 17, 18, 19, 20, 21, 22, 23, 24, 25, 26, 27, 28, 29, 30, 31, 32, 33, 34, 35, 36], [0, 1, 2, 3, 4, 5, 6, 7, 8, 9, 10, 11, 12, 13, 14, 15, 16, 17, 18, 19, 20, 21, 22, 23, 24, 25, 26, 27, 28, 29, 30, 31, 32, 33, 34, 35, 36, 37], [0, 1, 2, 3, 4, 5, 6, 7, 8, 9, 10, 11, 12, 13, 14, 15, 16, 17, 18, 19, 20, 21, 22, 23, 24, 25, 26, 27, 28, 29, 30, 31, 32, 33, 34, 35, 36, 37, 38], [0, 1, 2, 3, 4, 5, 6, 7, 8, 9, 10, 11, 12, 13, 14, 15, 16, 17, 18, 19, 20, 21, 22, 23, 24, 25, 26, 27, 28, 29, 30, 31, 32, 33, 34, 35, 36, 37, 38, 39], [0, 1, 2, 3, 4, 5, 6, 7, 8, 9, 10, 11, 12, 13, 14, 15, 16, 17, 18, 19, 20, 21, 22, 23, 24, 25, 26, 27, 28, 29, 30, 31, 32, 33, 34, 35, 36, 37, 38, 39, 40], [0, 1, 2, 3, 4, 5, 6, 7, 8, 9, 10, 11, 12, 13, 14, 15, 16, 17, 18, 19, 20, 21, 22, 23, 24, 25, 26, 27, 28, 29, 30, 31, 32, 33, 34, 35, 36, 37, 38, 39, 40, 41], [0, 1, 2, 3, 4, 5, 6, 7, 8, 9, 10, 11, 12, 13, 14, 15, 16, 17, 18, 19, 20, 21, 22, 23, 24, 25, 26, 27, 28, 29, 30, 31, 32, 33, 34, 35, 36, 37, 38, 39, 40, 41, 42], [0, 1, 2, 3, 4, 5, 6, 7, 8, 9, 10, 11, 12, 13, 14, 15, 16, 17, 18, 19, 20, 21, 22, 23, 24, 25, 26, 27, 28, 29, 30, 31, 32, 33, 34, 35, 36, 37, 38, 39, 40, 41, 42, 43], [0, 1, 2, 3, 4, 5, 6, 7, 8, 9, 10, 11, 12, 13, 14, 15, 16, 17, 18, 19, 20, 21, 22, 23, 24, 25, 26, 27, 28, 29, 30, 31, 32, 33, 34, 35, 36, 37, 38, 39, 40, 41, 42, 43, 44]] [0, 1, 2, 3, 4, 5, 6, 7, 8, 9, 10, 11, 12, 13, 14, 15, 16, 17, 18, 19, 20, 21, 22, 23, 24, 25, 26, 27, 28, 29, 30, 31, 32, 33, 34, 35, 36, 37, 38, 39, 40, 41, 42, 43, 44, 45] (by kernel_rfl) ?_
  repeat (first | refine LoadP.at 1 rfl _ rfl rfl ?_ | refine LoadP.at 3 rfl _ rfl rfl ?_ | refine CmpD.yes rfl ?_)
  refine lay_cmp (layOf n) x rfl (.inr rfl) rfl rfl ?_
  refine CmpD.split (fun c1 => ?_) (fun c1 => ?_)
  rotate_left
  · skip
    refine Done.mk (badS _ _ (Drop.pick [0] _ rfl) (fun h => c1 ?_))
    rw [← h.2.1]
  have hx : x = layOf n := by
    simp only [List.cons.injEq, and_true] at c1
    obtain ⟨q1, q2, q3, q4, q5, q6, q7⟩ := c1
    obtain ⟨x1, x2, x3, x4, x5, x6, x7⟩ := x
    dsimp only at q1 q2 q3 q4 q5 q6 q7 ⊢
    rw [Lay.mk.injEq]
    exact ⟨q1.symm, q2.symm, q3.symm, q4.symm, q5.symm, q6.symm, q7.symm⟩
  have hxl : x.lb = layL n := by rw [hx]; rfl
  repeat (first | refine LoadP.at 2 rfl _ rfl rfl ?_)
  refine Tri.frame1 0 rfl (dk_Size hD) ?_
  rintro v J S' hJ ⟨rfl, rfl, rfl⟩
  refine ⟨_, rfl, ?_⟩
  rw [← hn]
  repeat (first | refine Chk.mk ⟨rfl, trivial⟩ ?_)
  refine CmpD.split (fun (c2 : s1 = (n : Int)) => ?_) (fun (c2 : ¬ (s1 = (n : Int))) => ?_)
  rotate_left
  · skip
    exact Done.mk (badS _ _ (Drop.pick [0] _ rfl) (fun h => c2 h.2.2.1))
  repeat (first | refine LoadP.at 2 rfl _ rfl rfl ?_)
  refine CmpD.split (fun (c3 : s4 < 0) => ?_) (fun (c3 : ¬ (s4 < 0)) => ?_)
  · skip
    exact Done.mk (badS _ _ (Drop.pick [0] _ rfl) (fun h => by have : 0 ≤ s4 := h.2.2.2.1; omega))
  repeat (first | refine LoadP.at 1 rfl _ rfl rfl ?_ | refine LoadP.at 2 rfl _ rfl rfl ?_)
  refine CmpD.split (fun (c4 : x.lb ≤ s4) => ?_) (fun (c4 : ¬ (x.lb ≤ s4)) => ?_)
  · skip
    exact Done.mk (badS _ _ (Drop.pick [0] _ rfl) (fun h => by have : s4 < layL n := h.2.2.2.2.1; omega))
  repeat (first | refine LoadP.at 2 rfl _ rfl rfl ?_)
  refine CmpD.split (fun (c5 : s2 < 1) => ?_) (fun (c5 : ¬ (s2 < 1)) => ?_)
  · skip
    exact Done.mk (badS _ _ (Drop.pick [0] _ rfl) (fun h => by have : 1 ≤ s2 := h.2.2.2.2.2.1; omega))
  repeat (first | refine LoadP.at 2 rfl _ rfl rfl ?_)
  refine CmpD.split (fun (c6 : (8388608 : Int) < s2) => ?_) (fun (c6 : ¬ ((8388608 : Int) < s2)) => ?_)
  · skip
    exact Done.mk (badS _ _ (Drop.pick [0] _ rfl) (fun h => by have : s2 ≤ 8388608 := h.2.2.2.2.2.2.1; omega))
  repeat (first | refine LoadP.at 2 rfl _ rfl rfl ?_)
  refine CmpD.split (fun (c7 : s3 < 1) => ?_) (fun (c7 : ¬ (s3 < 1)) => ?_)
  · skip
    exact Done.mk (badS _ _ (Drop.pick [0] _ rfl) (fun h => by have : 1 ≤ s3 := h.2.2.2.2.2.2.2.1; omega))
  repeat (first | refine LoadP.at 2 rfl _ rfl rfl ?_)
  refine CmpD.split (fun (c8 : (549755813888 : Int) < s3) => ?_) (fun (c8 : ¬ ((549755813888 : Int) < s3)) => ?_)
  · skip
    exact Done.mk (badS _ _ (Drop.pick [0] _ rfl) (fun h => by have : s3 ≤ 549755813888 := h.2.2.2.2.2.2.2.2; omega))
  have hok : ScanOk n x ⟨s1, s2, s3, s4⟩ := ⟨by omega, hx, c2, by show 0 ≤ s4; omega, by show s4 < _; omega, by show 1 ≤ s2; omega, by show s2 ≤ _; omega, by show 1 ≤ s3; omega, by show s3 ≤ _; omega⟩
  clear badS
  repeat (first | refine LoadD.own 1 rfl _ rfl rfl ?_)
  conv => whnf
  intro bR
  skip
  conv => whnf
  intro b12
  repeat (first | refine LoadD.own 2 rfl _ rfl rfl ?_)
  conv => whnf
  intro b13
  repeat (first | refine LoadD.own 2 rfl _ rfl rfl ?_ | refine StoreD.st 6 rfl rfl rfl ?_)
  refine Tri.frame (ring_groups bR ⟨s1, s2, s3, s4⟩ I) [] rfl rfl ?_
  rintro v J A' hJ ⟨bS, bP, rfl, rfl, rfl⟩
  refine ⟨by simp, ?_⟩
  obtain ⟨tail, rfl⟩ : ∃ t : Nat, s4 = t := ⟨s4.toNat, by omega⟩
  obtain ⟨lb, hlb⟩ : ∃ lb : Nat, layL n = lb := ⟨(layL n).toNat, by omega⟩
  have hxlb : x.lb = lb := by rw [hxl, hlb]
  have hxl2 : x.l = (2 : Nat) := by rw [hx]; rfl
  have hfit : 2 + lb ≤ d.now.length := by rw [← hn]; unfold layL at hlb; split at hlb <;> omega
  cases hdn : d.down with
  | true =>
    refine CodeF.rangeJ rfl [[(b12, row [.slice none 0 0] 162)], [(b13, row [.int .i64 tail] 3)]] (scIt bS bP bR bD ⟨s1, s2, s3, tail⟩ x 0 chD) (Drop.pick [5, 6, 8, 7, 4, 0] _ rfl) (scan_down hD hdn x 2 lb hxl2 hxlb (by omega) hfit ⟨s1, s2, s3, tail⟩ tail rfl)
      (fun _ _ _ _ h => h.elim) (fun _ _ S' => S' = [[(b12, row [.slice none 0 0] 162)], [(b13, row [.int .i64 tail] 3)]]) (fun _ _ _ _ _ h => h) (fun _ _ _ => False) rfl ?round ?done ?stop
    case round => rintro _ _ _ _ _ _ h; exact h.elim
    case stop => rintro _ _ _ _ _ h; exact h.elim
    case done =>
      rintro _ J S' R hJ rfl rfl
      repeat (first | refine LoadD.own 4 rfl _ rfl rfl ?_ | refine CmpD.no (by decide) ?_)
      refine CodeF.sched [[], [0], [0, 1], [0, 1, 2], [], [4], [0, 1, 2, 3, 4, 5]] [0, 1, 2, 3, 4, 5, 6] (by kernel_rfl) ?_
      repeat (first | refine LoadP.at 4 rfl _ rfl rfl ?_)
      exact Done.mk ⟨[chD, []], Drop.and (Drop.pick [5] _ rfl), [], rfl, .inr (.inl ⟨hok, rfl, rfl⟩)⟩
  | false =>
    have hsc : scanL d ⟨s1, s2, s3, tail⟩ = scanK (rbP d 2 lb) s2 (lb + 1) tail s3 lb := by
      unfold scanL
      rw [← hn, hlb]; rfl
    have hlbn : (layL n).toNat = lb := by rw [hlb]; rfl
    obtain ⟨L, hLe⟩ : ∃ L, L = scanL d ⟨s1, s2, s3, tail⟩ := ⟨_, rfl⟩
    have hbd := scan_bound (rb := rbP d 2 lb) (ep := s2) (lb + 1) tail s3 lb
    rw [← hsc, ← hLe] at hbd
    refine CodeF.rangeJ rfl [[(b12, row [.slice none 0 0] 162)], [(b13, row [.int .i64 tail] 3)], []] (scIt bS bP bR bD ⟨s1, s2, s3, tail⟩ x 0 chD) ((Drop.pick [5, 6, 8, 7, 4, 0] _ rfl).trans (Drop.flat (by simp [St.at]; exact ⟨rfl, rfl⟩))) (scan_up hD hdn x 2 lb hxl2 hxlb (by omega) hfit ⟨s1, s2, s3, tail⟩ tail rfl (by omega) ⟨by show 1 ≤ s3; omega, by show s3 ≤ _; omega⟩)
      (fun _ _ _ _ ⟨_, _, _, _, _, _, _, _, _, _, h, _⟩ => by rw [h]; rfl)
      (fun a J' S' => ∃ (aO : Option Addr) (capO : Nat) (chO : List Blk) (gl : List Grp) (acc : List G3), S' = [[(b12, row [.slice aO gl.length capO] 162)], [(b13, row [.int .i64 (placeP lb tail acc : Nat)] 3)], chO] ∧ OwnC chO 3 aO gl.length capO (grpCells gl) ∧ GrpsOk J' gl acc ∧ acc ++ scanK (rbP d 2 lb) s2 a.f a.at' a.seq a.room = L ∧ a.at' = tail + (acc.map fun g => g.2.2.length + 1).sum)
      (fun a J1 J2 S' hJ ⟨aO, capO, chO, gl, acc, h1, h2, h3, h4⟩ => ⟨aO, capO, chO, gl, acc, h1, h2, h3.mono hJ, h4⟩) (fun _ _ _ => False)
      ⟨none, 0, [], [], [], by rw [show placeP lb tail [] = tail from by unfold placeP; exact Nat.mod_eq_of_lt (by simp; omega)]; rfl, OwnC.nil _ _, ⟨by simp, rfl⟩, by rw [hLe, hsc]; rfl, by simp⟩ ?round ?done ?stop
    case stop => rintro _ _ _ _ _ h; exact h.elim
    case round =>
      rintro ⟨f, at_, seq, room⟩ xs ⟨f', at', seq', room'⟩ J' S' hJ' ⟨e, sn, li, aI, capI, gs, hf, hg, he, hs, rfl, hgs, hgp, hat, hsq, hrm⟩ ⟨aO, capO, chO, gl, acc, rfl, hO, hok2, hacc, hatl⟩
      dsimp only at hf hg hs hat hsq hrm hacc hatl
      subst hf hat hsq hrm
      rw [scanK, hg] at hacc
      dsimp only at hacc
      rw [if_pos ⟨he, hs⟩] at hacc
      have hgl2 := hok2.len
      have hll : L.length = acc.length + ((scanK (rbP d 2 lb) s2 f' (at_ + (li.length + 1)) (seq + 1) (room - (li.length + 1))).length + 1) := by rw [← hacc, List.length_append, List.length_cons]
      conv => whnf
      intro b15
      repeat (first | refine LoadD.own 0 rfl _ rfl rfl ?_ | refine LoadD.own 3 rfl _ rfl rfl ?_ | refine StoreD.st 3 rfl rfl rfl ?_)
      conv => whnf
      intro bN
      refine appendD tabOk rfl rfl rfl rfl rfl rfl rfl 2 rfl hO (SrcOk.slice (n := 1) (news := grpCells [⟨e, sn, aI, capI, gs⟩]) tabOk rfl ((OwnC.whole (len := 1) (size := 3) rfl).slC 4 rfl) (by intro v hv; simp [grpCells] at hv; rcases hv with rfl | rfl | rfl <;> rfl)) rfl (by show (gl.length + 1) * 40 ≤ _; omega) (by omega) ?_
      intro a2 cap2 ch2 hO2
      repeat (first | refine StoreD.st 0 rfl rfl rfl ?_ | refine StoreD.st 1 rfl rfl rfl ?_)
      have hll3 : (gl ++ [⟨e, sn, aI, capI, gs⟩] : List Grp).length = gl.length + 1 := by simp
      refine ⟨[[(b12, row [.slice a2 (gl.length + 1) cap2] 162)], [(b13, row [.int .i64 ((at_ + (li.length + 1)) % lb : Nat)] 3)], ch2], Drop.pick [0, 1, 2] _ rfl, a2, cap2, ch2, gl ++ [⟨e, sn, aI, capI, gs⟩], acc ++ [(e, sn, li)], ?_, ?_, ⟨?_, ?_⟩, ?_, ?_⟩
      · rw [hll3, placeP_snoc, ← hatl]
      · rw [hll3, grpCells_snoc]; exact hO2
      · intro g hg
        rcases List.mem_append.1 hg with hg | hg
        · exact hok2.each g hg
        · simp only [List.mem_singleton] at hg
          subst hg
          exact hgs
      · rw [List.map_append, List.map_append, hok2.g3, List.map_singleton, List.map_singleton]
        show _ ++ [((e : Int), (sn : Int), gs.map Img.pr)] = _
        rw [hgp]; rfl
      · rw [List.append_assoc]; exact hacc
      · show at_ + (li.length + 1) = _
        rw [List.map_append, List.sum_append, hatl]
        simp [Nat.add_assoc]
    case done =>
      rintro ⟨f, at_, seq, room⟩ J' S' R hJ' ⟨hfin, rfl⟩ ⟨aO, capO, chO, gl, acc, rfl, hO, hok2, hacc, hatl⟩
      rw [hfin, List.append_nil] at hacc
      subst hacc
      repeat (first | refine LoadD.own 5 rfl _ rfl rfl ?_ | refine CmpD.yes rfl ?_)
      refine CodeF.sched [[], [], [0], [0, 1, 2], [0, 1, 2, 3]] [0, 1, 2, 3, 4] (by kernel_rfl) ?_
      repeat (first | refine LoadP.at 0 rfl _ rfl rfl ?_ | refine LoadP.at 1 rfl _ rfl rfl ?_)
      refine Done.mk ⟨[chD, chO], Drop.pick [6, 2] _ rfl, chO, rfl, .inr (.inr ⟨hok, rfl, aO, capO, gl, ?_, hO, ?_⟩)⟩
      · rw [hlbn, ← hLe]; rfl
      · rw [← hLe]; exact hok2
end Go.Proofs.YtegdcjnjnoeinaaGreat
namespace Go.Proofs.YtegdcjnjnoeinaaGreat
open Go.RowKit Go.Sl
set_option maxRecDepth 20000

/-- what a disk's superblocks tell: the one that counts, which one it is, an error -/
def foundP (d : DSt) : Sup × Int × Int :=
  if d.down = true then (Sup.zero, 0, 6) else
  if (chooseP (getS (d.now.getD 0 [])) (getS (d.now.getD 1 []))).2.2 = false ∨ (chooseP (getS (d.now.getD 0 [])) (getS (d.now.getD 1 []))).1.blocks ≠ d.now.length ∨
    layL d.now.length ≤ (chooseP (getS (d.now.getD 0 [])) (getS (d.now.getD 1 []))).1.tail ∨ 8388608 ≤ (chooseP (getS (d.now.getD 0 [])) (getS (d.now.getD 1 []))).1.epoch then (Sup.zero, 0, 90) else
  ((chooseP (getS (d.now.getD 0 [])) (getS (d.now.getD 1 []))).1, (chooseP (getS (d.now.getD 0 [])) (getS (d.now.getD 1 []))).2.1, 0)
structure VSt where
  j : JSt
  epoch : Int
  slot : Int
  fresh : List PImg
  broken : Bool
def allG (gs : List G3) : List PImg := gs.flatMap fun g => g.2.2
noncomputable def mountL (n : Nat) (d : DSt) (s : Sup) (slot : Int) (gs : List G3) : DSt × Int × Option VSt :=
  if ¬ HomeOk (layOf n) (allG gs) ∨ 549755813888 - (gs.length : Int) < s.seq then (d, 90, none) else
  if (doP d (homeP (allG gs)) ⟨s.blocks, s.epoch + 1, s.seq + gs.length, placeP (layL n).toNat s.tail.toNat gs⟩ (1 - slot)).2 ≠ 0 then
    ((doP d (homeP (allG gs)) ⟨s.blocks, s.epoch + 1, s.seq + gs.length, placeP (layL n).toNat s.tail.toNat gs⟩ (1 - slot)).1, (doP d (homeP (allG gs)) ⟨s.blocks, s.epoch + 1, s.seq + gs.length, placeP (layL n).toNat s.tail.toNat gs⟩ (1 - slot)).2, none) else
  ((doP d (homeP (allG gs)) ⟨s.blocks, s.epoch + 1, s.seq + gs.length, placeP (layL n).toNat s.tail.toNat gs⟩ (1 - slot)).1, 0, some ⟨openJ n (s.epoch + 1) (s.seq + gs.length) (placeP (layL n).toNat s.tail.toNat gs), s.epoch + 1, slot, [], false⟩)
noncomputable def mountP (d : DSt) : DSt × Int × Option VSt :=
  if d.now.length < 64 then (d, 90, none) else
  if (foundP d).2.2 ≠ 0 then (d, (foundP d).2.2, none) else
  mountL d.now.length d (foundP d).1 (foundP d).2.1 (scanL d (foundP d).1)
def VSt.read (v : VSt) (d : DSt) (n : Int) : Dat × Int := if v.broken = true then ([], 4) else match v.fresh.lookup n with
  | some b => (b, 0)
  | none => d.read n
/-- what a checkpoint writes: each block's last image, by rising blocks -/
def sortP (l : List PImg) : List PImg := (sortI (l.map Prod.fst)).map fun n => (n, (l.lookup n).getD [])
def VSt.sup (v : VSt) : Sup := ⟨v.j.lay.b, v.epoch, v.j.next, (v.j.t + v.j.u) % v.j.s⟩
/-- a checkpoint's three steps: the error, the journal and the disk then -/
def VSt.ckS (v : VSt) (d : DSt) : Int × JSt × DSt :=
  if (v.j.flush d).2.2 ≠ 0 then ((v.j.flush d).2.2, (v.j.flush d).1, (v.j.flush d).2.1) else
  if (doP (v.j.flush d).2.1 (sortP v.fresh) v.sup v.slot).2 ≠ 0 then ((doP (v.j.flush d).2.1 (sortP v.fresh) v.sup v.slot).2, (v.j.flush d).1, (doP (v.j.flush d).2.1 (sortP v.fresh) v.sup v.slot).1) else
  (((v.j.flush d).1.release (v.j.flush d).1.synced).2, ((v.j.flush d).1.release (v.j.flush d).1.synced).1, (doP (v.j.flush d).2.1 (sortP v.fresh) v.sup v.slot).1)
def VSt.ckpt (v : VSt) (d : DSt) : VSt × DSt × Int :=
  if v.broken = true then (v, d, 4) else
  if (v.ckS d).1 ≠ 0 then ({ v with j := (v.ckS d).2.1, broken := true }, (v.ckS d).2.2, (v.ckS d).1) else
  ({ v with j := (v.ckS d).2.1, slot := 1 - v.slot, fresh := [] }, (v.ckS d).2.2, 0)
def VSt.fits (v : VSt) (k : Int) : Bool := decide (0 < blocksN k ∧ blocksN k ≤ v.j.lay.lb)
def VSt.app (v : VSt) (d : DSt) (l : List PImg) : VSt × DSt × Int × Int :=
  if (v.j.appendB d l false).2.2.2 ≠ 0 then ({ v with j := (v.j.appendB d l false).1, broken := true }, (v.j.appendB d l false).2.1, 0, (v.j.appendB d l false).2.2.2) else
  ({ v with j := (v.j.appendB d l false).1, fresh := l.foldl pput v.fresh }, (v.j.appendB d l false).2.1, (v.j.appendB d l false).2.2.1, 0)
def VSt.commit (v : VSt) (d : DSt) (l : List PImg) : VSt × DSt × Int × Int :=
  if v.broken = true then (v, d, 0, 4) else
  if ¬ HomeOk v.j.lay l then (v, d, 0, 70) else
  if ¬ RightP v.epoch v.j.next l then (v, d, 0, 80) else
  if v.fits l.length = false then (v, d, 0, 232) else
  if v.j.s - v.j.u - v.j.h < blocksN l.length then
    (if (v.ckpt d).2.2 ≠ 0 then ((v.ckpt d).1, (v.ckpt d).2.1, 0, (v.ckpt d).2.2) else (v.ckpt d).1.app (v.ckpt d).2.1 l)
  else v.app d l
end Go.Proofs.YtegdcjnjnoeinaaGreat
namespace Go.Proofs.YtegdcjnjnoeinaaGreat
open Go.RowKit Go.Sl
set_option maxRecDepth 20000

@[reducible] def vCells (bD bJ bM : Nat) (x : Lay) (ep sl : Int) (br : Bool) : List Value := .pointer (some ⟨bD, 0, none⟩) :: x.vals ++ [.pointer (some ⟨bJ, 0, none⟩), .int .i64 ep, .int .i64 sl, .map (some bM), .bool br]
@[reducible] def vChunk (bV bD bJ bM : Nat) (x : Lay) (ep sl : Int) (br : Bool) : List Blk := [(bV, row (vCells bD bJ bM x ep sl br) 49)]
section
variable (bV bD bJ bM : Nat) (x : Lay) (ep sl : Int) (br : Bool) (I : Imm)
theorem v_none (S : St) (k : Nat) (hk : S[k]? = some (vChunk bV bD bJ bM x ep sl br)) : Tri Tryz.prog 97 #[.pointer (some ⟨bV, 0, none⟩)] I S fun v J S' => v = .bool false ∧ I = J ∧ S' = S := by
  obtain ⟨l1, l2, l3, l4, l5, l6, l7⟩ := x
  refine Tri.of (args := [.pointer (some ⟨bV, 0, none⟩)]) tabOk Tryz.func97 rfl (by kernel_rfl) (by kernel_rfl) ?_
  refine LoadD.own k hk [.pointer (some ⟨bD, 0, none⟩)] rfl rfl ?_
  exact Done.mk ⟨rfl, rfl, rfl⟩
def wrongV (b : Bool) : Int := match b with
  | true => 4
  | false => 0
theorem v_wrong (S : St) (k : Nat) (hk : S[k]? = some (vChunk bV bD bJ bM x ep sl br)) : Tri Tryz.prog 78 #[.pointer (some ⟨bV, 0, none⟩)] I S fun v J S' => v = .int .i64 (wrongV br) ∧ I = J ∧ S' = S := by
  have h0 := v_none bV bD bJ bM x ep sl br I S k hk
  obtain ⟨l1, l2, l3, l4, l5, l6, l7⟩ := x
  refine Tri.of (args := [.pointer (some ⟨bV, 0, none⟩)]) tabOk Tryz.func78 rfl (by kernel_rfl) (by kernel_rfl) ?_
  refine Tri.mono h0 ?_
  rintro v _ _ hJ ⟨rfl, rfl, rfl⟩
  refine LoadD.own k hk [.bool br] rfl rfl ?_
  cases br <;> exact Done.mk ⟨rfl, rfl, rfl⟩
theorem v_did (e : Int) : Tri Tryz.prog 85 #[.pointer (some ⟨bV, 0, none⟩), .int .i64 e] I [vChunk bV bD bJ bM x ep sl br] fun v J S' => v = .int .i64 e ∧ I = J ∧ S' = [vChunk bV bD bJ bM x ep sl (br || decide (e ≠ 0))] := by
  obtain ⟨l1, l2, l3, l4, l5, l6, l7⟩ := x
  refine Tri.of (args := [.pointer (some ⟨bV, 0, none⟩), .int .i64 e]) tabOk Tryz.func85 rfl (by kernel_rfl) (by kernel_rfl) ?_
  refine LoadD.own 0 rfl [.bool br] rfl rfl ?_
  cases br
  · refine CmpD.split (fun c => ?_) (fun c => ?_)
    · refine StoreD.st 0 rfl rfl rfl ?_
      refine Done.mk ⟨rfl, rfl, ?_⟩
      rw [decide_eq_false (by simpa using c)]; rfl
    · refine StoreD.st 0 rfl rfl rfl ?_
      refine Done.mk ⟨rfl, rfl, ?_⟩
      rw [decide_eq_true (by simpa using c)]; rfl
  · refine StoreD.st 0 rfl rfl rfl ?_
    exact Done.mk ⟨rfl, rfl, rfl⟩
end
/-- a volume and what is in it, as one chunk -/
def Vk (J : Imm) (bV bD : Nat) (v : VSt) (ch : List Blk) : Prop := ∃ (bJ bM : Nat) (ob : Obj) (chJ : List Blk) (gs : List Img),
  ch = vChunk bV bD bJ bM v.j.lay v.epoch v.slot v.broken ++ ((bM, ob) :: chJ) ∧ Jk bJ bD v.j chJ ∧ MapR ob (gs.map hdr) ∧ (∀ g ∈ gs, ImgOk J g) ∧ gs.map Img.pr = v.fresh
theorem Vk.mono {I J : Imm} {bV bD : Nat} {v : VSt} {ch : List Blk} (h : Vk I bV bD v ch) (hJ : I.le J) : Vk J bV bD v ch := by
  obtain ⟨bJ, bM, ob, chJ, gs, h1, h2, h3, h4, h5⟩ := h
  exact ⟨bJ, bM, ob, chJ, gs, h1, h2, h3, fun g hg => (h4 g hg).mono hJ, h5⟩
theorem vk_lay (bV bD bJ bM : Nat) (x : Lay) (ep sl : Int) (br : Bool) (ob : Obj) (chJ : List Blk) : [vChunk bV bD bJ bM x ep sl br ++ ((bM, ob) :: chJ)].flatten = [vChunk bV bD bJ bM x ep sl br, [(bM, ob)], chJ].flatten := by simp
theorem vk_lay2 (bV bD bJ bM : Nat) (x : Lay) (ep sl : Int) (br : Bool) (ob : Obj) (chJ chD : List Blk) : [vChunk bV bD bJ bM x ep sl br ++ ((bM, ob) :: chJ), chD].flatten = [vChunk bV bD bJ bM x ep sl br, [(bM, ob)], chJ, chD].flatten := by simp
end Go.Proofs.YtegdcjnjnoeinaaGreat
namespace Go.Proofs.YtegdcjnjnoeinaaGreat
open Go.RowKit Go.Sl
set_option maxRecDepth 20000

theorem mget_hdr (gs : List Img) (n : Int) : mget (gs.map hdr) n = none ∧ (gs.map Img.pr).lookup n = none ∨ ∃ g ∈ gs, mget (gs.map hdr) n = some (.slice g.a g.len g.cap) ∧ (gs.map Img.pr).lookup n = some g.data := by
  induction gs with
  | nil => exact .inl ⟨rfl, rfl⟩
  | cons g gs ih =>
    show (mget ((g.blk, _) :: gs.map hdr) n = none ∧ List.lookup n ((g.blk, g.data) :: gs.map Img.pr) = none) ∨ ∃ g' ∈ g :: gs, mget ((g.blk, _) :: gs.map hdr) n = _ ∧ List.lookup n ((g.blk, g.data) :: gs.map Img.pr) = _
    unfold mget
    rw [List.lookup_cons, List.lookup_cons]
    cases h : (n == g.blk) with
    | true => exact .inr ⟨g, by simp, rfl, rfl⟩
    | false =>
      rcases ih with ⟨h1, h2⟩ | ⟨g', hg', h1, h2⟩
      · exact .inl ⟨h1, h2⟩
      · exact .inr ⟨g', by simp [hg'], h1, h2⟩
/-- a block, as it counts: the bytes in a chunk of their own -/
theorem vk_Read {bV bD : Nat} {v : VSt} {ch : List Blk} {I : Imm} (h : Vk I bV bD v ch) {d : DSt} {chD : List Blk} (hD : Dk I bD d chD) (hfew : ∀ g ∈ v.fresh, g.2.length ≤ 1000000) (n : Int) :
    Tri Tryz.prog 17 #[.pointer (some ⟨bV, 0, none⟩), .int .i64 n] I [ch, chD] fun r J S' => ∃ a cap chB, r = .tuple #[.slice a (v.read d n).1.length cap, .int .i64 (v.read d n).2] ∧ OwnB chB a (v.read d n).1.length cap (v.read d n).1 ∧ I = J ∧ S' = [ch, chD, chB] := by
  obtain ⟨bJ, bM, ob, chJ, gs, rfl, hj, hM, hg, hp⟩ := h
  refine Tri.lay (S2 := [vChunk bV bD bJ bM v.j.lay v.epoch v.slot v.broken, [(bM, ob)], chJ, chD]) (vk_lay2 ..) ?_
  refine Tri.drop ?_ (fun _ _ _ _ h => h)
  refine Tri.of (args := [.pointer (some ⟨bV, 0, none⟩), .int .i64 n]) tabOk Tryz.func17 rfl (by kernel_rfl) (by kernel_rfl) ?_
  refine Tri.nf (v_wrong bV bD bJ bM _ _ _ _ I _ 0 rfl) ?_
  rintro r _ _ hJ ⟨rfl, rfl, rfl⟩
  have back : ∀ (x : List Blk), Drop [vChunk bV bD bJ bM v.j.lay v.epoch v.slot v.broken, [(bM, ob)], chJ, chD, x] [vChunk bV bD bJ bM v.j.lay v.epoch v.slot v.broken ++ ((bM, ob) :: chJ), chD, x] := fun x => Drop.flat (by simp)
  unfold VSt.read
  cases hb : v.broken
  · repeat (first | refine LoadD.own 0 rfl _ rfl rfl ?_ | refine CmpD.yes rfl ?_)
    refine lookupD tabOk rfl rfl rfl rfl rfl rfl 1 rfl hM ?_
    rw [if_neg (by simp)]
    rcases mget_hdr gs n with ⟨h1, h2⟩ | ⟨g, hgm, h1, h2⟩
    · rw [h1]
      rw [hp] at h2
      rw [h2]
      repeat (first | refine LoadD.own 0 rfl _ rfl rfl ?_)
      refine Tri.frame (dk_Read hD n) [3] rfl rfl ?_
      rintro r _ A' hJ ⟨a, cap, chB, rfl, hB, rfl, rfl⟩
      refine ⟨by simp, ?_⟩
      rw [hb] at back
      exact Done.mk ⟨_, back chB, a, cap, chB, rfl, hB, rfl, rfl⟩
    · rw [h1]
      rw [hp] at h2
      rw [h2]
      have hr := (hg g hgm).2
      have hl : g.data.length = g.len := by have := hr.len; rwa [bts_length] at this
      have hle : g.data.length ≤ 1000000 := hfew g.pr (by rw [← hp]; exact List.mem_map_of_mem hgm)
      skip
      refine Tri.frameX (clone_bytes I [] g.a g.len g.cap (bts g.data) (by rw [Nat.mul_one]; exact hr.slC) (bts_plain g.data) (by omega)) [] rfl rfl ?_
      rintro r _ A' hJ ⟨a, cap, chB, rfl, hB, rfl, rfl⟩
      rw [hb] at back
      refine Done.mk ⟨_, back chB, a, cap, chB, ?_, ?_, rfl, rfl⟩
      · rw [← hl]; rfl
      · show OwnB chB a g.data.length cap g.data; rw [hl]; exact hB
  · repeat (first | refine CmpD.no (by decide) ?_)
    rw [if_pos rfl]
    rw [hb] at back
    exact Done.mk ⟨_, (Drop.and (Drop.refl _)).trans (back []), none, 0, [], rfl, OwnC.nil _ _, rfl, rfl⟩
theorem flush_lay (j : JSt) (d : DSt) : (j.flush d).1.lay = j.lay := by
  unfold JSt.flush
  split
  · rfl
  · split <;> rfl
/-- steps, one behind the other, until one errs -/
def Steps (P : Program) : List Value → Imm → St → (Value → Imm → St → Prop) → Prop
  | [], I, S, K => K (.int .i64 0) I S
  | f :: fs, I, S, K => ∃ (g : FuncId) (b c : List Value), f = .func (.func g) b.toArray c.toArray ∧ Tri P g (b ++ c).toArray I S fun v J S' => ∃ e : Int, v = .int .i64 e ∧ (e ≠ 0 → K v J S') ∧ (e = 0 → Steps P fs J S' K)
theorem forceL_of {l : List Value} {K : List Value → Prop} (h : K l) : forceL l K := by rw [forceL_eq]; exact h
theorem Tri.cast {P : Program} {f : FuncId} {args args' : Array Value} {I : Imm} {S : St} {Q : Value → Imm → St → Prop} (e : args = args') (h : Tri P f args I S Q) : Tri P f args' I S Q := by subst e; exact h
theorem vol_first {I : Imm} {S : St} {K : Value → Imm → St → Prop} (a : Option Addr) (n cap : Nat) (fs : List Value) (hn : n ≤ 1000) (hl : Rds I a n fs) (h : Steps Tryz.prog fs I S K) : Tri Tryz.prog 91 #[.slice a n cap] I S K := by
  have hfl := hl.len
  refine Tri.of (args := [.slice a n cap]) tabOk Tryz.func91 rfl (by kernel_rfl) (by kernel_rfl) ?_
  refine CodeF.loopD [6, 7, 8] (fun vs J' S' => ∃ (i : Nat), i ≤ n ∧ Steps Tryz.prog (fs.drop i) J' S' K ∧ I.le J' ∧ vs = [.slice a n cap, .int .i64 n, .int .i64 i])
    (fun vs _ _ => match vs with | [_, _, .int _ i] => ((n : Int) - i).toNat | _ => 0) ?_ ?_
  · exact ⟨_, Drop.refl _, 0, by omega, h, I.le_refl, rfl⟩
  rintro vs gE J' S' hJ' ⟨i, hi, hs, hle, rfl⟩
  refine CmpD.split (fun (c1 : (i : Int) < n) => ?_) (fun (c1 : ¬ (i : Int) < n) => ?_)
  · rcases hl.mem with q0 | ⟨bL, oL, cL, TL, fL, rfl, hIL, hcL⟩
    · omega
    rw [List.drop_eq_getElem_cons (by omega)] at hs
    obtain ⟨g, b, c, hf, ht⟩ := hs
    have hcell : fs[i]? = some (.func (.func g) b.toArray c.toArray) := by rw [List.getElem?_eq_getElem (by omega), hf]
    refine Chk.mk (by omega) ?_
    refine LoadD.imm (hle _ _ hIL) [.func (.func g) b.toArray c.toArray] (take_get hcL hcell) rfl ?_
    refine forceL_of ?_
    refine Tri.cast (args := (b ++ c).toArray) (by simp) (ht.mono ?_)
    rintro v J2 S2 hJ2 ⟨e, rfl, h1, h2⟩
    refine CmpD.split (fun c2 => ?_) (fun c2 => ?_)
    · refine ToD.to (((i + 1 : Nat)) : Int) (by rw [wrap_i64 (by omega) (by omega)]; omega) ?_
      refine ⟨_, Drop.refl _, ⟨i + 1, by omega, h2 c2, Imm.le_trans hle hJ2, rfl⟩, ?_⟩
      show ((n : Int) - ((i + 1 : Nat) : Int)).toNat < ((n : Int) - (i : Int)).toNat; omega
    · exact Done.mk (h1 c2)
  · obtain rfl : i = n := by omega
    rw [List.drop_of_length_le (by omega)] at hs
    exact Done.mk hs
end Go.Proofs.YtegdcjnjnoeinaaGreat
namespace Go.Proofs.YtegdcjnjnoeinaaGreat
open Go.RowKit Go.Sl
set_option maxRecDepth 20000

theorem openJ_wf64 (tail : Int) (ht : 0 ≤ tail ∧ tail < 16) : (openJ 64 1 1 tail).Wf := openJ_wf 64 (by omega) ⟨rfl, by omega, by omega, by omega, by omega, ht.1, by rw [layL_64']; exact ht.2⟩
theorem fresh_calm (l : List Dat) : (DSt.of l).Calm := ⟨rfl, rfl, rfl⟩
theorem JSt.Wf.append {j : JSt} (hj : j.Wf) {d : DSt} {l : List PImg} {held : Bool} (h8 : j.groups.length ≤ 999999) : (j.appendB d l held).1.Wf := by
  have hr := hj.ring
  unfold JSt.appendB JSt.append
  split
  · exact hj
  split
  · exact hj
  rename_i hR
  have hR : RightP j.epoch j.next l := Decidable.of_not_not hR
  split
  · exact hj
  generalize hp : putS j.s j.t j.u j.h (l.length + 1) (if held then l.length + 1 else 0) = q
  obtain ⟨⟨s, t, u, h, e⟩, at_⟩ := q
  dsimp only
  split
  · exact hj
  rename_i he
  have he : e = 0 := Decidable.of_not_not he
  obtain ⟨e1, e2, h3, _, _⟩ := putS_mid hr hp he
  have hn := hj.next
  have hs := hj.synced
  have hl := hR.2.2.2.2.2.1
  have hs2 := hR.2.2.2.1
  generalize wrAll (fun i => j.lay.l + (at_ + i) % s) (putP j.epoch.toNat j.next.toNat l) 0 d = q
  obtain ⟨d', e'⟩ := q
  dsimp only
  split
  · exact ⟨hj.log, h3, hj.epoch, hj.next, hj.synced, hj.few, hj.groups⟩
  · refine ⟨hj.log, h3, hj.epoch, ?_, ?_, ?_, ?_⟩
    · show 1 ≤ j.next + 1 ∧ j.next + 1 ≤ _; omega
    · show 0 ≤ j.synced ∧ j.synced < j.next + 1; omega
    · show (j.groups ++ [_]).length ≤ _; simp; omega
    · intro g hg
      rcases List.mem_append.1 hg with hg | hg
      · exact hj.groups g hg
      · simp only [List.mem_singleton] at hg
        subst hg
        unfold In64; dsimp only; omega
theorem JSt.Wf.flush {j : JSt} (hj : j.Wf) (d : DSt) : (j.flush d).1.Wf := by
  have hn := hj.next
  unfold JSt.flush
  split
  · exact hj
  split
  · exact ⟨hj.log, hj.ring, hj.epoch, hj.next, hj.synced, hj.few, hj.groups⟩
  · refine ⟨hj.log, hj.ring, hj.epoch, hj.next, ?_, hj.few, hj.groups⟩
    show 0 ≤ j.next - 1 ∧ j.next - 1 < j.next; omega
theorem relAll_mid (seq : Int) : ∀ (gs : List (Int × Int)) (s t u h : Int) (gs' : List (Int × Int)) (s' t' u' h' e : Int), Ok s t u h → relAll seq gs s t u h = (gs', (s', t', u', h', e)) → Ok s' t' u' h' ∧ ∃ k, gs' = gs.drop k
  | [], s, t, u, h, _, _, _, _, _, _, hr, he => by
    rw [relAll] at he
    simp only [Prod.mk.injEq] at he
    obtain ⟨rfl, rfl, rfl, rfl, rfl, rfl⟩ := he
    exact ⟨hr, 0, rfl⟩
  | g :: gs, s, t, u, h, gs', s', t', u', h', e, hr, he => by
    rw [relAll] at he
    split at he
    · generalize hd : dropS s t u h g.2 = q at he
      obtain ⟨s1, t1, u1, h1, e1⟩ := q
      dsimp only at he
      split at he
      · rename_i h0
        obtain ⟨h2, k, hk⟩ := relAll_mid seq gs s1 t1 u1 h1 gs' s' t' u' h' e (dropS_mid hr hd h0) he
        exact ⟨h2, k + 1, hk⟩
      · simp only [Prod.mk.injEq] at he
        obtain ⟨rfl, rfl, rfl, rfl, rfl, rfl⟩ := he
        exact ⟨hr, 0, rfl⟩
    · simp only [Prod.mk.injEq] at he
      obtain ⟨rfl, rfl, rfl, rfl, rfl, rfl⟩ := he
      exact ⟨hr, 0, rfl⟩
theorem JSt.Wf.release {j : JSt} (hj : j.Wf) (seq : Int) : (j.release seq).1.Wf := by
  unfold JSt.release
  split
  · exact hj
  split
  · exact hj
  generalize hq : relAll seq j.groups j.s j.t j.u j.h = q
  obtain ⟨gs, s, t, u, h, e⟩ := q
  obtain ⟨h1, k, rfl⟩ := relAll_mid seq _ _ _ _ _ _ _ _ _ _ _ hj.ring hq
  exact ⟨hj.log, h1, hj.epoch, hj.next, hj.synced, by show (j.groups.drop k).length ≤ _; rw [List.length_drop]; have := hj.few; omega, fun g hg => hj.groups g (List.mem_of_mem_drop hg)⟩
/-- a group that fits is appended: what the journal is then -/
theorem JSt.append_next {j : JSt} (hj : j.Wf) (h8 : j.groups.length ≤ 999999) {d : DSt} {l : List PImg} {held : Bool} (hb : j.broken = false) (hR : RightP j.epoch j.next l) (hs : (l.length : Int) + 1 ≤ j.s) (hd : d.Calm) (hlen : j.s + 2 ≤ d.now.length)
    {t u h at_ : Int} (hp : putS j.s j.t j.u j.h (l.length + 1) (if held then l.length + 1 else 0) = ((j.s, t, u, h, 0), at_)) :
    ∃ j', j.appendB d l held = (j', wrD (fun i => 2 + (at_ + i) % j.s) (putP j.epoch.toNat j.next.toNat l) 0 d, j.next, 0) ∧ j'.lay = j.lay ∧ j'.s = j.s ∧ j'.t = t ∧ j'.u = u ∧ j'.h = h ∧ j'.epoch = j.epoch ∧ j'.next = j.next + 1 ∧ j'.synced = j.synced ∧ j'.groups = j.groups ++ [(j.next, (l.length + 1 : Int))] ∧ j'.broken = false ∧ j'.Wf := by
  have e := JSt.append_calm hb hR hs hj.log hd hlen hp
  have w := hj.append (d := d) (l := l) (held := held) h8
  rw [e] at w
  exact ⟨_, e, rfl, rfl, rfl, rfl, rfl, rfl, rfl, rfl, rfl, hb, w⟩
theorem JSt.flush_next {j : JSt} (hj : j.Wf) {d : DSt} (hb : j.broken = false) (hd : d.Calm) :
    ∃ j', j.flush d = (j', { d with safe := d.now, writes := [] }, 0) ∧ j'.lay = j.lay ∧ j'.s = j.s ∧ j'.t = j.t ∧ j'.u = j.u ∧ j'.h = j.h ∧ j'.epoch = j.epoch ∧ j'.next = j.next ∧ j'.synced = j.next - 1 ∧ j'.groups = j.groups ∧ j'.broken = false ∧ j'.Wf := by
  have e : j.flush d = ({ j with synced := j.next - 1 }, { d with safe := d.now, writes := [] }, 0) := by
    unfold JSt.flush DSt.flush
    rw [if_neg (by rw [hb]; simp), DSt.stop_calm hd]
    simp
  have w := hj.flush d
  rw [e] at w
  exact ⟨_, e, rfl, rfl, rfl, rfl, rfl, rfl, rfl, rfl, rfl, hb, w⟩
theorem JSt.release_next {j : JSt} (hj : j.Wf) {seq : Int} (hb : j.broken = false) (hs : ¬ j.synced < seq) {gs : List (Int × Int)} {s t u h e : Int} (hr : relAll seq j.groups j.s j.t j.u j.h = (gs, (s, t, u, h, e))) :
    ∃ j', j.release seq = (j', e) ∧ j'.lay = j.lay ∧ j'.s = s ∧ j'.t = t ∧ j'.u = u ∧ j'.h = h ∧ j'.epoch = j.epoch ∧ j'.next = j.next ∧ j'.synced = j.synced ∧ j'.groups = gs ∧ j'.broken = false ∧ j'.Wf := by
  have e' : j.release seq = ({ j with s := s, t := t, u := u, h := h, groups := gs }, e) := by
    unfold JSt.release
    rw [if_neg (by rw [hb]; simp), if_neg hs, hr]
  have w := hj.release seq
  rw [e'] at w
  exact ⟨_, e', rfl, rfl, rfl, rfl, rfl, rfl, rfl, rfl, rfl, hb, w⟩
end Go.Proofs.YtegdcjnjnoeinaaGreat
namespace Go.Proofs.YtegdcjnjnoeinaaGreat
open Go.RowKit Go.Sl
set_option maxRecDepth 20000

theorem rel_lay (j : JSt) (q : Int) : (j.release q).1.lay = j.lay := by
  unfold JSt.release
  split
  · rfl
  · split <;> rfl
theorem ckS_lay (v : VSt) (d : DSt) : (v.ckS d).2.1.lay = v.j.lay := by
  unfold VSt.ckS
  split
  · exact flush_lay _ _
  · split
    · exact flush_lay _ _
    · show (JSt.release _ _).1.lay = _
      rw [rel_lay, flush_lay]
theorem jflush_few {j : JSt} {d : DSt} {k : Nat} (h : d.Few k) : (j.flush d).2.1.Few k := by
  unfold JSt.flush
  split
  · exact h
  · split <;> exact h.flush
theorem ck1 {I : Imm} {bV bD bJ bM b1 b4 b8 : Nat} {x : Lay} {ep sl : Int} {br : Bool} {d : DSt} {chD : List Blk} (hD : Dk I bD d chD) (hf : d.Few 800000) (aI : Option Addr) (capI : Nat) (outs : List Img) (hi : ImgsOk I aI outs) (hol : outs.length ≤ 1000) (s : Sup) :
    Tri Tryz.prog 92 #[.pointer (some ⟨b1, 0, none⟩), .pointer (some ⟨b4, 0, none⟩), .pointer (some ⟨b8, 0, none⟩)] I [vChunk bV bD bJ bM x ep sl br, pBox b1 (.pointer (some ⟨bV, 0, none⟩)) 23, pBox b4 (.slice aI outs.length capI) 26, [(b8, row [.int .i64 s.blocks, .int .i64 s.epoch, .int .i64 s.seq, .int .i64 s.tail] 143)], chD]
      fun r J S' => r = .int .i64 (doP d (outs.map Img.pr) s sl).2 ∧ ∃ chD', Dk J bD (doP d (outs.map Img.pr) s sl).1 chD' ∧ S' = [vChunk bV bD bJ bM x ep sl br, pBox b1 (.pointer (some ⟨bV, 0, none⟩)) 23, pBox b4 (.slice aI outs.length capI) 26, [(b8, row [.int .i64 s.blocks, .int .i64 s.epoch, .int .i64 s.seq, .int .i64 s.tail] 143)], chD'] := by
  obtain ⟨l1, l2, l3, l4, l5, l6, l7⟩ := x
  refine Tri.of (args := [.pointer (some ⟨b1, 0, none⟩), .pointer (some ⟨b4, 0, none⟩), .pointer (some ⟨b8, 0, none⟩)]) tabOk Tryz.func92 rfl (by kernel_rfl) (by kernel_rfl) ?_
  refine CodeF.sched [[], [0], [0, 1], [0, 1, 2], [], [], [], [6], [6, 7], [6, 7, 8], [0, 1, 2, 3, 4, 5, 6, 7, 8, 9], [0, 1, 2, 3, 4, 5, 6, 7, 8, 9, 10]] [0, 1, 2, 3, 4, 5, 6, 7, 8, 9, 10, 11] (by kernel_rfl) ?_
  repeat (first | refine LoadP.at 0 rfl _ rfl rfl ?_ | refine LoadP.at 1 rfl _ rfl rfl ?_ | refine LoadP.at 2 rfl _ rfl rfl ?_ | refine LoadP.at 3 rfl _ rfl rfl ?_)
  refine Tri.frame1 4 rfl (dk_Do hD 800000 hf aI capI outs hi (by omega) s sl) ?_
  rintro r J A' hJ ⟨rfl, chD2, hD2, rfl⟩
  refine ⟨_, rfl, ?_⟩
  exact Done.mk ⟨rfl, chD2, hD2, rfl⟩
theorem ck2 {I : Imm} {bV bD bJ bM b1 : Nat} {x : Lay} {ep sl : Int} {br : Bool} {j : JSt} {chJ : List Blk} (hj : Jk bJ bD j chJ) (hw : j.Wf) :
    Tri Tryz.prog 94 #[.pointer (some ⟨b1, 0, none⟩)] I [vChunk bV bD bJ bM x ep sl br, pBox b1 (.pointer (some ⟨bV, 0, none⟩)) 23, chJ]
      fun r J S' => I = J ∧ r = .int .i64 (j.release j.synced).2 ∧ ∃ chJ', Jk bJ bD (j.release j.synced).1 chJ' ∧ S' = [vChunk bV bD bJ bM x ep sl br, pBox b1 (.pointer (some ⟨bV, 0, none⟩)) 23, chJ'] := by
  obtain ⟨l1, l2, l3, l4, l5, l6, l7⟩ := x
  refine Tri.of (args := [.pointer (some ⟨b1, 0, none⟩)]) tabOk Tryz.func94 rfl (by kernel_rfl) (by kernel_rfl) ?_
  refine CodeF.sched [[], [0], [0, 1], [0, 1, 2], [], [4], [4, 5], [4, 5, 6], [4, 5, 6, 7], [0, 1, 2, 3, 4, 5, 6, 7, 8], [0, 1, 2, 3, 4, 5, 6, 7, 8, 9]] [0, 1, 2, 3, 4, 5, 6, 7, 8, 9, 10] (by kernel_rfl) ?_
  repeat (first | refine LoadP.at 0 rfl _ rfl rfl ?_ | refine LoadP.at 1 rfl _ rfl rfl ?_)
  refine Tri.frame1 2 rfl (jk_Synced hj I) ?_
  rintro r _ A' hJ ⟨rfl, rfl, rfl⟩
  refine ⟨_, rfl, ?_⟩
  repeat (first | refine Chk.mk ⟨rfl, rfl, trivial⟩ ?_)
  refine Tri.frame1 2 rfl (jk_Release hj hw j.synced I) ?_
  rintro r _ A' hJ ⟨rfl, rfl, chJ2, hj2, rfl⟩
  refine ⟨_, rfl, ?_⟩
  skip
  exact Done.mk ⟨rfl, rfl, chJ2, hj2, rfl⟩
set_option maxHeartbeats 8000000 in
theorem vk_Checkpoint {bV bD : Nat} {v : VSt} {ch : List Blk} {I : Imm} (h : Vk I bV bD v ch) (hw : v.j.Wf) (hsl : 0 ≤ v.slot ∧ v.slot ≤ 1) (hfr : v.fresh.length ≤ 1000) {d : DSt} {chD : List Blk} (hD : Dk I bD d chD) (hf : d.Few 800000) :
    Tri Tryz.prog 24 #[.pointer (some ⟨bV, 0, none⟩)] I [ch, chD] fun r J S' => r = .int .i64 (v.ckpt d).2.2 ∧ ∃ ch' chD', Vk J bV bD (v.ckpt d).1 ch' ∧ Dk J bD (v.ckpt d).2.1 chD' ∧ S' = [ch', chD'] := by
  have h0 := h
  obtain ⟨bJ, bM, ob, chJ, gs, rfl, hj, hM, hg, hp⟩ := h
  have hgl : gs.length ≤ 1000 := by rw [← hp, List.length_map] at hfr; exact hfr
  refine Tri.lay (S2 := [vChunk bV bD bJ bM v.j.lay v.epoch v.slot v.broken, [(bM, ob)], chJ, chD]) (vk_lay2 ..) ?_
  refine Tri.drop ?_ (fun _ _ _ _ h => h)
  refine Tri.of (args := [.pointer (some ⟨bV, 0, none⟩)]) tabOk Tryz.func24 rfl (by kernel_rfl) (by kernel_rfl) ?_
  conv => whnf
  intro b1
  repeat (first | refine LoadD.own 4 rfl _ rfl rfl ?_)
  refine Tri.nf (v_wrong bV bD bJ bM _ _ _ _ I _ 0 rfl) ?_
  rintro r _ _ hJ ⟨rfl, rfl, rfl⟩
  cases hb : v.broken
  rotate_left
  · repeat (first | refine CmpD.no (by decide) ?_)
    unfold VSt.ckpt
    rw [if_pos hb]
    exact Done.mk ⟨_, (Drop.pick [0, 1, 2, 3] _ rfl).trans (Drop.flat (by simp [St.at, hb])), rfl, _, chD, h0, hD, rfl⟩
  repeat (first | refine CmpD.yes rfl ?_)
  conv => whnf
  intro b4
  repeat (first | refine LoadD.own 0 rfl _ rfl rfl ?_ | refine LoadD.own 4 rfl _ rfl rfl ?_)
  refine Tri.nf (keys_of bM I _) ?_
  rintro r _ S' hJ2 ⟨bk, rfl, rfl, rfl⟩
  refine Tri.frameX (sorted_keys bk bM ob (gs.map hdr) hM (by rw [List.length_map]; omega) I) [6, 1] rfl rfl ?_
  rintro r JK A' hJK ⟨aK, capK, chK, rfl, hK, hleK, rfl⟩
  rw [List.length_map] at hK ⊢
  have hkl : (keysOf (gs.map hdr)).length = gs.length := by rw [keysOf_length, List.length_map]
  have hkm : ∀ n ∈ keysOf (gs.map hdr), n ∈ gs.map Img.blk := by
    intro n hn
    unfold keysOf at hn
    have := (sortI_perm _).mem_iff.1 hn
    rw [List.map_map] at this; exact this
  have hkf : keysOf (gs.map hdr) = sortI (v.fresh.map Prod.fst) := by
    unfold keysOf
    rw [← hp, List.map_map, List.map_map]; rfl
  obtain ⟨KS, hKS⟩ : ∃ KS, KS = keysOf (gs.map hdr) := ⟨_, rfl⟩
  rw [← hKS] at hK hkl hkm hkf
  obtain ⟨n, hn⟩ : ∃ n, n = gs.length := ⟨_, rfl⟩
  rw [← hn] at hK hkl hgl ⊢
  have hg := fun g hgm => (hg g hgm).mono hJK
  have hD := hD.mono hJK
  refine CodeF.loopD [1, 4, 20, 21, 22] (fun vs J' S' => ∃ (k : Nat) (aI : Option Addr) (capI : Nat) (chI : List Blk) (outs : List Img), k ≤ n ∧ outs.length = k ∧ OwnC chI 2 aI k capI (imgCells outs) ∧ (∀ g ∈ outs, ImgOk JK g) ∧ outs.map Img.pr = (KS.take k).map (fun n => (n, (v.fresh.lookup n).getD [])) ∧
      vs = [.pointer (some ⟨b1, 0, none⟩), .pointer (some ⟨b4, 0, none⟩), .slice aK n capK, .int .i64 n, .int .i64 k] ∧ JK = J' ∧ S' = [vChunk bV bD bJ bM v.j.lay v.epoch v.slot false, chJ, chD, pBox b1 (.pointer (some ⟨bV, 0, none⟩)) 23, pBox b4 (.slice aI k capI) 26, [(bM, ob)], chK, chI])
    (fun vs _ _ => match vs with | [_, _, _, _, .int _ k] => ((n : Int) - k).toNat | _ => 0) ?_ ?_
  · exact ⟨_, Drop.and (Drop.pick [0, 2, 3, 4, 5, 7, 8] _ rfl), 0, none, 0, [], [], by omega, rfl, OwnC.nil _ _, by simp, rfl, rfl, rfl, rfl⟩
  rintro vs gE J' S' hJ' ⟨k, aI, capI, chI, outs, hk, hol, hO, hoI, hpr, rfl, rfl, rfl⟩
  refine CmpD.split (fun (c3 : (k : Int) < n) => ?_) (fun (c3 : ¬ (k : Int) < n) => ?_)
  · have hkK : k < KS.length := by omega
    have htk : KS.take (k + 1) = KS.take k ++ [KS[k]] := by rw [List.take_add_one, List.getElem?_eq_getElem hkK]; rfl
    obtain ⟨g, hgm, hgb, hget, hlk⟩ := lookup_both gs KS[k] (hkm _ (List.getElem_mem hkK))
    rw [hp] at hlk
    have hgR := hg g hgm
    have hcell : (ints KS)[k]? = some (.int .i64 KS[k]) := ints_get (List.getElem?_eq_getElem hkK)
    generalize hnk : KS[k] = m at *
    rcases hK.at' with q0 | ⟨bK, pre, post, TK, rfl, rfl, hpost⟩
    · have := hK.le; omega
    refine Chk.mk (by omega) ?_
    refine LoadD.own 6 rfl [.int .i64 m] (take_get (own_take pre (ints KS) post) hcell) rfl ?_
    refine CodeF.sched [[], [], [], [2], [2, 3], [2, 3, 4], [], [2, 3, 4, 5, 6], [1, 2, 3, 4, 5, 6, 7], [1, 2, 3, 4, 5, 6, 7, 8], [0, 1, 2, 3, 4, 5, 6, 7, 8, 9], [0, 1, 2, 3, 4, 5, 6, 7, 8, 9, 10]] [0, 1, 2, 3, 4, 5, 6, 7, 8, 9, 10, 11] (by kernel_rfl) ?_
    repeat (first | refine LoadP.at 0 rfl _ rfl rfl ?_ | refine LoadP.at 3 rfl _ rfl rfl ?_ | refine LoadP.at 4 rfl _ rfl rfl ?_)
    refine lookupD tabOk rfl rfl rfl rfl rfl rfl 5 rfl hM ?_
    rw [hget]
    repeat (first | refine Chk.mk ⟨rfl, trivial⟩ ?_)
    conv => whnf
    intro bN
    repeat (first | refine Chk.mk ⟨rfl, trivial⟩ ?_)
    refine appendD tabOk rfl rfl rfl rfl rfl rfl rfl 7 rfl hO (SrcOk.slice (n := 1) (news := imgCells [⟨m, g.a, g.len, g.cap, g.data⟩]) tabOk rfl ((OwnC.whole (len := 1) (size := 2) rfl).slC 8 rfl) (by intro v hv; simp [imgCells] at hv; rcases hv with rfl | rfl <;> rfl)) rfl (by show (k + 1) * 32 ≤ _; omega) (by omega) ?_
    intro a2 cap2 ch2 hO2
    repeat (first | refine StoreD.st 4 rfl rfl rfl ?_)
    refine ToD.i64 (by omega) (by omega) ?_
    refine ⟨_, Drop.pick [0, 1, 2, 3, 4, 5, 6, 7] _ rfl, ⟨k + 1, a2, cap2, ch2, outs ++ [⟨m, g.a, g.len, g.cap, g.data⟩], by omega, by simp [hol], by rw [imgCells_snoc]; exact hO2, ?_, ?_, rfl, rfl, rfl⟩, ?_⟩
    · intro y hy
      rcases List.mem_append.1 hy with hy | hy
      · exact hoI y hy
      · simp only [List.mem_singleton] at hy
        subst hy
        rw [← hgb]
        exact hgR
    · rw [htk, List.map_append, List.map_append, hpr]
      simp [hlk]
    · show ((n : Int) - ((k : Int) + 1)).toNat < ((n : Int) - (k : Int)).toNat; omega
  obtain rfl : k = n := by omega
  rw [List.take_of_length_le (by omega), hkf] at hpr
  have hpr : outs.map Img.pr = sortP v.fresh := hpr
  repeat (first | refine LoadD.own 0 rfl _ rfl rfl ?_ | refine LoadD.own 3 rfl _ rfl rfl ?_)
  have hring := hw.ring
  unfold Ok at hring
  refine Tri.frame1 1 rfl (jk_Ring hj JK) ?_
  rintro r _ A' hJ3 ⟨rfl, rfl, rfl⟩
  refine ⟨_, rfl, ?_⟩
  conv => whnf
  intro b7
  refine StoreD.st 8 rfl rfl rfl ?_
  refine CodeF.cutD [1, 4, 8] (fun vs J' S' => ∃ b8, JK = J' ∧ vs = [.pointer (some ⟨b1, 0, none⟩), .pointer (some ⟨b4, 0, none⟩), .pointer (some ⟨b8, 0, none⟩)] ∧
      S' = [vChunk bV bD bJ bM v.j.lay v.epoch v.slot false, chJ, chD, pBox b1 (.pointer (some ⟨bV, 0, none⟩)) 23, pBox b4 (.slice aI k capI) 26, [(bM, ob)], chI, [(b8, row [.int .i64 v.sup.blocks, .int .i64 v.sup.epoch, .int .i64 v.sup.seq, .int .i64 v.sup.tail] 143)]]) ?_ ?_
  · refine CodeF.schedT [[], [0], [0, 1], [0, 1, 2], [0, 1, 2, 3], [], [5], [5, 6], [5, 6, 7], [], [9], [9, 10], [9, 10, 11], [9, 10, 11, 12], [], [14], [], [16], [14, 15, 16, 17], [], [19], [14, 15, 16, 17, 18, 19, 20], [0, 1, 2, 3, 4, 5, 6, 7, 8, 9, 10, 11, 12, 13, 14, 15, 16, 17, 18, 19, 20, 21], [], [0, 1, 2, 3, 4, 5, 6, 7, 8, 9, 10, 11, 12, 13, 14, 15, 16, 17, 18, 19, 20, 21, 22, 23]] (.rd 0 (.rd 1 (.rd 2 (.rd 3 (.rd 4 (.rd 5 (.rd 6 (.rd 7 (.rd 8 (.rd 9 (.rd 10 (.rd 11 (.rd 12 (.rd 14 (.rd 15 (.rd 16 (.rd 17 (.rd 18 (.rd 19 (.rd 20 (.rd 21 (.alt (.ef 13 (.rd 22 (.ef 23 (.ef 24 .nil)))) (.ef 23 (.ef 13 (.rd 22 (.ef 24 .nil)))))))))))))))))))))))))) (by kernel_rfl) ?_
    repeat (first | refine LoadP.at 0 rfl _ rfl rfl ?_ | refine LoadP.at 3 rfl _ rfl rfl ?_ | refine LoadP.at 8 rfl _ rfl rfl ?_)
    refine ToD.to (v.j.t + v.j.u) (wrap_i64 (by omega) (by omega)) ?_
    repeat (first | refine LoadP.at 8 rfl _ rfl rfl ?_)
    refine Chk.mk (by show v.j.s ≠ 0; omega) ?_
    refine ToD.to ((v.j.t + v.j.u) % v.j.s) (Int.tmod_eq_emod_of_nonneg (by omega)) ?_
    have fin : ∀ b8, ∃ S0, Drop [vChunk bV bD bJ bM v.j.lay v.epoch v.slot false, chJ, chD, pBox b1 (.pointer (some ⟨bV, 0, none⟩)) 23, pBox b4 (.slice aI k capI) 26, [(bM, ob)], chK, chI, [(b7, row [.int .i64 v.j.s, .int .i64 v.j.t, .int .i64 v.j.u, .int .i64 v.j.h] 83)], [(b8, row [.int .i64 v.j.lay.b, .int .i64 v.epoch, .int .i64 v.j.next, .int .i64 ((v.j.t + v.j.u) % v.j.s)] 143)]] S0 ∧ ∃ b, JK = JK ∧ [Value.pointer (some ⟨b1, 0, none⟩), .pointer (some ⟨b4, 0, none⟩), .pointer (some ⟨b8, 0, none⟩)] = [.pointer (some ⟨b1, 0, none⟩), .pointer (some ⟨b4, 0, none⟩), .pointer (some ⟨b, 0, none⟩)] ∧
        S0 = [vChunk bV bD bJ bM v.j.lay v.epoch v.slot false, chJ, chD, pBox b1 (.pointer (some ⟨bV, 0, none⟩)) 23, pBox b4 (.slice aI k capI) 26, [(bM, ob)], chI, [(b, row [.int .i64 v.sup.blocks, .int .i64 v.sup.epoch, .int .i64 v.sup.seq, .int .i64 v.sup.tail] 143)]] :=
      fun b8 => ⟨_, Drop.pick [0, 1, 2, 3, 4, 5, 7, 9] _ rfl, b8, rfl, rfl, rfl⟩
    refine And.intro ?_ ?_
    · skip
      refine Tri.frame1 1 rfl (jk_Next hj JK) ?_
      rintro r _ A' hJ4 ⟨rfl, rfl, rfl⟩
      refine ⟨_, rfl, ?_⟩
      repeat (first | refine Chk.mk ⟨rfl, rfl, rfl, rfl, rfl, rfl, rfl, trivial⟩ ?_)
      conv => whnf
      intro b8
      repeat (first | refine StoreD.st 9 rfl rfl rfl ?_ | refine Chk.mk ⟨rfl, rfl, rfl, rfl, rfl, rfl, rfl, rfl, rfl, trivial⟩ ?_)
      exact fin b8
    · skip
      conv => whnf
      intro b8
      repeat (first | refine Chk.mk ⟨rfl, rfl, rfl, rfl, rfl, rfl, rfl, rfl, rfl, trivial⟩ ?_)
      refine Tri.frame1 1 rfl (jk_Next hj JK) ?_
      rintro r _ A' hJ4 ⟨rfl, rfl, rfl⟩
      refine ⟨_, rfl, ?_⟩
      repeat (first | refine StoreD.st 9 rfl rfl rfl ?_ | refine Chk.mk ⟨rfl, rfl, rfl, rfl, rfl, rfl, rfl, trivial⟩ ?_)
      exact fin b8
  rintro vs gE2 J2 S2 hJ2 ⟨b8, rfl, rfl, rfl⟩
  repeat (first | refine LoadD.own 0 rfl _ rfl rfl ?_ | refine LoadD.own 3 rfl _ rfl rfl ?_)
  conv => whnf
  intro bS
  refine Tri.fix 6 (ch := chI) rfl fun I5 hI5 hIm => ?_
  refine Tri.fix 8 rfl fun I6 hI6 hSm => ?_
  have hfs : Rds I6 (some ⟨bS, 0, none⟩) 3 [.func (.func 88) #[.pointer (some ⟨bJ, 0, none⟩)] #[], .func (.func 92) #[] #[.pointer (some ⟨b1, 0, none⟩), .pointer (some ⟨b4, 0, none⟩), .pointer (some ⟨b8, 0, none⟩)], .func (.func 94) #[] #[.pointer (some ⟨b1, 0, none⟩)]] :=
    ⟨rfl, .inr ⟨bS, 0, _, _, _, rfl, hSm _ (List.mem_singleton.2 rfl), rfl⟩⟩
  have hI56 := Imm.le_trans hI5 hI6
  have himg : ImgsOk I6 aI outs := ⟨by rw [hol]; exact (Rds.of_ownS hO hIm).mono hI6, fun g hgm => (hoI g hgm).mono hI56⟩
  have hD := hD.mono hI56
  have hg := fun g hgm => (hg g hgm).mono hI56
  refine (vol_first (K := fun r J S' => ∃ chJ2 chD2, r = .int .i64 (v.ckS d).1 ∧ Jk bJ bD (v.ckS d).2.1 chJ2 ∧ Dk J bD (v.ckS d).2.2 chD2 ∧ S' = [vChunk bV bD bJ bM v.j.lay v.epoch v.slot false, chJ2, chD2, pBox b1 (.pointer (some ⟨bV, 0, none⟩)) 23, pBox b4 (.slice aI k capI) 26, [(bM, ob)], [], [(b8, row [.int .i64 v.sup.blocks, .int .i64 v.sup.epoch, .int .i64 v.sup.seq, .int .i64 v.sup.tail] 143)], []]) (some ⟨bS, 0, none⟩) 3 3 _ (by omega) hfs ?_).mono ?_
  · refine ⟨_, [.pointer (some ⟨bJ, 0, none⟩)], [], rfl, ?_⟩
    refine Tri.frame (jk_Flush hj hw hD) [1, 2] rfl rfl ?_
    have hfl := jflush_few (j := v.j) hf
    have hjw := hw.flush d
    unfold VSt.ckS
    rintro r J3 A' hJ3 ⟨rfl, chJ2, chD2, hj2, hD2, rfl⟩
    refine ⟨Nat.le_refl _, ?_⟩
    refine ⟨_, rfl, fun he => ?_, fun he => ?_⟩
    · rw [if_pos he]
      exact ⟨chJ2, chD2, rfl, hj2, hD2, rfl⟩
    rw [if_neg (by simpa using he)]
    refine ⟨_, [], [.pointer (some ⟨b1, 0, none⟩), .pointer (some ⟨b4, 0, none⟩), .pointer (some ⟨b8, 0, none⟩)], rfl, ?_⟩
    rw [← hol]
    refine Tri.frame (ck1 hD2 hfl aI capI outs (himg.mono hJ3) (by omega) v.sup) [0, 3, 4, 7, 2] rfl rfl ?_
    rw [hpr]
    rintro r J4 A' hJ4 ⟨rfl, chD3, hD3, rfl⟩
    refine ⟨Nat.le_refl _, ?_⟩
    refine ⟨_, rfl, fun he2 => ?_, fun he2 => ?_⟩
    · rw [if_pos he2]
      exact ⟨chJ2, chD3, rfl, hj2, hD3, rfl⟩
    rw [if_neg (by simpa using he2)]
    refine ⟨_, [], [.pointer (some ⟨b1, 0, none⟩)], rfl, ?_⟩
    refine Tri.frame (ck2 hj2 hjw) [0, 3, 1] rfl rfl ?_
    rintro r _ A' hJ5 ⟨rfl, rfl, chJ3, hj3, rfl⟩
    refine ⟨Nat.le_refl _, ?_⟩
    refine ⟨_, rfl, fun he3 => ?_, fun he3 => ?_⟩
    · exact ⟨chJ3, chD3, rfl, hj3, hD3, rfl⟩
    · refine ⟨chJ3, chD3, ?_, hj3, hD3, rfl⟩
      show Value.int .i64 0 = .int .i64 _
      rw [he3]
  rintro r J7 S7 hJ7 ⟨chJ2, chD2, rfl, hj2, hD2, rfl⟩
  have hlay := ckS_lay v d
  have hg7 := fun g hgm => (hg g hgm).mono hJ7
  repeat (first | refine LoadD.own 3 rfl _ rfl rfl ?_)
  refine Tri.frame1 0 rfl (v_did bV bD bJ bM v.j.lay v.epoch v.slot false J7 (v.ckS d).1) ?_
  rintro r _ A' hJ8 ⟨rfl, rfl, rfl⟩
  refine ⟨_, rfl, ?_⟩
  unfold VSt.ckpt
  rw [if_neg (by rw [hb]; simp)]
  refine CmpD.split (fun c4 => ?_) (fun c4 => ?_)
  · have c4 : (v.ckS d).1 = 0 := c4
    rw [if_neg (by rw [c4]; simp)]
    refine CodeF.sched [[], [], [1], [1, 2], [1, 2, 3], [1, 2, 3, 4], [0, 1, 2, 3, 4, 5], [0, 1, 2, 3, 4, 5, 6], [0, 1, 2, 3, 4, 5, 6, 7]] [0, 1, 2, 3, 4, 5, 6, 7, 8] (by kernel_rfl) ?_
    repeat (first | refine LoadP.at 0 rfl _ rfl rfl ?_ | refine LoadP.at 3 rfl _ rfl rfl ?_)
    refine ToD.to (1 - v.slot) (wrap_i64 (by omega) (by omega)) ?_
    repeat (first | refine LoadD.own 0 rfl _ rfl rfl ?_ | refine LoadD.own 3 rfl _ rfl rfl ?_ | refine StoreD.st 0 rfl rfl rfl ?_)
    refine clearMapD tabOk rfl rfl rfl rfl rfl rfl 5 rfl hM ?_
    intro ob' hM'
    refine Done.mk ⟨[vChunk bV bD bJ bM v.j.lay v.epoch (1 - v.slot) v.broken ++ ((bM, ob') :: chJ2), chD2], (Drop.pick [0, 5, 1, 2] _ rfl).trans (Drop.flat ?_), rfl, _, chD2, ⟨bJ, bM, ob', chJ2, [], by rw [hlay], hj2, hM', by simp, rfl⟩, hD2, rfl⟩
    rw [hb, c4]
    simp [St.at]
    rfl
  · have c4 : (v.ckS d).1 ≠ 0 := c4
    rw [if_pos c4]
    skip
    refine Done.mk ⟨[vChunk bV bD bJ bM v.j.lay v.epoch v.slot true ++ ((bM, ob) :: chJ2), chD2], (Drop.pick [0, 5, 1, 2] _ rfl).trans (Drop.flat ?_), rfl, _, chD2, ⟨bJ, bM, ob, chJ2, gs, by rw [hlay], hj2, hM, hg7, hp⟩, hD2, rfl⟩
    rw [decide_eq_true c4]
    simp [St.at]
end Go.Proofs.YtegdcjnjnoeinaaGreat
namespace Go.Proofs.YtegdcjnjnoeinaaGreat
open Go.RowKit Go.Sl
set_option maxRecDepth 20000

end Go.Proofs.YtegdcjnjnoeinaaGreat
namespace Go.Proofs.YtegdcjnjnoeinaaGreat
open Go.RowKit Go.Sl
set_option maxRecDepth 20000

structure RDk (I : Imm) (v : Value) (d : DSt) : Prop where
  wf : d.Wf
  snd : ∀ i, i < d.safe.length → d.now[i]? = some (atP (d.safe.getD i []) d.writes i)
  ex : ∃ (s w : Hd) (bS : List Bk) (gs : List Img), v = rV s w d.count d.down (gv d.arm) (gv d.fault) ∧ Rds I s.a s.len (bS.map Bk.cell) ∧ (∀ b ∈ bS, BkOk I b) ∧ bS.map Bk.data = d.safe ∧ ImgsOk I w.a gs ∧ w.len = gs.length ∧ gs.map Img.pr = d.writes
theorem RDk.mono {I J : Imm} {v : Value} {d : DSt} (h : RDk I v d) (hJ : I.le J) : RDk J v d := by
  obtain ⟨s, w, bS, gs, e, h1, h2, h3, h4, h5, h6⟩ := h.ex
  exact ⟨h.wf, h.snd, s, w, bS, gs, e, h1.mono hJ, fun b hb => (h2 b hb).mono hJ, h3, h4.mono hJ, h5, h6⟩
theorem RDk.stop {I : Imm} {s w : Hd} {d : DSt} {bS : List Bk} {gs : List Img} (h : d.Wf) (hs : ∀ i, i < d.safe.length → d.now[i]? = some (atP (d.safe.getD i []) d.writes i)) (h1 : Rds I s.a s.len (bS.map Bk.cell)) (h2 : ∀ b ∈ bS, BkOk I b) (h3 : bS.map Bk.data = d.safe) (h4 : ImgsOk I w.a gs) (h5 : w.len = gs.length) (h6 : gs.map Img.pr = d.writes) :
    RDk I (rV s w d.count d.stop.1.down (gv d.stop.1.arm) (gv d.stop.1.fault)) d.stop.1 := by
  obtain ⟨e1, e2, e3, e4⟩ := d.stop_same
  exact ⟨h.stop, by rw [e1, e2, e3]; exact hs, s, w, bS, gs, by rw [e4], h1, h2, by rw [e1]; exact h3, h4, h5, by rw [e3]; exact h6⟩
end Go.Proofs.YtegdcjnjnoeinaaGreat
namespace Go.Proofs.YtegdcjnjnoeinaaGreat
open Go.RowKit Go.Sl
set_option maxRecDepth 20000

end Go.Proofs.YtegdcjnjnoeinaaGreat
namespace Go.Proofs.YtegdcjnjnoeinaaGreat
open Go.RowKit Go.Sl
set_option maxRecDepth 20000

end Go.Proofs.YtegdcjnjnoeinaaGreat
namespace Go.Proofs.YtegdcjnjnoeinaaGreat
open Go.RowKit Go.Sl
set_option maxRecDepth 20000

end Go.Proofs.YtegdcjnjnoeinaaGreat
namespace Go.Proofs.YtegdcjnjnoeinaaGreat
open Go.RowKit Go.Sl
set_option maxRecDepth 20000

end Go.Proofs.YtegdcjnjnoeinaaGreat
namespace Go.Proofs.YtegdcjnjnoeinaaGreat
open Go.RowKit Go.Sl
set_option maxRecDepth 20000

end Go.Proofs.YtegdcjnjnoeinaaGreat
namespace Go.Proofs.YtegdcjnjnoeinaaGreat
open Go.RowKit Go.Sl
set_option maxRecDepth 20000

@[reducible] def rBox (b : Nat) (s w : Hd) (count : Int) (down : Bool) (arm fault : Int) : List Blk := [(b, row [s.v, w.v, .int .i64 count, .bool down, .int .i64 arm, .int .i64 fault] 76)]
@[reducible] def sBox (b : Nat) (s : Sup) : List Blk := [(b, row [.int .i64 s.blocks, .int .i64 s.epoch, .int .i64 s.seq, .int .i64 s.tail] 143)]
end Go.Proofs.YtegdcjnjnoeinaaGreat
namespace Go.Proofs.YtegdcjnjnoeinaaGreat
open Go.RowKit Go.Sl
set_option maxRecDepth 20000

end Go.Proofs.YtegdcjnjnoeinaaGreat
namespace Go.Proofs.YtegdcjnjnoeinaaGreat
open Go.RowKit Go.Sl
set_option maxRecDepth 20000

end Go.Proofs.YtegdcjnjnoeinaaGreat
namespace Go.Proofs.YtegdcjnjnoeinaaGreat
open Go.RowKit Go.Sl
set_option maxRecDepth 20000

end Go.Proofs.YtegdcjnjnoeinaaGreat
namespace Go.Proofs.YtegdcjnjnoeinaaGreat
open Go.RowKit Go.Sl
set_option maxRecDepth 20000

end Go.Proofs.YtegdcjnjnoeinaaGreat
namespace Go.Proofs.YtegdcjnjnoeinaaGreat
open Go.RowKit Go.Sl
set_option maxRecDepth 20000

end Go.Proofs.YtegdcjnjnoeinaaGreat
namespace Go.Proofs.YtegdcjnjnoeinaaGreat
open Go.RowKit Go.Sl
set_option maxRecDepth 20000

theorem JSt.Wf.turn {j : JSt} (hj : j.Wf) {r : R5} (hr : r.2.2.2.2 = 0 → Ok r.1 r.2.1 r.2.2.1 r.2.2.2.1) : (j.turn r).1.Wf := by
  obtain ⟨s, t, u, h, e⟩ := r
  unfold JSt.turn
  dsimp only at hr ⊢
  split
  · rename_i h0; exact ⟨hj.log, hr h0, hj.epoch, hj.next, hj.synced, hj.few, hj.groups⟩
  · exact hj
/-- a journal of the examples -/
structure JB (j : JSt) (t u h next synced : Int) (gs : List (Int × Int)) : Prop where
  s : j.s = 16
  t : j.t = t
  u : j.u = u
  h : j.h = h
  epoch : j.epoch = 1
  next : j.next = next
  synced : j.synced = synced
  groups : j.groups = gs
  broken : j.broken = false
  wf : j.Wf
/-- a disk of the examples -/
structure DB (d : DSt) (k : Nat) : Prop where
  calm : d.Calm
  len : d.now.length = 64
  few : d.Few k
/-- all of them -/
structure Numbers where
  jA : JSt
  jB : JSt
  jF : JSt
  jR : JSt
  jH : JSt
  jC : JSt
  jX : JSt
  dA : DSt
  dB : DSt
  dF : DSt
  dC : DSt
  dX : DSt
  dY : DSt
end Go.Proofs.YtegdcjnjnoeinaaGreat
namespace Go.Proofs.YtegdcjnjnoeinaaGreat
open Go.RowKit Go.Sl
set_option maxRecDepth 20000

end Go.Proofs.YtegdcjnjnoeinaaGreat
namespace Go.Proofs.YtegdcjnjnoeinaaGreat
open Go.RowKit Go.Sl
set_option maxRecDepth 20000

theorem flush_calm {d : DSt} (h : d.Calm) : d.flush = ({ d with safe := d.now, writes := [] }, 0) := by
  unfold DSt.flush; rw [DSt.stop_calm h]; simp
end Go.Proofs.YtegdcjnjnoeinaaGreat
namespace Go.Proofs.YtegdcjnjnoeinaaGreat
open Go.RowKit Go.Sl
set_option maxRecDepth 20000

theorem own_mem : ∀ {cs : List (List Blk)} {gs : List Img} {J : Imm}, OwnImgs cs gs → (∀ x ∈ cs.flatten, J x.1 = some x.2) → ∀ g ∈ gs, Rds J g.a g.len (bts g.data)
  | [], [], _, _, _, g, hg => by simp at hg
  | c :: cs, x :: gs, J, h, hm, g, hg => by
    rcases List.mem_cons.1 hg with rfl | hg
    · exact Rds.of_own h.1 fun y hy => hm y (by simp [hy])
    · exact own_mem h.2 (fun y hy => hm y (by rw [List.flatten_cons]; exact List.mem_append_right _ hy)) g hg
  | [], _ :: _, _, h, _, _, _ => h.elim
  | _ :: _, [], _, h, _, _, _ => h.elim
/-- Home's answer, fixed -/
theorem home_fix {I : Imm} {aG : Option Addr} {capG : Nat} {l : List Grp} (hG : GrpsR I [] aG l) (hl : l.length ≤ 1000000) (hall : (allI l).length ≤ 1000000) (hfew : ∀ g ∈ allI l, g.len ≤ 100000000) (x : Lay) :
    Tri Tryz.prog 108 #[x.v, .slice aG l.length capG] I [] fun v J _ =>
      ((¬ LayOk x ∧ v = .tuple #[.slice none 0 0, .int .i64 2]) ∨
       (LayOk x ∧ ¬ HomeOk x (allP l) ∧ v = .tuple #[.slice none 0 0, .int .i64 90]) ∨
       (LayOk x ∧ HomeOk x (allP l) ∧ ∃ (aO : Option Addr) (capO : Nat) (outs : List Img), v = .tuple #[.slice aO outs.length capO, .int .i64 0] ∧ ImgsR J [] aO outs ∧ outs.map Img.pr = homeP (allP l))) := by
  refine Tri.fixed (Q := fun v _ S' => ∃ ch, S' = [ch] ∧
      ((¬ LayOk x ∧ v = .tuple #[.slice none 0 0, .int .i64 2]) ∨
       (LayOk x ∧ ¬ HomeOk x (allP l) ∧ v = .tuple #[.slice none 0 0, .int .i64 90]) ∨
       (LayOk x ∧ HomeOk x (allP l) ∧ ∃ (aO : Option Addr) (capO : Nat) (chO : List Blk) (chs : List (List Blk)) (outs : List Img), v = .tuple #[.slice aO outs.length capO, .int .i64 0] ∧ OwnC chO 2 aO outs.length capO (imgCells outs) ∧ OwnImgs chs outs ∧ outs.map Img.pr = homeP (allP l) ∧ ch = chO ++ chs.flatten))) ?_ ?_
  · refine Tri.drop (home_any hG hl hall hfew x) ?_
    rintro v J S' hJ (⟨h, rfl, rfl⟩ | ⟨h1, h2, rfl, rfl⟩ | ⟨h1, h2, aO, capO, chO, chs, outs, rfl, hO, hcs, hpr, rfl⟩)
    · exact ⟨[[]], Drop.flat rfl, [], rfl, .inl ⟨h, rfl⟩⟩
    · exact ⟨[[]], Drop.flat rfl, [], rfl, .inr (.inl ⟨h1, h2, rfl⟩)⟩
    · exact ⟨[chO ++ chs.flatten], Drop.flat (by simp), _, rfl, .inr (.inr ⟨h1, h2, aO, capO, chO, chs, outs, rfl, hO, hcs, hpr, rfl⟩)⟩
  · rintro v J S' hJ ⟨ch, rfl, h⟩
    refine ⟨0, ch, rfl, fun J' hJ' hm => ?_⟩
    rcases h with ⟨h, rfl⟩ | ⟨h1, h2, rfl⟩ | ⟨h1, h2, aO, capO, chO, chs, outs, rfl, hO, hcs, hpr, rfl⟩
    · exact .inl ⟨h, rfl⟩
    · exact .inr (.inl ⟨h1, h2, rfl⟩)
    · refine .inr (.inr ⟨h1, h2, aO, capO, outs, rfl, ⟨(Rds.of_ownS hO fun y hy => hm y (List.mem_append_left _ hy)).slC, fun g hg => ⟨(own_mem hcs (fun y hy => hm y (List.mem_append_right _ hy)) g hg).slC⟩⟩, hpr⟩)
theorem doP_few {d : DSt} {k : Nat} (h : d.Few k) (l : List PImg) (s : Sup) (slot : Int) : (doP d l s slot).1.Few (k + l.length + 1) := by
  have h1 := wrImgs_few l d k h
  unfold doP
  split
  · exact h.mono (by omega)
  split
  · exact h1.mono (by omega)
  split
  · exact h1.flush.mono (by omega)
  unfold lastWr
  split
  · exact h1.flush.write _ _
  · exact (h1.flush.write _ _).flush
end Go.Proofs.YtegdcjnjnoeinaaGreat
namespace Go.Proofs.YtegdcjnjnoeinaaGreat
open Go.RowKit Go.Sl
set_option maxRecDepth 20000

theorem sortP_length (l : List PImg) : (sortP l).length = l.length := by unfold sortP; rw [List.length_map, (sortI_perm _).length_eq, List.length_map]
theorem release_groups {j : JSt} (hw : j.Wf) (q : Int) : (j.release q).1.groups.length ≤ j.groups.length := by
  unfold JSt.release
  split
  · exact Nat.le_refl _
  split
  · exact Nat.le_refl _
  generalize hq : relAll q j.groups j.s j.t j.u j.h = w
  obtain ⟨gs, s, t, u, h, e⟩ := w
  obtain ⟨_, k, rfl⟩ := relAll_mid q _ _ _ _ _ _ _ _ _ _ _ hw.ring hq
  show (j.groups.drop k).length ≤ _
  rw [List.length_drop]; omega
theorem flush_groups (j : JSt) (d : DSt) : (j.flush d).1.groups = j.groups := by
  unfold JSt.flush
  split
  · rfl
  · split <;> rfl
theorem ckS_wf {v : VSt} {d : DSt} (hw : v.j.Wf) : (v.ckS d).2.1.Wf ∧ (v.ckS d).2.1.groups.length ≤ v.j.groups.length := by
  unfold VSt.ckS
  have h1 := hw.flush d
  have h2 := flush_groups v.j d
  split
  · exact ⟨h1, by rw [h2]; exact Nat.le_refl _⟩
  split
  · exact ⟨h1, by rw [h2]; exact Nat.le_refl _⟩
  · exact ⟨h1.release _, by have := release_groups h1 (v.j.flush d).1.synced; rw [h2] at this; exact this⟩
theorem ckS_few {v : VSt} {d : DSt} {k : Nat} (hf : d.Few k) : (v.ckS d).2.2.Few (k + v.fresh.length + 1) := by
  unfold VSt.ckS
  have h1 := jflush_few (j := v.j) hf
  have h2 := doP_few h1 (sortP v.fresh) v.sup v.slot
  rw [sortP_length] at h2
  split
  · exact h1.mono (by omega)
  split
  · exact h2
  · exact h2
theorem v_Fits (bV bD bJ bM : Nat) (v : VSt) (I : Imm) (S : St) (k : Nat) (br : Bool) (hk : S[k]? = some (vChunk bV bD bJ bM v.j.lay v.epoch v.slot br)) (n : Int) : Tri Tryz.prog 27 #[.pointer (some ⟨bV, 0, none⟩), .int .i64 n] I S fun r J S' => r = .bool (v.fits n) ∧ I = J ∧ S' = S := by
  refine Tri.of (args := [.pointer (some ⟨bV, 0, none⟩), .int .i64 n]) tabOk Tryz.func27 rfl (by kernel_rfl) (by kernel_rfl) ?_
  refine Tri.free (record_Blocks n I []) ?_
  rintro r _ _ hJ ⟨rfl, rfl, rfl⟩
  refine Tri.mono (v_none bV bD bJ bM _ _ _ _ I S k hk) ?_
  rintro r _ _ hJ ⟨rfl, rfl, rfl⟩
  unfold VSt.fits
  refine CmpD.split (fun c1 => ?_) (fun c1 => ?_)
  · refine LoadD.own k hk [.int .i64 v.j.lay.lb] rfl rfl ?_
    refine CmpD.split (fun c2 => ?_) (fun c2 => ?_)
    · rw [decide_eq_true ⟨c1, c2⟩]
      exact Done.mk ⟨rfl, rfl, rfl⟩
    · rw [decide_eq_false (fun h => c2 h.2)]
      exact Done.mk ⟨rfl, rfl, rfl⟩
  · rw [decide_eq_false (fun h => c1 h.1)]
    exact Done.mk ⟨rfl, rfl, rfl⟩
theorem append_lay (j : JSt) (d : DSt) (l : List PImg) (b : Bool) : (j.appendB d l b).1.lay = j.lay := by
  unfold JSt.appendB
  split
  · rfl
  unfold JSt.append
  split
  · rfl
  split
  · rfl
  generalize putS j.s j.t j.u j.h (l.length + 1) (if b = true then l.length + 1 else 0) = q
  obtain ⟨⟨s, t, u, h, e⟩, a⟩ := q
  dsimp only
  split
  · rfl
  split <;> rfl
/-- a volume, laid out -/
structure VAt (J : Imm) (bD bJ bM : Nat) (v : VSt) (ob : Obj) (chJ : List Blk) (gs : List Img) : Prop where
  j : Jk bJ bD v.j chJ
  m : MapR ob (gs.map hdr)
  ok : ∀ g ∈ gs, ImgOk J g
  pr : gs.map Img.pr = v.fresh
theorem VAt.mono {I J : Imm} {bD bJ bM : Nat} {v : VSt} {ob : Obj} {chJ : List Blk} {gs : List Img} (h : VAt I bD bJ bM v ob chJ gs) (hJ : I.le J) : VAt J bD bJ bM v ob chJ gs := ⟨h.j, h.m, fun g hg => (h.ok g hg).mono hJ, h.pr⟩
theorem homeOk_snoc {x : Lay} {l : List PImg} {g : PImg} (h : HomeOk x l) (hg : x.bi ≤ g.1 ∧ g.1 < x.b) : HomeOk x (l ++ [g]) := by
  intro y hy
  rcases List.mem_append.1 hy with hy | hy
  · exact h y hy
  · simp only [List.mem_singleton] at hy; subst hy; exact hg
set_option maxHeartbeats 8000000 in
theorem vk_Commit {bV bD : Nat} {v : VSt} {ch : List Blk} {I : Imm} (h : Vk I bV bD v ch) (hw : v.j.Wf) (hep : v.epoch = v.j.epoch) (hsl : 0 ≤ v.slot ∧ v.slot ≤ 1) (hfr : v.fresh.length ≤ 1000) (hgr : v.j.groups.length ≤ 800000) {d : DSt} {chD : List Blk} (hD : Dk I bD d chD) (hf : d.Few 700000)
    (aL : Option Addr) (capL : Nat) (ls : List Img) (hi : ImgsOk I aL ls) (hll : ls.length ≤ 1000000) :
    Tri Tryz.prog 16 #[.pointer (some ⟨bV, 0, none⟩), .slice aL ls.length capL] I [ch, chD] fun r J S' =>
      r = .tuple #[.int .i64 (v.commit d (ls.map Img.pr)).2.2.1, .int .i64 (v.commit d (ls.map Img.pr)).2.2.2] ∧ ∃ ch' chD', Vk J bV bD (v.commit d (ls.map Img.pr)).1 ch' ∧ Dk J bD (v.commit d (ls.map Img.pr)).2.1 chD' ∧ S' = [ch', chD'] := by
  have h0 := h
  obtain ⟨bJ, bM, ob, chJ, gs, rfl, hj, hM, hg, hp⟩ := h
  have hA : VAt I bD bJ bM v ob chJ gs := ⟨hj, hM, hg, hp⟩
  have hring := hw.ring
  unfold Ok at hring
  have hlog := hw.log
  refine Tri.lay (S2 := [vChunk bV bD bJ bM v.j.lay v.epoch v.slot v.broken, [(bM, ob)], chJ, chD]) (vk_lay2 ..) ?_
  refine Tri.drop ?_ (fun _ _ _ _ h => h)
  refine Tri.ofF (args := [.pointer (some ⟨bV, 0, none⟩), .slice aL ls.length capL]) tabOk Tryz.func16 rfl (by kernel_rfl) (by kernel_rfl) ?_
  refine CodeF.stepD ?_
  refine CodeF.stepD ?_
  refine Tri.nf (v_wrong bV bD bJ bM _ _ _ _ I _ 0 rfl) ?_
  rintro r _ _ hJ ⟨rfl, rfl, rfl⟩
  unfold VSt.commit
  cases hb : v.broken
  rotate_left
  · repeat (first | refine CmpD.no (by decide) ?_)
    rw [if_pos rfl]
    exact Done.mk ⟨_, Drop.flat (by simp [hb]), rfl, _, chD, h0, hD, rfl⟩
  repeat (first | refine CmpD.yes rfl ?_)
  rw [if_neg (by simp)]
  have same : ∀ (J : Imm), I.le J → ∃ ch' chD', Vk J bV bD v ch' ∧ Dk J bD d chD' ∧ [vChunk bV bD bJ bM v.j.lay v.epoch v.slot false ++ ((bM, ob) :: chJ), chD] = [ch', chD'] := fun J hJ => ⟨_, chD, by have := h0.mono hJ; rw [hb] at this; exact this, hD.mono hJ, rfl⟩
  have flat0 : ∀ (R : St), Drop ([vChunk bV bD bJ bM v.j.lay v.epoch v.slot false, [(bM, ob)], chJ, chD] ++ R) [vChunk bV bD bJ bM v.j.lay v.epoch v.slot false ++ ((bM, ob) :: chJ), chD] := fun R => ⟨R.flatten, by simp⟩
  refine CodeF.stepD ?_
  obtain ⟨n, hn⟩ : ∃ n, n = ls.length := ⟨_, rfl⟩
  rw [← hn] at hll ⊢
  refine CodeF.loopD [0, 1, 20, 21, 22] (fun vs J' S' => ∃ (i : Nat), i ≤ n ∧ HomeOk v.j.lay ((ls.map Img.pr).take i) ∧ I = J' ∧ vs = [.pointer (some ⟨bV, 0, none⟩), .slice aL n capL, .slice aL n capL, .int .i64 n, .int .i64 i] ∧ S' = [vChunk bV bD bJ bM v.j.lay v.epoch v.slot false, [(bM, ob)], chJ, chD])
    (fun vs _ _ => match vs with | [_, _, _, _, .int _ i] => ((n : Int) - i).toNat | _ => 0) ?_ ?_
  · exact ⟨_, Drop.refl _, 0, by omega, by intro g hg; simp at hg, rfl, rfl, rfl⟩
  rintro vs gE J' S' hJ' ⟨i, hi1, hho, rfl, rfl, rfl⟩
  refine CmpD.split (fun (c1 : (i : Int) < n) => ?_) (fun (c1 : ¬ (i : Int) < n) => ?_)
  · have hil : i < ls.length := by omega
    have htk : (ls.map Img.pr).take (i + 1) = (ls.map Img.pr).take i ++ [ls[i].pr] := by rw [List.take_add_one, List.getElem?_map, List.getElem?_eq_getElem hil]; rfl
    have hcell := imgCells_at hil
    have hpre : ∀ g ∈ (ls.map Img.pr).take (i + 1), g ∈ ls.map Img.pr := fun g hg => List.mem_of_mem_take hg
    rcases hi.1.mem with q0 | ⟨bL, oL, cL, TL, fL, rfl, hIL, hcL⟩
    · omega
    have hsrc : (cL.drop (oL + i * 2)).take 2 = [.int .i64 ls[i].blk, .slice ls[i].a ls[i].len ls[i].cap] := by
      rw [take_part hcL (by omega), hcell]
    refine Chk.mk (by omega) ?_
    refine LoadD.imm hIL [.int .i64 ls[i].blk, .slice ls[i].a ls[i].len ls[i].cap] hsrc rfl ?_
    conv => whnf
    intro b8
    refine StoreD.st 4 rfl rfl rfl ?_
    refine CodeF.sched [[], [0], [], [2], [2, 3], [2, 3, 4], [2, 3, 4, 5], [0, 1, 2, 3, 4, 5, 6], [0, 1, 2, 3, 4, 5, 6, 7], [0, 1, 2, 3, 4, 5, 6, 7, 8], [0, 1, 2, 3, 4, 5, 6, 7, 8, 9], [0, 1, 2, 3, 4, 5, 6, 7, 8], [0, 1, 2, 3, 4, 5, 6, 7, 8, 11], [0, 1, 2, 3, 4, 5, 6, 7, 8, 11, 12], [0, 1, 2, 3, 4, 5, 6, 7, 8, 11, 12, 13], [0, 1, 2, 3, 4, 5, 6, 7, 8, 11, 12, 13, 14], [0, 1, 2, 3, 4, 5, 6, 7, 8, 9, 10, 11, 12, 13, 14, 15], [0, 1, 2, 3, 4, 5, 6, 7, 8, 9, 10, 11, 12, 13, 14, 15, 16]] [0, 1, 2, 3, 4, 5, 6, 7, 8, 9, 10, 11, 12, 13, 14, 15, 16, 17] (by kernel_rfl) ?_
    repeat (first | refine LoadP.at 0 rfl _ rfl rfl ?_ | refine LoadP.at 4 rfl _ rfl rfl ?_)
    have bad : ¬ (v.j.lay.bi ≤ ls[i].blk ∧ ls[i].blk < v.j.lay.b) → ¬ HomeOk v.j.lay (ls.map Img.pr) := fun h hh => h (hh ls[i].pr (List.mem_map_of_mem (List.getElem_mem hil)))
    refine CmpD.split (fun (c2 : ls[i].blk < v.j.lay.bi) => ?_) (fun (c2 : ¬ ls[i].blk < v.j.lay.bi) => ?_)
    · skip
      rw [if_pos (by simpa using bad (fun h => by omega))]
      obtain ⟨ch', chD', k1, k2, k3⟩ := same I (Imm.le_refl _)
      exact Done.mk ⟨_, flat0 [_], rfl, ch', chD', k1, k2, k3⟩
    repeat (first | refine LoadP.at 0 rfl _ rfl rfl ?_ | refine LoadP.at 4 rfl _ rfl rfl ?_)
    refine CmpD.split (fun (c3 : v.j.lay.b ≤ ls[i].blk) => ?_) (fun (c3 : ¬ v.j.lay.b ≤ ls[i].blk) => ?_)
    · skip
      rw [if_pos (by simpa using bad (fun h => by omega))]
      obtain ⟨ch', chD', k1, k2, k3⟩ := same I (Imm.le_refl _)
      exact Done.mk ⟨_, flat0 [_], rfl, ch', chD', k1, k2, k3⟩
    refine ToD.to (((i + 1 : Nat)) : Int) (by rw [wrap_i64 (by omega) (by omega)]; omega) ?_
    refine ⟨_, Drop.pick [0, 1, 2, 3] _ rfl, ⟨i + 1, by omega, ?_, rfl, rfl, rfl⟩, ?_⟩
    · rw [htk]
      exact homeOk_snoc hho ⟨by show v.j.lay.bi ≤ ls[i].blk; omega, by show ls[i].blk < v.j.lay.b; omega⟩
    · show ((n : Int) - ((i + 1 : Nat) : Int)).toNat < ((n : Int) - (i : Int)).toNat; omega
  obtain rfl : i = n := by omega
  rw [List.take_of_length_le (by rw [List.length_map]; omega)] at hho
  rw [if_neg (by simpa using hho)]
  refine CodeF.stepD ?_
  refine CodeF.sched [[], [0], [0, 1], [0, 1, 2], [], [4], [4, 5], [4, 5, 6], [4, 5, 6, 7], [], [0, 1, 2, 3, 4, 5, 6, 7, 8, 9], [0, 1, 2, 3, 4, 5, 6, 7, 8, 9, 10], [0, 1, 2, 3, 4, 5, 6, 7, 8, 9, 10, 11], [0, 1, 2, 3, 4, 5, 6, 7, 8, 9, 10, 11, 12], [0, 1, 2, 3, 4, 5, 6, 7, 8, 9, 10, 11, 12], [0, 1, 2, 3, 4, 5, 6, 7, 8, 9, 10, 11, 12, 13], [0, 1, 2, 3, 4, 5, 6, 7, 8, 9, 10, 11, 12, 13, 14, 15]] [0, 1, 2, 3, 4, 5, 6, 7, 9, 8, 10, 11, 12, 13, 14, 15, 16] (by kernel_rfl) ?_
  repeat (first | refine LoadP.at 0 rfl _ rfl rfl ?_)
  refine Tri.frame1 2 rfl (jk_Next hj I) ?_
  rintro r _ A' hJ2 ⟨rfl, rfl, rfl⟩
  refine ⟨_, rfl, ?_⟩
  repeat (first | refine Chk.mk ⟨rfl, trivial⟩ ?_)
  rw [hn]
  refine Tri.free (put_of v.epoch v.j.next ⟨by rw [hep]; exact hw.epoch, by have := hw.next; unfold In64; omega⟩ aL capL ls I hi (by omega)) ?_
  rw [← hn]
  rintro r J2 _ hJ2 (⟨hno, rfl⟩ | ⟨hR, aO, capO, bs, rfl, _, _, _⟩)
  · rw [if_pos hno]
    skip
    refine CodeF.stepD ?_
    repeat (first | refine CmpD.no (by decide) ?_)
    obtain ⟨ch', chD', k1, k2, k3⟩ := same J2 hJ2
    exact Done.mk ⟨_, flat0 [], rfl, ch', chD', k1, k2, k3⟩
  rw [if_neg (by simpa using hR)]
  skip
  refine CodeF.stepD ?_
  repeat (first | refine CmpD.yes rfl ?_)
  refine Tri.nf (v_Fits bV bD bJ bM v J2 _ 0 false rfl (i : Int)) ?_
  rintro r _ _ hJ3 ⟨rfl, rfl, rfl⟩
  have hll2 : (ls.map Img.pr).length = i := by rw [List.length_map, hn]
  rw [hll2]
  have hR6 := hR.2.2.2.2
  rw [hll2] at hR6
  cases hfit : v.fits (i : Int)
  · rw [if_pos rfl]
    skip
    obtain ⟨ch', chD', k1, k2, k3⟩ := same J2 hJ2
    exact Done.mk ⟨_, flat0 [], rfl, ch', chD', k1, k2, k3⟩
  rw [if_neg (by simp)]
  skip
  have hbn : blocksN (i : Int) = (i : Int) + 1 := by unfold blocksN; rw [if_neg (by omega)]
  rw [hbn]
  obtain ⟨W, hW⟩ : ∃ W : VSt × DSt × Int × Int, W = (if v.j.s - v.j.u - v.j.h < (i : Int) + 1 then (if (v.ckpt d).2.2 ≠ 0 then ((v.ckpt d).1, (v.ckpt d).2.1, 0, (v.ckpt d).2.2) else (v.ckpt d).1.app (v.ckpt d).2.1 (ls.map Img.pr)) else v.app d (ls.map Img.pr)) := ⟨_, rfl⟩
  rw [← hW]
  refine CodeF.join [0, 1] (fun vs J3 S' => ∃ (v2 : VSt) (d2 : DSt) (bJ2 bM2 : Nat) (ob2 : Obj) (chJ2 : List Blk) (gs2 : List Img) (chD2 : List Blk), W = v2.app d2 (ls.map Img.pr) ∧ VAt J3 bD bJ2 bM2 v2 ob2 chJ2 gs2 ∧ Dk J3 bD d2 chD2 ∧ v2.j.Wf ∧ v2.j.groups.length ≤ 800000 ∧ d2.Few 800000 ∧ v2.broken = false ∧ J2.le J3 ∧
      vs = [.pointer (some ⟨bV, 0, none⟩), .slice aL i capL] ∧ S' = [vChunk bV bD bJ2 bM2 v2.j.lay v2.epoch v2.slot false, [(bM2, ob2)], chJ2, chD2]) ?_ ?_
  · refine CodeF.den ?_
    repeat (first | refine LoadD.own 0 rfl _ rfl rfl ?_)
    refine Tri.frame1 2 rfl (jk_Ring hj J2) ?_
    rintro r _ A' hJ4 ⟨rfl, rfl, rfl⟩
    refine ⟨_, rfl, ?_⟩
    refine Tri.free (ring_Free v.j.s v.j.t v.j.u v.j.h J2 (by unfold In64; omega) (by unfold In64; omega) (by unfold In64; omega) (by unfold In64; omega)) ?_
    rintro r _ _ hJ5 ⟨rfl, rfl⟩
    rw [if_pos hw.ring]
    refine Tri.free (record_Blocks (i : Int) J2 []) ?_
    rintro r _ _ hJ6 ⟨rfl, rfl, rfl⟩
    rw [hbn]
    refine CmpD.split (fun (c1 : v.j.s - v.j.u - v.j.h < (i : Int) + 1) => ?_) (fun (c1 : ¬ v.j.s - v.j.u - v.j.h < (i : Int) + 1) => ?_)
    · rw [if_pos c1] at hW
      have hcw := ckS_wf (d := d) hw
      have hcf := ckS_few (v := v) hf
      refine Tri.lay (S2 := [vChunk bV bD bJ bM v.j.lay v.epoch v.slot false ++ ((bM, ob) :: chJ), chD]) (by simp) ?_
      refine Tri.drop (vk_Checkpoint (v := v) (by have := h0.mono hJ2; rw [hb] at this; exact this) hw hsl hfr (hD.mono hJ2) (hf.mono (by omega))) ?_
      rintro r J3 S' hJ3 ⟨rfl, ch2, chD2, ⟨bJ2, bM2, ob2, chJ2, gs2, rfl, hj2, hM2, hg2, hp2⟩, hD2, rfl⟩
      have hbr : (v.ckpt d).2.2 = 0 → (v.ckpt d).1.broken = false := by
        unfold VSt.ckpt
        rw [if_neg (by rw [hb]; simp)]
        split
        · intro h; exact absurd h (by assumption)
        · intro _; exact hb
      have hcj : (v.ckpt d).1.j = (v.ckS d).2.1 ∧ (v.ckpt d).2.1 = (v.ckS d).2.2 := by
        unfold VSt.ckpt
        rw [if_neg (by rw [hb]; simp)]
        split <;> exact ⟨rfl, rfl⟩
      rw [← hcj.1] at hcw
      rw [← hcj.2] at hcf
      generalize v.ckpt d = ck at *
      obtain ⟨v3, d3, e3⟩ := ck
      dsimp only at *
      refine ⟨[vChunk bV bD bJ2 bM2 v3.j.lay v3.epoch v3.slot v3.broken, [(bM2, ob2)], chJ2, chD2], Drop.flat (by simp), ?_⟩
      by_cases he : e3 ≠ 0
      · rw [if_pos he] at hW
        refine CmpD.no he ?_
        skip
        rw [hW]
        exact Done.mk ⟨_, Drop.flat (vk_lay2 ..).symm, rfl, _, chD2, ⟨bJ2, bM2, ob2, chJ2, gs2, rfl, hj2, hM2, hg2, hp2⟩, hD2, rfl⟩
      · rw [if_neg he] at hW
        obtain rfl : e3 = 0 := by omega
        rw [hbr rfl]
        repeat (first | refine CmpD.yes rfl ?_)
        exact ⟨_, Drop.refl _, v3, d3, bJ2, bM2, ob2, chJ2, gs2, chD2, hW, ⟨hj2, hM2, hg2, hp2⟩, hD2, hcw.1, by omega, hcf.mono (by omega), hbr rfl, hJ3, rfl, rfl⟩
    · rw [if_neg c1] at hW
      exact ⟨_, Drop.refl _, v, d, bJ, bM, ob, chJ, gs, chD, hW, hA.mono hJ2, hD.mono hJ2, hw, hgr, hf.mono (by omega), hb, Imm.le_refl _, rfl, rfl⟩
  rintro vs gE3 J3 S3 hJ3 ⟨v2, d2, bJ2, bM2, ob2, chJ2, gs2, chD2, hW2, hA2, hD2, hw2, hgr2, hf2, hb2, hle3, rfl, rfl⟩
  refine CodeF.den ?_
  repeat (first | refine LoadD.own 0 rfl _ rfl rfl ?_)
  rw [hn]
  refine Tri.frame (jk_Append hA2.j hw2 hD2 (hf2.mono (by omega)) (by omega) aL capL ls (hi.mono (Imm.le_trans hJ2 hle3)) (by omega) false) [2, 3] rfl rfl ?_
  unfold VSt.app at hW2
  have hlay : (v2.j.appendB d2 (ls.map Img.pr) false).1.lay = v2.j.lay := append_lay _ _ _ _
  generalize v2.j.appendB d2 (ls.map Img.pr) false = ap at *
  obtain ⟨j4, d4, n4, e4⟩ := ap
  dsimp only at hW2 hlay ⊢
  rintro r J4 A' hJ4 ⟨rfl, chJ4, chD4, hj4, hD4, rfl⟩
  refine ⟨Nat.le_refl _, ?_⟩
  skip
  refine Tri.frame1 0 rfl (v_did bV bD bJ2 bM2 v2.j.lay v2.epoch v2.slot false J4 e4) ?_
  rintro r _ A' hJ5 ⟨rfl, rfl, rfl⟩
  refine ⟨_, rfl, ?_⟩
  have hA4 := hA2.mono hJ4
  by_cases he : e4 ≠ 0
  · rw [if_pos he] at hW2
    refine CmpD.no he ?_
    skip
    rw [hW2, decide_eq_true he]
    exact Done.mk ⟨[vChunk bV bD bJ2 bM2 v2.j.lay v2.epoch v2.slot true ++ ((bM2, ob2) :: chJ4), chD4], Drop.flat (by simp), rfl, _, chD4, ⟨bJ2, bM2, ob2, chJ4, gs2, by rw [hlay], hj4, hA4.m, hA4.ok, hA4.pr⟩, hD4, rfl⟩
  rw [if_neg he] at hW2
  obtain rfl : e4 = 0 := by omega
  rw [show (false || decide ((0 : Int) ≠ 0)) = false from rfl]
  repeat (first | refine CmpD.yes rfl ?_)
  rw [← hn]
  have hi4 := hi.mono (Imm.le_trans hJ2 (Imm.le_trans hle3 hJ4))
  have hlen4 : ∀ g ∈ ls, g.data.length = 4096 := fun g hg => (hR6.2.2.1 g.pr (List.mem_map_of_mem hg)).2.2
  refine CodeF.loopD [0, 12, 99, 100, 101] (fun vs J' S' => ∃ (k : Nat) (ob3 : Obj) (gs3 : List Img), k ≤ i ∧ MapR ob3 (gs3.map hdr) ∧ (∀ g ∈ gs3, ImgOk J' g) ∧ gs3.map Img.pr = ((ls.map Img.pr).take k).foldl pput v2.fresh ∧ J4.le J' ∧
      vs = [.pointer (some ⟨bV, 0, none⟩), .int .i64 n4, .slice aL i capL, .int .i64 i, .int .i64 k] ∧ S' = [vChunk bV bD bJ2 bM2 v2.j.lay v2.epoch v2.slot false, [(bM2, ob3)], chJ4, chD4])
    (fun vs _ _ => match vs with | [_, _, _, _, .int _ k] => ((i : Int) - k).toNat | _ => 0) ?_ ?_
  · exact ⟨_, Drop.refl _, 0, ob2, gs2, by omega, hA4.m, hA4.ok, hA4.pr, Imm.le_refl _, rfl, rfl⟩
  rintro vs gE4 J5 S5 hJ5 ⟨k, ob3, gs3, hk, hM3, hg3, hp3, hle5, rfl, rfl⟩
  refine CmpD.split (fun (c1 : (k : Int) < i) => ?_) (fun (c1 : ¬ (k : Int) < i) => ?_)
  · have hil : k < ls.length := by omega
    have htk : (ls.map Img.pr).take (k + 1) = (ls.map Img.pr).take k ++ [ls[k].pr] := by rw [List.take_add_one, List.getElem?_map, List.getElem?_eq_getElem hil]; rfl
    have hcell := imgCells_at hil
    have hgm := List.getElem_mem hil
    have hi5 := hi4.mono hle5
    rcases hi5.1.mem with q0 | ⟨bL, oL, cL, TL, fL, rfl, hIL, hcL⟩
    · omega
    have hsrc : (cL.drop (oL + k * 2)).take 2 = [.int .i64 ls[k].blk, .slice ls[k].a ls[k].len ls[k].cap] := by
      rw [take_part hcL (by omega), hcell]
    have hgk := hi5.2 _ hgm
    have hgd := hlen4 _ hgm
    generalize ls[k] = g at *
    have hgl : g.len = 4096 := by have := hgk.2.len; rw [bts_length] at this; omega
    refine Chk.mk (by omega) ?_
    refine LoadD.imm hIL [.int .i64 g.blk, .slice g.a g.len g.cap] hsrc rfl ?_
    conv => whnf
    intro b8
    refine StoreD.st 4 rfl rfl rfl ?_
    refine CodeF.sched [[], [0], [0, 1], [0, 1, 2], [], [4], [], [6], [6, 7], [0, 1, 2, 3, 4, 5, 6, 7, 8]] [0, 1, 2, 3, 4, 5, 6, 7, 8, 9] (by kernel_rfl) ?_
    repeat (first | refine LoadP.at 0 rfl _ rfl rfl ?_ | refine LoadP.at 4 rfl _ rfl rfl ?_)
    refine Tri.free (clone_fix J5 g.a g.len g.cap g.data hgk.2 (by omega)) ?_
    rintro r J6 _ hJ6 ⟨a', cap', rfl, hcl⟩
    repeat (first | refine Chk.mk ⟨rfl, rfl, trivial⟩ ?_)
    refine mapUpdateD tabOk rfl rfl rfl rfl rfl 1 rfl hM3 ?_
    intro ob4 hM4
    refine ToD.to (((k + 1 : Nat)) : Int) (by rw [wrap_i64 (by omega) (by omega)]; omega) ?_
    have hM5 : MapR ob4 ((iput gs3 ⟨g.blk, a', g.len, cap', g.data⟩).map hdr) := by rw [iput_hdr]; exact hM4
    refine ⟨_, Drop.pick [0, 1, 2, 3] _ rfl, ⟨k + 1, ob4, iput gs3 ⟨g.blk, a', g.len, cap', g.data⟩, by omega, hM5, ?_, ?_, Imm.le_trans hle5 hJ6, rfl, rfl⟩, ?_⟩
    · intro y hy
      rcases iput_mem hy with rfl | hy
      · exact ⟨hgk.1, hcl⟩
      · exact (hg3 y hy).mono hJ6
    · rw [iput_pr, hp3, htk, List.foldl_append]; rfl
    · show ((i : Int) - ((k + 1 : Nat) : Int)).toNat < ((i : Int) - (k : Int)).toNat; omega
  obtain rfl : k = i := by omega
  rw [List.take_of_length_le (by omega)] at hp3
  skip
  rw [hW2]
  exact Done.mk ⟨[vChunk bV bD bJ2 bM2 v2.j.lay v2.epoch v2.slot false ++ ((bM2, ob3) :: chJ4), chD4], Drop.flat (by simp), rfl, _, chD4, ⟨bJ2, bM2, ob3, chJ4, gs3, by rw [hlay, hb2], hj4, hM3, hg3, hp3⟩, hD4.mono hle5, rfl⟩
end Go.Proofs.YtegdcjnjnoeinaaGreat
namespace Go.Proofs.YtegdcjnjnoeinaaGreat
open Go.RowKit Go.Sl
set_option maxRecDepth 20000

section
variable (I : Imm)
theorem w_dirty (cs : List (Option BufM)) (S : St) (k : Nat) (m : BufM) (hk : S[k]? = some (bufs cs)) (hm : some m ∈ cs) : Tri Tryz.prog 132 #[ptrM m] I S fun v J S' => v = .bool m.b.dirty ∧ I = J ∧ S' = S := by
  refine Tri.of (args := [ptrM m]) tabOk Tryz.func132 rfl (by kernel_rfl) (by kernel_rfl) ?_
  refine LoadD.mem k hk (bufs_mem hm) [.bool m.b.dirty] rfl rfl ?_
  exact Done.mk ⟨rfl, rfl, rfl⟩
theorem w_held (S : St) (m : BufM) : Tri Tryz.prog 136 #[ptrM m] I S fun v J S' => v = .bool true ∧ I = J ∧ S' = S := by
  refine Tri.of (args := [ptrM m]) tabOk Tryz.func136 rfl (by kernel_rfl) (by kernel_rfl) ?_
  exact Done.mk ⟨rfl, rfl, rfl⟩
theorem w_pinned (cs : List (Option BufM)) (S : St) (k : Nat) (m : BufM) (hk : S[k]? = some (bufs cs)) (hm : some m ∈ cs) : Tri Tryz.prog 135 #[ptrM m] I S fun v J S' => v = .bool (decide (0 < m.b.pins)) ∧ I = J ∧ S' = S := by
  refine Tri.of (args := [ptrM m]) tabOk Tryz.func135 rfl (by kernel_rfl) (by kernel_rfl) ?_
  refine LoadD.mem k hk (bufs_mem hm) [.int .i64 m.b.pins] rfl rfl ?_
  refine CmpD.split (fun (c : 0 < m.b.pins) => ?_) (fun (c : ¬ 0 < m.b.pins) => ?_)
  · exact Done.mk ⟨by rw [decide_eq_true c]; rfl, rfl, rfl⟩
  · exact Done.mk ⟨by rw [decide_eq_false c]; rfl, rfl, rfl⟩
end
theorem ck_drop4 (bC bV bS hand : Nat) (cs : List (Option BufM)) (x : List Blk) : Drop (St.at [cChunk bC bV bS cs.length hand, sChunk bS cs, bufs cs, x] [0, 1, 2, 3]) [cChunk bC bV bS cs.length hand ++ (sChunk bS cs ++ bufs cs), x] := ⟨[], by simp [St.at]⟩
section
variable {I : Imm} {bC bV : Nat} {c : CSt} {ch : List Blk}
def WhichQ (J : Imm) (c : CSt) (p : Buf → Bool) (I : Imm) (ch : List Blk) (r : Value) (S' : St) : Prop := I = J ∧ ∃ (a : Option Addr) (cap : Nat) (chO : List Blk), r = .slice a (c.which p).length cap ∧ OwnC chO 1 a (c.which p).length cap (ints (c.which p)) ∧ S' = [ch, chO]
theorem ck_Held (h : Ck I bC bV c ch) (hl : c.slots.length ≤ 12) : Tri Tryz.prog 70 #[.pointer (some ⟨bC, 0, none⟩)] I [ch] fun r J S' => WhichQ J c (fun _ => true) I ch r S' := by
  obtain ⟨slots, hand⟩ := c
  obtain ⟨bS, cs, rfl, rfl, hok, hl1, hl2, hh⟩ := h
  dsimp only at hh hl ⊢
  rw [slotsOf_len] at hl
  refine Tri.lay (ck_lay bC bV bS hand cs []) ?_
  refine Tri.drop ?_ (fun _ _ _ _ h => h)
  refine Tri.of (args := [.pointer (some ⟨bC, 0, none⟩)]) tabOk Tryz.func70 rfl (by kernel_rfl) (by kernel_rfl) ?_
  refine Tri.mono (c_which I bC bV bS hand cs hl hok _ (fun _ => true) (fun S k m _ _ => w_held I S m)) ?_
  rintro v _ _ hJ ⟨rfl, ps, a, cap, chP, rfl, hown, hperm, hsort, rfl⟩
  have hps : ∀ m ∈ ps, some m ∈ cs := fun m hm => heldM_mem.1 (List.mem_filter.1 (hperm.mem_iff.1 hm)).1
  have hpl : ps.length ≤ 1000 := by
    have h1 := hperm.length_eq
    have h2 : ps.length ≤ (heldM cs).length := by rw [h1]; exact List.length_filter_le ..
    have h3 := heldM_len cs
    omega
  refine Tri.mono (c_numbers I cs ps hps hpl _ 2 rfl a cap (hown.slC1 3 rfl)) ?_
  rintro v _ _ hJ ⟨rfl, a', cap', ch', rfl, hown', rfl⟩
  have hnum := sorted_nums (hand := hand) (p := fun _ => true) hperm hsort
  have hnl : ps.length = (CSt.which ⟨slotsOf cs, hand⟩ (fun _ => true)).length := by rw [← hnum, List.length_map]
  rw [hnum] at hown'
  rw [hnl] at hown' ⊢
  exact Done.mk ⟨_, Drop.trans (Drop.pick [0, 1, 2, 4] _ rfl) (ck_drop4 bC bV bS hand cs ch'), rfl, a', cap', ch', rfl, hown', rfl⟩
theorem ck_Dirty (h : Ck I bC bV c ch) (hl : c.slots.length ≤ 12) : Tri Tryz.prog 69 #[.pointer (some ⟨bC, 0, none⟩)] I [ch] fun r J S' => WhichQ J c Buf.dirty I ch r S' := by
  obtain ⟨slots, hand⟩ := c
  obtain ⟨bS, cs, rfl, rfl, hok, hl1, hl2, hh⟩ := h
  dsimp only at hh hl ⊢
  rw [slotsOf_len] at hl
  refine Tri.lay (ck_lay bC bV bS hand cs []) ?_
  refine Tri.drop ?_ (fun _ _ _ _ h => h)
  refine Tri.of (args := [.pointer (some ⟨bC, 0, none⟩)]) tabOk Tryz.func69 rfl (by kernel_rfl) (by kernel_rfl) ?_
  refine Tri.mono (c_which I bC bV bS hand cs hl hok _ Buf.dirty (fun S k m hk hm => w_dirty I cs S k m hk hm)) ?_
  rintro v _ _ hJ ⟨rfl, ps, a, cap, chP, rfl, hown, hperm, hsort, rfl⟩
  have hps : ∀ m ∈ ps, some m ∈ cs := fun m hm => heldM_mem.1 (List.mem_filter.1 (hperm.mem_iff.1 hm)).1
  have hpl : ps.length ≤ 1000 := by
    have h1 := hperm.length_eq
    have h2 : ps.length ≤ (heldM cs).length := by rw [h1]; exact List.length_filter_le ..
    have h3 := heldM_len cs
    omega
  refine Tri.mono (c_numbers I cs ps hps hpl _ 2 rfl a cap (hown.slC1 3 rfl)) ?_
  rintro v _ _ hJ ⟨rfl, a', cap', ch', rfl, hown', rfl⟩
  have hnum := sorted_nums (hand := hand) (p := Buf.dirty) hperm hsort
  have hnl : ps.length = (CSt.which ⟨slotsOf cs, hand⟩ Buf.dirty).length := by rw [← hnum, List.length_map]
  rw [hnum] at hown'
  rw [hnl] at hown' ⊢
  exact Done.mk ⟨_, Drop.trans (Drop.pick [0, 1, 2, 4] _ rfl) (ck_drop4 bC bV bS hand cs ch'), rfl, a', cap', ch', rfl, hown', rfl⟩
theorem ck_Pinned (h : Ck I bC bV c ch) (hl : c.slots.length ≤ 12) : Tri Tryz.prog 68 #[.pointer (some ⟨bC, 0, none⟩)] I [ch] fun r J S' => WhichQ J c (fun b => decide (0 < b.pins)) I ch r S' := by
  obtain ⟨slots, hand⟩ := c
  obtain ⟨bS, cs, rfl, rfl, hok, hl1, hl2, hh⟩ := h
  dsimp only at hh hl ⊢
  rw [slotsOf_len] at hl
  refine Tri.lay (ck_lay bC bV bS hand cs []) ?_
  refine Tri.drop ?_ (fun _ _ _ _ h => h)
  refine Tri.of (args := [.pointer (some ⟨bC, 0, none⟩)]) tabOk Tryz.func68 rfl (by kernel_rfl) (by kernel_rfl) ?_
  refine Tri.mono (c_which I bC bV bS hand cs hl hok _ (fun b => decide (0 < b.pins)) (fun S k m hk hm => w_pinned I cs S k m hk hm)) ?_
  rintro v _ _ hJ ⟨rfl, ps, a, cap, chP, rfl, hown, hperm, hsort, rfl⟩
  have hps : ∀ m ∈ ps, some m ∈ cs := fun m hm => heldM_mem.1 (List.mem_filter.1 (hperm.mem_iff.1 hm)).1
  have hpl : ps.length ≤ 1000 := by
    have h1 := hperm.length_eq
    have h2 : ps.length ≤ (heldM cs).length := by rw [h1]; exact List.length_filter_le ..
    have h3 := heldM_len cs
    omega
  refine Tri.mono (c_numbers I cs ps hps hpl _ 2 rfl a cap (hown.slC1 3 rfl)) ?_
  rintro v _ _ hJ ⟨rfl, a', cap', ch', rfl, hown', rfl⟩
  have hnum := sorted_nums (hand := hand) (p := fun b => decide (0 < b.pins)) hperm hsort
  have hnl : ps.length = (CSt.which ⟨slotsOf cs, hand⟩ (fun b => decide (0 < b.pins))).length := by rw [← hnum, List.length_map]
  rw [hnum] at hown'
  rw [hnl] at hown' ⊢
  exact Done.mk ⟨_, Drop.trans (Drop.pick [0, 1, 2, 4] _ rfl) (ck_drop4 bC bV bS hand cs ch'), rfl, a', cap', ch', rfl, hown', rfl⟩
end
end Go.Proofs.YtegdcjnjnoeinaaGreat
namespace Go.Proofs.YtegdcjnjnoeinaaGreat
open Go.RowKit Go.Sl
set_option maxRecDepth 20000

def CSt.load (c : CSt) (v : VSt) (d : DSt) (n : Int) : CSt × Dat × Int := match c.got n with
  | some (i, b) => (c.put i { b with mark := true }, b.data, 0)
  | none => if (v.read d n).2 ≠ 0 then (c, [], (v.read d n).2) else match c.room.2 with
    | some i => (⟨c.room.1.slots.set i (some ⟨n, (v.read d n).1, 0, false, true⟩), c.room.1.hand⟩, (v.read d n).1, 0)
    | none => (c.room.1, [], 130)
theorem drop_new {c s b1 b2 V D B : List Blk} {x : Blk} (h : b2.Perm (x :: b1)) : Drop [c, s, b1, V, D, B, [], [x]] [c ++ (s ++ b2), V, D, B] := by
  refine ⟨[], ?_⟩
  simp only [List.flatten_cons, List.flatten_nil, List.append_nil, List.append_assoc, List.nil_append]
  refine List.Perm.append_left _ (List.Perm.append_left _ ?_)
  refine List.Perm.trans ?_ (h.append_right _).symm
  have := List.perm_append_singleton x (b1 ++ (V ++ (D ++ B)))
  simpa only [List.append_assoc, List.cons_append] using this
section
variable {I : Imm} {bC bV bD : Nat} {c : CSt} {ch : List Blk}
set_option maxHeartbeats 2000000 in
theorem ck_Load (h : Ck I bC bV c ch) {v : VSt} {chV : List Blk} (hV : Vk I bV bD v chV) {d : DSt} {chD : List Blk} (hD : Dk I bD d chD) (hfew : ∀ g ∈ v.fresh, g.2.length ≤ 1000000) (n : Int)
    (hrd : (v.read d n).2 = 0 → 0 ≤ n ∧ n ≤ 1000000 ∧ (v.read d n).1.length ≤ 1000000) :
    Tri Tryz.prog 60 #[.pointer (some ⟨bC, 0, none⟩), .int .i64 n] I [ch, chV, chD] fun r J S' => ∃ a cap chB ch', r = .tuple #[.slice a (c.load v d n).2.1.length cap, .int .i64 (c.load v d n).2.2] ∧ OwnB chB a (c.load v d n).2.1.length cap (c.load v d n).2.1 ∧ I.le J ∧ Ck J bC bV (c.load v d n).1 ch' ∧ S' = [ch', chV, chD, chB] := by
  obtain ⟨slots, hand⟩ := c
  obtain ⟨bS, cs, rfl, rfl, hok, hl1, hl2, hh⟩ := h
  dsimp only at hh ⊢
  refine Tri.lay (ck_lay bC bV bS hand cs [chV, chD]) ?_
  refine Tri.drop ?_ (fun _ _ _ _ h => h)
  refine Tri.of (args := [.pointer (some ⟨bC, 0, none⟩), .int .i64 n]) tabOk Tryz.func60 rfl (by kernel_rfl) (by kernel_rfl) ?_
  refine Tri.nf (c_none I bC bV bS cs.length hand _ 0 rfl) ?_
  rintro r _ _ hJ ⟨rfl, rfl, rfl⟩
  refine Tri.nf (c_find I bC bV bS hand cs (by omega) [chV, chD] n) ?_
  rintro r J _ hJ ⟨rfl, hle, rfl⟩
  unfold CSt.load
  cases hf : (slotsOf cs).findIdx? (isN n) with
  | some i =>
    obtain ⟨m, h1, h2, h3⟩ := got_some (hand := hand) hf
    have hlt := (List.getElem?_eq_some_iff.1 h1).1
    have hbok := (hok.mono hle) m (List.mem_of_getElem? h1)
    rw [h3]
    dsimp only
    refine CmpD.yes (by show (0 : Int) ≤ (i : Int); omega) ?_
    have hcell : (cs.map ptrB)[i]? = some (ptrB (some m)) := by rw [List.getElem?_map, h1]; rfl
    refine LoadD.own 0 rfl [.slice (some ⟨bS, 0, none⟩) cs.length cs.length] rfl rfl ?_
    refine Chk.mk (by show 0 ≤ (i : Int) ∧ (i : Int) < cs.length; omega) ?_
    refine LoadD.own 1 rfl [ptrB (some m)] (take_get (c := cs.map ptrB) (off := 0) (n := cs.length) (by rw [List.drop_zero, List.take_of_length_le (by simp)]) (by simpa [idxV] using hcell)) rfl ?_
    obtain ⟨m', hm'⟩ : ∃ m' : BufM, m' = ⟨m.blk, m.a, m.cap, { m.b with mark := true }⟩ := ⟨_, rfl⟩
    refine StoreD.buf 2 rfl h1 m' (by rw [hm']) (by rw [hm']; rfl) rfl ?_
    have hset : sChunk bS (cs.set i (some m')) = sChunk bS cs := sChunk_same h1 (by rw [hm'])
    have hln : (cs.set i (some m')).length = cs.length := List.length_set
    have hmem : bufBlk m' ∈ bufs (cs.set i (some m')) := bufs_mem (List.mem_of_getElem? (List.getElem?_set_self hlt))
    have hmb : (m.blk, row [.int .i64 m.b.n, .slice m.a m.b.data.length m.cap, .int .i64 m.b.pins, .bool m.b.dirty, .bool true] 184) ∈ bufs (cs.set i (some m')) := by rw [hm'] at hmem ⊢; exact hmem
    refine LoadD.own 0 rfl [.slice (some ⟨bS, 0, none⟩) cs.length cs.length] rfl rfl ?_
    refine Chk.mk (by show 0 ≤ (i : Int) ∧ (i : Int) < cs.length; omega) ?_
    refine LoadD.own 1 rfl [ptrB (some m)] (take_get (c := cs.map ptrB) (off := 0) (n := cs.length) (by rw [List.drop_zero, List.take_of_length_le (by simp)]) (by simpa [idxV] using hcell)) rfl ?_
    refine LoadD.mem 2 rfl hmb [.slice m.a m.b.data.length m.cap] rfl rfl ?_
    refine Tri.frameX (clone_bytes J [] m.a m.b.data.length m.cap (bts m.b.data) (by rw [Nat.mul_one]; exact hbok.rd.slC) (bts_plain _) (by have := hbok.len; omega)) [] rfl rfl ?_
    rintro r _ A' hJ2 ⟨a, cap, chB, rfl, hB, rfl, rfl⟩
    refine Done.mk ⟨[cChunk bC bV bS (cs.set i (some m')).length hand ++ (sChunk bS (cs.set i (some m')) ++ bufs (cs.set i (some m'))), chV, chD, chB], ?_, a, cap, chB, _, rfl, hB, hle, ⟨bS, _, rfl, by rw [slotsOf_set, hm']; rfl, (hok.mono hle).set i (fun x hx => by cases hx; rw [hm']; exact ⟨hbok.rd, hbok.len, hbok.n, hbok.pins⟩), by rw [hln]; exact hl1, by rw [hln]; exact hl2, by rw [hln]; exact hh⟩, rfl⟩
    rw [hset, hln]
    exact ⟨[], by simp⟩
  | none =>
    rw [got_none hf]
    dsimp only
    refine CmpD.no (by show ¬ (0 : Int) ≤ -1; omega) ?_
    refine LoadD.own 0 rfl [.pointer (some ⟨bV, 0, none⟩)] rfl rfl ?_
    refine Tri.frame (vk_Read (hV.mono hle) (hD.mono hle) hfew n) [3, 4] rfl rfl ?_
    generalize v.read d n = rd at *
    obtain ⟨x, e⟩ := rd
    dsimp only at hrd ⊢
    rintro r _ A' hJ2 ⟨a, cap, chB, rfl, hB, rfl, rfl⟩
    refine ⟨by simp, ?_⟩
    skip
    refine CmpD.split (fun (c1 : e = 0) => ?_) (fun (c1 : ¬ e = 0) => ?_)
    rotate_left
    · rw [if_pos c1]
      skip
      exact Done.mk ⟨_, ((Drop.pick [0, 1, 2, 3, 4] _ rfl).and).trans (ck_drop bC bV bS hand cs [chV, chD, []] []), none, 0, [], _, rfl, OwnC.nil _ _, hle, ⟨bS, cs, rfl, rfl, hok.mono hle, hl1, hl2, hh⟩, rfl⟩
    subst c1
    obtain ⟨hn0, hn1, hxl⟩ := hrd rfl
    rw [if_neg (by simp)]
    skip
    refine Tri.frame (c_room J bC bV bS hand cs ⟨hl1, hl2⟩ hh (hok.mono hle) chV) [0, 1, 2, 3] rfl rfl ?_
    generalize CSt.room ⟨slotsOf cs, hand⟩ = rm at *
    obtain ⟨c2, oi⟩ := rm
    dsimp only
    rintro r _ A' hJ3 ⟨rfl, rfl, cs', hand', rfl, hln, hh', hok', hat, rfl⟩
    refine ⟨Nat.le_refl _, ?_⟩
    rw [← hln] at hl1 hl2 hh' ⊢
    cases oi with
    | none =>
      refine CmpD.yes (by show (-1 : Int) < 0; omega) ?_
      skip
      exact Done.mk ⟨_, ((Drop.pick [0, 1, 2, 3, 4] _ rfl).and).trans (ck_drop bC bV bS hand' cs' [chV, chD, []] []), none, 0, [], _, rfl, OwnC.nil _ _, hle, ⟨bS, cs', rfl, rfl, hok', hl1, hl2, hh'⟩, rfl⟩
    | some i =>
      have hi := hat i rfl
      have hlt := (List.getElem?_eq_some_iff.1 hi).1
      refine CmpD.no (by show ¬ (i : Int) < 0; omega) ?_
      refine CodeF.sched [[], [0], [0, 1], [0, 1, 2], [], [], [], [6], [5, 6, 7], [5, 6, 7, 8], [0, 1, 2, 3, 4, 5, 6, 7, 8, 9], [0, 1, 2, 3, 4, 5, 6, 7, 8, 9, 10]] [0, 1, 2, 3, 4, 5, 6, 7, 8, 9, 10, 11] (by kernel_rfl) ?_
      refine LoadP.at 0 rfl [.slice (some ⟨bS, 0, none⟩) cs'.length cs'.length] rfl rfl ?_
      refine Tri.fixed (clone_bytes J _ a x.length cap (bts x) (by rw [Nat.mul_one]; exact hB.slC1 5 rfl) (bts_plain _) (by omega)) ?_
      rintro r _ A' hJ2 ⟨a2, cap2, chB2, rfl, hB2, rfl, rfl⟩
      refine ⟨6, chB2, rfl, fun J3 hJ3 hm => ?_⟩
      have hR2 := Rds.of_own hB2 hm
      refine Chk.mk ⟨rfl, trivial⟩ ?_
      conv => whnf
      intro bN
      refine Chk.mk ⟨rfl, trivial⟩ ?_
      refine Chk.mk (by show 0 ≤ (i : Int) ∧ (i : Int) < cs'.length; omega) ?_
      refine StoreD.slot 1 rfl (i := i) hlt (some ⟨bN, a2, cap2, ⟨n, x, 0, false, true⟩⟩) (by show 0 + ((i : Nat) : Int).toNat = i; simp) ?_
      have hlnS : (cs'.set i (some (⟨bN, a2, cap2, ⟨n, x, 0, false, true⟩⟩ : BufM))).length = cs'.length := List.length_set
      refine Done.mk ⟨[cChunk bC bV bS (cs'.set i (some (⟨bN, a2, cap2, ⟨n, x, 0, false, true⟩⟩ : BufM))).length hand' ++ (sChunk bS (cs'.set i (some ⟨bN, a2, cap2, ⟨n, x, 0, false, true⟩⟩)) ++ bufs (cs'.set i (some ⟨bN, a2, cap2, ⟨n, x, 0, false, true⟩⟩))), chV, chD, chB], ?_, a, cap, chB, _, rfl, hB, Imm.le_trans hle hJ3, ⟨bS, _, rfl, by rw [slotsOf_set]; rfl, (hok'.mono hJ3).set i (fun y hy => by cases hy; exact ⟨hR2, hxl, ⟨hn0, hn1⟩, by show (0 : Int) ≤ 0 ∧ (0 : Int) ≤ 1000; omega⟩), by rw [hlnS]; exact hl1, by rw [hlnS]; exact hl2, by rw [hlnS]; exact hh'⟩, rfl⟩
      rw [hlnS]
      exact drop_new (bufs_put hi _)
end
end Go.Proofs.YtegdcjnjnoeinaaGreat
namespace Go.Proofs.YtegdcjnjnoeinaaGreat
open Go.RowKit Go.Sl
set_option maxRecDepth 20000

theorem Tri.nodup {P : Program} {f : FuncId} {args : Array Value} {I : Imm} {S : St} {K : Value → Imm → St → Prop} (k : Nat) {ch : List Blk} (hk : S[k]? = some ch) (h : (ch.map Prod.fst).Nodup → Tri P f args I S K) : Tri P f args I S K := by
  have nd : ∀ w F, Has w I (S.flatten ++ F) → (ch.map Prod.fst).Nodup := by
    intro w F hw
    have h1 := hw.nodup
    rw [List.map_append] at h1
    have h2 := (List.nodup_append.1 h1).1
    have hs : (ch.map Prod.fst).Sublist (S.flatten.map Prod.fst) := (List.sublist_flatten_of_mem (List.mem_of_getElem? hk)).map _
    exact hs.nodup h2
  exact ⟨fun w F hw => (h (nd w F hw)).ent w F hw, fun w F hw => (h (nd w F hw)).run w F hw⟩
theorem nodup_inj {α β : Type} (f : α → β) : ∀ {l : List α}, (l.map f).Nodup → ∀ {a b : α}, a ∈ l → b ∈ l → f a = f b → a = b
  | [], _, _, _, ha, _, _ => by cases ha
  | x :: l, h, a, b, ha, hb, he => by
    rw [List.map_cons, List.nodup_cons] at h
    rcases List.mem_cons.1 ha with h1 | h1
    · rcases List.mem_cons.1 hb with h2 | h2
      · rw [h1, h2]
      · exact absurd (List.mem_map.2 ⟨b, h2, by rw [← he, h1]⟩) h.1
    · rcases List.mem_cons.1 hb with h2 | h2
      · exact absurd (List.mem_map.2 ⟨a, h1, by rw [he, h2]⟩) h.1
      · exact nodup_inj f h.2 h1 h2 he
/-- what is dirty, by rising blocks -/
def CSt.dirtyL (c : CSt) : List Buf := (c.held.filter Buf.dirty).mergeSort fun a b => decide (a.n ≤ b.n)
def CSt.clean (c : CSt) : CSt := ⟨c.slots.map (Option.map fun b => { b with dirty := false }), c.hand⟩
def CSt.commit (c : CSt) (v : VSt) (d : DSt) : CSt × VSt × DSt × Int × Int :=
  if c.dirtyL = [] then (c, v, d, 0, 0) else
  if (v.commit d (c.dirtyL.map fun b => (b.n, b.data))).2.2.2 ≠ 0 then (c, (v.commit d (c.dirtyL.map fun b => (b.n, b.data))).1, (v.commit d (c.dirtyL.map fun b => (b.n, b.data))).2.1, 0, (v.commit d (c.dirtyL.map fun b => (b.n, b.data))).2.2.2) else
  (c.clean, (v.commit d (c.dirtyL.map fun b => (b.n, b.data))).1, (v.commit d (c.dirtyL.map fun b => (b.n, b.data))).2.1, (v.commit d (c.dirtyL.map fun b => (b.n, b.data))).2.2.1, 0)
theorem dirtyL_perm (c : CSt) : c.dirtyL.Perm (c.held.filter Buf.dirty) := List.mergeSort_perm _ _
theorem dirtyL_le (c : CSt) : c.dirtyL.Pairwise fun a b => a.n ≤ b.n := by
  have := List.pairwise_mergeSort (le := fun x y : Buf => decide (x.n ≤ y.n)) (by intro a b c h1 h2; simp only [decide_eq_true_eq] at *; omega) (by intro a b; simp only [Bool.or_eq_true, decide_eq_true_eq]; omega) (c.held.filter Buf.dirty)
  exact this.imp (by intro _ _ h; simpa using h)
theorem dirtyL_eq {cs : List (Option BufM)} {hand : Nat} {ps : List BufM} (hp : ps.Perm ((heldM cs).filter fun m => m.b.dirty)) (hs : ps.Pairwise KeyLe) (hnd : ((CSt.held ⟨slotsOf cs, hand⟩).map Buf.n).Nodup) : ps.map BufM.b = CSt.dirtyL ⟨slotsOf cs, hand⟩ := by
  have e : ((heldM cs).filter fun m => m.b.dirty).map BufM.b = (CSt.held ⟨slotsOf cs, hand⟩).filter Buf.dirty := by rw [← heldM_b, List.filter_map]; rfl
  have hpp : (ps.map BufM.b).Perm ((CSt.held ⟨slotsOf cs, hand⟩).filter Buf.dirty) := by rw [← e]; exact hp.map _
  refine List.Perm.eq_of_pairwise (le := fun a b => a.n ≤ b.n) (fun a b ha hb h1 h2 => ?_) (List.pairwise_map.2 hs) (dirtyL_le _) (hpp.trans (dirtyL_perm _).symm)
  have ha' := (List.mem_filter.1 (hpp.mem_iff.1 ha)).1
  have hb' := (List.mem_filter.1 ((dirtyL_perm _).mem_iff.1 hb)).1
  exact nodup_inj Buf.n hnd ha' hb' (Int.le_antisymm h1 h2)
/-- a buffer, dirty no more if it is among these -/
def und (l : List BufM) (m : BufM) : BufM := if m.blk ∈ l.map BufM.blk then ⟨m.blk, m.a, m.cap, { m.b with dirty := false }⟩ else m
theorem und_blk (l : List BufM) (m : BufM) : (und l m).blk = m.blk := by unfold und; split <;> rfl
def imgOf (m : BufM) : Img := ⟨m.b.n, m.a, m.b.data.length, m.cap, m.b.data⟩
theorem bufs_fst (cs : List (Option BufM)) : (bufs cs).map Prod.fst = (heldM cs).map BufM.blk := by
  unfold bufs heldM
  rw [List.map_filterMap, List.map_filterMap]
  congr 1
  funext x; cases x <;> rfl
theorem held_once {cs : List (Option BufM)} (hnd : ((heldM cs).map BufM.blk).Nodup) {i j : Nat} {m y : BufM} (hj : cs[j]? = some (some m)) (hi : cs[i]? = some (some y)) (hb : y.blk = m.blk) : i = j := by
  obtain ⟨h1, _⟩ := split_at hj
  have e : heldM cs = heldM (cs.take j) ++ m :: heldM (cs.drop (j + 1)) := by
    conv => lhs; rw [h1]
    simp [heldM]
  rw [e, List.map_append, List.map_cons, List.nodup_append] at hnd
  obtain ⟨_, h3, h4⟩ := hnd
  rw [List.nodup_cons] at h3
  rcases Nat.lt_trichotomy i j with g | g | g
  · exfalso
    have hy : y ∈ heldM (cs.take j) := heldM_mem.2 (List.mem_of_getElem? (i := i) (by rw [List.getElem?_take, if_pos g]; exact hi))
    exact h4 y.blk (List.mem_map_of_mem hy) m.blk (by simp) hb
  · exact g
  · exfalso
    have hy : y ∈ heldM (cs.drop (j + 1)) := heldM_mem.2 (List.mem_of_getElem? (i := i - (j + 1)) (by rw [List.getElem?_drop, show j + 1 + (i - (j + 1)) = i by omega]; exact hi))
    exact h3.1 (by rw [← hb]; exact List.mem_map_of_mem hy)
theorem und_step {cs : List (Option BufM)} (hnd : ((bufs cs).map Prod.fst).Nodup) {l : List BufM} {m : BufM} {j : Nat} (hj : cs[j]? = some (some m)) :
    (cs.map (Option.map (und l))).set j (some ⟨m.blk, m.a, m.cap, { m.b with dirty := false }⟩) = cs.map (Option.map (und (l ++ [m]))) := by
  rw [bufs_fst] at hnd
  have hlt := (List.getElem?_eq_some_iff.1 hj).1
  refine List.ext_getElem? fun i => ?_
  by_cases hij : j = i
  · subst hij
    rw [List.getElem?_set_self (by simpa using hlt), List.getElem?_map, hj]
    simp [und]
  · rw [List.getElem?_set_ne hij, List.getElem?_map, List.getElem?_map]
    cases hx : cs[i]? with
    | none => rfl
    | some x =>
      cases x with
      | none => rfl
      | some y =>
        have hne : y.blk ≠ m.blk := by
          intro e
          exact hij (held_once hnd hj hx e).symm
        simp [und, hne]
theorem und_all {cs : List (Option BufM)} {ps : List BufM} (hp : ps.Perm ((heldM cs).filter fun m => m.b.dirty)) (hand : Nat) : slotsOf (cs.map (Option.map (und ps))) = (CSt.clean ⟨slotsOf cs, hand⟩).slots := by
  unfold CSt.clean slotsOf
  rw [List.map_map, List.map_map]
  refine List.map_congr_left fun x hx => ?_
  cases x with
  | none => rfl
  | some m =>
    show some (und ps m).b = some { m.b with dirty := false }
    congr 1
    unfold und
    split
    · rfl
    · rename_i h
      have hd : m.b.dirty = false := by
        cases hd : m.b.dirty with
        | false => rfl
        | true => exact absurd (List.mem_map_of_mem (hp.mem_iff.2 (List.mem_filter.2 ⟨heldM_mem.2 hx, hd⟩))) h
      rw [← hd]
theorem und_ok {J : Imm} {cs : List (Option BufM)} (h : CsOk J cs) (l : List BufM) : CsOk J (cs.map (Option.map (und l))) := by
  intro m hm
  obtain ⟨x, hx, hxm⟩ := List.mem_map.1 hm
  cases x with
  | none => cases hxm
  | some y =>
    cases hxm
    have := h y hx
    unfold und
    split
    · exact ⟨this.rd, this.len, this.n, this.pins⟩
    · exact this
theorem und_same {bS : Nat} (cs : List (Option BufM)) (l : List BufM) : sChunk bS (cs.map (Option.map (und l))) = sChunk bS cs := by
  unfold sChunk
  rw [List.map_map]
  congr 3
  refine List.map_congr_left fun x _ => ?_
  cases x with
  | none => rfl
  | some m => simp [ptrB, und_blk]
end Go.Proofs.YtegdcjnjnoeinaaGreat
namespace Go.Proofs.YtegdcjnjnoeinaaGreat
open Go.RowKit Go.Sl
set_option maxRecDepth 20000

theorem und_form (l : List BufM) (m : BufM) : ∃ dd : Bool, und l m = ⟨m.blk, m.a, m.cap, ⟨m.b.n, m.b.data, m.b.pins, dd, m.b.mark⟩⟩ := by
  unfold und
  split
  · exact ⟨false, rfl⟩
  · exact ⟨m.b.dirty, rfl⟩
section
variable {I : Imm} {bC bV bD : Nat} {c : CSt} {ch : List Blk}
set_option maxHeartbeats 2000000 in
theorem ck_Commit (h : Ck I bC bV c ch) (hl12 : c.slots.length ≤ 12) (hnd : (c.held.map Buf.n).Nodup) {v : VSt} {chV : List Blk} (hV : Vk I bV bD v chV) (hw : v.j.Wf) (hep : v.epoch = v.j.epoch) (hsl : 0 ≤ v.slot ∧ v.slot ≤ 1) (hfr : v.fresh.length ≤ 1000) (hgr : v.j.groups.length ≤ 800000) {d : DSt} {chD : List Blk} (hD : Dk I bD d chD) (hf : d.Few 700000) :
    Tri Tryz.prog 61 #[.pointer (some ⟨bC, 0, none⟩)] I [ch, chV, chD] fun r J S' => r = .tuple #[.int .i64 (c.commit v d).2.2.2.1, .int .i64 (c.commit v d).2.2.2.2] ∧ I.le J ∧
      ∃ ch' chV' chD', Ck J bC bV (c.commit v d).1 ch' ∧ Vk J bV bD (c.commit v d).2.1 chV' ∧ Dk J bD (c.commit v d).2.2.1 chD' ∧ S' = [ch', chV', chD'] := by
  obtain ⟨slots, hand⟩ := c
  obtain ⟨bS, cs, rfl, rfl, hok, hl1, hl2, hh⟩ := h
  dsimp only at hh hl12 ⊢
  rw [slotsOf_len] at hl12
  refine Tri.lay (ck_lay bC bV bS hand cs [chV, chD]) ?_
  refine Tri.drop ?_ (fun _ _ _ _ h => h)
  refine Tri.nodup 2 rfl fun hnb => ?_
  refine Tri.of (args := [.pointer (some ⟨bC, 0, none⟩)]) tabOk Tryz.func61 rfl (by kernel_rfl) (by kernel_rfl) ?_
  refine Tri.nf (c_none I bC bV bS cs.length hand _ 0 rfl) ?_
  rintro r _ _ hJ ⟨rfl, rfl, rfl⟩
  refine Tri.frame (c_which I bC bV bS hand cs hl12 hok _ Buf.dirty (fun S k m hk hm => w_dirty I cs S k m hk hm)) [0, 1, 2] rfl rfl ?_
  rintro r _ A' hJ ⟨rfl, ps, aP, capP, chP, rfl, hownP, hperm, hsort, rfl⟩
  refine ⟨by simp, ?_⟩
  have hdl := dirtyL_eq (hand := hand) hperm hsort hnd
  have hps : ∀ m ∈ ps, some m ∈ cs := fun m hm => heldM_mem.1 (List.mem_filter.1 (hperm.mem_iff.1 hm)).1
  have hpl : ps.length ≤ 12 := by
    have h1 := hperm.length_eq
    have h2 : ps.length ≤ (heldM cs).length := by rw [h1]; exact List.length_filter_le ..
    have h3 := heldM_len cs
    omega
  unfold CSt.commit
  rw [← hdl]
  obtain ⟨n, hn⟩ : ∃ n, n = ps.length := ⟨_, rfl⟩
  rw [← hn] at hpl hownP ⊢
  refine CmpD.split (fun (c1 : (n : Int) = 0) => ?_) (fun (c1 : ¬ (n : Int) = 0) => ?_)
  · have hp0 : ps = [] := List.length_eq_zero_iff.1 (by omega)
    subst hp0
    rw [List.map_nil, if_pos rfl]
    skip
    exact Done.mk ⟨_, (Drop.pick [0, 1, 2, 3, 4] _ rfl).trans (ck_drop bC bV bS hand cs [chV, chD] []), rfl, hJ, _, chV, chD, ⟨bS, cs, rfl, rfl, hok, hl1, hl2, hh⟩, hV, hD, rfl⟩
  have hpne : ¬ ps.map BufM.b = [] := by
    intro h
    have := congrArg List.length h
    rw [List.length_map, List.length_nil] at this
    omega
  rw [if_neg hpne]
  refine CodeF.loopD [0, 4, 5, 19, 20, 21] (fun vs J' S' => ∃ (i : Nat) (aL : Option Addr) (capL : Nat) (chL : List Blk), i ≤ n ∧ OwnC chL 2 aL i capL (imgCells ((ps.take i).map imgOf)) ∧ I = J' ∧
      vs = [.pointer (some ⟨bC, 0, none⟩), .slice aP n capP, .slice aL i capL, .slice aP n capP, .int .i64 n, .int .i64 i] ∧ S' = [cChunk bC bV bS cs.length hand, sChunk bS cs, bufs cs, chV, chD, chP, chL])
    (fun vs _ _ => match vs with | [_, _, _, _, _, .int _ i] => ((n : Int) - i).toNat | _ => 0) ?_ ?_
  · exact ⟨_, Drop.and (Drop.refl _), 0, none, 0, [], by omega, OwnC.nil _ _, rfl, rfl, rfl⟩
  rintro vs gE J' S' hJ' ⟨i, aL, capL, chL, hi, hownL, rfl, rfl, rfl⟩
  refine CmpD.split (fun (c2 : (i : Int) < n) => ?_) (fun (c2 : ¬ (i : Int) < n) => ?_)
  · obtain ⟨m, hm⟩ : ∃ m, ps[i]? = some m := ⟨_, List.getElem?_eq_getElem (by omega)⟩
    have hmc := hps m (List.mem_of_getElem? hm)
    have hsP := hownP.slC1 (I := I) (S := [cChunk bC bV bS cs.length hand, sChunk bS cs, bufs cs, chV, chD, chP, chL]) 5 rfl
    obtain ⟨b, off, rfl, hc⟩ := hsP.cells (by omega)
    refine Chk.mk (by omega) ?_
    refine LoadD.mk [ptrM m] (hc.at (by rw [Int.toNat_natCast, List.getElem?_map, hm]; rfl)) ?_
    refine CodeF.sched [[], [], [1], [1, 2], [1, 2, 3], [], [5], [5, 6], [5, 6, 7], [1, 2, 3, 4, 5, 6, 7, 8], [1, 2, 3, 4, 5, 6, 7, 8, 9], [0, 1, 2, 3, 4, 5, 6, 7, 8, 9, 10], [0, 1, 2, 3, 4, 5, 6, 7, 8, 9, 10, 11]] [0, 1, 2, 3, 4, 5, 6, 7, 8, 9, 10, 11, 12] (by kernel_rfl) ?_
    refine LoadP.mem 2 rfl (bufs_mem hmc) [.int .i64 m.b.n] rfl rfl ?_
    refine LoadP.mem 2 rfl (bufs_mem hmc) [.slice m.a m.b.data.length m.cap] rfl rfl ?_
    conv => whnf
    intro bN
    skip
    refine appendD tabOk rfl rfl rfl rfl rfl rfl rfl 6 rfl hownL (SrcOk.slice (n := 1) (news := imgCells [imgOf m]) tabOk rfl ((OwnC.whole (len := 1) (size := 2) rfl).slC 7 rfl) (by intro v hv; simp [imgCells] at hv; rcases hv with rfl | rfl <;> rfl)) rfl (by show (i + 1) * 32 ≤ _; omega) (by omega) ?_
    intro aL2 capL2 chL2 hownL2
    skip
    refine ToD.to (((i + 1 : Nat)) : Int) (by rw [wrap_i64 (by omega) (by omega)]; omega) ?_
    refine ⟨_, Drop.pick [0, 1, 2, 3, 4, 5, 6] _ rfl, ⟨i + 1, aL2, capL2, chL2, by omega, ?_, rfl, rfl, rfl⟩, ?_⟩
    · have e : imgCells ((ps.take (i + 1)).map imgOf) = imgCells ((ps.take i).map imgOf) ++ imgCells [imgOf m] := by rw [List.take_add_one, hm]; simp [imgCells]
      rw [e]; exact hownL2
    · show ((n : Int) - ((i + 1 : Nat) : Int)).toNat < ((n : Int) - (i : Int)).toNat; omega
  obtain rfl : i = n := by omega
  rw [List.take_of_length_le (by omega)] at hownL
  have hpr : (ps.map imgOf).map Img.pr = (ps.map BufM.b).map fun b => (b.n, b.data) := by rw [List.map_map, List.map_map]; rfl
  refine LoadD.own 0 rfl [.pointer (some ⟨bV, 0, none⟩)] rfl rfl ?_
  refine Tri.fix 6 rfl fun I2 hI2 hm2 => ?_
  have hImgs : ImgsOk I2 aL (ps.map imgOf) := by
    refine ⟨by rw [List.length_map, ← hn]; exact Rds.of_ownS hownL hm2, fun g hg => ?_⟩
    obtain ⟨m, hm, rfl⟩ := List.mem_map.1 hg
    have hb := (hok.mono hI2) m (hps m hm)
    have hbn := hb.n
    exact ⟨by show In64 m.b.n; unfold In64; omega, hb.rd⟩
  have hcall := vk_Commit (hV.mono hI2) hw hep hsl hfr hgr (hD.mono hI2) hf aL capL (ps.map imgOf) hImgs (by rw [List.length_map]; omega)
  rw [List.length_map, ← hn, hpr] at hcall
  refine Tri.frame hcall [3, 4] rfl rfl ?_
  generalize v.commit d ((ps.map BufM.b).map fun b => (b.n, b.data)) = cm
  obtain ⟨v2, d2, k, e⟩ := cm
  dsimp only
  rintro r J3 A' hJ3 ⟨rfl, chV2, chD2, hV2, hD2, rfl⟩
  refine ⟨Nat.le_refl _, ?_⟩
  have hle3 := Imm.le_trans hI2 hJ3
  refine CmpD.split (fun (c3 : e = 0) => ?_) (fun (c3 : ¬ e = 0) => ?_)
  rotate_left
  · rw [if_pos c3]
    skip
    exact Done.mk ⟨_, (Drop.pick [0, 1, 2, 3, 4] _ rfl).trans (ck_drop bC bV bS hand cs [chV2, chD2] []), rfl, hle3, _, chV2, chD2, ⟨bS, cs, rfl, rfl, hok.mono hle3, hl1, hl2, hh⟩, hV2, hD2, rfl⟩
  subst c3
  rw [if_neg (by simp)]
  skip
  refine CodeF.loopD [8, 50, 51, 52] (fun vs J' S' => ∃ j : Nat, j ≤ i ∧ J3 = J' ∧ vs = [.int .i64 k, .slice aP i capP, .int .i64 i, .int .i64 j] ∧ S' = [cChunk bC bV bS cs.length hand, sChunk bS cs, bufs (cs.map (Option.map (und (ps.take j)))), chV2, chD2, chP, []])
    (fun vs _ _ => match vs with | [_, _, _, .int _ j] => ((i : Int) - j).toNat | _ => 0) ?_ ?_
  · have e0 : cs.map (Option.map (und (ps.take 0))) = cs := by
      have : (Option.map (und (ps.take 0)) : Option BufM → Option BufM) = id := by funext x; cases x <;> simp [und]
      rw [this, List.map_id]
    exact ⟨_, Drop.refl _, 0, by omega, rfl, rfl, by rw [e0]⟩
  rintro vs gE2 J' S' hJ4 ⟨j, hj, rfl, rfl, rfl⟩
  refine CmpD.split (fun (c4 : (j : Int) < i) => ?_) (fun (c4 : ¬ (j : Int) < i) => ?_)
  · obtain ⟨m, hm⟩ : ∃ m, ps[j]? = some m := ⟨_, List.getElem?_eq_getElem (by omega)⟩
    have hmc := hps m (List.mem_of_getElem? hm)
    obtain ⟨q, hq⟩ := List.mem_iff_getElem?.1 hmc
    have hsP := hownP.slC1 (I := J3) (S := [cChunk bC bV bS cs.length hand, sChunk bS cs, bufs (cs.map (Option.map (und (ps.take j)))), chV2, chD2, chP, []]) 5 rfl
    obtain ⟨b, off, rfl, hc⟩ := hsP.cells (by omega)
    refine Chk.mk (by omega) ?_
    refine LoadD.mk [ptrM m] (hc.at (by rw [Int.toNat_natCast, List.getElem?_map, hm]; rfl)) ?_
    obtain ⟨dd, hdd⟩ := und_form (ps.take j) m
    have hqc : (cs.map (Option.map (und (ps.take j))))[q]? = some (some ⟨m.blk, m.a, m.cap, ⟨m.b.n, m.b.data, m.b.pins, dd, m.b.mark⟩⟩) := by rw [List.getElem?_map, hq, ← hdd]; rfl
    refine StoreD.buf (m := ⟨m.blk, m.a, m.cap, ⟨m.b.n, m.b.data, m.b.pins, dd, m.b.mark⟩⟩) 2 rfl hqc ⟨m.blk, m.a, m.cap, { m.b with dirty := false }⟩ rfl rfl rfl ?_
    rw [und_step hnb hq]
    have etk : ps.take j ++ [m] = ps.take (j + 1) := by rw [List.take_add_one, hm]; rfl
    rw [etk]
    refine ToD.to (((j + 1 : Nat)) : Int) (by rw [wrap_i64 (by omega) (by omega)]; omega) ?_
    refine ⟨_, Drop.refl _, ⟨j + 1, by omega, rfl, rfl, rfl⟩, ?_⟩
    show ((i : Int) - ((j + 1 : Nat) : Int)).toNat < ((i : Int) - (j : Int)).toNat; omega
  · obtain rfl : j = i := by omega
    rw [List.take_of_length_le (by omega)]
    have hln : (cs.map (Option.map (und ps))).length = cs.length := List.length_map _
    refine Done.mk ⟨[cChunk bC bV bS (cs.map (Option.map (und ps))).length hand ++ (sChunk bS (cs.map (Option.map (und ps))) ++ bufs (cs.map (Option.map (und ps)))), chV2, chD2], ?_, rfl, hle3, _, chV2, chD2, ⟨bS, _, rfl, und_all hperm hand, und_ok (hok.mono hle3) ps, by rw [hln]; exact hl1, by rw [hln]; exact hl2, by rw [hln]; exact hh⟩, hV2, hD2, rfl⟩
    rw [hln, und_same]
    exact ⟨chP, by simp⟩
end
end Go.Proofs.YtegdcjnjnoeinaaGreat
namespace Go.Proofs.YtegdcjnjnoeinaaGreat
open Go.RowKit Go.Sl

def pickS (n m : Int) : Int := if m ≤ 0 then 0 else n % m
theorem pickS_range {n m : Int} (h : 0 < m) : 0 ≤ pickS n m ∧ pickS n m < m := by
  unfold pickS
  rw [if_neg (by omega)]
  exact ⟨Int.emod_nonneg _ (by omega), Int.emod_lt_of_pos _ h⟩
end Go.Proofs.YtegdcjnjnoeinaaGreat
namespace Go.Proofs.YtegdcjnjnoeinaaGreat
open Go.RowKit Go.Sl
set_option maxRecDepth 20000

def im9 (n : Nat) (seed : Int) : List PImg := (List.range n).map fun (i : Nat) => (30 + (i : Int), madeL (IntKind.i64.wrap (seed + (i : Int))) 4096)
theorem im9_length (n : Nat) (seed : Int) : (im9 n seed).length = n := by simp [im9]
theorem im9_right {e s : Int} (h1 : 1 ≤ e ∧ e ≤ 8388608) (h2 : 1 ≤ s ∧ s ≤ 549755813888) (n : Nat) (hn : 1 ≤ n ∧ n ≤ 32) (seed : Int) : RightP e s (im9 n seed) := by
  refine ⟨h1.1, h1.2, h2.1, h2.2, by rw [im9_length]; omega, by rw [im9_length]; omega, ?_, ?_⟩
  · intro g hg
    unfold im9 at hg
    obtain ⟨i, hi, rfl⟩ := List.mem_map.1 hg
    have := List.mem_range.1 hi
    exact ⟨by show (0 : Int) ≤ 30 + (i : Int); omega, by show 30 + (i : Int) < 512; omega, madeL_length _ _⟩
  · unfold im9
    rw [List.map_map, List.nodup_iff_pairwise_ne, List.pairwise_map]
    refine List.Pairwise.imp ?_ List.nodup_range
    intro a b hab he
    have he : 30 + (a : Int) = 30 + (b : Int) := he
    exact hab (by omega)
/-! ### written -/
def wrtStep (j : JSt) (d : DSt) (all : List (List PImg)) (sz : Int) : JSt × DSt × List (List PImg) :=
  ((j.appendB d (im9 (1 + pickS sz 5).toNat sz) false).1, (j.appendB d (im9 (1 + pickS sz 5).toNat sz) false).2.1, if (j.appendB d (im9 (1 + pickS sz 5).toNat sz) false).2.2.2 = 0 then all ++ [im9 (1 + pickS sz 5).toNat sz] else all)
def wrtK (x : JSt × DSt × List (List PImg)) (l : List Int) : JSt × DSt × List (List PImg) := l.foldl (fun y z => wrtStep y.1 y.2.1 y.2.2 z) x
/-- images, told as lists of lists -/
structure Ims where
  a : Option Addr
  cap : Nat
  gs : List Img
@[reducible] def Ims.cell (m : Ims) : Value := .slice m.a m.gs.length m.cap
def Ims.pr (m : Ims) : List PImg := m.gs.map Img.pr
end Go.Proofs.YtegdcjnjnoeinaaGreat
namespace Go.Proofs.YtegdcjnjnoeinaaGreat
open Go.RowKit Go.Sl
set_option maxRecDepth 20000

/-! ### where writes go -/
theorem put_get {d : DSt} {p : Nat} {n : Nat} {b : Dat} (h : n ≠ p) : (d.put (n : Int) b).now[p]? = d.now[p]? := by
  show (d.now.set _ _)[p]? = _
  rw [Int.toNat_natCast, List.getElem?_set_ne h]
theorem put_hit {d : DSt} {p : Nat} {b : Dat} (h : p < d.now.length) : (d.put (p : Int) b).now[p]? = some b := by
  show (d.now.set _ _)[p]? = _
  rw [Int.toNat_natCast, List.getElem?_set_self h]
theorem wrD_miss (f : Nat → Nat) (p : Nat) : ∀ (bs : List Dat) (i : Nat) (d : DSt), (∀ k, k < bs.length → f (i + k) ≠ p) → (wrD (fun k => (f k : Int)) bs i d).now[p]? = d.now[p]?
  | [], _, _, _ => rfl
  | b :: bs, i, d, h => by
    rw [wrD, wrD_miss f p bs (i + 1) _ (fun k hk => by have := h (k + 1) (by simp; omega); rwa [show i + (k + 1) = i + 1 + k by omega] at this)]
    exact put_get (h 0 (by simp))
theorem wrD_hit (f : Nat → Nat) (p : Nat) : ∀ (bs : List Dat) (i : Nat) (d : DSt) (k : Nat), (hk : k < bs.length) → f (i + k) = p → (∀ k', k < k' → k' < bs.length → f (i + k') ≠ p) → p < d.now.length → (wrD (fun k => (f k : Int)) bs i d).now[p]? = some bs[k]
  | [], _, _, k, hk, _, _, _ => by simp at hk
  | b :: bs, i, d, 0, _, hf, hno, hp => by
    rw [wrD, wrD_miss f p bs (i + 1) _ (fun k' hk' => by have := hno (k' + 1) (by omega) (by simp; omega); rwa [show i + (k' + 1) = i + 1 + k' by omega] at this)]
    have hf : f i = p := hf
    show (d.put (f i : Int) b).now[p]? = _
    rw [hf, put_hit hp]; rfl
  | b :: bs, i, d, k + 1, hk, hf, hno, hp => by
    rw [wrD]
    have := wrD_hit f p bs (i + 1) (d.put (f i : Int) b) k (by simpa using hk) (by rw [show i + 1 + k = i + (k + 1) by omega]; exact hf) (fun k' h1 h2 => by have := hno (k' + 1) (by omega) (by simp; omega); rwa [show i + (k' + 1) = i + 1 + k' by omega] at this) (by rw [DSt.put_len]; exact hp)
    simpa using this
/-! ### the ring's blocks -/
def usedP (l : List (List PImg)) : Nat := (l.map fun g => g.length + 1).sum
def ringB (ep : Nat) : Nat → List (List PImg) → List Dat
  | _, [] => []
  | sq, g :: l => putP ep sq g ++ ringB ep (sq + 1) l
theorem ringB_length (ep : Nat) : ∀ (l : List (List PImg)) (sq : Nat), (ringB ep sq l).length = usedP l
  | [], _ => rfl
  | g :: l, sq => by rw [ringB, List.length_append, putP_length, ringB_length ep l]; simp [usedP]
theorem ringB_snoc (ep : Nat) : ∀ (l : List (List PImg)) (sq : Nat) (g : List PImg), ringB ep sq (l ++ [g]) = ringB ep sq l ++ putP ep (sq + l.length) g
  | [], sq, g => by simp [ringB]
  | x :: l, sq, g => by
    rw [List.cons_append, ringB, ringB_snoc ep l, ringB, List.append_assoc, List.length_cons, show sq + 1 + l.length = sq + (l.length + 1) by omega]
theorem usedP_snoc (l : List (List PImg)) (g : List PImg) : usedP (l ++ [g]) = usedP l + (g.length + 1) := by simp [usedP]
structure WI (ep tail : Nat) (z : Nat → Dat) (j : JSt) (d : DSt) (all : List (List PImg)) : Prop where
  s : j.s = 16
  t : j.t = tail
  u : j.u = (usedP all : Nat)
  h : j.h = 0
  epoch : j.epoch = ep
  next : j.next = (all.length + 1 : Nat)
  groups : j.groups.length = all.length
  broken : j.broken = false
  log : j.lay.l = 2
  wf : j.Wf
  calm : d.Calm
  dwf : d.Wf
  len : d.now.length = 64
  few : d.Few (usedP all)
  used : usedP all ≤ 16
  right : ∀ (i : Nat) (h : i < all.length), RightP ep ((i + 1 : Nat) : Int) all[i]
  ring : ∀ o, o < 16 → rbP d 2 16 (tail + o) = (ringB ep 1 all).getD o (z o)
theorem usedP_ge (l : List (List PImg)) : l.length ≤ usedP l := by
  unfold usedP
  induction l with
  | nil => simp
  | cons g l ih => simp; omega
theorem DSt.Wf.put {d : DSt} (h : d.Wf) (hc : d.Calm) {n : Int} {b : Dat} (hn : 0 ≤ n ∧ n < d.now.length) (hb : b.length = 4096) : (d.put n b).Wf := by
  have := h.write n b
  rwa [DSt.write_calm hc hn hb] at this
theorem wrD_wf (f : Nat → Int) : ∀ (bs : List Dat) (i : Nat) (d : DSt), d.Wf → d.Calm → (∀ b ∈ bs, b.length = 4096) → (∀ k, 0 ≤ f k ∧ f k < d.now.length) → (wrD f bs i d).Wf
  | [], _, _, h, _, _, _ => h
  | b :: bs, i, d, h, hc, hb, hf => wrD_wf f bs (i + 1) _ (h.put hc (hf i) (hb b (by simp))) (hc.put _ _) (fun x hx => hb x (by simp [hx])) (by rw [DSt.put_len]; exact hf)
/-- a group is appended, or there is no room -/
theorem WI.append {ep tail : Nat} {z : Nat → Dat} {j : JSt} {d : DSt} {all : List (List PImg)} (w : WI ep tail z j d all) {l : List PImg} (hR : RightP ep ((all.length + 1 : Nat) : Int) l) :
    (usedP all + (l.length + 1) ≤ 16 ∧ WI ep tail z (j.appendB d l false).1 (j.appendB d l false).2.1 (all ++ [l]) ∧ (j.appendB d l false).2.2.2 = 0) ∨
    (16 < usedP all + (l.length + 1) ∧ (j.appendB d l false).1 = j ∧ (j.appendB d l false).2.1 = d ∧ (j.appendB d l false).2.2.2 ≠ 0) := by
  have hge := usedP_ge all
  have hu := w.used
  have hll := hR.2.2.2.2.2.1
  have hR' : RightP j.epoch j.next l := by rw [w.epoch, w.next]; exact hR
  have hok := w.wf.ring
  have hokd : Ok 16 tail (usedP all : Nat) 0 := by have := hok; rw [w.s, w.t, w.u, w.h] at this; exact this
  have htl : (tail : Int) < 16 := hokd.2.2.2.1
  rcases Nat.lt_or_ge 16 (usedP all + (l.length + 1)) with hf | hf
  · right
    refine ⟨hf, ?_⟩
    unfold JSt.appendB JSt.append
    rw [if_neg (by rw [w.broken]; simp), if_neg (by simpa using hR')]
    by_cases hs : j.s < (l.length : Int) + 1
    · rw [if_pos hs]; exact ⟨rfl, rfl, by simp⟩
    rw [if_neg hs]
    have hp : putS j.s j.t j.u j.h ((l.length : Int) + 1) (if false = true then (l.length : Int) + 1 else 0) = ((0, 0, 0, 0, 5), 0) := by
      rw [w.s, w.t, w.u, w.h]
      unfold putS
      rw [if_neg (by simp only [Bool.false_eq_true, if_false]; rintro (h | h | h | h | h); exact h hokd; omega; omega; omega; omega), if_pos (by simp only [Bool.false_eq_true, if_false]; omega)]
    rw [hp]
    exact ⟨rfl, rfl, by simp⟩
  · left
    refine ⟨hf, ?_⟩
    have hp : putS j.s j.t j.u j.h ((l.length : Int) + 1) (if false = true then (l.length : Int) + 1 else 0) = ((j.s, (tail : Int), ((usedP all : Nat) : Int) + ((l.length : Int) + 1), 0, 0), ((tail : Int) + (usedP all : Nat)) % 16) := by
      rw [w.s, w.t, w.u, w.h]
      unfold putS
      rw [if_neg (by simp only [Bool.false_eq_true, if_false]; rintro (h | h | h | h | h); exact h hokd; omega; omega; omega; omega), if_neg (by simp only [Bool.false_eq_true, if_false]; omega)]
      simp only [Bool.false_eq_true, if_false, Int.sub_zero]
    have hlen16 : j.s + 2 ≤ d.now.length := by rw [w.s, w.len]; decide
    have hs1 : (l.length : Int) + 1 ≤ j.s := by rw [w.s]; omega
    obtain ⟨j', a, f1, f2, f3, f4, f5, f6, f7, f8, f9, f10, w'⟩ := JSt.append_next w.wf (by rw [w.groups]; omega) w.broken hR' hs1 w.calm hlen16 hp
    rw [a]
    have hB := putP_len (e := j.epoch.toNat) (s := j.next.toNat) hll hR.lens
    have hfl : ∀ k : Nat, (0 : Int) ≤ 2 + (((tail : Int) + (usedP all : Nat)) % 16 + k) % j.s ∧ 2 + (((tail : Int) + (usedP all : Nat)) % 16 + k) % j.s < d.now.length := by
      intro k
      rw [w.s, w.len]
      have := Int.emod_nonneg (((tail : Int) + (usedP all : Nat)) % 16 + k) (b := 16) (by decide)
      have := Int.emod_lt_of_pos (((tail : Int) + (usedP all : Nat)) % 16 + k) (b := 16) (by decide)
      omega
    have hff : (fun k : Nat => (2 : Int) + (((tail : Int) + (usedP all : Nat)) % 16 + k) % j.s) = fun k : Nat => ((2 + (tail + usedP all + k) % 16 : Nat) : Int) := by
      funext k
      rw [w.s]; omega
    refine ⟨⟨by rw [f2, w.s], f3, by rw [f4, usedP_snoc]; omega, f5, by rw [f6, w.epoch], by rw [f7, w.next, List.length_append]; rfl, by rw [f9]; simp [w.groups], f10, by rw [f1, w.log], w', wrD_calm _ _ _ _ w.calm, wrD_wf _ _ _ _ w.dwf w.calm hB hfl, by rw [wrD_len, w.len], ?_, by rw [usedP_snoc]; exact hf, ?_, ?_⟩, rfl⟩
    · have := wrD_few (fun i : Nat => (2 : Int) + (((tail : Int) + (usedP all : Nat)) % 16 + i) % j.s) (putP j.epoch.toNat j.next.toNat l) 0 d _ w.few
      rw [putP_length] at this
      rw [usedP_snoc]; exact this
    · intro i hi
      rw [List.getElem_append]
      split
      · rename_i h; exact w.right i h
      · rename_i h
        simp only [List.length_append, List.length_singleton] at hi
        obtain rfl : i = all.length := by omega
        simpa using hR
    · intro o ho
      rw [hff, ringB_snoc]
      have hrl := ringB_length ep all 1
      have he1 : j.epoch.toNat = ep := by rw [w.epoch]; rfl
      have he2 : j.next.toNat = 1 + all.length := by rw [w.next]; omega
      rw [he1, he2]
      have hpl := putP_length ep (1 + all.length) l
      obtain ⟨B, hBe⟩ : ∃ B, B = putP ep (1 + all.length) l := ⟨_, rfl⟩
      rw [← hBe] at hpl ⊢
      have hw := w.ring o ho
      unfold rbP at hw ⊢
      rw [List.getD_eq_getElem?_getD] at hw ⊢
      have inj : ∀ k, k < B.length → (2 + (tail + usedP all + k) % 16 = 2 + (tail + o) % 16 ↔ usedP all + k = o) := by
        intro k hk; omega
      by_cases hin : usedP all ≤ o ∧ o < usedP all + B.length
      · have := wrD_hit (fun k => 2 + (tail + usedP all + k) % 16) (2 + (tail + o) % 16) B 0 d (o - usedP all) (by omega) (by have := (inj (o - usedP all) (by omega)).2 (by omega); simpa using this)
          (fun k' h1 h2 h3 => by have := (inj k' h2).1 (by simpa using h3); omega) (by rw [w.len]; omega)
        rw [this, List.getD_eq_getElem?_getD, List.getElem?_append_right (by omega), hrl, List.getElem?_eq_getElem (by omega)]; rfl
      · have := wrD_miss (fun k => 2 + (tail + usedP all + k) % 16) (2 + (tail + o) % 16) B 0 d (fun k hk h3 => by have := (inj k hk).1 (by simpa using h3); omega)
        rw [this, hw]
        rw [List.getD_eq_getElem?_getD, List.getD_eq_getElem?_getD]
        rcases Nat.lt_or_ge o (usedP all) with g | g
        · rw [List.getElem?_append_left (by omega)]
        · rw [List.getElem?_eq_none (by omega), List.getElem?_eq_none (by rw [List.length_append]; omega)]
end Go.Proofs.YtegdcjnjnoeinaaGreat
namespace Go.Proofs.YtegdcjnjnoeinaaGreat
open Go.RowKit Go.Sl
set_option maxRecDepth 20000

def gsP (ep : Nat) : Nat → List (List PImg) → List G3
  | _, [] => []
  | sq, g :: l => (ep, sq, g) :: gsP ep (sq + 1) l
theorem grpP_put {rb : Nat → Dat} {at_ room ep sq : Nat} {l : List PImg} (hR : RightP ep sq l) (hroom : l.length + 1 ≤ room) (hrb : ∀ (k : Nat) (h : k < (putP ep sq l).length), rb (at_ + k) = (putP ep sq l)[k]) : grpP rb at_ room = some (ep, sq, l) := by
  have h0 : rb at_ = hblk ep sq l := by have := hrb 0 (by rw [putP_length]; omega); simpa [putP_eq] using this
  unfold grpP
  rw [h0, hdP_put hR]
  dsimp only
  rw [List.length_map, if_pos hroom]
  have : ((List.range (l.length + 1)).map fun i => rb (at_ + i)) = putP ep sq l := by
    refine getElem_eq_of (by rw [putP_length]; simp) fun i h1 h2 => ?_
    simp only [List.getElem_map, List.getElem_range]
    exact hrb i h2
  rw [this, getP_put hR]
theorem scan_prefix (rb : Nat → Dat) (ep : Nat) : ∀ (all : List (List PImg)) (f at_ sq room : Nat), (∀ (i : Nat) (h : i < all.length), RightP ep ((sq + i : Nat) : Int) all[i]) → usedP all ≤ room → all.length ≤ f → (∀ (k : Nat) (h : k < (ringB ep sq all).length), rb (at_ + k) = (ringB ep sq all)[k]) →
    scanK rb ep f at_ sq room = gsP ep sq all ++ scanK rb ep (f - all.length) (at_ + usedP all) ((sq + all.length : Nat) : Int) (room - usedP all)
  | [], f, at_, sq, room, _, _, _, _ => by simp [gsP, usedP]
  | g :: l, 0, _, _, _, _, _, h, _ => by simp at h
  | g :: l, f + 1, at_, sq, room, hR, hu, hf, hrb => by
    have e : usedP (g :: l) = g.length + 1 + usedP l := by simp [usedP]
    have hg : grpP rb at_ room = some (ep, sq, g) := by
      refine grpP_put (hR 0 (by simp)) (by omega) fun k hk => ?_
      have := hrb k (by rw [ringB, List.length_append]; omega)
      simp only [ringB] at this
      rw [List.getElem_append_left hk] at this
      exact this
    rw [scanK, hg]
    dsimp only
    rw [if_pos ⟨rfl, rfl⟩, gsP, List.cons_append]
    congr 1
    have ih := scan_prefix rb ep l f (at_ + (g.length + 1)) (sq + 1) (room - (g.length + 1)) (fun i hi => by
        have := hR (i + 1) (by simpa using hi)
        rw [show sq + (i + 1) = sq + 1 + i by omega] at this
        simpa using this) (by omega) (by simpa using hf) (fun k hk => by
        have hpl := putP_length ep sq g
        have := hrb (g.length + 1 + k) (by rw [ringB, List.length_append, hpl]; omega)
        simp only [ringB] at this
        rw [List.getElem_append_right (by omega)] at this
        rw [show at_ + (g.length + 1) + k = at_ + (g.length + 1 + k) by omega, this]
        congr 1
        omega)
    rw [show ((sq : Nat) : Int) + 1 = ((sq + 1 : Nat) : Int) by omega, ih, List.length_cons]
    rw [show f + 1 - (l.length + 1) = f - l.length by omega, show at_ + (g.length + 1) + usedP l = at_ + usedP (g :: l) by omega, show sq + 1 + l.length = sq + (l.length + 1) by omega, show room - (g.length + 1) - usedP l = room - usedP (g :: l) by omega]
/-- where no group follows -/
theorem scan_stop {rb : Nat → Dat} {ep : Int} {f at_ room : Nat} {seq : Int} (h : ∀ e s l, grpP rb at_ room = some (e, s, l) → ¬ ((e : Int) = ep ∧ (s : Int) = seq)) : scanK rb ep f at_ seq room = [] := by
  cases f with
  | zero => rfl
  | succ f =>
    rw [scanK]
    cases hg : grpP rb at_ room with
    | none => rfl
    | some p =>
      obtain ⟨e, s, l⟩ := p
      dsimp only
      rw [if_neg (h e s l hg)]
theorem hd_noughts : hdP noughts = none := by
  have h0 : (numV noughts 0 8).1 = 0 := by
    unfold numV noughts
    rw [if_neg (by rw [List.length_replicate]; omega)]
    simp [nb]
  unfold hdP hbE
  rw [h0, if_neg (fun h => by have := h.1.1; simp at this)]
theorem grpP_none {rb : Nat → Dat} {at_ room : Nat} (h : hdP (rb at_) = none) : grpP rb at_ room = none := by unfold grpP; rw [h]
theorem layL64 : layL (64 : Int) = 16 := by decide
theorem WI.fresh {ep tail : Nat} (hep : 1 ≤ ep ∧ ep ≤ 8388608) (ht : tail < 16) : WI ep tail (fun _ => noughts) (openJ 64 ep 1 tail) (DSt.of (List.replicate 64 noughts)) [] := by
  have hlen : (List.replicate 64 noughts).length = 64 := List.length_replicate ..
  have hmem : ∀ b ∈ List.replicate 64 noughts, b.length = 4096 := fun b hb => by rw [(List.mem_replicate.1 hb).2]; exact noughts_length
  have hw : (DSt.of (List.replicate 64 noughts)).Wf := ⟨rfl, by show 1 ≤ (List.replicate 64 noughts).length ∧ (List.replicate 64 noughts).length ≤ 512; omega, hmem, hmem, fun w hw => (List.not_mem_nil hw).elim, fun h => (Bool.false_ne_true h).elim, fun h => (Bool.false_ne_true h).elim⟩
  refine ⟨layL_64', rfl, rfl, rfl, rfl, rfl, rfl, rfl, rfl, openJ_wf 64 (by omega) ⟨rfl, by omega, by omega, by omega, by omega, by omega, by rw [layL_64']; omega⟩, fresh_calm _, hw, hlen, DSt.of_few _, by simp [usedP], fun i h => by simp at h, ?_⟩
  intro o ho
  unfold rbP
  show (List.replicate 64 noughts).getD _ [] = _
  rw [List.getD_eq_getElem?_getD, List.getElem?_replicate, if_pos (by omega)]; rfl
theorem im9_pick {ep : Nat} (hep : 1 ≤ ep ∧ ep ≤ 8388608) (sz : Int) (k : Nat) (hk : k ≤ 16) : RightP ep ((k + 1 : Nat) : Int) (im9 (1 + pickS sz 5).toNat sz) := by
  have := pickS_range (n := sz) (m := 5) (by decide)
  exact im9_right ⟨by omega, by omega⟩ ⟨by omega, by omega⟩ _ (by omega) _
theorem WI.step {ep tail : Nat} {z : Nat → Dat} (hep : 1 ≤ ep ∧ ep ≤ 8388608) {j : JSt} {d : DSt} {all : List (List PImg)} (w : WI ep tail z j d all) (sz : Int) : WI ep tail z (wrtStep j d all sz).1 (wrtStep j d all sz).2.1 (wrtStep j d all sz).2.2 := by
  have hge := usedP_ge all
  have hu := w.used
  unfold wrtStep
  rcases w.append (im9_pick hep sz all.length (by omega)) with ⟨_, h1, h2⟩ | ⟨_, h1, h2, h3⟩
  · dsimp only; rw [if_pos h2]; exact h1
  · dsimp only; rw [if_neg h3, h1, h2]; exact w
theorem WI.all {ep tail : Nat} {z : Nat → Dat} (hep : 1 ≤ ep ∧ ep ≤ 8388608) : ∀ (l : List Int) (x : JSt × DSt × List (List PImg)), WI ep tail z x.1 x.2.1 x.2.2 → WI ep tail z (wrtK x l).1 (wrtK x l).2.1 (wrtK x l).2.2
  | [], _, h => h
  | s :: l, _, h => WI.all hep l _ (h.step hep s)
end Go.Proofs.YtegdcjnjnoeinaaGreat
namespace Go.Proofs.YtegdcjnjnoeinaaGreat
open Go.RowKit Go.Sl
set_option maxRecDepth 20000

def grL : Nat → List (List PImg) → List (Int × Int)
  | _, [] => []
  | sq, l :: ls => ((sq : Int), ((l.length : Int) + 1)) :: grL (sq + 1) ls
theorem grL_length : ∀ (ls : List (List PImg)) (sq : Nat), (grL sq ls).length = ls.length
  | [], _ => rfl
  | _ :: ls, sq => by rw [grL, List.length_cons, grL_length ls, List.length_cons]
theorem grL_snoc : ∀ (ls : List (List PImg)) (sq : Nat) (l : List PImg), grL sq (ls ++ [l]) = grL sq ls ++ [(((sq + ls.length : Nat) : Int), ((l.length : Int) + 1))]
  | [], sq, l => rfl
  | x :: ls, sq, l => by
    rw [List.cons_append, grL, grL_snoc ls, grL, List.length_cons, show sq + 1 + ls.length = sq + (ls.length + 1) by omega]; rfl
structure WJ (t0 sq : Nat) (j : JSt) (d : DSt) (ls : List (List PImg)) (k : Nat) : Prop where
  s : j.s = 16
  t : j.t = ((t0 % 16 : Nat) : Int)
  u : j.u = (usedP ls : Nat)
  epoch : j.epoch = 1
  next : j.next = ((sq + ls.length : Nat) : Int)
  pos : 1 ≤ sq
  groups : j.groups = grL sq ls
  broken : j.broken = false
  wf : j.Wf
  calm : d.Calm
  dwf : d.Wf
  len : d.now.length = 64
  few : d.Few k
  used : usedP ls ≤ 16
  right : ∀ (i : Nat) (h : i < ls.length), RightP 1 ((sq + i : Nat) : Int) ls[i]
  ring : ∀ (o : Nat) (h : o < (ringB 1 sq ls).length), rbP d 2 16 (t0 + o) = (ringB 1 sq ls)[o]
theorem WJ.mono {t0 sq : Nat} {j : JSt} {d : DSt} {ls : List (List PImg)} {k m : Nat} (w : WJ t0 sq j d ls k) (h : k ≤ m) : WJ t0 sq j d ls m := { w with few := w.few.mono h }
theorem WJ.room {t0 sq : Nat} {j : JSt} {d : DSt} {ls : List (List PImg)} {k : Nat} (w : WJ t0 sq j d ls k) : Ok 16 ((t0 % 16 : Nat) : Int) (usedP ls : Nat) j.h := by
  have := w.wf.ring; rw [w.s, w.t, w.u] at this; exact this
theorem WJ.fresh (t0 : Nat) (ht : t0 < 16) : WJ t0 1 (openJ 64 1 1 t0) (DSt.of (List.replicate 64 noughts)) [] 0 :=
  ⟨layL_64', by show (t0 : Int) = _; rw [Nat.mod_eq_of_lt ht], rfl, rfl, rfl, Nat.le_refl _, rfl, rfl, openJ_wf64 t0 (by omega), fresh_calm _, (WI.fresh (ep := 1) (by omega) ht).dwf, List.length_replicate, DSt.of_few _, by simp [usedP], fun i h => by simp at h, fun o h => by simp [ringB] at h⟩
/-- a group is appended, or nothing changes -/
theorem WJ.append {t0 sq : Nat} {j : JSt} {d : DSt} {ls : List (List PImg)} {k : Nat} (w : WJ t0 sq j d ls k) {l : List PImg} (hR : RightP 1 ((sq + ls.length : Nat) : Int) l) (held : Bool) (hh : held = true → (l.length : Int) + 1 ≤ j.h) :
    (WJ t0 sq (j.appendB d l held).1 (j.appendB d l held).2.1 (ls ++ [l]) (k + 16) ∧ (j.appendB d l held).2.2.1 = ((sq + ls.length : Nat) : Int) ∧ (j.appendB d l held).2.2.2 = 0 ∧ (held = false → (j.appendB d l held).1.h = j.h)) ∨
    (held = false ∧ (j.appendB d l held).1 = j ∧ (j.appendB d l held).2.1 = d ∧ (j.appendB d l held).2.2.2 ≠ 0) := by
  have hge := usedP_ge ls
  have hu := w.used
  have hll := hR.2.2.2.2.2.1
  have hR' : RightP j.epoch j.next l := by rw [w.epoch, w.next]; exact hR
  have hokd := w.room
  have hok := hokd
  unfold Ok at hok
  obtain ⟨kk, hkk⟩ : ∃ kk : Int, kk = (if held = true then (l.length : Int) + 1 else 0) := ⟨_, rfl⟩
  have hk0 : 0 ≤ kk ∧ kk ≤ (l.length : Int) + 1 ∧ kk ≤ j.h := by
    rw [hkk]
    split
    · rename_i h; have := hh h; omega
    · omega
  by_cases hf : 16 - (usedP ls : Int) - j.h < (l.length : Int) + 1 - kk
  · right
    have hheld : held = false := by
      cases held with
      | false => rfl
      | true => rw [if_pos rfl] at hkk; omega
    refine ⟨hheld, ?_⟩
    unfold JSt.appendB JSt.append
    rw [if_neg (by rw [w.broken]; simp), if_neg (by simpa using hR')]
    by_cases hs : j.s < (l.length : Int) + 1
    · rw [if_pos hs]; exact ⟨rfl, rfl, by simp⟩
    rw [if_neg hs]
    have hp : putS j.s j.t j.u j.h ((l.length : Int) + 1) (if held = true then (l.length : Int) + 1 else 0) = ((0, 0, 0, 0, 5), 0) := by
      rw [w.s, w.t, w.u, ← hkk]
      unfold putS
      rw [if_neg (by rintro (h | h | h | h | h); exact h hokd; omega; omega; omega; omega), if_pos (by omega)]
    rw [hp]
    exact ⟨rfl, rfl, by simp⟩
  · left
    have hp : putS j.s j.t j.u j.h ((l.length : Int) + 1) (if held = true then (l.length : Int) + 1 else 0) = ((j.s, ((t0 % 16 : Nat) : Int), ((usedP ls : Nat) : Int) + ((l.length : Int) + 1), j.h - kk, 0), (((t0 % 16 : Nat) : Int) + (usedP ls : Nat)) % 16) := by
      rw [w.s, w.t, w.u, ← hkk]
      unfold putS
      rw [if_neg (by rintro (h | h | h | h | h); exact h hokd; omega; omega; omega; omega), if_neg (by omega)]
    have hlen16 : j.s + 2 ≤ d.now.length := by rw [w.s, w.len]; decide
    have hs1 : (l.length : Int) + 1 ≤ j.s := by rw [w.s]; omega
    have hgl : j.groups.length = ls.length := by rw [w.groups, grL_length]
    obtain ⟨j', a, f1, f2, f3, f4, f5, f6, f7, f8, f9, f10, w'⟩ := JSt.append_next w.wf (by rw [hgl]; omega) w.broken hR' hs1 w.calm hlen16 hp
    rw [a]
    have hB := putP_len (e := j.epoch.toNat) (s := j.next.toNat) hll hR.lens
    have hff : (fun k : Nat => (2 : Int) + ((((t0 % 16 : Nat) : Int) + (usedP ls : Nat)) % 16 + k) % j.s) = fun k : Nat => ((2 + (t0 + usedP ls + k) % 16 : Nat) : Int) := by
      funext k
      rw [w.s]; omega
    have hfl : ∀ k : Nat, (0 : Int) ≤ ((2 + (t0 + usedP ls + k) % 16 : Nat) : Int) ∧ ((2 + (t0 + usedP ls + k) % 16 : Nat) : Int) < d.now.length := by
      intro k
      rw [w.len]; omega
    have hroom : usedP ls + (l.length + 1) ≤ 16 := by
      have := w'.ring
      unfold Ok at this
      rw [f2, w.s, f4] at this
      omega
    rw [hff]
    refine ⟨⟨by rw [f2, w.s], f3, by rw [f4, usedP_snoc]; omega, by rw [f6, w.epoch], by rw [f7, w.next, List.length_append]; show _ = (((sq + (ls.length + 1) : Nat)) : Int); omega, w.pos, by rw [f9, w.groups, w.next, grL_snoc], f10, w', wrD_calm _ _ _ _ w.calm, wrD_wf _ _ _ _ w.dwf w.calm hB hfl, by rw [wrD_len, w.len], ?_, by rw [usedP_snoc]; exact hroom, ?_, ?_⟩, w.next, rfl, fun h => by rw [f5, hkk, h]; simp⟩
    · have := wrD_few (fun k : Nat => ((2 + (t0 + usedP ls + k) % 16 : Nat) : Int)) (putP j.epoch.toNat j.next.toNat l) 0 d _ w.few
      rw [putP_length] at this
      exact this.mono (by omega)
    · intro i hi
      rw [List.getElem_append]
      split
      · rename_i h; exact w.right i h
      · rename_i h
        simp only [List.length_append, List.length_singleton] at hi
        obtain rfl : i = ls.length := by omega
        simpa using hR
    · intro o ho
      have hrl := ringB_length 1 ls sq
      have he1 : j.epoch.toNat = 1 := by rw [w.epoch]; rfl
      have he2 : j.next.toNat = sq + ls.length := by rw [w.next]; omega
      have hsn := ringB_snoc 1 ls sq l
      have hpl := putP_length 1 (sq + ls.length) l
      obtain ⟨B, hBe⟩ : ∃ B, B = putP 1 (sq + ls.length) l := ⟨_, rfl⟩
      rw [he1, he2]
      rw [← hBe] at hpl hsn ⊢
      have ho2 : o < usedP ls + B.length := by rw [hsn, List.length_append, hrl] at ho; exact ho
      have e0 : (ringB 1 sq (ls ++ [l]))[o]? = (ringB 1 sq ls ++ B)[o]? := by rw [hsn]
      rw [List.getElem?_eq_getElem ho] at e0
      unfold rbP
      rw [List.getD_eq_getElem?_getD]
      have inj : ∀ k, k < B.length → (2 + (t0 + usedP ls + k) % 16 = 2 + (t0 + o) % 16 ↔ usedP ls + k = o) := by
        intro k hk; omega
      by_cases hin : usedP ls ≤ o
      · have := wrD_hit (fun k => 2 + (t0 + usedP ls + k) % 16) (2 + (t0 + o) % 16) B 0 d (o - usedP ls) (by omega) (by have := (inj (o - usedP ls) (by omega)).2 (by omega); simpa using this)
          (fun k' h1 h2 h3 => by have := (inj k' h2).1 (by simpa using h3); omega) (by rw [w.len]; omega)
        rw [this]
        rw [List.getElem?_append_right (by omega), hrl, List.getElem?_eq_getElem (by omega)] at e0
        exact (Option.some.inj e0).symm
      · have := wrD_miss (fun k => 2 + (t0 + usedP ls + k) % 16) (2 + (t0 + o) % 16) B 0 d (fun k hk h3 => by have := (inj k hk).1 (by simpa using h3); omega)
        rw [this]
        rw [List.getElem?_append_left (by omega), List.getElem?_eq_getElem (by omega)] at e0
        have hw := w.ring o (by omega)
        unfold rbP at hw
        rw [List.getD_eq_getElem?_getD] at hw
        rw [hw]
        exact (Option.some.inj e0).symm
theorem WJ.flush {t0 sq : Nat} {j : JSt} {d : DSt} {ls : List (List PImg)} {k : Nat} (w : WJ t0 sq j d ls k) :
    WJ t0 sq (j.flush d).1 (j.flush d).2.1 ls k ∧ (j.flush d).2.2 = 0 ∧ (j.flush d).1.synced = j.next - 1 ∧ (j.flush d).1.h = j.h := by
  obtain ⟨j', a, f1, f2, f3, f4, f5, f6, f7, f8, f9, f10, w'⟩ := JSt.flush_next w.wf w.broken w.calm
  have hc := w.calm
  have hdw : (j.flush d).2.1.Wf := by
    have := w.dwf.flush
    unfold JSt.flush
    rw [if_neg (by rw [w.broken]; simp)]
    split <;> exact this
  rw [a] at hdw ⊢
  refine ⟨⟨by rw [f2, w.s], by rw [f3, w.t], by rw [f4, w.u], by rw [f6, w.epoch], by rw [f7, w.next], w.pos, by rw [f9, w.groups], f10, w', hc, hdw, w.len, ?_, w.used, w.right, w.ring⟩, rfl, f8, f5⟩
  obtain ⟨h1, h2, h3⟩ := w.few
  exact ⟨by simp, h2, h3⟩
theorem ringB_drop (ep : Nat) : ∀ (ls : List (List PImg)) (sq m : Nat), (ringB ep sq ls).drop (usedP (ls.take m)) = ringB ep (sq + m) (ls.drop m)
  | ls, sq, 0 => by simp [usedP]
  | [], sq, m + 1 => by simp [ringB, usedP]
  | l :: ls, sq, m + 1 => by
    have e : usedP ((l :: ls).take (m + 1)) = (putP ep sq l).length + usedP (ls.take m) := by rw [putP_length]; simp [usedP]
    rw [e, ringB, ← List.drop_drop, List.drop_left, ringB_drop ep ls (sq + 1) m, List.drop_succ_cons, show sq + 1 + m = sq + (m + 1) by omega]
theorem usedP_split (ls : List (List PImg)) (m : Nat) : usedP ls = usedP (ls.take m) + usedP (ls.drop m) := by
  unfold usedP
  rw [← List.sum_append, ← List.map_append, List.take_append_drop]
theorem rel_gr : ∀ (m : Nat) (ls : List (List PImg)) (sq t0 : Nat) (u h : Int), m < ls.length → (usedP ls : Int) = u → Ok 16 ((t0 % 16 : Nat) : Int) u h →
    relAll ((sq + m : Nat) : Int) (grL sq ls) 16 ((t0 % 16 : Nat) : Int) u h = (grL (sq + (m + 1)) (ls.drop (m + 1)), (16, (((t0 + usedP (ls.take (m + 1))) % 16 : Nat) : Int), ((usedP (ls.drop (m + 1)) : Nat) : Int), h, 0))
  | m, [], _, _, _, _, hm, _, _ => by simp at hm
  | m, l :: ls, sq, t0, u, h, hm, hu, hr => by
    have hul : usedP (l :: ls) = (l.length + 1) + usedP ls := by simp [usedP]
    have hr2 := hr
    unfold Ok at hr2
    rw [grL, relAll, if_pos (by show ((sq : Nat) : Int) ≤ _; omega)]
    have hd : dropS 16 ((t0 % 16 : Nat) : Int) u h ((l.length : Int) + 1) = (16, (((t0 + (l.length + 1)) % 16 : Nat) : Int), ((usedP ls : Nat) : Int), h, 0) := by
      unfold dropS
      rw [if_neg (by rintro (h | h | h); exact h hr; omega; omega)]
      congr 1
      congr 1
      · omega
      · congr 1; omega
    dsimp only
    rw [hd]
    dsimp only
    rw [if_pos rfl]
    cases m with
    | zero =>
      rw [show (l :: ls).take (0 + 1) = [l] by rfl, show (l :: ls).drop (0 + 1) = ls by rfl, show usedP [l] = l.length + 1 by simp [usedP]]
      cases ls with
      | nil => rfl
      | cons x ls =>
        rw [grL, relAll, if_neg (by show ¬ (((sq + 1 : Nat) : Int) ≤ ((sq + 0 : Nat) : Int)); omega)]
    | succ m =>
      have ih := rel_gr m ls (sq + 1) (t0 + (l.length + 1)) ((usedP ls : Nat) : Int) h (by simpa using hm) rfl (by unfold Ok; omega)
      rw [show sq + (m + 1) = sq + 1 + m by omega, ih]
      rw [show (l :: ls).take (m + 1 + 1) = l :: ls.take (m + 1) by rfl, show (l :: ls).drop (m + 1 + 1) = ls.drop (m + 1) by rfl, show usedP (l :: ls.take (m + 1)) = (l.length + 1) + usedP (ls.take (m + 1)) by simp [usedP], Nat.add_assoc t0]
      rw [show sq + 1 + (m + 1) = sq + 1 + m + 1 by omega, show sq + (m + 1 + 1) = sq + 1 + m + 1 by omega]
theorem WJ.release {t0 sq : Nat} {j : JSt} {d : DSt} {ls : List (List PImg)} {k : Nat} (w : WJ t0 sq j d ls k) (hsy : j.synced = j.next - 1) (m : Nat) (hm : m < ls.length) :
    WJ (t0 + usedP (ls.take (m + 1))) (sq + (m + 1)) (j.release ((sq + m : Nat) : Int)).1 d (ls.drop (m + 1)) k ∧ (j.release ((sq + m : Nat) : Int)).2 = 0 ∧ (j.release ((sq + m : Nat) : Int)).1.h = j.h := by
  have hu := w.used
  have hsp := usedP_split ls (m + 1)
  have hr : relAll ((sq + m : Nat) : Int) j.groups j.s j.t j.u j.h = (grL (sq + (m + 1)) (ls.drop (m + 1)), (16, (((t0 + usedP (ls.take (m + 1))) % 16 : Nat) : Int), ((usedP (ls.drop (m + 1)) : Nat) : Int), j.h, 0)) := by
    rw [w.groups, w.s, w.t, w.u]; exact rel_gr m ls sq t0 ((usedP ls : Nat) : Int) j.h hm rfl w.room
  obtain ⟨j', a, f1, f2, f3, f4, f5, f6, f7, f8, f9, f10, w'⟩ := JSt.release_next w.wf (seq := ((sq + m : Nat) : Int)) w.broken (by rw [hsy, w.next]; omega) hr
  rw [a]
  refine ⟨⟨by rw [f2], f3, f4, by rw [f6, w.epoch], ?_, by have := w.pos; omega, f9, f10, w', w.calm, w.dwf, w.len, w.few, by omega, ?_, ?_⟩, rfl, f5⟩
  · rw [f7, w.next, List.length_drop]; omega
  · intro i hi
    rw [List.getElem_drop]
    have := w.right (m + 1 + i) (by rw [List.length_drop] at hi; omega)
    rwa [show sq + (m + 1 + i) = sq + (m + 1) + i by omega] at this
  · intro o ho
    have e := ringB_drop 1 ls sq (m + 1)
    have ho2 : usedP (ls.take (m + 1)) + o < (ringB 1 sq ls).length := by rw [← e, List.length_drop] at ho; omega
    have hw := w.ring _ ho2
    have e1 : (ringB 1 (sq + (m + 1)) (ls.drop (m + 1)))[o]? = ((ringB 1 sq ls).drop (usedP (ls.take (m + 1))))[o]? := by rw [e]
    rw [List.getElem?_eq_getElem ho, List.getElem?_drop, List.getElem?_eq_getElem ho2] at e1
    rw [Nat.add_assoc, hw]
    exact (Option.some.inj e1).symm
theorem WJ.turn {t0 sq : Nat} {j : JSt} {d : DSt} {ls : List (List PImg)} {k : Nat} (w : WJ t0 sq j d ls k) (h : Int) (hh : 0 ≤ h ∧ (usedP ls : Int) + h ≤ 16) : WJ t0 sq { j with h := h } d ls k := by
  refine ⟨w.s, w.t, w.u, w.epoch, w.next, w.pos, w.groups, w.broken, ⟨w.wf.log, ?_, w.wf.epoch, w.wf.next, w.wf.synced, w.wf.few, w.wf.groups⟩, w.calm, w.dwf, w.len, w.few, w.used, w.right, w.ring⟩
  have := w.wf.ring
  unfold Ok at this ⊢
  show 1 ≤ j.s ∧ j.s ≤ 512 ∧ 0 ≤ j.t ∧ j.t < j.s ∧ 0 ≤ j.u ∧ 0 ≤ h ∧ j.u + h ≤ j.s
  rw [w.s, w.u] at this ⊢
  omega
end Go.Proofs.YtegdcjnjnoeinaaGreat
namespace Go.Proofs.YtegdcjnjnoeinaaGreat
open Go.RowKit Go.Sl
set_option maxRecDepth 20000

theorem WJ.blk {t0 sq : Nat} {j : JSt} {d : DSt} {ls : List (List PImg)} {k : Nat} (w : WJ t0 sq j d ls k) (i : Nat) (hi : i < ls.length) (b : Nat) (hb : b < (putP 1 (sq + i) ls[i]).length) :
    d.now.getD (2 + ((t0 + usedP (ls.take i)) % 16 + b) % 16) [] = (putP 1 (sq + i) ls[i])[b] := by
  have e := ringB_drop 1 ls sq i
  rw [List.drop_eq_getElem_cons hi, ringB] at e
  have e1 : (ringB 1 sq ls)[usedP (ls.take i) + b]? = some (putP 1 (sq + i) ls[i])[b] := by
    rw [← List.getElem?_drop, e, List.getElem?_append_left hb, List.getElem?_eq_getElem hb]
  obtain ⟨h1, h2⟩ := List.getElem?_eq_some_iff.1 e1
  have := w.ring _ h1
  unfold rbP at this
  rw [h2] at this
  rw [← this, show 2 + ((t0 + usedP (ls.take i)) % 16 + b) % 16 = 2 + (t0 + (usedP (ls.take i) + b)) % 16 by omega]
structure LineOk (J : Imm) (t0 sq : Nat) (l : List Grp) (ls : List (List PImg)) : Prop where
  pr : l.map (fun g => g.gs.map Img.pr) = ls
  each : ∀ (i : Nat) (g : Grp), l[i]? = some g → g.e = ((sq + i : Nat) : Int) ∧ g.s = (((t0 + usedP (ls.take i)) % 16 : Nat) : Int) ∧ ImgsOk J g.a g.gs
theorem LineOk.mono {I J : Imm} {t0 sq : Nat} {l : List Grp} {ls : List (List PImg)} (h : LineOk I t0 sq l ls) (hJ : I.le J) : LineOk J t0 sq l ls :=
  ⟨h.pr, fun i g hg => ⟨(h.each i g hg).1, (h.each i g hg).2.1, (h.each i g hg).2.2.mono hJ⟩⟩
theorem LineOk.len {J : Imm} {t0 sq : Nat} {l : List Grp} {ls : List (List PImg)} (h : LineOk J t0 sq l ls) : l.length = ls.length := by rw [← h.pr, List.length_map]
theorem LineOk.nil (J : Imm) (t0 sq : Nat) : LineOk J t0 sq [] [] := ⟨rfl, fun i g h => by simp at h⟩
theorem LineOk.snoc {J : Imm} {t0 sq : Nat} {l : List Grp} {ls : List (List PImg)} (h : LineOk J t0 sq l ls) {g : Grp} (h1 : g.e = ((sq + ls.length : Nat) : Int)) (h2 : g.s = (((t0 + usedP ls) % 16 : Nat) : Int)) (h3 : ImgsOk J g.a g.gs) : LineOk J t0 sq (l ++ [g]) (ls ++ [g.gs.map Img.pr]) := by
  have hl := h.len
  refine ⟨by rw [List.map_append, h.pr]; rfl, fun i x hx => ?_⟩
  rcases Nat.lt_or_ge i l.length with c | c
  · rw [List.getElem?_append_left c] at hx
    rw [List.take_append_of_le_length (by omega)]
    exact h.each i x hx
  · rw [List.getElem?_append_right c] at hx
    obtain ⟨q1, q2⟩ := List.getElem?_eq_some_iff.1 hx
    simp at q1
    obtain rfl : i = ls.length := by omega
    have : x = g := by simpa using q2.symm
    subst this
    rw [List.take_append_of_le_length (by omega), List.take_length]
    exact ⟨h1, h2, h3⟩
theorem LineOk.drop {J : Imm} {t0 sq : Nat} {l : List Grp} {ls : List (List PImg)} (h : LineOk J t0 sq l ls) (m : Nat) : LineOk J (t0 + usedP (ls.take m)) (sq + m) (l.drop m) (ls.drop m) := by
  refine ⟨by rw [List.map_drop, h.pr], fun i x hx => ?_⟩
  rw [List.getElem?_drop] at hx
  obtain ⟨q1, q2, q3⟩ := h.each _ _ hx
  refine ⟨by rw [q1]; omega, ?_, q3⟩
  rw [q2]
  have e : usedP (ls.take (m + i)) = usedP (ls.take m) + usedP ((ls.drop m).take i) := by
    rw [List.take_add]
    simp [usedP]
  rw [e, Nat.add_assoc]
theorem dk_ReadK {I : Imm} {bD : Nat} {st : DSt} {ch : List Blk} (h : Dk I bD st ch) (hdn : st.down = false) (k : Nat) (hk : k < st.now.length) :
    Tri Tryz.prog 39 #[.pointer (some ⟨bD, 0, none⟩), .int .i64 k] I [ch] fun v J S' => ∃ bk : Bk, v = .tuple #[bk.cell, .int .i64 0] ∧ bk.data = st.now.getD k [] ∧ BkOk J bk ∧ 4096 ≤ bk.cap ∧ Dk J bD st ch ∧ S' = [ch] := by
  have hb4 : (st.now.getD k []).length = 4096 := by
    rw [List.getD_eq_getElem?_getD, List.getElem?_eq_getElem hk]
    exact h.wf.now _ (List.getElem_mem _)
  have hr := dk_Read h (k : Int)
  rw [read_up h.wf hdn hk] at hr
  refine Tri.drop (Tri.fixed hr (K := fun v J S' => ∃ bk : Bk, v = .tuple #[bk.cell, .int .i64 0] ∧ bk.data = st.now.getD k [] ∧ BkOk J bk ∧ 4096 ≤ bk.cap ∧ Dk J bD st ch ∧ S' = [ch, []]) ?_) ?_
  · rintro v J S' hJ ⟨a, cap, chB, rfl, hB, rfl, rfl⟩
    dsimp only at hB ⊢
    rw [hb4] at hB
    refine ⟨1, chB, rfl, fun J' hJ' hm => ⟨⟨a, cap, st.now.getD k []⟩, by rw [hb4], rfl, Rds.of_own hB hm, hB.le, h.mono hJ', rfl⟩⟩
  · rintro v J S' hJ ⟨bk, h1, h2, h3, h4, h5, rfl⟩
    exact ⟨[ch], Drop.pick [0] _ rfl, bk, h1, h2, h3, h4, h5, rfl⟩
end Go.Proofs.YtegdcjnjnoeinaaGreat
namespace Go.Proofs.YtegdcjnjnoeinaaGreat
open Go.RowKit Go.Sl
set_option maxRecDepth 20000

theorem dk_ReadDown {I : Imm} {bD : Nat} {st : DSt} {ch : List Blk} (h : Dk I bD st ch) (hdn : st.down = true) (k : Nat) (hk : k < st.now.length) :
    Tri Tryz.prog 39 #[.pointer (some ⟨bD, 0, none⟩), .int .i64 k] I [ch] fun v J S' => ∃ a cap, v = .tuple #[.slice a 0 cap, .int .i64 6] ∧ I = J ∧ S' = [ch] := by
  have hr := dk_Read h (k : Int)
  rw [read_down h.wf hdn hk] at hr
  refine Tri.drop hr ?_
  rintro v J S' hJ ⟨a, cap, chB, rfl, hB, rfl, rfl⟩
  exact ⟨[ch], Drop.pick [0] _ rfl, a, cap, rfl, rfl, rfl⟩
theorem v_found {I : Imm} {bD : Nat} {d : DSt} {chD : List Blk} (hD : Dk I bD d chD) (hlen : 64 ≤ d.now.length) :
    Tri Tryz.prog 106 #[.pointer (some ⟨bD, 0, none⟩), (layOf d.now.length).v] I [chD] fun r J S' => r = .tuple #[(foundP d).1.v, .int .i64 (foundP d).2.1, .int .i64 (foundP d).2.2] ∧ Dk J bD d chD ∧ S' = [chD] := by
  have hr := hD.wf.range
  refine Tri.drop ?_ (fun _ _ _ _ h => h)
  refine Tri.of (args := [.pointer (some ⟨bD, 0, none⟩), (layOf d.now.length).v]) tabOk Tryz.func106 rfl (by kernel_rfl) (by kernel_rfl) ?_
  conv => whnf
  intro b3
  conv => whnf
  intro b4
  unfold foundP
  by_cases hdn : d.down = true
  · rw [if_pos hdn]
    refine Tri.frame1 0 rfl (dk_ReadDown hD hdn 0 (by omega)) ?_
    rintro r _ A' hJ ⟨a, cap, rfl, rfl, rfl⟩
    refine ⟨_, rfl, ?_⟩
    repeat (first | refine LoadD.own 2 rfl _ rfl rfl ?_ | refine StoreD.st 2 rfl rfl rfl ?_ | refine CmpD.no (by decide) ?_)
    exact Done.mk ⟨_, Drop.pick [0] _ rfl, rfl, hD, rfl⟩
  rw [if_neg hdn]
  have hdn : d.down = false := by simpa using hdn
  refine Tri.frame1 0 rfl (dk_ReadK hD hdn 0 (by omega)) ?_
  rintro r J1 A' hJ1 ⟨bk0, rfl, hd0, hk0, hc0, hD1, rfl⟩
  refine ⟨_, rfl, ?_⟩
  repeat (first | refine CmpD.yes rfl ?_)
  refine Tri.frame1 0 rfl (dk_ReadK hD1 hdn 1 (by omega)) ?_
  rintro r J2 A' hJ2 ⟨bk1, rfl, hd1, hk1, hc1, hD2, rfl⟩
  refine ⟨_, rfl, ?_⟩
  repeat (first | refine CmpD.yes rfl ?_)
  refine Tri.free (replay_Choose (hk0.mono hJ2) hk1 (by omega) (by omega)) ?_
  rintro r _ _ hJ3 ⟨rfl, rfl⟩
  rw [hd0, hd1]
  generalize chooseP (getS (d.now.getD 0 [])) (getS (d.now.getD 1 [])) = cp
  obtain ⟨⟨s1, s2, s3, s4⟩, slot, ok⟩ := cp
  dsimp only
  conv => whnf
  intro b10
  repeat (first | refine StoreD.st 3 rfl rfl rfl ?_)
  refine CodeF.sched [[], [0], [0, 1], [0, 1, 2], [0, 1, 2, 3], [0, 1, 2], [0, 1, 2, 5], [0, 1, 2, 3, 4, 5, 6], [0, 1, 2, 3, 4, 5, 6, 7], [0, 1, 2, 3, 4, 5, 6, 7, 8], [0, 1, 2, 3, 4, 5, 6, 7, 8, 9], [0, 1, 2, 3, 4, 5, 6, 7, 8, 9, 10], [0, 1, 2, 3, 4, 5, 6, 7, 8, 9], [0, 1, 2, 3, 4, 5, 6, 7, 8, 9, 12], [0, 1, 2, 3, 4, 5, 6, 7, 8, 9, 10, 11, 12, 13], [0, 1, 2, 3, 4, 5, 6, 7, 8, 9, 10, 11, 12, 13, 14], [0, 1, 2, 3, 4, 5, 6, 7, 8, 9, 10, 11, 12, 13, 14, 15], [0, 1, 2, 3, 4, 5, 6, 7, 8, 9, 10, 11, 12, 13, 14, 15, 16], [0, 1, 2, 3, 4, 5, 6, 7, 8, 9, 10, 11, 12, 13, 14, 15, 16, 17], [0, 1, 2, 3, 4, 5, 6, 7, 8, 9, 10, 11, 12, 13, 14, 15, 16, 17, 18], [0, 1, 2, 3, 4, 5, 6, 7, 8, 9, 10, 11, 12, 13, 14, 15, 16, 17, 18, 19]] [0, 1, 2, 3, 4, 5, 6, 7, 8, 9, 10, 11, 12, 13, 14, 15, 16, 17, 18, 19, 20] (by kernel_rfl) ?_
  have hl7 : (layOf (d.now.length : Int)).lb = layL d.now.length := rfl
  cases ok
  · rw [if_pos (.inl rfl)]
    repeat (first | refine LoadD.own 2 rfl _ rfl rfl ?_ | refine StoreD.st 2 rfl rfl rfl ?_)
    exact Done.mk ⟨_, Drop.pick [0] _ rfl, rfl, hD2, rfl⟩
  repeat (first | refine LoadP.at 3 rfl _ rfl rfl ?_)
  refine Tri.frame1 0 rfl (dk_Size hD2) ?_
  rintro r _ A' hJ4 ⟨rfl, rfl, rfl⟩
  refine ⟨_, rfl, ?_⟩
  repeat (first | refine Chk.mk ⟨rfl, trivial⟩ ?_)
  refine CmpD.split (fun (c1 : s1 = (d.now.length : Int)) => ?_) (fun (c1 : ¬ s1 = (d.now.length : Int)) => ?_)
  rotate_left
  · rw [if_pos (.inr (.inl c1))]
    repeat (first | refine LoadD.own 2 rfl _ rfl rfl ?_ | refine StoreD.st 2 rfl rfl rfl ?_)
    exact Done.mk ⟨_, Drop.pick [0] _ rfl, rfl, hD2, rfl⟩
  repeat (first | refine LoadP.at 1 rfl _ rfl rfl ?_ | refine LoadP.at 3 rfl _ rfl rfl ?_)
  refine CmpD.split (fun (c2 : layL d.now.length ≤ s4) => ?_) (fun (c2 : ¬ layL d.now.length ≤ s4) => ?_)
  · rw [if_pos (.inr (.inr (.inl c2)))]
    repeat (first | refine LoadD.own 2 rfl _ rfl rfl ?_ | refine StoreD.st 2 rfl rfl rfl ?_)
    exact Done.mk ⟨_, Drop.pick [0] _ rfl, rfl, hD2, rfl⟩
  repeat (first | refine LoadP.at 3 rfl _ rfl rfl ?_)
  refine CmpD.split (fun (c3 : 8388608 ≤ s2) => ?_) (fun (c3 : ¬ 8388608 ≤ s2) => ?_)
  · rw [if_pos (.inr (.inr (.inr c3)))]
    repeat (first | refine LoadD.own 2 rfl _ rfl rfl ?_ | refine StoreD.st 2 rfl rfl rfl ?_)
    exact Done.mk ⟨_, Drop.pick [0] _ rfl, rfl, hD2, rfl⟩
  rw [if_neg (by rintro (h | h | h | h); exact Bool.noConfusion h; exact h c1; exact c2 h; exact c3 h)]
  repeat (first | refine LoadD.own 2 rfl _ rfl rfl ?_ | refine LoadD.own 3 rfl _ rfl rfl ?_ | refine StoreD.st 2 rfl rfl rfl ?_)
  exact Done.mk ⟨_, Drop.pick [0] _ rfl, rfl, hD2, rfl⟩
end Go.Proofs.YtegdcjnjnoeinaaGreat
namespace Go.Proofs.YtegdcjnjnoeinaaGreat
open Go.RowKit Go.Sl
set_option maxRecDepth 20000

end Go.Proofs.YtegdcjnjnoeinaaGreat
namespace Go.Proofs.YtegdcjnjnoeinaaGreat
open Go.RowKit Go.Sl
set_option maxRecDepth 20000

end Go.Proofs.YtegdcjnjnoeinaaGreat
namespace Go.Proofs.YtegdcjnjnoeinaaGreat
open Go.RowKit Go.Sl
set_option maxRecDepth 20000

end Go.Proofs.YtegdcjnjnoeinaaGreat
namespace Go.Proofs.YtegdcjnjnoeinaaGreat
open Go.RowKit Go.Sl
set_option maxRecDepth 20000

theorem ImgsR.imm {I J : Imm} {S : St} {a : Option Addr} {gs : List Img} (h : ImgsR I S a gs) (hJ : I.le J) : ImgsR J S a gs := ⟨h.sl.imm hJ, fun g hg => ⟨(h.each g hg).rd.imm hJ⟩⟩
theorem ImgsR.mores {I : Imm} {S : St} {a : Option Addr} {gs : List Img} (h : ImgsR I S a gs) (L : St) : ImgsR I (S ++ L) a gs := ⟨h.sl.mores L, fun g hg => ⟨(h.each g hg).rd.mores L⟩⟩
def BkIn (ch : List Blk) (b : Bk) : Prop := ∃ bz pre post T, b.a = some ⟨bz, pre.length, none⟩ ∧ (bz, row (pre ++ bts b.data ++ post) T) ∈ ch ∧ b.data.length = 4096
theorem BkIn.ok {ch : List Blk} {b : Bk} (h : BkIn ch b) {J : Imm} (hm : ∀ x ∈ ch, J x.1 = some x.2) : BkOk J b := by
  obtain ⟨bz, pre, post, T, ha, hx, hl⟩ := h
  have hl' : (bts b.data).length = 4096 := by rw [bts_length, hl]
  refine ⟨hl', .inr ⟨bz, pre.length, _, T, (0, 0), ha, hm _ hx, ?_⟩⟩
  rw [List.append_assoc, List.drop_left, ← hl', List.take_left]
theorem BkIn.of {ch : List Blk} {a : Option Addr} {cap : Nat} {l : Dat} (h : OwnB ch a 4096 cap l) : BkIn ch ⟨a, cap, l⟩ := by
  have hl : l.length = 4096 := by have := h.n; rw [bts_length] at this; omega
  rcases h.at' with q0 | ⟨b6, pre, post, T6, h1, h2, _⟩
  · have := h.le; omega
  · exact ⟨b6, pre, post, T6, h1, by rw [h2]; simp, hl⟩
theorem BkIn.more {ch : List Blk} {b : Bk} (h : BkIn ch b) (c2 : List Blk) : BkIn (ch ++ c2) b := by
  obtain ⟨bz, pre, post, T, ha, hx, hl⟩ := h
  exact ⟨bz, pre, post, T, ha, List.mem_append_left _ hx, hl⟩
end Go.Proofs.YtegdcjnjnoeinaaGreat
namespace Go.Proofs.YtegdcjnjnoeinaaGreat
open Go.RowKit Go.Sl
set_option maxRecDepth 20000

/-- an image whose data lies in a block of its own -/
structure DI where
  blk : Int
  b : Nat
  data : Dat
end Go.Proofs.YtegdcjnjnoeinaaGreat
namespace Go.Proofs.YtegdcjnjnoeinaaGreat
open Go.RowKit Go.Sl
set_option maxRecDepth 20000

end Go.Proofs.YtegdcjnjnoeinaaGreat
namespace Go.Proofs.YtegdcjnjnoeinaaGreat
open Go.RowKit Go.Sl
set_option maxRecDepth 20000

end Go.Proofs.YtegdcjnjnoeinaaGreat
namespace Go.Proofs.YtegdcjnjnoeinaaGreat
open Go.RowKit Go.Sl
set_option maxRecDepth 20000

end Go.Proofs.YtegdcjnjnoeinaaGreat
namespace Go.Proofs.YtegdcjnjnoeinaaGreat
open Go.RowKit Go.Sl
set_option maxRecDepth 20000

structure ImsAt (J : Imm) (aS : Option Addr) (ms : List Ims) (all : List (List PImg)) : Prop where
  rd : Rds J aS ms.length (ms.map Ims.cell)
  each : ∀ m ∈ ms, ImgsOk J m.a m.gs
  pr : ms.map Ims.pr = all
theorem ImsAt.mono {I J : Imm} {aS : Option Addr} {ms : List Ims} {all : List (List PImg)} (h : ImsAt I aS ms all) (hJ : I.le J) : ImsAt J aS ms all := ⟨h.rd.mono hJ, fun m hm => (h.each m hm).mono hJ, h.pr⟩
end Go.Proofs.YtegdcjnjnoeinaaGreat
namespace Go.Proofs.YtegdcjnjnoeinaaGreat
open Go.RowKit Go.Sl
set_option maxRecDepth 20000

end Go.Proofs.YtegdcjnjnoeinaaGreat
namespace Go.Proofs.YtegdcjnjnoeinaaGreat
open Go.RowKit Go.Sl
set_option maxRecDepth 20000

/-- bytes, as they lie -/
structure Bs where
  a : Option Addr
  len : Nat
  cap : Nat
  data : Dat
@[reducible] def Bs.cell (b : Bs) : Value := .slice b.a b.len b.cap
theorem GrpsOk.at' {J : Imm} {gl : List Grp} {L : List G3} (h : GrpsOk J gl L) (i : Nat) (hi : i < gl.length) : ∃ hl : i < L.length, gl[i].e = (L[i].1 : Int) ∧ gl[i].s = (L[i].2.1 : Int) ∧ gl[i].gs.map Img.pr = L[i].2.2 := by
  have hl : i < L.length := by rw [← h.len]; exact hi
  refine ⟨hl, ?_⟩
  have h3 := h.g3
  have : (gl.map Grp.g3)[i]'(by rw [List.length_map]; exact hi) = (L.map up3)[i]'(by rw [List.length_map]; exact hl) := by simp only [h3]
  rw [List.getElem_map, List.getElem_map] at this
  unfold Grp.g3 up3 at this
  simp only [Prod.mk.injEq] at this
  exact this
end Go.Proofs.YtegdcjnjnoeinaaGreat
namespace Go.Proofs.YtegdcjnjnoeinaaGreat
open Go.RowKit Go.Sl
set_option maxRecDepth 20000

end Go.Proofs.YtegdcjnjnoeinaaGreat
namespace Go.Proofs.YtegdcjnjnoeinaaGreat
open Go.RowKit Go.Sl
set_option maxRecDepth 20000

theorem scanL64 {d : DSt} (hlen : d.now.length = 64) (s : Sup) : scanL d s = scanK (rbP d 2 16) s.epoch 17 s.tail.toNat s.seq 16 := by
  unfold scanL
  rw [hlen]
  show scanK (rbP d 2 (layL (64 : Int)).toNat) s.epoch ((layL (64 : Int)).toNat + 1) s.tail.toNat s.seq (layL (64 : Int)).toNat = _
  rw [layL64]; rfl
@[reducible] def nA : List PImg := im9 1 0
@[reducible] def nB : List PImg := im9 2 1
theorem nA_right : RightP ((1 : Nat) : Int) ((1 : Nat) : Int) nA := im9_right (by decide) (by decide) 1 (by decide) 0
theorem nB_right : RightP ((1 : Nat) : Int) ((2 : Nat) : Int) nB := im9_right (by decide) (by decide) 2 (by decide) 1
theorem nA_len : nA.length = 1 := im9_length _ _
structure Two (rb : Nat → Dat) : Prop where
  a : ∀ (k : Nat) (h : k < (putP 1 1 nA).length), rb (14 + k) = (putP 1 1 nA)[k]
  b : ∀ (k : Nat) (h : k < (putP 1 2 nB).length), rb (0 + k) = (putP 1 2 nB)[k]
  n : rb 3 = noughts
theorem usedB : usedP [nB] = 3 := by simp [usedP, im9_length]
theorem Two.grpA {rb : Nat → Dat} (h : Two rb) : grpP rb 14 16 = some (1, 1, nA) := grpP_put nA_right (by rw [nA_len]; omega) h.a
theorem Two.m {d : DSt} (h : Two (rbP d 2 16)) (hlen : d.now.length = 64) : scanL d ⟨64, 1, 2, 0⟩ = [(1, 2, nB)] := by
  rw [scanL64 hlen]
  show scanK (rbP d 2 16) ((1 : Nat) : Int) 17 0 ((2 : Nat) : Int) 16 = _
  have e : ringB 1 2 [nB] = putP 1 2 nB := by simp [ringB]
  rw [scan_prefix (rbP d 2 16) 1 [nB] 17 0 2 16 (fun i hi => by
      have : i = 0 := by simpa using hi
      subst this; exact nB_right) (by rw [usedB]; omega) (by simp) (fun k hk => by
      have := h.b k (by rw [← e]; exact hk)
      rw [this]; simp only [e])]
  rw [scan_stop, List.append_nil]; · rfl
  intro e s l hg
  rw [usedB, grpP_none (by rw [show 0 + 3 = 3 from rfl, h.n]; exact hd_noughts)] at hg
  cases hg
theorem Two.no {d : DSt} (h : Two (rbP d 2 16)) (hlen : d.now.length = 64) : scanL d ⟨64, 1, 2, 14⟩ = [] := by
  rw [scanL64 hlen]
  refine scan_stop fun e s l hg h' => ?_
  have hg : grpP (rbP d 2 16) 14 16 = some (e, s, l) := hg
  rw [h.grpA] at hg
  cases hg
  have : ((1 : Nat) : Int) = 2 := h'.2
  omega
end Go.Proofs.YtegdcjnjnoeinaaGreat
namespace Go.Proofs.YtegdcjnjnoeinaaGreat
open Go.RowKit Go.Sl
set_option maxRecDepth 20000

def put5 (l m : Dat) (i : Nat) : Dat := l.take (i * 512) ++ m ++ l.drop (i * 512 + 512)
def tornK (old new : Dat) (sec : Nat) : Nat → Dat
  | 0 => old
  | k + 1 => if sec / 2 ^ k % 2 = 1 then put5 (tornK old new sec k) ((new.drop (k * 512)).take 512) k else tornK old new sec k
attribute [irreducible] tornK
end Go.Proofs.YtegdcjnjnoeinaaGreat
namespace Go.Proofs.YtegdcjnjnoeinaaGreat
open Go.RowKit Go.Sl
set_option maxRecDepth 20000

end Go.Proofs.YtegdcjnjnoeinaaGreat
namespace Go.Proofs.YtegdcjnjnoeinaaGreat
open Go.RowKit Go.Sl
set_option maxRecDepth 20000

end Go.Proofs.YtegdcjnjnoeinaaGreat
namespace Go.Proofs.YtegdcjnjnoeinaaGreat
open Go.RowKit Go.Sl
set_option maxRecDepth 20000

def supA : Dat := supL (superOf 1 7)
def supB : Dat := supL (superOf 2 9)
/-- blocks that may lie behind any cut -/
structure PB (K : List Int) (l : List Dat) : Prop where
  len : l.length = 64
  z : l[0]? = some supA
  o : l[1]? = some noughts ∨ l[1]? = some supB
  r : ∀ n : Nat, 2 ≤ n → n < 64 → (n : Int) ∉ K → l[n]? = some noughts
def WB (K : List Int) (ws : List (Int × Dat)) : Prop := ∀ w ∈ ws, (w.1 ∈ K ∧ 2 ≤ w.1) ∨ w = (1, supB)
structure QB (K : List Int) (d : DSt) : Prop where
  safe : PB K d.safe
  now : PB K d.now
  ws : WB K d.writes
theorem PB.set {K : List Int} {l : List Dat} (h : PB K l) {n : Int} (hn : n ∈ K ∧ 2 ≤ n) (b : Dat) : PB K (l.set n.toNat b) := by
  refine ⟨by rw [List.length_set]; exact h.len, by rw [List.getElem?_set_ne (by omega)]; exact h.z, ?_, fun m h1 h2 h3 => ?_⟩
  · rw [List.getElem?_set_ne (by omega)]; exact h.o
  · have : n.toNat ≠ m := by
      intro e
      apply h3
      rw [show ((m : Nat) : Int) = n by omega]; exact hn.1
    rw [List.getElem?_set_ne this]; exact h.r m h1 h2 h3
theorem PB.set1 {K : List Int} {l : List Dat} (h : PB K l) {b : Dat} (hb : b = noughts ∨ b = supB) : PB K (l.set 1 b) := by
  have hl := h.len
  refine ⟨by rw [List.length_set]; exact h.len, by rw [List.getElem?_set_ne (by omega)]; exact h.z, ?_, fun m h1 h2 h3 => ?_⟩
  · rw [List.getElem?_set_self (by omega)]
    rcases hb with rfl | rfl
    · exact .inl rfl
    · exact .inr rfl
  · rw [List.getElem?_set_ne (by omega)]; exact h.r m h1 h2 h3
theorem PB.wr {K : List Int} {l : List Dat} (h : PB K l) {n : Int} {b : Dat} (hw : (n ∈ K ∧ 2 ≤ n) ∨ (n, b) = (1, supB)) : PB K (l.set n.toNat b) := by
  rcases hw with hw | hw
  · exact h.set hw b
  · cases hw
    exact h.set1 (.inr rfl)
theorem QB.stop {K : List Int} {d : DSt} (h : QB K d) : QB K d.stop.1 := by
  obtain ⟨e1, e2, e3, _⟩ := d.stop_same
  exact ⟨by rw [e1]; exact h.safe, by rw [e2]; exact h.now, by rw [e3]; exact h.ws⟩
theorem QB.write {K : List Int} {d : DSt} (h : QB K d) {n : Int} {b : Dat} (hw : (n ∈ K ∧ 2 ≤ n) ∨ (n, b) = (1, supB)) : QB K (d.write n b).1 := by
  unfold DSt.write
  split
  · exact h
  split
  · exact h
  split
  · exact h.stop
  obtain ⟨e1, _, _, _⟩ := d.stop_same
  refine ⟨by show PB K d.stop.1.safe; rw [e1]; exact h.safe, h.now.wr hw, ?_⟩
  intro w hm
  have hm : w ∈ d.writes ++ [(n, b)] := hm
  rcases List.mem_append.1 hm with hm | hm
  · exact h.ws w hm
  · simp only [List.mem_singleton] at hm
    subst hm; exact hw
theorem QB.flush {K : List Int} {d : DSt} (h : QB K d) : QB K d.flush.1 := by
  unfold DSt.flush
  split
  · exact h.stop
  obtain ⟨_, e2, _, _⟩ := d.stop_same
  exact ⟨h.now, by show PB K d.stop.1.now; rw [e2]; exact h.now, fun w hm => (List.not_mem_nil hm).elim⟩
theorem QB.imgs {K : List Int} : ∀ (l : List PImg) (d : DSt), QB K d → (∀ g ∈ l, g.1 ∈ K ∧ 2 ≤ g.1) → QB K (wrImgs l d).1
  | [], _, h, _ => h
  | g :: l, d, h, hl => by
    have h1 := h.write (b := g.2) (.inl (hl g (by simp)))
    rw [wrImgs]
    split
    · exact h1
    · exact QB.imgs l _ h1 fun x hx => hl x (by simp [hx])
theorem QB.last {K : List Int} {d : DSt} (h : QB K d) : QB K (lastWr d 1 (superOf 2 9)).1 := by
  have h1 := h.write (n := 1) (b := supB) (.inr rfl)
  unfold lastWr
  split
  · exact h1
  · exact h1.flush
theorem QB.doP {K : List Int} {d : DSt} (h : QB K d) {l : List PImg} (hl : ∀ g ∈ l, g.1 ∈ K ∧ 2 ≤ g.1) : QB K (doP d l (superOf 2 9) 1).1 := by
  have h1 := QB.imgs l d h hl
  unfold Go.Proofs.YtegdcjnjnoeinaaGreat.doP
  split
  · exact h
  split
  · exact h1
  split
  · exact h1.flush
  · exact h1.flush.last
/-! ### the last time, with nothing in the way -/
def wrC : List PImg → DSt → DSt
  | [], d => d
  | g :: l, d => wrC l (d.put g.1 g.2)
theorem wrC_imgs : ∀ (l : List PImg) (d : DSt), d.Calm → DoOk d l → wrImgs l d = (wrC l d, 0)
  | [], _, _, _ => rfl
  | g :: l, d, hc, h => by
    obtain ⟨h1, h2, h3⟩ := h g (by simp)
    rw [wrImgs, DSt.write_calm hc ⟨by omega, h2⟩ h3, wrC]
    simp only [ne_eq, not_true_eq_false, if_false]
    exact wrC_imgs l _ (hc.put _ _) fun x hx => by
      have := h x (by simp [hx])
      rw [DSt.put_len]; exact this
theorem wrC_calm : ∀ (l : List PImg) (d : DSt), d.Calm → (wrC l d).Calm
  | [], _, h => h
  | _ :: l, _, h => wrC_calm l _ (h.put _ _)
theorem wrC_now : ∀ (l : List PImg) (d : DSt), (∀ g ∈ l, 2 ≤ g.1) → (∀ g ∈ l, g.1 < d.now.length) → (wrC l d).now.length = d.now.length ∧ ∀ n : Nat, n < d.now.length → (wrC l d).now[n]? = match lastD l n with
    | some x => some x
    | none => d.now[n]? := by
  intro l
  refine snoc_ind (p := fun l : List PImg => ∀ d : DSt, (∀ g ∈ l, 2 ≤ g.1) → (∀ g ∈ l, g.1 < (d.now.length : Int)) → (wrC l d).now.length = d.now.length ∧ ∀ n : Nat, n < d.now.length → (wrC l d).now[n]? = match lastD l n with
    | some x => some x
    | none => d.now[n]?) ?_ ?_ l
  · intro d _ _; exact ⟨rfl, fun n _ => rfl⟩
  · intro l g ih d h2 h3
    have e : ∀ (l : List PImg) (d : DSt), wrC (l ++ [g]) d = (wrC l d).put g.1 g.2 := by
      intro l
      induction l with
      | nil => intro d; rfl
      | cons x l ih2 => intro d; exact ih2 _
    obtain ⟨q1, q2⟩ := ih d (fun x hx => h2 x (by simp [hx])) (fun x hx => h3 x (by simp [hx]))
    rw [e]
    refine ⟨by rw [DSt.put_len]; exact q1, fun n hn => ?_⟩
    have hg2 := h2 g (by simp)
    have hg3 := h3 g (by simp)
    rw [lastD_snoc]
    show ((wrC l d).now.set g.1.toNat g.2)[n]? = _
    by_cases hgn : g.1 = n
    · rw [if_pos hgn, show g.1.toNat = n by omega, List.getElem?_set_self (by omega)]
    · rw [if_neg hgn, List.getElem?_set_ne (by omega)]
      exact q2 n hn
end Go.Proofs.YtegdcjnjnoeinaaGreat
namespace Go.Proofs.YtegdcjnjnoeinaaGreat
open Go.RowKit Go.Sl
set_option maxRecDepth 20000

theorem lastD_mem : ∀ (l : List PImg) (n : Int) (x : Dat), lastD l n = some x → ∃ g ∈ l, g.1 = n ∧ g.2 = x := by
  intro l
  refine snoc_ind (p := fun l : List PImg => ∀ (n : Int) (x : Dat), lastD l n = some x → ∃ g ∈ l, g.1 = n ∧ g.2 = x) ?_ ?_ l
  · intro n x h; cases h
  · intro l g ih n x h
    rw [lastD_snoc] at h
    split at h
    · rename_i hg
      exact ⟨g, by simp, hg, Option.some.inj h⟩
    · obtain ⟨y, hy, h1⟩ := ih n x h
      exact ⟨y, by simp [hy], h1⟩
theorem lastD_none {l : List PImg} {n : Int} (h : n ∉ l.map Prod.fst) : lastD l n = none := by
  cases hd : lastD l n with
  | none => rfl
  | some x =>
    obtain ⟨g, hg, h1, _⟩ := lastD_mem l n x hd
    exact absurd (List.mem_map.2 ⟨g, hg, h1⟩) h
structure HomL (l L : List PImg) : Prop where
  ok : ∀ g ∈ L, 18 ≤ g.1 ∧ g.1 < 64 ∧ g.2.length = 4096
  last : ∀ n, lastD L n = lastD l n
  few : L.length ≤ 46
theorem getD_some {l : List Dat} {n : Nat} {x : Dat} (h : l[n]? = some x) : l.getD n [] = x := by rw [List.getD_eq_getElem?_getD, h]; rfl
end Go.Proofs.YtegdcjnjnoeinaaGreat
namespace Go.Proofs.YtegdcjnjnoeinaaGreat
open Go.RowKit Go.Sl
set_option maxRecDepth 20000

theorem scanK_right {rb : Nat → Dat} {ep : Int} : ∀ (f at_ : Nat) (seq : Int) (room : Nat), ∀ g ∈ scanK rb ep f at_ seq room, RightP g.1 g.2.1 g.2.2
  | 0, _, _, _, g, hg => by simp [scanK] at hg
  | f + 1, at_, seq, room, g, hg => by
    rw [scanK] at hg
    cases hp : grpP rb at_ room with
    | none => rw [hp] at hg; simp at hg
    | some p =>
      obtain ⟨e, s, l⟩ := p
      rw [hp] at hg
      dsimp only at hg
      split at hg
      · rcases List.mem_cons.1 hg with rfl | hg
        · unfold grpP at hp
          split at hp
          · cases hp
          · split at hp
            · exact (getP_some hp).1
            · cases hp
        · exact scanK_right f _ _ _ g hg
      · simp at hg
theorem home_mem {l : List PImg} {g : PImg} (h : g ∈ homeP l) : g ∈ l := by
  unfold homeP at h
  obtain ⟨n, hn, rfl⟩ := List.mem_map.1 h
  have h1 := (sortI_perm _).mem_iff.1 hn
  have h2 := (mem_lastP l n).1 h1
  rw [lookup_lastP]
  cases hd : lastD l n with
  | none => rw [hd] at h2; simp at h2
  | some x =>
    obtain ⟨g, hg, h3, h4⟩ := lastD_mem l n x hd
    show (n, x) ∈ l
    rw [← h3, ← h4]
    exact hg
theorem homeP_len (l : List PImg) : (homeP l).length ≤ l.length := by
  have e2 : (homeP l).length = (lastP l).length := by unfold homeP; rw [List.length_map, (sortI_perm _).length_eq, List.length_map]
  have h : ∀ (l ms : List PImg), (l.foldl pput ms).length ≤ ms.length + l.length := by
    intro l
    induction l with
    | nil => intro ms; simp
    | cons g l ih =>
      intro ms
      have h1 := ih (pput ms g)
      have h2 : (pput ms g).length ≤ ms.length + 1 := by unfold pput; split <;> simp
      rw [List.foldl_cons, List.length_cons]; omega
  have := h l []
  rw [e2]; simpa [lastP] using this
theorem choose_right {a b : Option Sup} {s : Sup} {slot : Int} (ha : ∀ x, a = some x → RightS x) (hb : ∀ x, b = some x → RightS x) (h : chooseP a b = (s, slot, true)) : RightS s ∧ (slot = 0 ∨ slot = 1) := by
  cases a with
  | none =>
    cases b with
    | none => simp [chooseP] at h
    | some y =>
      simp only [chooseP, Prod.mk.injEq] at h
      obtain ⟨rfl, rfl, _⟩ := h
      exact ⟨hb _ rfl, .inr rfl⟩
  | some x =>
    cases b with
    | none =>
      simp only [chooseP, Prod.mk.injEq] at h
      obtain ⟨rfl, rfl, _⟩ := h
      exact ⟨ha _ rfl, .inl rfl⟩
    | some y =>
      simp only [chooseP] at h
      split at h
      · simp only [Prod.mk.injEq] at h
        obtain ⟨rfl, rfl, _⟩ := h
        exact ⟨ha _ rfl, .inl rfl⟩
      · simp only [Prod.mk.injEq] at h
        obtain ⟨rfl, rfl, _⟩ := h
        exact ⟨hb _ rfl, .inr rfl⟩
theorem getS_right (b : Dat) : ∀ x, getS b = some x → RightS x := fun _ h => (getS_some.1 h).1
theorem found_ok {d : DSt} (h : (foundP d).2.2 = 0) : d.down = false ∧ RightS (foundP d).1 ∧ ((foundP d).2.1 = 0 ∨ (foundP d).2.1 = 1) ∧ (foundP d).1.blocks = d.now.length ∧ (foundP d).1.tail < layL d.now.length ∧ (foundP d).1.epoch < 8388608 := by
  have hc := @choose_right (getS (d.now.getD 0 [])) (getS (d.now.getD 1 [])) 
  unfold foundP at h ⊢
  generalize chooseP (getS (d.now.getD 0 [])) (getS (d.now.getD 1 [])) = cp at *
  obtain ⟨s, slot, ok⟩ := cp
  by_cases hd : d.down = true
  · rw [if_pos hd] at h; simp at h
  rw [if_neg hd] at h ⊢
  dsimp only at h ⊢
  split at h
  · simp at h
  · rename_i hn
    rw [if_neg hn]
    have h1 : ok = true := by
      cases ok
      · exact absurd (.inl rfl) hn
      · rfl
    subst h1
    obtain ⟨r1, r2⟩ := hc (getS_right _) (getS_right _) rfl
    refine ⟨by simpa using hd, r1, r2, ?_, ?_, ?_⟩
    · exact Classical.byContradiction fun h => hn (.inr (.inl h))
    · exact Classical.byContradiction fun h => hn (.inr (.inr (.inl (by have h : ¬ s.tail < layL d.now.length := h; omega))))
    · exact Classical.byContradiction fun h => hn (.inr (.inr (.inr (by have h : ¬ s.epoch < 8388608 := h; omega))))
theorem allP_allG {J : Imm} {gl : List Grp} {l : List G3} (h : GrpsOk J gl l) : allP gl = allG l := by
  have e := congrArg (fun x => x.flatMap fun p : Int × Int × List PImg => p.2.2) h.g3
  simp only [List.flatMap_map] at e
  exact e
theorem DSt.stop_len (d : DSt) : d.stop.1.now.length = d.now.length := by rw [d.stop_same.2.1]
theorem DSt.write_len (d : DSt) (n : Int) (b : Dat) : (d.write n b).1.now.length = d.now.length := by
  unfold DSt.write
  split
  · rfl
  · split
    · rfl
    · split
      · exact d.stop_len
      · show (d.now.set _ _).length = _; rw [List.length_set]
theorem DSt.flush_len (d : DSt) : d.flush.1.now.length = d.now.length := by
  unfold DSt.flush
  split
  · exact d.stop_len
  · exact d.stop_len
theorem wrImgs_len : ∀ (l : List PImg) (d : DSt), (wrImgs l d).1.now.length = d.now.length
  | [], _ => rfl
  | g :: l, d => by
    rw [wrImgs]
    split
    · exact d.write_len _ _
    · rw [wrImgs_len l, d.write_len]
theorem doP_len (d : DSt) (l : List PImg) (s : Sup) (slot : Int) : (doP d l s slot).1.now.length = d.now.length := by
  unfold doP
  split
  · rfl
  split
  · exact wrImgs_len _ _
  split
  · rw [DSt.flush_len, wrImgs_len]
  · unfold lastWr
    split
    · rw [DSt.write_len, DSt.flush_len, wrImgs_len]
    · rw [DSt.flush_len, DSt.write_len, DSt.flush_len, wrImgs_len]
def MountQ (J : Imm) (bD : Nat) (M : DSt × Int × Option VSt) (r : Value) (S' : St) : Prop := ∃ chD', Dk J bD M.1 chD' ∧
  ((M.2.1 ≠ 0 ∧ M.2.2 = none ∧ r = .tuple #[.pointer none, .int .i64 M.2.1] ∧ S' = [chD']) ∨
   (M.2.1 = 0 ∧ ∃ v bV chV, M.2.2 = some v ∧ r = .tuple #[.pointer (some ⟨bV, 0, none⟩), .int .i64 0] ∧ Vk J bV bD v chV ∧ S' = [chD', chV]))
set_option maxHeartbeats 4000000 in
theorem vk_Mount {I : Imm} {bD : Nat} {d : DSt} {chD : List Blk} (hD : Dk I bD d chD) (hf : d.Few 700000) :
    Tri Tryz.prog 38 #[.pointer (some ⟨bD, 0, none⟩)] I [chD] fun r J S' => MountQ J bD (mountP d) r S' := by
  have hr := hD.wf.range
  refine Tri.drop ?_ (fun _ _ _ _ h => h)
  refine Tri.of (args := [.pointer (some ⟨bD, 0, none⟩)]) tabOk Tryz.func38 rfl (by kernel_rfl) (by kernel_rfl) ?_
  refine Tri.frame1 0 rfl (dk_Size hD) ?_
  rintro r _ A' hJ ⟨rfl, rfl, rfl⟩
  refine ⟨_, rfl, ?_⟩
  refine CmpD.no (by show ((d.now.length : Nat) : Int) ≠ 0; omega) ?_
  refine Tri.frame1 0 rfl (dk_Size hD) ?_
  rintro r _ A' hJ ⟨rfl, rfl, rfl⟩
  refine ⟨_, rfl, ?_⟩
  refine Tri.free (layout_Of d.now.length I) ?_
  rintro r _ _ hJ ⟨rfl, rfl⟩
  unfold mountP
  by_cases h64 : d.now.length < 64
  · rw [if_pos h64, layA, if_pos (by omega)]
    conv => whnf
    intro b4
    repeat (first | refine StoreD.st 1 rfl rfl rfl ?_ | refine CmpD.no (by decide) ?_)
    exact Done.mk ⟨_, Drop.pick [0] _ rfl, chD, hD, .inl ⟨by simp, rfl, rfl, rfl⟩⟩
  rw [if_neg h64, layA, if_neg (by omega)]
  conv => whnf
  intro b4
  repeat (first | refine LoadD.own 1 rfl _ rfl rfl ?_ | refine StoreD.st 1 rfl rfl rfl ?_ | refine CmpD.yes rfl ?_)
  refine Tri.frame1 0 rfl (v_found hD (by omega)) ?_
  have hfo := found_ok (d := d)
  obtain ⟨fp, hfp⟩ : ∃ fp, fp = foundP d := ⟨_, rfl⟩
  rw [← hfp] at hfo ⊢
  obtain ⟨s, slot, e⟩ := fp
  dsimp only at hfo ⊢
  rintro r J1 A' hJ1 ⟨rfl, hD1, rfl⟩
  refine ⟨_, rfl, ?_⟩
  conv => whnf
  intro b6
  repeat (first | refine StoreD.st 2 rfl rfl rfl ?_)
  by_cases he : e ≠ 0
  · rw [if_pos he]
    refine CmpD.no he ?_
    skip
    exact Done.mk ⟨_, Drop.pick [0] _ rfl, chD, hD1, .inl ⟨he, rfl, rfl, rfl⟩⟩
  rw [if_neg he]
  obtain rfl : e = 0 := by omega
  obtain ⟨hdn, hR, hsl, hb, htl, hep⟩ := hfo rfl
  obtain ⟨n, hn⟩ : ∃ n, n = d.now.length := ⟨_, rfl⟩
  rw [← hn] at hr h64 hb htl ⊢
  have hR' := hR
  obtain ⟨r1, r2, r3, r4, r5, r6, r7, r8⟩ := hR'
  have hlr := layL_range (n := (n : Int)) (by omega)
  repeat (first | refine LoadD.own 1 rfl _ rfl rfl ?_ | refine LoadD.own 2 rfl _ rfl rfl ?_ | refine CmpD.yes rfl ?_)
  refine Tri.frame1 0 rfl (scan_Groups hD1 (layOf n) s) ?_
  have hsok : ScanOk d.now.length (layOf n) s := by
    rw [← hn]
    exact ⟨by omega, rfl, hb, r7, htl, r3, r4, r5, r6⟩
  have hbd := scan_bound (rb := rbP d 2 (layL (d.now.length : Int)).toNat) (ep := s.epoch) ((layL (d.now.length : Int)).toNat + 1) s.tail.toNat s.seq (layL (d.now.length : Int)).toNat
  have hrt := scanK_right (rb := rbP d 2 (layL (d.now.length : Int)).toNat) (ep := s.epoch) ((layL (d.now.length : Int)).toNat + 1) s.tail.toNat s.seq (layL (d.now.length : Int)).toNat
  rw [show scanK (rbP d 2 (layL (d.now.length : Int)).toNat) s.epoch ((layL (d.now.length : Int)).toNat + 1) s.tail.toNat s.seq (layL (d.now.length : Int)).toNat = scanL d s from rfl] at hbd hrt
  rw [← hn] at hbd
  obtain ⟨L, hL⟩ : ∃ L, L = scanL d s := ⟨_, rfl⟩
  rw [← hL] at hbd hrt ⊢
  rintro r J2 A' hJ2 ⟨rfl, (⟨h, _⟩ | ⟨_, h, _⟩ | ⟨_, _, aO, capO, gl, rfl, hG, hGk⟩)⟩
  · exact absurd hsok h
  · rw [hdn] at h; exact Bool.noConfusion h
  refine ⟨_, rfl, ?_⟩
  have hpl : allP gl = allG L := allP_allG hGk
  have hgl := hGk.len
  rw [← hn]
  obtain ⟨pl, hplc⟩ : ∃ pl, pl = placeP (layL (n : Int)).toNat s.tail.toNat L := ⟨_, rfl⟩
  rw [← hplc]
  have hpl16 : pl < (layL (n : Int)).toNat := by rw [hplc]; exact Nat.mod_lt _ (by omega)
  have hsum : ∀ (l : List G3), (allG l).length ≤ (l.map fun g => g.2.2.length + 1).sum := by
    intro l
    induction l with
    | nil => simp [allG]
    | cons g l ih => simp [allG] at ih ⊢; omega
  have hall : (allI gl).length ≤ 1000 := by
    have h1 : (allP gl).length = (allI gl).length := by rw [allP_eq, List.length_map]
    have h2 := hsum L
    rw [← hpl] at h2
    omega
  have h4 : ∀ g ∈ allG L, g.2.length = 4096 := by
    intro g hg
    obtain ⟨q, hq, hgq⟩ := List.mem_flatMap.1 hg
    exact ((hrt q hq).2.2.2.2.2.2.1 g hgq).2.2
  have hIo : ∀ g ∈ allI gl, ImgOk J2 g := by
    intro g hg
    obtain ⟨q, hq, hgq⟩ := List.mem_flatMap.1 hg
    exact (hGk.each q hq).2 g hgq
  have hfew : ∀ g ∈ allI gl, g.len ≤ 100000000 := by
    intro g hg
    have h1 := (hIo g hg).2.len
    rw [bts_length] at h1
    have h2 := h4 g.pr (by rw [← hpl, allP_eq]; exact List.mem_map_of_mem hg)
    have h3 : g.data.length = 4096 := h2
    omega
  have hGR : GrpsR J2 [] aO gl := ⟨hG.slC, fun g hg => ⟨⟨(hGk.each g hg).1.slC, fun q hq => ⟨((hGk.each g hg).2 q hq).2.slC⟩⟩, by
    have : g.gs.length ≤ (allI gl).length := by
      obtain ⟨x, y, rfl⟩ := List.append_of_mem hg
      simp [allI]; omega
    omega⟩⟩
  have hgll : gl.length ≤ 64 := by omega
  repeat (first | refine LoadD.own 1 rfl _ rfl rfl ?_ | refine CmpD.yes rfl ?_)
  refine Tri.free (home_fix hGR (by omega) (by omega) hfew (layOf n)) ?_
  rw [hpl]
  have hLayOk : LayOk (layOf n) := ⟨by show (64 : Int) ≤ n; omega, by show (n : Int) ≤ 512; omega, rfl⟩
  unfold mountL
  rw [← hplc]
  rintro r J3 _ hJ3 (⟨h, _⟩ | ⟨_, hno, rfl⟩ | ⟨_, hhok, aI, capI, outs, rfl, hoR, hopr⟩)
  · exact absurd hLayOk h
  · rw [if_pos (.inl hno)]
    repeat (first | refine CmpD.no (by decide) ?_)
    exact Done.mk ⟨_, Drop.pick [0] _ rfl, chD, hD1.mono (Imm.le_trans hJ2 hJ3), .inl ⟨by simp, rfl, rfl, rfl⟩⟩
  have hle3 := Imm.le_trans hJ2 hJ3
  have hLl : L.length ≤ 64 := by omega
  rw [hgl]
  repeat (first | refine LoadD.own 2 rfl _ rfl rfl ?_ | refine CmpD.yes rfl ?_)
  refine ToD.to (549755813888 - (L.length : Int)) (wrap_i64 (by omega) (by omega)) ?_
  refine CmpD.split (fun (c1 : 549755813888 - (L.length : Int) < s.seq) => ?_) (fun (c1 : ¬ 549755813888 - (L.length : Int) < s.seq) => ?_)
  · rw [if_pos (.inr c1)]
    skip
    exact Done.mk ⟨_, Drop.pick [0] _ rfl, chD, hD1.mono hle3, .inl ⟨by simp, rfl, rfl, rfl⟩⟩
  rw [if_neg (by rintro (h | h); exact h hhok; exact c1 h)]
  repeat (first | refine LoadD.own 2 rfl _ rfl rfl ?_)
  refine ToD.to (s.epoch + 1) (wrap_i64 (by omega) (by omega)) ?_
  repeat (first | refine LoadD.own 2 rfl _ rfl rfl ?_)
  refine ToD.to (s.seq + L.length) (wrap_i64 (by omega) (by omega)) ?_
  repeat (first | refine LoadD.own 2 rfl _ rfl rfl ?_ | refine StoreD.st 2 rfl rfl rfl ?_)
  refine ToD.to (1 - slot) (wrap_i64 (by omega) (by omega)) ?_
  have hol : outs.length ≤ 1000 := by
    have h1 := homeP_len (allG L)
    rw [← hopr, List.length_map] at h1
    have h2 := hsum L
    omega
  have himg : ImgsOk J3 aI outs := by
    refine ⟨SlC.rds hoR.sl, fun g hg => ?_⟩
    have hm := home_mem (l := allG L) (g := g.pr) (by rw [← hopr]; exact List.mem_map_of_mem hg)
    have hb2 := hhok _ hm
    refine ⟨?_, SlC.rds (hoR.each g hg).rd⟩
    have e1 : (layOf (n : Int)).bi = 2 + layL n := rfl
    have e2 : (layOf (n : Int)).b = n := rfl
    rw [e1, e2] at hb2
    have e3 : g.pr.1 = g.blk := rfl
    rw [e3] at hb2
    unfold In64; omega
  refine Tri.frame1 0 rfl (dk_Do (hD1.mono hle3) 700000 hf aI capI outs himg (by omega) ⟨s.blocks, s.epoch + 1, s.seq + L.length, pl⟩ (1 - slot)) ?_
  rw [hopr]
  have hlen2 := doP_len d (homeP (allG L)) ⟨s.blocks, s.epoch + 1, s.seq + L.length, pl⟩ (1 - slot)
  rw [← hn] at hlen2
  generalize doP d (homeP (allG L)) ⟨s.blocks, s.epoch + 1, s.seq + L.length, pl⟩ (1 - slot) = dp at *
  obtain ⟨d2, e2⟩ := dp
  dsimp only at hlen2 ⊢
  rintro r J4 A' hJ4 ⟨rfl, chD2, hD2, rfl⟩
  refine ⟨_, rfl, ?_⟩
  by_cases he2 : e2 ≠ 0
  · rw [if_pos he2]
    refine CmpD.no he2 ?_
    skip
    exact Done.mk ⟨_, Drop.pick [0] _ rfl, chD2, hD2, .inl ⟨he2, rfl, rfl, rfl⟩⟩
  rw [if_neg he2]
  obtain rfl : e2 = 0 := by omega
  repeat (first | refine LoadD.own 1 rfl _ rfl rfl ?_ | refine LoadD.own 2 rfl _ rfl rfl ?_ | refine CmpD.yes rfl ?_)
  have hopk : OpenOk n (layOf n) (s.epoch + 1) (s.seq + L.length) pl := ⟨rfl, by omega, by omega, by omega, by omega, by omega, by omega⟩
  refine Tri.frameX (jk_Open hD2 n hlen2 (by omega) (layOf n) (s.epoch + 1) (s.seq + L.length) pl (by unfold In64; omega)) [0] rfl rfl ?_
  rintro r _ A' hJ5 (⟨h, _⟩ | ⟨_, rfl, bJ, chJ, rfl, hj, rfl⟩)
  · exact absurd hopk h
  repeat (first | refine LoadD.own 1 rfl _ rfl rfl ?_ | refine LoadD.own 2 rfl _ rfl rfl ?_ | refine CmpD.yes rfl ?_)
  refine makeMapD rfl ?_
  intro bM
  conv => whnf
  intro bV
  refine Done.mk ⟨[chD2, vChunk bV bD bJ bM (layOf n) (s.epoch + 1) slot false ++ ((bM, .map #[] 0) :: chJ)], (Drop.pick [3, 6, 5, 4] _ rfl).trans (Drop.flat ?_), chD2, hD2, .inr ⟨rfl, ⟨openJ n (s.epoch + 1) (s.seq + L.length) pl, s.epoch + 1, slot, [], false⟩, bV, _, rfl, rfl, ⟨bJ, bM, _, chJ, [], rfl, hj, MapR.nil, by simp, rfl⟩, rfl⟩⟩
  simp [St.at]
  rfl
end Go.Proofs.YtegdcjnjnoeinaaGreat
namespace Go.Proofs.YtegdcjnjnoeinaaGreat
open Go.RowKit Go.Sl
set_option maxRecDepth 20000

/-- noughts to the blocks from k on, n of them -/
def blankP : Nat → Nat → DSt → DSt × Int
  | 0, _, d => (d, 0)
  | n + 1, k, d => if (d.write k noughts).2 ≠ 0 then d.write k noughts else blankP n (k + 1) (d.write k noughts).1
def fmtS (m : Nat) (s : Sup) (d : DSt) : DSt × Int :=
  if (blankP m 1 d).2 ≠ 0 then blankP m 1 d else
  if (blankP m 1 d).1.flush.2 ≠ 0 then (blankP m 1 d).1.flush else
  if ((blankP m 1 d).1.flush.1.write 0 (supL s)).2 ≠ 0 then (blankP m 1 d).1.flush.1.write 0 (supL s) else
  ((blankP m 1 d).1.flush.1.write 0 (supL s)).1.flush
def formatP (d : DSt) : DSt × Int :=
  if d.now.length < 64 then (d, 2) else fmtS ((layOf d.now.length).d.toNat - 1) ⟨d.now.length, 1, 1, 0⟩ d
theorem blankP_few : ∀ (n k : Nat) (d : DSt) (q : Nat), d.Few q → (blankP n k d).1.Few (q + n)
  | 0, _, _, _, h => h
  | n + 1, k, d, q, h => by
    have h1 := h.write (k : Int) noughts
    rw [blankP]
    split
    · exact h1.mono (by omega)
    · exact (blankP_few n (k + 1) _ _ h1).mono (by omega)
theorem noughts_bts : bts noughts = rows 4096 [Value.int .u8 0] := by
  show bts (List.replicate 4096 0) = _
  exact (zeros_bts 4096).symm
theorem fmt1 {I : Imm} {b1 b2 b3 bD : Nat} {x : Lay} {d : DSt} {chD : List Blk} (hD : Dk I bD d chD) (hf : d.Few 500000) (hx : 1 ≤ x.d ∧ x.d ≤ 1000) (aN : Option Addr) (capN : Nat) (hN : Rds I aN 4096 (bts noughts)) :
    Tri Tryz.prog 123 #[.pointer (some ⟨b1, 0, none⟩), .pointer (some ⟨b2, 0, none⟩), .pointer (some ⟨b3, 0, none⟩)] I [[(b1, row x.vals 45)], pBox b2 (.pointer (some ⟨bD, 0, none⟩)) 22, pBox b3 (.slice aN 4096 capN) 32, chD]
      fun r J S' => r = .int .i64 (blankP (x.d.toNat - 1) 1 d).2 ∧ ∃ chD', Dk J bD (blankP (x.d.toNat - 1) 1 d).1 chD' ∧ S' = [[(b1, row x.vals 45)], pBox b2 (.pointer (some ⟨bD, 0, none⟩)) 22, pBox b3 (.slice aN 4096 capN) 32, chD'] := by
  obtain ⟨l1, l2, l3, l4, l5, l6, l7⟩ := x
  dsimp only at hx ⊢
  obtain ⟨e, rfl⟩ : ∃ e : Nat, l7 = e := ⟨l7.toNat, by omega⟩
  rw [Int.toNat_natCast]
  refine Tri.of (args := [.pointer (some ⟨b1, 0, none⟩), .pointer (some ⟨b2, 0, none⟩), .pointer (some ⟨b3, 0, none⟩)]) tabOk Tryz.func123 rfl (by kernel_rfl) (by kernel_rfl) ?_
  refine CodeF.loopD [0, 1, 2, 4] (fun vs J' S' => ∃ (k : Nat) (d2 : DSt) (chD2 : List Blk), 1 ≤ k ∧ k ≤ e ∧ blankP (e - 1) 1 d = blankP (e - k) k d2 ∧ d2.Few (500000 + k) ∧ Dk J' bD d2 chD2 ∧ I.le J' ∧
      vs = [.pointer (some ⟨b1, 0, none⟩), .pointer (some ⟨b2, 0, none⟩), .pointer (some ⟨b3, 0, none⟩), .int .i64 k] ∧ S' = [[(b1, row [.int .i64 l1, .int .i64 l2, .int .i64 l3, .int .i64 l4, .int .i64 l5, .int .i64 l6, .int .i64 e] 45)], pBox b2 (.pointer (some ⟨bD, 0, none⟩)) 22, pBox b3 (.slice aN 4096 capN) 32, chD2])
    (fun vs _ _ => match vs with | [_, _, _, .int _ k] => ((e : Int) - k).toNat | _ => 0) ?_ ?_
  · exact ⟨_, Drop.refl _, 1, d, chD, by omega, by omega, rfl, hf.mono (by omega), hD, Imm.le_refl _, rfl, rfl⟩
  rintro vs gE J' S' hJ' ⟨k, d2, chD2, hk1, hk, hbl, hf2, hD2, hle, rfl, rfl⟩
  repeat (first | refine LoadD.own 0 rfl _ rfl rfl ?_)
  refine CmpD.split (fun (c1 : (k : Int) < e) => ?_) (fun (c1 : ¬ (k : Int) < e) => ?_)
  · rw [show e - k = (e - (k + 1)) + 1 by omega, blankP] at hbl
    repeat (first | refine LoadD.own 1 rfl _ rfl rfl ?_ | refine LoadD.own 2 rfl _ rfl rfl ?_)
    refine Tri.frame1 3 rfl (dk_Write hD2 (hf2.mono (by omega)) k aN 4096 capN noughts (hN.mono hle)) ?_
    have hf3 := hf2.write (k : Int) noughts
    generalize d2.write (k : Int) noughts = dw at *
    obtain ⟨d3, e3⟩ := dw
    dsimp only at hbl hf3 ⊢
    rintro r J3 A' hJ3 ⟨rfl, chD3, hD3, rfl⟩
    refine ⟨_, rfl, ?_⟩
    by_cases he : e3 ≠ 0
    · rw [if_pos he] at hbl
      refine CmpD.no he ?_
      skip
      rw [hbl]
      exact Done.mk ⟨rfl, chD3, hD3, rfl⟩
    · rw [if_neg he] at hbl
      obtain rfl : e3 = 0 := by omega
      repeat (first | refine CmpD.yes rfl ?_)
      refine ToD.to (((k + 1 : Nat)) : Int) (by rw [wrap_i64 (by omega) (by omega)]; omega) ?_
      refine ⟨_, Drop.refl _, ⟨k + 1, d3, chD3, by omega, by omega, hbl, hf3.mono (by omega), hD3, Imm.le_trans hle hJ3, rfl, rfl⟩, ?_⟩
      show ((e : Int) - ((k + 1 : Nat) : Int)).toNat < ((e : Int) - (k : Int)).toNat; omega
  · obtain rfl : k = e := by omega
    skip
    rw [hbl, Nat.sub_self]
    exact Done.mk ⟨rfl, chD2, hD2, rfl⟩
theorem fmt2 {I : Imm} {b1 b2 bD : Nat} {d : DSt} {chD : List Blk} (hD : Dk I bD d chD) (hf : d.Few 900000) (aN : Option Addr) (capN : Nat) (b : Dat) (hN : Rds I aN 4096 (bts b)) :
    Tri Tryz.prog 126 #[.pointer (some ⟨b1, 0, none⟩), .pointer (some ⟨b2, 0, none⟩)] I [pBox b1 (.pointer (some ⟨bD, 0, none⟩)) 22, pBox b2 (.slice aN 4096 capN) 32, chD]
      fun r J S' => r = .int .i64 (d.write 0 b).2 ∧ ∃ chD', Dk J bD (d.write 0 b).1 chD' ∧ S' = [pBox b1 (.pointer (some ⟨bD, 0, none⟩)) 22, pBox b2 (.slice aN 4096 capN) 32, chD'] := by
  refine Tri.of (args := [.pointer (some ⟨b1, 0, none⟩), .pointer (some ⟨b2, 0, none⟩)]) tabOk Tryz.func126 rfl (by kernel_rfl) (by kernel_rfl) ?_
  repeat (first | refine LoadD.own 0 rfl _ rfl rfl ?_ | refine LoadD.own 1 rfl _ rfl rfl ?_)
  refine Tri.frame1 2 rfl (dk_Write hD (hf.mono (by omega)) 0 aN 4096 capN b hN) ?_
  rintro r J3 A' hJ3 ⟨rfl, chD3, hD3, rfl⟩
  refine ⟨_, rfl, ?_⟩
  exact Done.mk ⟨rfl, chD3, hD3, rfl⟩
theorem fmt_steps {I : Imm} {bD b1 b3 b5 b7 bN bF : Nat} {x : Lay} {s : Sup} {d : DSt} {chD : List Blk} (hD : Dk I bD d chD) (hf : d.Few 500000) (hld : 1 ≤ x.d ∧ x.d ≤ 1000) (hN : Rds I (some ⟨bN, 0, none⟩) 4096 (bts noughts)) (aS : Option Addr) (capS : Nat) (hS : Rds I aS 4096 (bts (supL s)))
    (hfs : Rds I (some ⟨bF, 0, none⟩) 4 [.func (.func 123) #[] #[.pointer (some ⟨b3, 0, none⟩), .pointer (some ⟨b1, 0, none⟩), .pointer (some ⟨b5, 0, none⟩)], .func (.func 125) #[.pointer (some ⟨bD, 0, none⟩)] #[],
      .func (.func 126) #[] #[.pointer (some ⟨b1, 0, none⟩), .pointer (some ⟨b7, 0, none⟩)], .func (.func 125) #[.pointer (some ⟨bD, 0, none⟩)] #[]]) :
    Tri Tryz.prog 91 #[.slice (some ⟨bF, 0, none⟩) 4 4] I [chD, pBox b1 (.pointer (some ⟨bD, 0, none⟩)) 22, [(b3, row x.vals 45)], pBox b5 (.slice (some ⟨bN, 0, none⟩) 4096 4096) 32, pBox b7 (.slice aS 4096 capS) 32]
      fun r J S' => r = .int .i64 (fmtS (x.d.toNat - 1) s d).2 ∧ ∃ chD' R, Dk J bD (fmtS (x.d.toNat - 1) s d).1 chD' ∧ S' = [chD', pBox b1 (.pointer (some ⟨bD, 0, none⟩)) 22, [(b3, row x.vals 45)], pBox b5 (.slice (some ⟨bN, 0, none⟩) 4096 4096) 32, pBox b7 (.slice aS 4096 capS) 32] ∧ R = chD' := by
  refine vol_first (some ⟨bF, 0, none⟩) 4 4 _ (by omega) hfs ?_
  have hf1 := blankP_few (x.d.toNat - 1) 1 d _ hf
  unfold fmtS
  refine ⟨_, [], [.pointer (some ⟨b3, 0, none⟩), .pointer (some ⟨b1, 0, none⟩), .pointer (some ⟨b5, 0, none⟩)], rfl, ?_⟩
  refine Tri.frame (fmt1 (x := x) hD hf hld (some ⟨bN, 0, none⟩) 4096 hN) [2, 1, 3, 0] rfl rfl ?_
  generalize blankP (x.d.toNat - 1) 1 d = bl at hf1 ⊢
  obtain ⟨d1, e1⟩ := bl
  dsimp only at hf1 ⊢
  rintro r J2 A' hJ2 ⟨rfl, chD1, hD1, rfl⟩
  refine ⟨Nat.le_refl _, ?_⟩
  refine ⟨_, rfl, fun he => ?_, fun he => ?_⟩
  · rw [if_pos he]
    exact ⟨rfl, chD1, _, hD1, rfl, rfl⟩
  rw [if_neg (by simpa using he)]
  refine ⟨_, [.pointer (some ⟨bD, 0, none⟩)], [], rfl, ?_⟩
  refine Tri.frame1 0 rfl (dk_Flush hD1) ?_
  have hf2 := hf1.flush
  generalize d1.flush = fl at hf2 ⊢
  obtain ⟨d2, e2⟩ := fl
  dsimp only at hf2 ⊢
  rintro r J3 A' hJ3 ⟨rfl, chD2, hD2, rfl⟩
  refine ⟨_, rfl, ?_⟩
  refine ⟨_, rfl, fun he => ?_, fun he => ?_⟩
  · rw [if_pos he]
    exact ⟨rfl, chD2, _, hD2, rfl, rfl⟩
  rw [if_neg (by simpa using he)]
  refine ⟨_, [], [.pointer (some ⟨b1, 0, none⟩), .pointer (some ⟨b7, 0, none⟩)], rfl, ?_⟩
  refine Tri.frame (fmt2 hD2 (hf2.mono (by omega)) aS capS (supL s) (hS.mono (Imm.le_trans hJ2 hJ3))) [1, 4, 0] rfl rfl ?_
  generalize d2.write 0 (supL s) = wr
  obtain ⟨d3, e3⟩ := wr
  dsimp only
  rintro r J4 A' hJ4 ⟨rfl, chD3, hD3, rfl⟩
  refine ⟨Nat.le_refl _, ?_⟩
  refine ⟨_, rfl, fun he => ?_, fun he => ?_⟩
  · rw [if_pos he]
    exact ⟨rfl, chD3, _, hD3, rfl, rfl⟩
  rw [if_neg (by simpa using he)]
  refine ⟨_, [.pointer (some ⟨bD, 0, none⟩)], [], rfl, ?_⟩
  refine Tri.frame1 0 rfl (dk_Flush hD3) ?_
  generalize d3.flush = fl
  obtain ⟨d4, e4⟩ := fl
  dsimp only
  rintro r J5 A' hJ5 ⟨rfl, chD4, hD4, rfl⟩
  refine ⟨_, rfl, ?_⟩
  refine ⟨_, rfl, fun he => ?_, fun he => ?_⟩
  · exact ⟨rfl, chD4, _, hD4, rfl, rfl⟩
  · obtain rfl := he
    exact ⟨rfl, chD4, _, hD4, rfl, rfl⟩
set_option maxHeartbeats 4000000 in
theorem vk_Format {I : Imm} {bD : Nat} {d : DSt} {chD : List Blk} (hD : Dk I bD d chD) (hf : d.Few 500000) :
    Tri Tryz.prog 55 #[.pointer (some ⟨bD, 0, none⟩)] I [chD] fun r J S' => r = .int .i64 (formatP d).2 ∧ ∃ chD', Dk J bD (formatP d).1 chD' ∧ S' = [chD'] := by
  have hr := hD.wf.range
  refine Tri.drop ?_ (fun _ _ _ _ h => h)
  refine Tri.of (args := [.pointer (some ⟨bD, 0, none⟩)]) tabOk Tryz.func55 rfl (by kernel_rfl) (by kernel_rfl) ?_
  conv => whnf
  intro b1
  repeat (first | refine LoadD.own 1 rfl _ rfl rfl ?_)
  refine Tri.frame1 0 rfl (dk_Size hD) ?_
  rintro r _ A' hJ ⟨rfl, rfl, rfl⟩
  refine ⟨_, rfl, ?_⟩
  refine CmpD.no (by show ((d.now.length : Nat) : Int) ≠ 0; omega) ?_
  repeat (first | refine LoadD.own 1 rfl _ rfl rfl ?_)
  refine Tri.frame1 0 rfl (dk_Size hD) ?_
  rintro r _ A' hJ ⟨rfl, rfl, rfl⟩
  refine ⟨_, rfl, ?_⟩
  refine Tri.free (layout_Of d.now.length I) ?_
  rintro r _ _ hJ ⟨rfl, rfl⟩
  unfold formatP
  by_cases h64 : d.now.length < 64
  · rw [if_pos h64, layA, if_pos (by omega)]
    conv => whnf
    intro b3
    repeat (first | refine StoreD.st 2 rfl rfl rfl ?_ | refine CmpD.no (by decide) ?_)
    exact Done.mk ⟨_, Drop.pick [0] _ rfl, rfl, chD, hD, rfl⟩
  rw [if_neg h64, layA, if_neg (by omega)]
  conv => whnf
  intro b3
  repeat (first | refine StoreD.st 2 rfl rfl rfl ?_ | refine CmpD.yes rfl ?_)
  refine makeH tabOk rfl rfl rfl 4096 4096 rfl rfl (Nat.le_refl _) (by show 1 * 4096 ≤ _; decide) (by decide) (by show 4096 * 1 ≤ _; decide) rfl (by decide) ?_
  intro bN NB hNB
  conv => whnf
  intro b5
  repeat (first | refine LoadD.own 2 rfl _ rfl rfl ?_ | refine StoreD.st 4 rfl rfl rfl ?_)
  obtain ⟨n, hn⟩ : ∃ n, n = d.now.length := ⟨_, rfl⟩
  rw [← hn] at hr h64 ⊢
  have hlr := layL_range (n := (n : Int)) (by omega)
  refine Tri.free (super_PutF ⟨n, 1, 1, 0⟩ I) ?_
  have hR : RightS ⟨n, 1, 1, 0⟩ := ⟨by show (64 : Int) ≤ n; omega, by show (n : Int) ≤ 512; omega, by show (1 : Int) ≤ 1; decide, by show (1 : Int) ≤ 8388608; decide, by show (1 : Int) ≤ 1; decide, by show (1 : Int) ≤ 549755813888; decide, by show (0 : Int) ≤ 0; decide, by show (0 : Int) ≤ 511; decide⟩
  rintro r J1 _ hJ1 (⟨h, _⟩ | ⟨_, aS, capS, rfl, hSup⟩)
  · exact absurd hR h
  conv => whnf
  intro b7
  repeat (first | refine LoadD.own 1 rfl _ rfl rfl ?_ | refine StoreD.st 5 rfl rfl rfl ?_)
  conv => whnf
  intro bF
  refine Tri.fix 3 rfl fun I5 hI5 hNm => ?_
  refine Tri.fix 6 rfl fun I6 hI6 hFm => ?_
  have hD := hD.mono (Imm.le_trans hJ1 (Imm.le_trans hI5 hI6))
  have hN : Rds I6 (some ⟨bN, 0, none⟩) 4096 (bts noughts) := by
    rw [noughts_bts]
    exact (Rds.of_own (cap := 4096) (by rw [hNB]; show OwnC [(bN, row (rows 4096 [Value.int .u8 0]) _)] 1 _ _ _ _; exact OwnC.whole (by rw [rows_length]; rfl)) hNm).mono hI6
  have hS6 := hSup.mono (Imm.le_trans hI5 hI6)
  have hfs : Rds I6 (some ⟨bF, 0, none⟩) 4 [.func (.func 123) #[] #[.pointer (some ⟨b3, 0, none⟩), .pointer (some ⟨b1, 0, none⟩), .pointer (some ⟨b5, 0, none⟩)], .func (.func 125) #[.pointer (some ⟨bD, 0, none⟩)] #[],
      .func (.func 126) #[] #[.pointer (some ⟨b1, 0, none⟩), .pointer (some ⟨b7, 0, none⟩)], .func (.func 125) #[.pointer (some ⟨bD, 0, none⟩)] #[]] :=
    ⟨rfl, .inr ⟨bF, 0, _, _, _, rfl, hFm _ (List.mem_singleton.2 rfl), rfl⟩⟩
  obtain ⟨x, hx⟩ : ∃ x : Lay, x = layOf (n : Int) := ⟨_, rfl⟩
  have hld : 1 ≤ x.d ∧ x.d ≤ 1000 := by rw [hx]; show 1 ≤ 3 + layL n + (n : Int) / 16 ∧ 3 + layL n + (n : Int) / 16 ≤ 1000; omega
  have hxv : row (layOf (n : Int)).vals 45 = row x.vals 45 := by rw [hx]
  obtain ⟨s, hs⟩ : ∃ s : Sup, s = ⟨n, 1, 1, 0⟩ := ⟨_, rfl⟩
  rw [← hs] at hS6
  refine Tri.frameX (fmt_steps (x := x) (s := s) hD hf hld hN aS capS hS6 hfs) [0, 1, 2, 4, 5] rfl (by rw [hx]; rfl) ?_
  rw [hx, hs]
  rintro r J A' hJ ⟨rfl, chD4, _, hD4, rfl, _⟩
  exact Done.mk ⟨_, Drop.pick [7] _ rfl, rfl, chD4, hD4, rfl⟩
end Go.Proofs.YtegdcjnjnoeinaaGreat

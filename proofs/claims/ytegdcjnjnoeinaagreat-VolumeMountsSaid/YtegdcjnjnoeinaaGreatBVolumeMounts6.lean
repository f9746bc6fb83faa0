/- Texts of this claim laid together: ScanG, Rf4, Rf4b, CopyImgs, Rf10b, ScanA, VolP, Vol, Vol2, Awake08, Awk08, LowPick, Img9, JNum, Wi, ScanP, WhP, WhL. -/
import Derived.Test.YtegdcjnjnoeinaaGreatBVolumeMounts5
import Derived.Test.YtegdcjnjnoeinaaGreatBVolumeMounts4
import Derived.Test.YtegdcjnjnoeinaaGreatBVolumeMounts3
import Derived.Test.YtegdcjnjnoeinaaGreatBVolumeMounts2
import Derived.Test.YtegdcjnjnoeinaaGreatBVolumeMounts1
namespace Go.Proofs.YtegdcjnjnoeinaaGreat
open Go.RowKit Go.Sl
set_option maxRecDepth 20000

abbrev G3 := Nat × Nat × List PImg
/-- groups one behind the other -/
noncomputable def scanK (rb : Nat → Dat) (ep : Int) : Nat → Nat → Int → Nat → List G3
  | 0, _, _, _ => []
  | f + 1, at_, seq, room => match grpP rb at_ room with
    | none => []
    | some (e, s, l) => if (e : Int) = ep ∧ (s : Int) = seq then (e, s, l) :: scanK rb ep f (at_ + (l.length + 1)) (seq + 1) (room - (l.length + 1)) else []
theorem grpP_room {rb : Nat → Dat} {at_ room e s : Nat} {l : List PImg} (h : grpP rb at_ room = some (e, s, l)) : l.length + 1 ≤ room ∧ 1 ≤ l.length ∧ l.length ≤ 32 := by
  unfold grpP at h
  split at h
  · cases h
  · rename_i e' s' l' hh
    split at h
    · rename_i hr
      obtain ⟨hR, hp⟩ := getP_some h
      have := congrArg List.length hp
      rw [putP_length, List.length_map, List.length_range] at this
      exact ⟨by omega, hR.2.2.2.2.1, hR.2.2.2.2.2.1⟩
    · cases h
/-- a group, as it lies, told as numbers and images -/
def Grp.g3 (g : Grp) : Int × Int × List PImg := (g.e, g.s, g.gs.map Img.pr)
def up3 (g : G3) : Int × Int × List PImg := (g.1, g.2.1, g.2.2)
structure ScSt where
  f : Nat
  at' : Nat
  seq : Int
  room : Nat
@[reducible] def sBoxS (b : Nat) (s : Sup) : List Blk := [(b, row [.int .i64 s.blocks, .int .i64 s.epoch, .int .i64 s.seq, .int .i64 s.tail] 143)]
@[reducible] def scIt (bS bP bR bD : Nat) (s : Sup) (x : Lay) (e : Int) (chD : List Blk) : St := [sBoxS bS s, [(bP, row [.pointer (some ⟨bR, 0, none⟩)] 224)], rChunk bR bD x e, chD]
def ScE (rb : Nat → Dat) (ep : Int) (lb : Nat) (J : Imm) (a : ScSt) (xs : List Value) (b : ScSt) : Prop :=
  ∃ e s l aI capI gs, a.f = b.f + 1 ∧ grpP rb a.at' a.room = some (e, s, l) ∧ (e : Int) = ep ∧ (s : Int) = a.seq ∧ xs = [.int .i64 ((a.at' + (l.length + 1)) % lb : Nat), .agg #[.int .i64 (e : Nat), .int .i64 (s : Nat), .slice aI gs.length capI]] ∧ ImgsOk J aI gs ∧ gs.map Img.pr = l ∧
    b.at' = a.at' + (l.length + 1) ∧ b.seq = a.seq + 1 ∧ b.room = a.room - (l.length + 1)
set_option maxHeartbeats 4000000 in
theorem scan_up {I : Imm} {bS bP bR bD : Nat} {d : DSt} {chD : List Blk} (hD : Dk I bD d chD) (hdn : d.down = false) (x : Lay) (l lb : Nat) (hl : x.l = l) (hlb : x.lb = lb) (h0 : 0 < lb) (hlen : l + lb ≤ d.now.length) (s : Sup) (tail : Nat) (htl : s.tail = tail) (ht : tail < lb) (hseq : 1 ≤ s.seq ∧ s.seq ≤ 549755813888) :
    SeqJ Tryz.prog 198 #[.pointer (some ⟨bS, 0, none⟩), .pointer (some ⟨bP, 0, none⟩)] I (scIt bS bP bR bD s x 0 chD) (⟨lb + 1, tail, s.seq, lb⟩ : ScSt) (ScE (rbP d l lb) s.epoch lb)
      (fun a _ R => scanK (rbP d l lb) s.epoch a.f a.at' a.seq a.room = [] ∧ R = scIt bS bP bR bD s x 0 chD) (fun _ _ => True) := by
  have hr := hD.wf.range
  intro ll inv stp J c hJ hmn hY h1
  refine Tri.drop ?_ (fun _ _ _ _ h => h)
  obtain ⟨s1, s2, s3, s4⟩ := s
  obtain ⟨x1, x2, x3, x4, x5, x6, x7⟩ := x
  dsimp only at hl hlb htl hseq hY h1 ⊢
  subst hl hlb htl
  have hup := fun (J : Imm) (hJ : I.le J) => group_up (bR := bR) (hD.mono hJ) hdn ⟨x1, (l : Nat), (lb : Nat), x4, x5, x6, x7⟩ l lb rfl rfl h0 hlen
  refine Tri.of (args := [.func (.yield ll) #[] #[], .pointer (some ⟨bS, 0, none⟩), .pointer (some ⟨bP, 0, none⟩)]) tabOk Tryz.func198 rfl (by kernel_rfl) (by kernel_rfl) ?_
  refine CodeF.sched [[], [0], [], [2], [0, 1], [0, 1, 2, 3, 4]] [0, 1, 2, 3, 4, 5] (by kernel_rfl) ?_
  repeat (first | refine LoadD.own 2 rfl _ rfl rfl ?_ | refine LoadD.own 3 rfl _ rfl rfl ?_ | refine LoadP.at 1 rfl _ rfl rfl ?_)
  refine CodeF.loopD [0, 1, 2, 4, 5, 6] (fun vs J' S' => ∃ (a : ScSt) (c' : List Blk), inv a J' c' ∧ J.le J' ∧ a.room + a.at' = lb + tail ∧ a.room < a.f ∧ a.room ≤ lb ∧ s3 ≤ a.seq ∧ a.seq + a.room ≤ s3 + lb ∧
      vs = [.func (.yield ll) #[] #[], .pointer (some ⟨bS, 0, none⟩), .pointer (some ⟨bP, 0, none⟩), .int .i64 a.at', .int .i64 a.seq, .int .i64 a.room] ∧ S' = c' :: scIt bS bP bR bD ⟨s1, s2, s3, tail⟩ ⟨x1, (l : Nat), (lb : Nat), x4, x5, x6, x7⟩ 0 chD)
    (fun vs _ _ => match vs with | [_, _, _, _, _, .int _ r] => r.toNat | _ => 0) ?_ ?_
  · exact ⟨_, Drop.refl _, ⟨lb + 1, tail, s3, lb⟩, c, h1, Imm.le_refl _, rfl, by show lb < lb + 1; omega, Nat.le_refl _, Int.le_refl _, Int.le_refl _, rfl, rfl⟩
  rintro vs gE J' S' hJ' ⟨⟨f, at_, seq, room⟩, c', hinv, hle, h2, h3, h4, h5, h6, rfl, rfl⟩
  dsimp only at h2 h3 h4 h5 h6
  refine CmpD.split (fun c1 => ?_) (fun c1 => ?_)
  rotate_left
  · have c1 : ¬ (0 : Int) < room := c1
    obtain rfl : room = 0 := by omega
    refine Done.mk ⟨_, Drop.refl _, c', _, rfl, .inl ⟨⟨f, at_, seq, 0⟩, ⟨?_, rfl⟩, hinv⟩⟩
    obtain ⟨f, rfl⟩ : ∃ m, f = m + 1 := ⟨f - 1, by omega⟩
    show scanK _ _ (f + 1) at_ seq 0 = []
    rw [scanK]
    cases hg : grpP (rbP d l lb) at_ 0 with
    | none => rfl
    | some p => obtain ⟨e, s, li⟩ := p; have := (grpP_room hg).1; omega
  obtain ⟨f, rfl⟩ : ∃ m, f = m + 1 := ⟨f - 1, by omega⟩
  have c1 : (0 : Int) < room := c1
  repeat (first | refine LoadD.own 2 rfl _ rfl rfl ?_)
  refine Tri.frame (hup J' (Imm.le_trans hJ hle) at_ (by omega) room) [3, 4] rfl rfl ?_
  rintro v J1 A' hJ1 ⟨rfl, ⟨hno, rfl⟩ | ⟨e, s, li, hso, aI, capI, gs, rfl, hgs, hgp⟩⟩
  · refine ⟨by simp, ?_⟩
    conv => whnf
    intro b7
    repeat (first | refine StoreD.st 5 rfl rfl rfl ?_)
    refine Done.mk ⟨_, Drop.pick [0, 1, 2, 3, 4] _ rfl, c', _, rfl, .inl ⟨⟨f + 1, at_, seq, room⟩, ⟨?_, rfl⟩, hmn _ _ _ _ hJ1 hinv⟩⟩
    show scanK _ _ (f + 1) at_ seq room = []
    rw [scanK, hno]
  · refine ⟨by simp, ?_⟩
    have hgr := grpP_room hso
    have hgl : gs.length = li.length := by rw [← hgp, List.length_map]
    have stop : ¬ ((e : Int) = s2 ∧ (s : Int) = seq) → scanK (rbP d l lb) s2 (f + 1) at_ seq room = [] := by
      intro hn
      rw [scanK, hso]
      dsimp only
      rw [if_neg hn]
    conv => whnf
    intro b7
    repeat (first | refine LoadD.own 1 rfl _ rfl rfl ?_ | refine LoadD.own 2 rfl _ rfl rfl ?_ | refine LoadD.own 3 rfl _ rfl rfl ?_ | refine LoadD.own 5 rfl _ rfl rfl ?_ | refine StoreD.st 5 rfl rfl rfl ?_ | refine CmpD.yes rfl ?_)
    refine CmpD.split (fun c2 => ?_) (fun c2 => ?_)
    rotate_left
    · skip
      exact Done.mk ⟨_, Drop.pick [0, 1, 2, 3, 4] _ rfl, c', _, rfl, .inl ⟨⟨f + 1, at_, seq, room⟩, ⟨stop fun h' => c2 h'.1, rfl⟩, hmn _ _ _ _ hJ1 hinv⟩⟩
    repeat (first | refine LoadD.own 5 rfl _ rfl rfl ?_)
    refine CmpD.split (fun c3 => ?_) (fun c3 => ?_)
    rotate_left
    · skip
      exact Done.mk ⟨_, Drop.pick [0, 1, 2, 3, 4] _ rfl, c', _, rfl, .inl ⟨⟨f + 1, at_, seq, room⟩, ⟨stop fun h' => c3 h'.2, rfl⟩, hmn _ _ _ _ hJ1 hinv⟩⟩
    repeat (first | refine LoadD.own 5 rfl _ rfl rfl ?_)
    rw [hgl]
    refine Tri.free (record_Blocks li.length J1 []) ?_
    rintro v _ _ hJ ⟨rfl, rfl, rfl⟩
    have hbn : blocksN li.length = ((li.length + 1 : Nat) : Int) := by unfold blocksN; rw [if_neg (by omega)]; omega
    rw [hbn]
    refine ToD.to (((at_ + (li.length + 1) : Nat)) : Int) (by show IntKind.i64.wrap ((at_ : Int) + _) = _; rw [wrap_i64 (by omega) (by omega)]; omega) ?_
    refine ToD.to (((room - (li.length + 1) : Nat)) : Int) (by show IntKind.i64.wrap ((room : Int) - _) = _; rw [wrap_i64 (by omega) (by omega)]; omega) ?_
    refine CodeF.sched [[], [], [], [2], [2, 3], [2, 3, 4], [2, 3, 4, 5], [1, 2, 3, 4, 5, 6], [], [0, 1, 2, 3, 4, 5, 6, 7, 8], [0, 1, 2, 3, 4, 5, 6, 7, 8, 9]] [0, 1, 2, 3, 4, 5, 6, 7, 8, 9, 10] (by kernel_rfl) ?_
    repeat (first | refine LoadP.at 2 rfl _ rfl rfl ?_ | refine LoadP.at 3 rfl _ rfl rfl ?_)
    refine Chk.mk (by show (lb : Int) ≠ 0; omega) ?_
    refine ToD.to _ (tmod_nat _ _) ?_
    repeat (first | refine LoadP.at 5 rfl _ rfl rfl ?_)
    refine yieldD rfl rfl rfl (args := #[.int .i64 (((at_ + (li.length + 1)) % lb : Nat) : Int), .agg #[.int .i64 (e : Nat), .int .i64 (s : Nat), .slice aI li.length capI]]) rfl 0 rfl (hY ⟨f + 1, at_, seq, room⟩ [.int .i64 (((at_ + (li.length + 1)) % lb : Nat) : Int), .agg #[.int .i64 (e : Nat), .int .i64 (s : Nat), .slice aI li.length capI]] ⟨f, at_ + (li.length + 1), seq + 1, room - (li.length + 1)⟩ J1 c' (Imm.le_trans hle hJ1)
      ⟨e, s, li, aI, capI, gs, rfl, hso, c2, c3, by rw [hgl], hgs, hgp, rfl, rfl, rfl⟩ (hmn _ _ _ _ hJ1 hinv)) ?_
    rintro y J2 c2' hle2 (⟨rfl, hi2⟩ | ⟨rfl, hs2⟩)
    · skip
      refine ToD.to (seq + 1) (by show IntKind.i64.wrap (seq + 1) = _; exact wrap_i64 (by omega) (by omega)) ?_
      refine ⟨_, Drop.pick [0, 1, 2, 3, 4] _ rfl, ⟨⟨f, at_ + (li.length + 1), seq + 1, room - (li.length + 1)⟩, c2', hi2, Imm.le_trans hle (Imm.le_trans hJ1 hle2), ?_, ?_, ?_, ?_, ?_, rfl, rfl⟩, ?_⟩
      · show room - (li.length + 1) + (at_ + (li.length + 1)) = lb + tail; omega
      · show room - (li.length + 1) < f; omega
      · show room - (li.length + 1) ≤ lb; omega
      · show s3 ≤ seq + 1; omega
      · show seq + 1 + ((room - (li.length + 1) : Nat) : Int) ≤ s3 + lb; omega
      · show (((room - (li.length + 1) : Nat)) : Int).toNat < ((room : Nat) : Int).toNat; omega
    · skip
      exact Done.mk ⟨_, Drop.pick [0, 1, 2, 3, 4] _ rfl, c2', _, rfl, .inr ⟨hs2, trivial⟩⟩
set_option maxHeartbeats 2000000 in
theorem scan_down {I : Imm} {bS bP bR bD : Nat} {d : DSt} {chD : List Blk} (hD : Dk I bD d chD) (hdn : d.down = true) (x : Lay) (l lb : Nat) (hl : x.l = l) (hlb : x.lb = lb) (h0 : 0 < lb) (hlen : l + lb ≤ d.now.length) (s : Sup) (tail : Nat) (htl : s.tail = tail) :
    SeqJ Tryz.prog 198 #[.pointer (some ⟨bS, 0, none⟩), .pointer (some ⟨bP, 0, none⟩)] I (scIt bS bP bR bD s x 0 chD) () (fun _ _ _ _ => False)
      (fun _ _ R => R = scIt bS bP bR bD s x 6 chD) (fun _ _ => True) := by
  have hr := hD.wf.range
  intro ll inv stp J c hJ hmn hY h1
  refine Tri.drop ?_ (fun _ _ _ _ h => h)
  obtain ⟨s1, s2, s3, s4⟩ := s
  obtain ⟨x1, x2, x3, x4, x5, x6, x7⟩ := x
  dsimp only at hl hlb htl ⊢
  subst hl hlb htl
  have hdw := group_down (bR := bR) (hD.mono hJ) hdn ⟨x1, (l : Nat), (lb : Nat), x4, x5, x6, x7⟩ l lb rfl rfl h0 hlen
  refine Tri.of (args := [.func (.yield ll) #[] #[], .pointer (some ⟨bS, 0, none⟩), .pointer (some ⟨bP, 0, none⟩)]) tabOk Tryz.func198 rfl (by kernel_rfl) (by kernel_rfl) ?_
  refine CodeF.sched [[], [0], [], [2], [0, 1], [0, 1, 2, 3, 4]] [0, 1, 2, 3, 4, 5] (by kernel_rfl) ?_
  repeat (first | refine LoadD.own 2 rfl _ rfl rfl ?_ | refine LoadD.own 3 rfl _ rfl rfl ?_ | refine LoadP.at 1 rfl _ rfl rfl ?_)
  refine CodeF.loopD [0, 1, 2, 4, 5, 6] (fun vs J' S' => J = J' ∧ inv () J' c ∧ vs = [.func (.yield ll) #[] #[], .pointer (some ⟨bS, 0, none⟩), .pointer (some ⟨bP, 0, none⟩), .int .i64 tail, .int .i64 s3, .int .i64 lb] ∧ S' = c :: scIt bS bP bR bD ⟨s1, s2, s3, tail⟩ ⟨x1, (l : Nat), (lb : Nat), x4, x5, x6, x7⟩ 0 chD)
    (fun _ _ _ => 0) ?_ ?_
  · exact ⟨_, Drop.refl _, rfl, h1, rfl, rfl⟩
  rintro vs gE J' S' hJ' ⟨rfl, hinv, rfl, rfl⟩
  refine CmpD.yes (by show (0 : Int) < lb; omega) ?_
  repeat (first | refine LoadD.own 2 rfl _ rfl rfl ?_)
  refine Tri.frame (hdw tail lb) [3, 4] rfl rfl ?_
  rintro v J1 A' hJ1 ⟨rfl, rfl⟩
  refine ⟨by simp, ?_⟩
  conv => whnf
  intro b7
  repeat (first | refine StoreD.st 5 rfl rfl rfl ?_)
  exact Done.mk ⟨_, Drop.pick [0, 1, 2, 3, 4] _ rfl, c, _, rfl, .inl ⟨(), rfl, hmn _ _ _ _ hJ1 hinv⟩⟩
end Go.Proofs.YtegdcjnjnoeinaaGreat
namespace Go.Proofs.YtegdcjnjnoeinaaGreat
open Go.RowKit Go.Sl
set_option maxRecDepth 20000

/-- a copy of bytes, its own -/
theorem copy_own (I : Imm) (a : Option Addr) (len cap : Nat) (l : Dat) (h : Rds I a len (bts l)) (hlen : len ≤ 140737488355328) :
    Tri Tryz.prog 44 #[.slice a len cap] I [] fun v J S' => ∃ a' cap' ch, v = .slice a' len cap' ∧ OwnB ch a' len cap' l ∧ I = J ∧ S' = [ch] := by
  refine Tri.lay (S2 := [[]]) (by simp) ?_
  refine Tri.of (args := [.slice a len cap]) tabOk Tryz.func44 rfl (by kernel_rfl) (by kernel_rfl) ?_
  refine appendD tabOk rfl rfl rfl rfl rfl rfl rfl 0 rfl (OwnC.nil 1 none) (SrcOk.slice (n := len) (news := bts l) tabOk rfl (by show SlC _ _ _ (len * 1) _; rw [Nat.mul_one]; exact h.slC) (bts_plain _)) rfl (by show (0 + len) * 1 ≤ _; omega) (by omega) ?_
  intro a2 cap2 ch2 hO
  rw [Nat.zero_add] at hO ⊢
  exact Done.mk ⟨a2, cap2, ch2, rfl, hO, rfl, rfl⟩
/-- a copy of bytes, fixed -/
theorem copy_fix (I : Imm) (a : Option Addr) (len cap : Nat) (l : Dat) (h : Rds I a len (bts l)) (hlen : len ≤ 1000000000) :
    Tri Tryz.prog 44 #[.slice a len cap] I [] fun v J _ => ∃ a' cap', v = .slice a' len cap' ∧ Rds J a' len (bts l) := by
  refine Tri.fixed (copy_own I a len cap l h (by omega)) ?_
  rintro v J S' hJ ⟨a', cap', ch, rfl, hO, rfl, rfl⟩
  refine ⟨0, ch, rfl, fun J' hJ' hm => ⟨a', cap', rfl, ?_⟩⟩
  exact Rds.of_own hO hm
def gv (g : Gate) : Int := if g.on then g.left else -1
@[reducible] def rV (s w : Hd) (count : Int) (down : Bool) (arm fault : Int) : Value := .agg #[s.v, w.v, .int .i64 count, .bool down, .int .i64 arm, .int .i64 fault]
def dec (x : Int) : Int := if 0 ≤ x then x - 1 else x
def opE (down : Bool) (arm fault : Int) : Int := if down then 6 else if arm = 0 then 6 else if fault = 0 then 4 else 0
theorem r4_operation (s w : Hd) (count : Int) (down : Bool) (arm fault : Int) (hA : In64 arm) (hF : In64 fault) (I : Imm) :
    Tri Tryz.prog 113 #[rV s w count down arm fault] I [] fun v J _ => I = J ∧ v = .tuple #[rV s w count (down || decide (arm = 0)) (if down then arm else dec arm) (if down then fault else dec fault), .int .i64 (opE down arm fault)] := by
  obtain ⟨sa, sl, sc⟩ := s
  obtain ⟨wa, wl, wc⟩ := w
  unfold In64 at hA hF
  refine Tri.of (args := [rV ⟨sa, sl, sc⟩ ⟨wa, wl, wc⟩ count down arm fault]) tabOk Tryz.func113 rfl (by kernel_rfl) (by kernel_rfl) ?_
  conv => whnf
  intro b1
  conv => whnf
  intro b2
  cases down with
  | true =>
    repeat (first | refine LoadD.own 0 rfl _ rfl rfl ?_ | refine LoadD.own 1 rfl _ rfl rfl ?_ | refine StoreD.st 1 rfl rfl rfl ?_)
    exact Done.mk ⟨rfl, rfl⟩
  | false =>
    refine LoadD.own 0 rfl _ rfl rfl ?_
    refine CodeF.sched [[], [0], [0, 1], [], [3], [3, 4], [0, 1, 2], [0, 1, 2, 3, 4, 5, 6]] [0, 1, 2, 3, 4, 5, 6, 7] (by kernel_rfl) ?_
    rcases Int.lt_trichotomy arm 0 with ha | rfl | ha <;> rcases Int.lt_trichotomy fault 0 with hf | rfl | hf
    · repeat (first | refine LoadD.own 0 rfl _ rfl rfl ?_ | refine LoadD.own 1 rfl _ rfl rfl ?_ | refine LoadP.at 0 rfl _ rfl rfl ?_ | refine StoreD.st 1 rfl rfl rfl ?_ | refine CmpD.no (by omega) ?_)
      have eA : dec arm = arm := by unfold dec; rw [if_neg (by omega)]
      have eF : dec fault = fault := by unfold dec; rw [if_neg (by omega)]
      have eD : decide (arm = (0 : Int)) = false := decide_eq_false (by omega)
      have eE : opE false arm fault = 0 := by unfold opE; rw [if_neg (by simp), if_neg (by omega), if_neg (by omega)]
      refine Done.mk ⟨rfl, Eq.trans (b := .tuple #[rV ⟨sa, sl, sc⟩ ⟨wa, wl, wc⟩ count false arm fault, .int .i64 0]) rfl ?_⟩
      rw [eE, eA, eF, eD]; rfl
    · repeat (first | refine LoadD.own 0 rfl _ rfl rfl ?_ | refine LoadD.own 1 rfl _ rfl rfl ?_ | refine LoadP.at 0 rfl _ rfl rfl ?_ | refine StoreD.st 0 rfl rfl rfl ?_ | refine StoreD.st 1 rfl rfl rfl ?_ | refine CmpD.yes rfl ?_ | refine CmpD.yes (by decide) ?_ | refine ToD.i64 (by omega) (by omega) ?_ | refine CmpD.no (by omega) ?_)
      have eA : dec arm = arm := by unfold dec; rw [if_neg (by omega)]
      have eF : dec 0 = (0 - 1) := by rfl
      have eD : decide (arm = (0 : Int)) = false := decide_eq_false (by omega)
      have eE : opE false arm 0 = 4 := by unfold opE; rw [if_neg (by simp), if_neg (by omega), if_pos rfl]
      refine Done.mk ⟨rfl, Eq.trans (b := .tuple #[rV ⟨sa, sl, sc⟩ ⟨wa, wl, wc⟩ count false arm (0 - 1), .int .i64 4]) rfl ?_⟩
      rw [eE, eA, eF, eD]; rfl
    · repeat (first | refine LoadD.own 0 rfl _ rfl rfl ?_ | refine LoadD.own 1 rfl _ rfl rfl ?_ | refine LoadP.at 0 rfl _ rfl rfl ?_ | refine StoreD.st 0 rfl rfl rfl ?_ | refine StoreD.st 1 rfl rfl rfl ?_ | refine ToD.i64 (by omega) (by omega) ?_ | refine CmpD.yes (by omega) ?_ | refine CmpD.no (by omega) ?_)
      have eA : dec arm = arm := by unfold dec; rw [if_neg (by omega)]
      have eF : dec fault = (fault - 1) := by unfold dec; rw [if_pos (by omega)]
      have eD : decide (arm = (0 : Int)) = false := decide_eq_false (by omega)
      have eE : opE false arm fault = 0 := by unfold opE; rw [if_neg (by simp), if_neg (by omega), if_neg (by omega)]
      refine Done.mk ⟨rfl, Eq.trans (b := .tuple #[rV ⟨sa, sl, sc⟩ ⟨wa, wl, wc⟩ count false arm (fault - 1), .int .i64 0]) rfl ?_⟩
      rw [eE, eA, eF, eD]; rfl
    · repeat (first | refine LoadD.own 0 rfl _ rfl rfl ?_ | refine LoadD.own 1 rfl _ rfl rfl ?_ | refine LoadP.at 0 rfl _ rfl rfl ?_ | refine StoreD.st 0 rfl rfl rfl ?_ | refine StoreD.st 1 rfl rfl rfl ?_ | refine CmpD.yes rfl ?_ | refine CmpD.yes (by decide) ?_ | refine ToD.i64 (by omega) (by omega) ?_ | refine CmpD.no (by omega) ?_)
      have eA : dec 0 = (0 - 1) := by rfl
      have eF : dec fault = fault := by unfold dec; rw [if_neg (by omega)]
      have eD : decide (0 = (0 : Int)) = true := rfl
      have eE : opE false 0 fault = 6 := by unfold opE; rw [if_neg (by simp), if_pos rfl]
      refine Done.mk ⟨rfl, Eq.trans (b := .tuple #[rV ⟨sa, sl, sc⟩ ⟨wa, wl, wc⟩ count true (0 - 1) fault, .int .i64 6]) rfl ?_⟩
      rw [eE, eA, eF, eD]; rfl
    · repeat (first | refine LoadD.own 0 rfl _ rfl rfl ?_ | refine LoadD.own 1 rfl _ rfl rfl ?_ | refine LoadP.at 0 rfl _ rfl rfl ?_ | refine StoreD.st 0 rfl rfl rfl ?_ | refine StoreD.st 1 rfl rfl rfl ?_ | refine CmpD.yes rfl ?_ | refine CmpD.yes (by decide) ?_ | refine ToD.i64 (by omega) (by omega) ?_)
      have eA : dec 0 = (0 - 1) := by rfl
      have eD : decide (0 = (0 : Int)) = true := rfl
      have eE : opE false 0 0 = 6 := by unfold opE; rw [if_neg (by simp), if_pos rfl]
      refine Done.mk ⟨rfl, Eq.trans (b := .tuple #[rV ⟨sa, sl, sc⟩ ⟨wa, wl, wc⟩ count true (0 - 1) (0 - 1), .int .i64 6]) rfl ?_⟩
      rw [eE, eA, eD]; rfl
    · repeat (first | refine LoadD.own 0 rfl _ rfl rfl ?_ | refine LoadD.own 1 rfl _ rfl rfl ?_ | refine LoadP.at 0 rfl _ rfl rfl ?_ | refine StoreD.st 0 rfl rfl rfl ?_ | refine StoreD.st 1 rfl rfl rfl ?_ | refine CmpD.yes rfl ?_ | refine CmpD.yes (by decide) ?_ | refine ToD.i64 (by omega) (by omega) ?_ | refine CmpD.yes (by omega) ?_ | refine CmpD.no (by omega) ?_)
      have eA : dec 0 = (0 - 1) := by rfl
      have eF : dec fault = (fault - 1) := by unfold dec; rw [if_pos (by omega)]
      have eD : decide (0 = (0 : Int)) = true := rfl
      have eE : opE false 0 fault = 6 := by unfold opE; rw [if_neg (by simp), if_pos rfl]
      refine Done.mk ⟨rfl, Eq.trans (b := .tuple #[rV ⟨sa, sl, sc⟩ ⟨wa, wl, wc⟩ count true (0 - 1) (fault - 1), .int .i64 6]) rfl ?_⟩
      rw [eE, eA, eF, eD]; rfl
    · repeat (first | refine LoadD.own 0 rfl _ rfl rfl ?_ | refine LoadD.own 1 rfl _ rfl rfl ?_ | refine LoadP.at 0 rfl _ rfl rfl ?_ | refine StoreD.st 0 rfl rfl rfl ?_ | refine StoreD.st 1 rfl rfl rfl ?_ | refine ToD.i64 (by omega) (by omega) ?_ | refine CmpD.yes (by omega) ?_ | refine CmpD.no (by omega) ?_)
      have eA : dec arm = (arm - 1) := by unfold dec; rw [if_pos (by omega)]
      have eF : dec fault = fault := by unfold dec; rw [if_neg (by omega)]
      have eD : decide (arm = (0 : Int)) = false := decide_eq_false (by omega)
      have eE : opE false arm fault = 0 := by unfold opE; rw [if_neg (by simp), if_neg (by omega), if_neg (by omega)]
      refine Done.mk ⟨rfl, Eq.trans (b := .tuple #[rV ⟨sa, sl, sc⟩ ⟨wa, wl, wc⟩ count false (arm - 1) fault, .int .i64 0]) rfl ?_⟩
      rw [eE, eA, eF, eD]; rfl
    · repeat (first | refine LoadD.own 0 rfl _ rfl rfl ?_ | refine LoadD.own 1 rfl _ rfl rfl ?_ | refine LoadP.at 0 rfl _ rfl rfl ?_ | refine StoreD.st 0 rfl rfl rfl ?_ | refine StoreD.st 1 rfl rfl rfl ?_ | refine CmpD.yes rfl ?_ | refine CmpD.yes (by decide) ?_ | refine ToD.i64 (by omega) (by omega) ?_ | refine CmpD.yes (by omega) ?_ | refine CmpD.no (by omega) ?_)
      have eA : dec arm = (arm - 1) := by unfold dec; rw [if_pos (by omega)]
      have eF : dec 0 = (0 - 1) := by rfl
      have eD : decide (arm = (0 : Int)) = false := decide_eq_false (by omega)
      have eE : opE false arm 0 = 4 := by unfold opE; rw [if_neg (by simp), if_neg (by omega), if_pos rfl]
      refine Done.mk ⟨rfl, Eq.trans (b := .tuple #[rV ⟨sa, sl, sc⟩ ⟨wa, wl, wc⟩ count false (arm - 1) (0 - 1), .int .i64 4]) rfl ?_⟩
      rw [eE, eA, eF, eD]; rfl
    · repeat (first | refine LoadD.own 0 rfl _ rfl rfl ?_ | refine LoadD.own 1 rfl _ rfl rfl ?_ | refine LoadP.at 0 rfl _ rfl rfl ?_ | refine StoreD.st 0 rfl rfl rfl ?_ | refine StoreD.st 1 rfl rfl rfl ?_ | refine ToD.i64 (by omega) (by omega) ?_ | refine CmpD.yes (by omega) ?_ | refine CmpD.no (by omega) ?_)
      have eA : dec arm = (arm - 1) := by unfold dec; rw [if_pos (by omega)]
      have eF : dec fault = (fault - 1) := by unfold dec; rw [if_pos (by omega)]
      have eD : decide (arm = (0 : Int)) = false := decide_eq_false (by omega)
      have eE : opE false arm fault = 0 := by unfold opE; rw [if_neg (by simp), if_neg (by omega), if_neg (by omega)]
      refine Done.mk ⟨rfl, Eq.trans (b := .tuple #[rV ⟨sa, sl, sc⟩ ⟨wa, wl, wc⟩ count false (arm - 1) (fault - 1), .int .i64 0]) rfl ?_⟩
      rw [eE, eA, eF, eD]; rfl
end Go.Proofs.YtegdcjnjnoeinaaGreat
namespace Go.Proofs.YtegdcjnjnoeinaaGreat
open Go.RowKit Go.Sl
set_option maxRecDepth 20000

def atP (b : Dat) (l : List PImg) (n : Int) : Dat := l.foldl (fun x g => if g.1 = n then g.2 else x) b
theorem atP_snoc (b : Dat) (l : List PImg) (g : PImg) (n : Int) : atP b (l ++ [g]) n = if g.1 = n then g.2 else atP b l n := by simp [atP]
theorem pair_fst {c : List Value} {o : Nat} {x y : Value} (h : (c.drop o).take 2 = [x, y]) : (c.drop o).take 1 = [x] := by
  have := congrArg (List.take 1) h
  simpa [List.take_take] using this
theorem pair_snd {c : List Value} {o : Nat} {x y : Value} (h : (c.drop o).take 2 = [x, y]) : (c.drop (o + 1)).take 1 = [y] := take_part h (i := 1) (m := 1) (by omega)
theorem r4_At (s w : Hd) (count : Int) (down : Bool) (arm fault : Int) (bS : List Bk) (gs : List Img) (I : Imm) (hS : Rds I s.a s.len (bS.map Bk.cell)) (hsl : s.len ≤ 1000000) (hW : ImgsOk I w.a gs) (hwl : w.len = gs.length) (hwm : gs.length ≤ 1000000) (i : Nat) {bk : Bk} (hi : bS[i]? = some bk) (hok : BkOk I bk) :
    Tri Tryz.prog 116 #[rV s w count down arm fault, .int .i64 i] I [] fun v J _ => I = J ∧ ∃ a len cap, v = .slice a len cap ∧ Rds I a len (bts (atP bk.data (gs.map Img.pr) i)) := by
  obtain ⟨sa, sl, sc⟩ := s
  obtain ⟨wa, wl, wc⟩ := w
  dsimp only at hS hsl hW hwl
  subst hwl
  have hcell : (bS.map Bk.cell)[i]? = some bk.cell := by rw [List.getElem?_map, hi]; rfl
  have hil : i < sl := by
    have h1 := hS.len
    have h2 := (List.getElem?_eq_some_iff.1 hi).1
    rw [List.length_map] at h1; omega
  refine Tri.of (args := [rV ⟨sa, sl, sc⟩ ⟨wa, gs.length, wc⟩ count down arm fault, .int .i64 i]) tabOk Tryz.func116 rfl (by kernel_rfl) (by kernel_rfl) ?_
  conv => whnf
  intro b1
  refine LoadD.own 0 rfl _ rfl rfl ?_
  rcases hS.mem with q0 | ⟨bB, oB, cB, TB, fB, rfl, hIB, hcB⟩
  · omega
  refine Chk.mk (by dsimp only; omega) ?_
  refine LoadD.imm hIB [bk.cell] (take_get hcB hcell) rfl ?_
  refine CodeF.loopD [1, 2, 5, 6] (fun vs J' S' => ∃ (j : Nat) (a : Option Addr) (len cap : Nat), j ≤ gs.length ∧ Rds I a len (bts (atP bk.data ((gs.take j).map Img.pr) i)) ∧ vs = [.int .i64 i, .pointer (some ⟨b1, 0, none⟩), .slice a len cap, .int .i64 j] ∧ I = J' ∧ S' = [[(b1, row [.slice (some ⟨bB, oB, none⟩) sl sc, .slice wa gs.length wc, .int .i64 count, .bool down, .int .i64 arm, .int .i64 fault] 76)]])
    (fun vs _ _ => match vs with | [_, _, _, .int _ j] => ((gs.length : Int) - j).toNat | _ => 0) ?_ ?_
  · exact ⟨_, Drop.pick [0] _ rfl, 0, bk.a, 4096, bk.cap, by omega, hok, rfl, rfl, rfl⟩
  rintro vs gE J' S' hJ' ⟨j, a, len, cap, hjl, hR, rfl, rfl, rfl⟩
  refine LoadD.own 0 rfl _ rfl rfl ?_
  refine CmpD.split (fun c1 => ?_) (fun c1 => ?_)
  · have hlt : j < gs.length := by omega
    rcases hW.1.mem with q0 | ⟨bA, oA, cA, TA, fA, rfl, hIA, hcA⟩
    · omega
    have hpair := take_part hcA (i := j * 2) (m := 2) (by omega)
    rw [imgCells_at hlt] at hpair
    have htk : gs.take (j + 1) = gs.take j ++ [gs[j]] := by rw [List.take_add_one, List.getElem?_eq_getElem hlt]; rfl
    have hmem : gs[j] ∈ gs := List.getElem_mem hlt
    have hgd := (hW.2 gs[j] hmem).2
    generalize gs[j] = g at *
    refine LoadD.own 0 rfl _ rfl rfl ?_
    refine Chk.mk (by omega) ?_
    refine LoadD.imm hIA [.int .i64 g.blk] (pair_fst hpair) rfl ?_
    refine CmpD.split (fun c2 => ?_) (fun c2 => ?_)
    · refine LoadD.own 0 rfl _ rfl rfl ?_
      refine Chk.mk (by omega) ?_
      refine LoadD.imm hIA [.slice g.a g.len g.cap] (pair_snd hpair) rfl ?_
      refine ToD.i64 (by omega) (by omega) ?_
      refine ⟨_, Drop.pick [0] _ rfl, ⟨j + 1, g.a, g.len, g.cap, by omega, ?_, rfl, rfl, rfl⟩, ?_⟩
      · rw [htk, List.map_append, List.map_singleton, atP_snoc, if_pos c2]; exact hgd
      · show ((gs.length : Int) - ((j : Int) + 1)).toNat < ((gs.length : Int) - j).toNat; omega
    · refine ToD.i64 (by omega) (by omega) ?_
      refine ⟨_, Drop.pick [0] _ rfl, ⟨j + 1, a, len, cap, by omega, ?_, rfl, rfl, rfl⟩, ?_⟩
      · rw [htk, List.map_append, List.map_singleton, atP_snoc, if_neg c2]; exact hR
      · show ((gs.length : Int) - ((j : Int) + 1)).toNat < ((gs.length : Int) - j).toNat; omega
  · obtain rfl : j = gs.length := by omega
    rw [List.take_length] at hR
    exact Done.mk ⟨rfl, a, len, cap, rfl, hR⟩
end Go.Proofs.YtegdcjnjnoeinaaGreat
namespace Go.Proofs.YtegdcjnjnoeinaaGreat
open Go.RowKit Go.Sl
set_option maxRecDepth 20000

end Go.Proofs.YtegdcjnjnoeinaaGreat
namespace Go.Proofs.YtegdcjnjnoeinaaGreat
open Go.RowKit Go.Sl
set_option maxRecDepth 20000

def LayOk (x : Lay) : Prop := 64 ≤ x.b ∧ x.b ≤ 512 ∧ x = layOf x.b.toNat
theorem r5_Right (x : Lay) (I : Imm) : Tri Tryz.prog 176 #[x.v] I [] fun v J _ => I = J ∧ ∃ b, v = .bool b ∧ (b = true ↔ LayOk x) := by
  refine Tri.of (args := [x.v]) tabOk Tryz.func176 rfl (by kernel_rfl) (by kernel_rfl) ?_
  conv => whnf
  intro b1
  repeat (first | refine LoadD.own 0 rfl _ rfl rfl ?_)
  refine Tri.free (ref_Of x.b I) ?_
  rintro v J _ hJ ⟨rfl, rfl⟩
  by_cases hb : x.b < 64 ∨ 512 < x.b
  · rw [layA, if_pos hb]
    conv => whnf
    intro b3
    repeat (first | refine StoreD.st 1 rfl rfl rfl ?_ | refine CmpD.no (by decide) ?_)
    exact Done.mk ⟨rfl, false, rfl, by simp [LayOk]; omega⟩
  rw [layA, if_neg hb]
  conv => whnf
  intro b3
  repeat (first | refine LoadD.own 0 rfl _ rfl rfl ?_ | refine LoadD.own 1 rfl _ rfl rfl ?_ | refine StoreD.st 1 rfl rfl rfl ?_ | refine CmpD.yes rfl ?_)
  have hx : ((x.b.toNat : Nat) : Int) = x.b := by omega
  refine lay_cmp (layOf x.b.toNat) x rfl (.inl rfl) ?_ rfl ?_
  · show Value.agg _ = _
    unfold layOf
    rw [hx]; rfl
  refine CmpD.split (fun c1 => ?_) (fun c1 => ?_)
  · skip
    refine Done.mk ⟨rfl, true, rfl, ?_⟩
    simp only [true_iff]
    refine ⟨by omega, by omega, ?_⟩
    simp only [List.cons.injEq, and_true] at c1
    obtain ⟨q1, q2, q3, q4, q5, q6, q7⟩ := c1
    obtain ⟨x1, x2, x3, x4, x5, x6, x7⟩ := x
    dsimp only at q1 q2 q3 q4 q5 q6 q7 ⊢
    rw [Lay.mk.injEq]
    exact ⟨q1.symm, q2.symm, q3.symm, q4.symm, q5.symm, q6.symm, q7.symm⟩
  · skip
    refine Done.mk ⟨rfl, false, rfl, ?_⟩
    simp only [Bool.false_eq_true, false_iff]
    intro h
    apply c1
    rw [← h.2.2]
/-! ### the last image of a block -/
def lastD (l : List PImg) (n : Int) : Option Dat := l.foldl (fun x g => if g.1 = n then some g.2 else x) none
theorem lastD_snoc (l : List PImg) (g : PImg) (n : Int) : lastD (l ++ [g]) n = if g.1 = n then some g.2 else lastD l n := by simp [lastD]
theorem lookup_pput (ms : List PImg) (g : PImg) (n : Int) : (pput ms g).lookup n = if g.1 = n then some g.2 else ms.lookup n := by
  unfold pput
  split
  · rename_i h
    induction ms with
    | nil => simp at h
    | cons x ms ih =>
      rw [List.map_cons]
      by_cases hx : x.1 = g.1
      · rw [if_pos hx]
        by_cases hn : g.1 = n
        · rw [if_pos hn, List.lookup_cons, show (n == g.1) = true by simp [hn]]
        · rw [if_neg hn, List.lookup_cons, show (n == g.1) = false by simpa using fun h' => hn h'.symm, List.lookup_cons, hx, show (n == g.1) = false by simpa using fun h' => hn h'.symm]
          by_cases hm : g.1 ∈ ms.map Prod.fst
          · have := ih hm; rw [if_neg hn] at this; exact this
          · have : ms.map (fun x => if x.1 = g.1 then g else x) = ms := by
              rw [List.map_congr_left (g := id)]
              · simp
              · intro y hy
                rw [if_neg (fun (h' : y.1 = g.1) => hm (h' ▸ List.mem_map_of_mem hy))]; rfl
            rw [this]
      · rw [if_neg hx, List.lookup_cons, List.lookup_cons]
        have hm : g.1 ∈ ms.map Prod.fst := by
          rw [List.map_cons] at h
          rcases List.mem_cons.1 h with h | h
          · exact absurd h.symm hx
          · exact h
        by_cases hn : n = x.1
        · rw [show (n == x.1) = true by simpa using hn]
          rw [if_neg (fun h' => hx (by rw [h', hn]))]
        · rw [show (n == x.1) = false by simpa using hn]
          exact ih hm
  · rename_i h
    rw [List.lookup_append]
    by_cases hn : g.1 = n
    · rw [if_pos hn]
      have : ms.lookup n = none := by
        rw [List.lookup_eq_none_iff]
        intro y hy
        simp only [bne_iff_ne, ne_eq]
        intro h'
        exact h (by rw [hn, h']; exact List.mem_map_of_mem hy)
      rw [this, List.lookup_cons, show (n == g.1) = true by simp [hn]]; rfl
    · rw [if_neg hn, List.lookup_cons, show (n == g.1) = false by simpa using fun h' => hn h'.symm]
      simp
theorem lookup_lastP (l : List PImg) (n : Int) : (lastP l).lookup n = lastD l n := by
  suffices h : ∀ (l ms : List PImg) (o : Option Dat), ms.lookup n = o → (l.foldl pput ms).lookup n = l.foldl (fun x g => if g.1 = n then some g.2 else x) o from h l [] none rfl
  intro l
  induction l with
  | nil => intro ms o h; exact h
  | cons g l ih =>
    intro ms o h
    rw [List.foldl_cons, List.foldl_cons]
    refine ih _ _ ?_
    rw [lookup_pput, h]
theorem pput_keys (ms : List PImg) (g : PImg) : (pput ms g).map Prod.fst = if g.1 ∈ ms.map Prod.fst then ms.map Prod.fst else ms.map Prod.fst ++ [g.1] := by
  unfold pput
  split
  · rw [List.map_map]
    refine List.map_congr_left fun x _ => ?_
    show (if x.1 = g.1 then g else x).1 = x.1
    split
    · rename_i h; exact h.symm
    · rfl
  · simp
theorem lastP_nodup (l : List PImg) : ((lastP l).map Prod.fst).Nodup := by
  suffices h : ∀ (l ms : List PImg), (ms.map Prod.fst).Nodup → ((l.foldl pput ms).map Prod.fst).Nodup from h l [] (by simp)
  intro l
  induction l with
  | nil => intro ms h; exact h
  | cons g l ih =>
    intro ms h
    rw [List.foldl_cons]
    refine ih _ ?_
    rw [pput_keys]
    split
    · exact h
    · rename_i hn
      rw [List.nodup_append]
      refine ⟨h, by simp, ?_⟩
      rintro a ha b hb rfl
      simp only [List.mem_singleton] at hb
      exact hn (hb ▸ ha)
theorem mem_lastP (l : List PImg) (n : Int) : n ∈ (lastP l).map Prod.fst ↔ (lastD l n).isSome = true := by
  rw [← lookup_lastP, List.lookup_isSome_iff]
  constructor
  · intro h
    obtain ⟨x, hx, rfl⟩ := List.mem_map.1 h
    exact ⟨x, hx, by simp⟩
  · rintro ⟨x, hx, he⟩
    have : n = x.1 := by simpa using he
    rw [this]; exact List.mem_map_of_mem hx
/-- block by block, the last image -/
def homeK (lo : Int) (l : List PImg) : Nat → List PImg
  | 0 => []
  | k + 1 => homeK lo l k ++ (match lastD l (lo + k) with | some d => [(lo + k, d)] | none => [])
theorem homeK_keys (lo : Int) (l : List PImg) (k : Nat) : ∀ n, n ∈ (homeK lo l k).map Prod.fst ↔ lo ≤ n ∧ n < lo + k ∧ (lastD l n).isSome = true := by
  induction k with
  | zero => intro n; show n ∈ ([] : List Int) ↔ _; simp only [List.not_mem_nil, false_iff]; omega
  | succ k ih =>
    intro n
    rw [homeK, List.map_append, List.mem_append, ih n]
    cases hd : lastD l (lo + k) with
    | none =>
      simp only [List.map_nil, List.not_mem_nil, or_false]
      constructor
      · rintro ⟨h1, h2, h3⟩; exact ⟨h1, by omega, h3⟩
      · rintro ⟨h1, h2, h3⟩
        refine ⟨h1, ?_, h3⟩
        by_cases he : n = lo + k
        · subst he; rw [hd] at h3; cases h3
        · omega
    | some d =>
      simp only [List.map_cons, List.map_nil, List.mem_singleton]
      constructor
      · rintro (⟨h1, h2, h3⟩ | rfl)
        · exact ⟨h1, by omega, h3⟩
        · exact ⟨by omega, by omega, by rw [hd]; rfl⟩
      · rintro ⟨h1, h2, h3⟩
        by_cases he : n = lo + k
        · exact .inr he
        · exact .inl ⟨h1, by omega, h3⟩
theorem homeK_lt (lo : Int) (l : List PImg) (k : Nat) : ((homeK lo l k).map Prod.fst).Pairwise (fun a b => a < b) := by
  induction k with
  | zero => exact List.Pairwise.nil
  | succ k ih =>
    rw [homeK, List.map_append, List.pairwise_append]
    refine ⟨ih, ?_, ?_⟩
    · cases lastD l (lo + k) <;> simp
    · intro a ha b hb
      have := (homeK_keys lo l k a).1 ha
      cases hd : lastD l (lo + k) with
      | none => rw [hd] at hb; simp at hb
      | some d =>
        rw [hd] at hb
        simp only [List.map_cons, List.map_nil, List.mem_singleton] at hb
        omega
theorem homeK_snd (lo : Int) (l : List PImg) (k : Nat) : homeK lo l k = ((homeK lo l k).map Prod.fst).map fun n => (n, (lastD l n).getD []) := by
  induction k with
  | zero => rfl
  | succ k ih =>
    rw [homeK, List.map_append, List.map_append, ← ih]
    congr 1
    cases hd : lastD l (lo + k) with
    | none => rfl
    | some d => simp [hd]
theorem homeK_homeP (lo : Int) (l : List PImg) (k : Nat) (h : ∀ g ∈ l, lo ≤ g.1 ∧ g.1 < lo + k) : homeK lo l k = homeP l := by
  have hmem : ∀ n, (lastD l n).isSome = true → lo ≤ n ∧ n < lo + k := by
    intro n hn
    suffices hs : ∀ (l : List PImg) (o : Option Dat), (o.isSome = true → lo ≤ n ∧ n < lo + k) → (∀ g ∈ l, lo ≤ g.1 ∧ g.1 < lo + k) → (l.foldl (fun x g => if g.1 = n then some g.2 else x) o).isSome = true → lo ≤ n ∧ n < lo + k from hs l none (by simp) h hn
    intro l
    induction l with
    | nil => intro o ho _ h; exact ho h
    | cons g l ih =>
      intro o ho hl hs
      refine ih _ ?_ (fun x hx => hl x (by simp [hx])) hs
      show (if g.1 = n then some g.2 else o).isSome = true → _
      split
      · rename_i e; intro _; rw [← e]; exact hl g (by simp)
      · exact ho
  have hk : (homeK lo l k).map Prod.fst = sortI ((lastP l).map Prod.fst) := by
    have hp : ((lastP l).map Prod.fst).Perm ((homeK lo l k).map Prod.fst) := by
      refine (List.perm_ext_iff_of_nodup (lastP_nodup l) ?_).2 ?_
      · exact (homeK_lt lo l k).imp (fun {a b} h => by omega)
      · intro n
        rw [mem_lastP, homeK_keys]
        exact ⟨fun h => ⟨(hmem n h).1, (hmem n h).2, h⟩, fun h => h.2.2⟩
    exact (sortI_of hp ((homeK_lt lo l k).imp (fun {a b} h => by omega))).symm
  rw [homeK_snd, hk]
  unfold homeP
  refine List.map_congr_left fun n _ => ?_
  rw [lookup_lastP]
/-- as a descending search finds it -/
theorem lastD_take (l : List PImg) (n : Int) : ∀ k, k ≤ l.length → (∀ i, k ≤ i → (h : i < l.length) → l[i].1 ≠ n) → lastD l n = lastD (l.take k) n := by
  intro k hk hno
  suffices h : ∀ m, k + m ≤ l.length → lastD (l.take (k + m)) n = lastD (l.take k) n by
    have := h (l.length - k) (by omega)
    rw [show k + (l.length - k) = l.length by omega, List.take_length] at this
    exact this
  intro m
  induction m with
  | zero => intro _; rfl
  | succ m ih =>
    intro hm
    have hlt : k + m < l.length := by omega
    have e : l.take (k + (m + 1)) = l.take (k + m) ++ [l[k + m]] := by
      rw [show k + (m + 1) = (k + m) + 1 by omega, List.take_add_one, List.getElem?_eq_getElem hlt]; rfl
    rw [e, lastD_snoc, if_neg (hno _ (by omega) hlt), ih (by omega)]
theorem allI_take (l : List Grp) (i : Nat) (h : i < l.length) : allI (l.take (i + 1)) = allI (l.take i) ++ l[i].gs := by
  unfold allI
  rw [List.take_add_one, List.getElem?_eq_getElem h, List.flatMap_append]; simp
end Go.Proofs.YtegdcjnjnoeinaaGreat
namespace Go.Proofs.YtegdcjnjnoeinaaGreat
open Go.RowKit Go.Sl
set_option maxRecDepth 20000

/-- the arguments are as they must be -/
def ScanOk (n : Nat) (x : Lay) (s : Sup) : Prop := 64 ≤ n ∧ x = layOf n ∧ s.blocks = n ∧ 0 ≤ s.tail ∧ s.tail < layL n ∧ 1 ≤ s.epoch ∧ s.epoch ≤ 8388608 ∧ 1 ≤ s.seq ∧ s.seq ≤ 549755813888
noncomputable def scanL (d : DSt) (s : Sup) : List G3 := scanK (rbP d 2 (layL (d.now.length : Int)).toNat) s.epoch ((layL (d.now.length : Int)).toNat + 1) s.tail.toNat s.seq (layL (d.now.length : Int)).toNat
def placeP (lb tail : Nat) (l : List G3) : Nat := (tail + (l.map fun g => g.2.2.length + 1).sum) % lb
structure GrpsOk (J : Imm) (gl : List Grp) (l : List G3) : Prop where
  each : ∀ g ∈ gl, ImgsOk J g.a g.gs
  g3 : gl.map Grp.g3 = l.map up3
theorem GrpsOk.mono {I J : Imm} {gl : List Grp} {l : List G3} (h : GrpsOk I gl l) (hJ : I.le J) : GrpsOk J gl l := ⟨fun g hg => (h.each g hg).mono hJ, h.g3⟩
theorem GrpsOk.len {J : Imm} {gl : List Grp} {l : List G3} (h : GrpsOk J gl l) : gl.length = l.length := by have := congrArg List.length h.g3; simpa using this
theorem grpCells_snoc (l : List Grp) (g : Grp) : grpCells (l ++ [g]) = grpCells l ++ [.int .i64 g.e, .int .i64 g.s, .slice g.a g.gs.length g.cap] := by simp [grpCells]
theorem scan_bound {rb : Nat → Dat} {ep : Int} : ∀ (f at_ : Nat) (seq : Int) (room : Nat), (scanK rb ep f at_ seq room).length ≤ room ∧ ((scanK rb ep f at_ seq room).map fun g => g.2.2.length + 1).sum ≤ room
  | 0, _, _, _ => by simp [scanK]
  | f + 1, at_, seq, room => by
    rw [scanK]
    cases hg : grpP rb at_ room with
    | none => simp
    | some p =>
      obtain ⟨e, s, l⟩ := p
      dsimp only
      split
      · have h1 := grpP_room hg
        obtain ⟨h2, h3⟩ := scan_bound f (at_ + (l.length + 1)) (seq + 1) (room - (l.length + 1)) (rb := rb) (ep := ep)
        simp only [List.length_cons, List.map_cons, List.sum_cons]
        omega
      · simp
theorem ring_groups (bR : Nat) (s : Sup) (I : Imm) : Tri Tryz.prog 169 #[.pointer (some ⟨bR, 0, none⟩), s.v] I [] fun v J S' => ∃ bS bP, v = .func (.func 198) #[] #[.pointer (some ⟨bS, 0, none⟩), .pointer (some ⟨bP, 0, none⟩)] ∧ I = J ∧ S' = [[(bP, row [.pointer (some ⟨bR, 0, none⟩)] 224)], sBoxS bS s] := by
  refine Tri.of (args := [.pointer (some ⟨bR, 0, none⟩), s.v]) tabOk Tryz.func169 rfl (by kernel_rfl) (by kernel_rfl) ?_
  conv => whnf
  intro bP
  conv => whnf
  intro bS
  exact Done.mk ⟨bS, bP, rfl, rfl, rfl⟩
theorem placeP_snoc (lb tail : Nat) (l : List G3) (g : G3) : placeP lb tail (l ++ [g]) = (tail + (l.map fun g => g.2.2.length + 1).sum + (g.2.2.length + 1)) % lb := by
  unfold placeP
  rw [List.map_append, List.sum_append]
  simp [Nat.add_assoc]
set_option maxHeartbeats 8000000 in
theorem scan_Groups {I : Imm} {bD : Nat} {d : DSt} {chD : List Blk} (hD : Dk I bD d chD) (x : Lay) (s : Sup) :
    Tri Tryz.prog 107 #[.pointer (some ⟨bD, 0, none⟩), x.v, s.v] I [chD] fun v J S' => S' = [chD] ∧
      ((¬ ScanOk d.now.length x s ∧ v = .tuple #[.slice none 0 0, .int .i64 0, .int .i64 2]) ∨
       (ScanOk d.now.length x s ∧ d.down = true ∧ v = .tuple #[.slice none 0 0, .int .i64 0, .int .i64 6]) ∨
       (ScanOk d.now.length x s ∧ d.down = false ∧ ∃ aO capO gl, v = .tuple #[.slice aO gl.length capO, .int .i64 (placeP (layL d.now.length).toNat s.tail.toNat (scanL d s) : Nat), .int .i64 0] ∧ Rds J aO (gl.length * 3) (grpCells gl) ∧ GrpsOk J gl (scanL d s))) := by
  have hr := hD.wf.range
  refine Tri.drop (Tri.fixed (Q := fun v J S' => ∃ chO, S' = [chD, chO] ∧
      ((¬ ScanOk d.now.length x s ∧ v = .tuple #[.slice none 0 0, .int .i64 0, .int .i64 2]) ∨
       (ScanOk d.now.length x s ∧ d.down = true ∧ v = .tuple #[.slice none 0 0, .int .i64 0, .int .i64 6]) ∨
       (ScanOk d.now.length x s ∧ d.down = false ∧ ∃ aO capO gl, v = .tuple #[.slice aO gl.length capO, .int .i64 (placeP (layL d.now.length).toNat s.tail.toNat (scanL d s) : Nat), .int .i64 0] ∧ OwnC chO 3 aO gl.length capO (grpCells gl) ∧ GrpsOk J gl (scanL d s)))) ?_
    (K := fun v J S' => S' = [chD, []] ∧
      ((¬ ScanOk d.now.length x s ∧ v = .tuple #[.slice none 0 0, .int .i64 0, .int .i64 2]) ∨
       (ScanOk d.now.length x s ∧ d.down = true ∧ v = .tuple #[.slice none 0 0, .int .i64 0, .int .i64 6]) ∨
       (ScanOk d.now.length x s ∧ d.down = false ∧ ∃ aO capO gl, v = .tuple #[.slice aO gl.length capO, .int .i64 (placeP (layL d.now.length).toNat s.tail.toNat (scanL d s) : Nat), .int .i64 0] ∧ Rds J aO (gl.length * 3) (grpCells gl) ∧ GrpsOk J gl (scanL d s)))) ?_) ?_
  rotate_left
  · rintro v J S' hJ ⟨chO, rfl, h⟩
    refine ⟨1, chO, rfl, fun J' hJ' hm => ⟨rfl, ?_⟩⟩
    rcases h with h | h | ⟨h1, h2, aO, capO, gl, rfl, hO, hg⟩
    · exact .inl h
    · exact .inr (.inl h)
    · exact .inr (.inr ⟨h1, h2, aO, capO, gl, rfl, Rds.of_ownS hO hm, hg.mono hJ'⟩)
  · rintro v J S' hJ ⟨rfl, h⟩
    exact ⟨[chD], Drop.pick [0] _ rfl, rfl, h⟩
  refine Tri.drop ?_ (fun _ _ _ _ h => h)
  obtain ⟨s1, s2, s3, s4⟩ := s
  refine Tri.of (args := [.pointer (some ⟨bD, 0, none⟩), x.v, (⟨s1, s2, s3, s4⟩ : Sup).v]) tabOk Tryz.func107 rfl (by kernel_rfl) (by kernel_rfl) ?_
  conv => whnf
  intro b4
  conv => whnf
  intro b5
  refine Tri.frame1 0 rfl (dk_Size hD) ?_
  rintro v J S' hJ ⟨rfl, rfl, rfl⟩
  refine ⟨_, rfl, ?_⟩
  refine CmpD.no (by omega) ?_
  skip
  refine Tri.frame1 0 rfl (dk_Size hD) ?_
  rintro v J S' hJ ⟨rfl, rfl, rfl⟩
  refine ⟨_, rfl, ?_⟩
  skip
  obtain ⟨n, hn⟩ : ∃ n, n = d.now.length := ⟨_, rfl⟩
  rw [← hn] at hr ⊢
  refine Tri.free (layout_Of n I) ?_
  rintro v J _ hJ ⟨rfl, rfl⟩
  have badS : ∀ (J : Imm) (S : St), Drop S [chD] → ¬ ScanOk n x ⟨s1, s2, s3, s4⟩ → ∃ S'', Drop S S'' ∧ ∃ chO, S'' = [chD, chO] ∧
      ((¬ ScanOk n x ⟨s1, s2, s3, s4⟩ ∧ Value.tuple #[.slice none 0 0, .int .i64 0, .int .i64 2] = .tuple #[.slice none 0 0, .int .i64 0, .int .i64 2]) ∨
       (ScanOk n x ⟨s1, s2, s3, s4⟩ ∧ d.down = true ∧ Value.tuple #[.slice none 0 0, .int .i64 0, .int .i64 2] = .tuple #[.slice none 0 0, .int .i64 0, .int .i64 6]) ∨
       (ScanOk n x ⟨s1, s2, s3, s4⟩ ∧ d.down = false ∧ ∃ aO capO gl, Value.tuple #[.slice none 0 0, .int .i64 0, .int .i64 2] = .tuple #[.slice aO gl.length capO, .int .i64 (placeP (layL n).toNat s4.toNat (scanL d ⟨s1, s2, s3, s4⟩) : Nat), .int .i64 0] ∧ OwnC chO 3 aO gl.length capO (grpCells gl) ∧ GrpsOk J gl (scanL d ⟨s1, s2, s3, s4⟩))) :=
    fun J S hd hno => ⟨[chD, []], hd.and, [], rfl, .inl ⟨hno, rfl⟩⟩
  by_cases hb : (n : Int) < 64 ∨ 512 < (n : Int)
  · rw [layA, if_pos hb]
    conv => whnf
    intro b9
    repeat (first | refine StoreD.st 3 rfl rfl rfl ?_)
    refine CodeF.sched [[], [0], [0, 1], [0, 1, 2], [0, 1, 2], [0, 1, 2, 3, 4], [0, 1, 2, 3, 4, 5], [0, 1, 2, 3, 4, 5, 6], [0, 1, 2, 3, 4, 5, 6, 7], [0, 1, 2, 3, 4, 5, 6, 7, 8], [0, 1, 2, 3, 4, 5, 6, 7], [0, 1, 2, 3, 4, 5, 6, 7, 10], [0, 1, 2, 3, 4, 5, 6, 7, 8, 9, 10, 11], [0, 1, 2, 3, 4, 5, 6, 7, 8, 9, 10, 11, 12], [0, 1, 2, 3, 4, 5, 6, 7, 8, 9, 10, 11, 12, 13], [0, 1, 2, 3, 4, 5, 6, 7, 8, 9, 10, 11, 12, 13, 14], [0, 1, 2, 3, 4, 5, 6, 7, 8, 9, 10, 11, 12, 13, 14, 15], [0, 1, 2, 3, 4, 5, 6, 7, 8, 9, 10, 11, 12, 13, 14, 15, 16], [0, 1, 2, 3, 4, 5, 6, 7, 8, 9, 10, 11, 12, 13, 14, 15, 16, 17], [0, 1, 2, 3, 4, 5, 6, 7, 8, 9, 10, 11, 12, 13, 14, 15, 16, 17, 18], [0, 1, 2, 3, 4, 5, 6, 7, 8, 9, 10, 11, 12, 13, 14, 15, 16, 17, 18, 19], [0, 1, 2, 3, 4, 5, 6, 7, 8, 9, 10, 11, 12, 13, 14, 15, 16, 17, 18, 19, 20], [0, 1, 2, 3, 4, 5, 6, 7, 8, 9, 10, 11, 12, 13, 14, 15, 16, 17, 18, 19], [0, 1, 2, 3, 4, 5, 6, 7, 8, 9, 10, 11, 12, 13, 14, 15, 16, 17, 18, 19, 22], [0, 1, 2, 3, 4, 5, 6, 7, 8, 9, 10, 11, 12, 13, 14, 15, 16, 17, 18, 19, 20, 21, 22, 23], [0, 1, 2, 3, 4, 5, 6, 7, 8, 9, 10, 11, 12, 13, 14, 15, 16, 17, 18, 19, 20, 21, 22, 23, 24], [0, 1, 2, 3, 4, 5, 6, 7, 8, 9, 10, 11, 12, 13, 14, 15, 16, 17, 18, 19, 20, 21, 22, 23, 24, 25], [0, 1, 2, 3, 4, 5, 6, 7, 8, 9, 10, 11, 12, 13, 14, 15, 16, 17, 18, 19, 20, 21, 22, 23, 24, 25, 26], [0, 1, 2, 3, 4, 5, 6, 7, 8, 9, 10, 11, 12, 13, 14, 15, 16, 17, 18, 19, 20, 21, 22, 23, 24, 25, 26, 27], [0, 1, 2, 3, 4, 5, 6, 7, 8, 9, 10, 11, 12, 13, 14, 15, 16, 17, 18, 19, 20, 21, 22, 23, 24, 25, 26, 27, 28], [0, 1, 2, 3, 4, 5, 6, 7, 8, 9, 10, 11, 12, 13, 14, 15, 16, 17, 18, 19, 20, 21, 22, 23, 24, 25, 26, 27, 28, 29], [0, 1, 2, 3, 4, 5, 6, 7, 8, 9, 10, 11, 12, 13, 14, 15, 16, 17, 18, 19, 20, 21, 22, 23, 24, 25, 26, 27, 28, 29, 30], [0, 1, 2, 3, 4, 5, 6, 7, 8, 9, 10, 11, 12, 13, 14, 15, 16, 17, 18, 19, 20, 21, 22, 23, 24, 25, 26, 27, 28, 29, 30, 31], [0, 1, 2, 3, 4, 5, 6, 7, 8, 9, 10, 11, 12, 13, 14, 15, 16, 17, 18, 19, 20, 21, 22, 23, 24, 25, 26, 27, 28, 29, 30, 31, 32], [0, 1, 2, 3, 4, 5, 6, 7, 8, 9, 10, 11, 12, 13, 14, 15, 16, 17, 18, 19, 20, 21, 22, 23, 24, 25, 26, 27, 28, 29, 30, 31, 32, 33], [0, 1, 2, 3, 4, 5, 6, 7, 8, 9, 10, 11, 12, 13, 14, 15, 16, 17, 18, 19, 20, 21, 22, 23, 24, 25, 26, 27, 28, 29, 30, 31, 32, 33, 34], [0, 1, 2, 3, 4, 5, 6, 7, 8, 9, 10, 11, 12, 13, 14, 15, 16, 17, 18, 19, 20, 21, 22, 23, 24, 25, 26, 27, 28, 29, 30, 31, 32, 33, 34, 35], [0, 1, 2, 3, 4, 5, 6, 7, 8, 9, 10, 11, 12, 13, 14, 15, 16, 17, 18, 19, 20, 21, 22, 23, 24, 25, 26, 27, 28, 29, 30, 31, 32, 33, 34, 35, 36], [0, 1, 2, 3, 4, 5, 6, 7, 8, 9, 10, 11, 12, 13, 14, 15, 16, 17, 18, 19, 20, 21, 22, 23, 24, 25, 26, 27, 28, 29, 30, 31, 32, 33, 34, 35, 36, 37], [0, 1, 2, 3, 4, 5, 6, 7, 8, 9, 10, 11, 12, 13, 14, 15, 16, 17, 18, 19, 20, 21, 22, 23, 24, 25, 26, 27, 28, 29, 30, 31, 32, 33, 34, 35, 36, 37, 38], [0, 1, 2, 3, 4, 5, 6, 7, 8, 9, 10, 11, 12, 13, 14, 15, 16, 17, 18, 19, 20, 21, 22, 23, 24, 25, 26, 27, 28, 29, 30, 31, 32, 33, 34, 35, 36, 37, 38, 39], [0, 1, 2, 3, 4, 5, 6, 7, 8, 9, 10, 11, 12, 13, 14, 15, 16, 17, 18, 19, 20, 21, 22, 23, 24, 25, 26, 27, 28, 29, 30, 31, 32, 33, 34, 35, 36, 37, 38, 39, 40], [0, 1, 2, 3, 4, 5, 6, 7, 8, 9, 10, 11, 12, 13, 14, 15, 16, 17, 18, 19, 20, 21, 22, 23, 24, 25, 26, 27, 28, 29, 30, 31, 32, 33, 34, 35, 36, 37, 38, 39, 40, 41], [0, 1, 2, 3, 4, 5, 6, 7, 8, 9, 10, 11, 12, 13, 14, 15, 16, 17, 18, 19, 20, 21, 22, 23, 24, 25, 26, 27, 28, 29, 30, 31, 32, 33, 34, 35, 36, 37, 38, 39, 40, 41, 42], [0, 1, 2, 3, 4, 5, 6, 7, 8, 9, 10, 11, 12, 13, 14, 15, 16, 17, 18, 19, 20, 21, 22, 23, 24, 25, 26, 27, 28, 29, 30, 31, 32, 33, 34, 35, 36, 37, 38, 39, 40, 41, 42, 43], [0, 1, 2, 3, 4, 5, 6, 7, 8, 9, 10, 11, 12, 13, 14, 15, 16, 17, 18, 19, 20, 21, 22, 23, 24, 25, 26, 27, 28, 29, 30, 31, 32, 33, 34, 35, 36, 37, 38, 39, 40, 41, 42, 43, 44]] [0, 1, 2, 3, 4, 5, 6, 7, 8, 9, 10, 11, 12, 13, 14, 15, 16, 17, 18, 19, 20, 21, 22, 23, 24, 25, 26, 27, 28, 29, 30, 31, 32, 33, 34, 35, 36, 37, 38, 39, 40, 41, 42, 43, 44, 45] (by kernel_rfl) ?_
    repeat (first | refine CmpD.no (by decide) ?_)
    exact Done.mk (badS _ _ (Drop.pick [0] _ rfl) (fun h => by have := h.1; omega))
  rw [layA, if_neg hb]
  have hL := layL_range (n := (n : Int)) (by omega)
  conv => whnf
  intro b9
  repeat (first | refine StoreD.st 3 rfl rfl rfl ?_)
  refine CodeF.sched [[], [0], [0, 1], [0, 1, 2], [0, 1, 2], [0, 1, 2, 3, 4], [0, 1, 2, 3, 4, 5], [0, 1, 2, 3, 4, 5, 6], [0, 1, 2, 3, 4, 5, 6, 7], [0, 1, 2, 3, 4, 5, 6, 7, 8], [0, 1, 2, 3, 4, 5, 6, 7], [0, 1, 2, 3, 4, 5, 6, 7, 10], [0, 1, 2, 3, 4, 5, 6, 7, 8, 9, 10, 11], [0, 1, 2, 3, 4, 5, 6, 7, 8, 9, 10, 11, 12], [0, 1, 2, 3, 4, 5, 6, 7, 8, 9, 10, 11, 12, 13], [0, 1, 2, 3, 4, 5, 6, 7, 8, 9, 10, 11, 12, 13, 14], [0, 1, 2, 3, 4, 5, 6, 7, 8, 9, 10, 11, 12, 13, 14, 15], [0, 1, 2, 3, 4, 5, 6, 7, 8, 9, 10, 11, 12, 13, 14, 15, 16], [0, 1, 2, 3, 4, 5, 6, 7, 8, 9, 10, 11, 12, 13, 14, 15, 16, 17], [0, 1, 2, 3, 4, 5, 6, 7, 8, 9, 10, 11, 12, 13, 14, 15, 16, 17, 18], [0, 1, 2, 3, 4, 5, 6, 7, 8, 9, 10, 11, 12, 13, 14, 15, 16, 17, 18, 19], [0, 1, 2, 3, 4, 5, 6, 7, 8, 9, 10, 11, 12, 13, 14, 15, 16, 17, 18, 19, 20], [0, 1, 2, 3, 4, 5, 6, 7, 8, 9, 10, 11, 12, 13, 14, 15, 16, 17, 18, 19], [0, 1, 2, 3, 4, 5, 6, 7, 8, 9, 10, 11, 12, 13, 14, 15, 16, 17, 18, 19, 22], [0, 1, 2, 3, 4, 5, 6, 7, 8, 9, 10, 11, 12, 13, 14, 15, 16, 17, 18, 19, 20, 21, 22, 23], [0, 1, 2, 3, 4, 5, 6, 7, 8, 9, 10, 11, 12, 13, 14, 15, 16, 17, 18, 19, 20, 21, 22, 23, 24], [0, 1, 2, 3, 4, 5, 6, 7, 8, 9, 10, 11, 12, 13, 14, 15, 16, 17, 18, 19, 20, 21, 22, 23, 24, 25], [0, 1, 2, 3, 4, 5, 6, 7, 8, 9, 10, 11, 12, 13, 14, 15, 16, 17, 18, 19, 20, 21, 22, 23, 24, 25, 26], [0, 1, 2, 3, 4, 5, 6, 7, 8, 9, 10, 11, 12, 13, 14, 15, 16, 17, 18, 19, 20, 21, 22, 23, 24, 25, 26, 27], [0, 1, 2, 3, 4, 5, 6, 7, 8, 9, 10, 11, 12, 13, 14, 15, 16, 17, 18, 19, 20, 21, 22, 23, 24, 25, 26, 27, 28], [0, 1, 2, 3, 4, 5, 6, 7, 8, 9, 10, 11, 12, 13, 14, 15, 16, 17, 18, 19, 20, 21, 22, 23, 24, 25, 26, 27, 28, 29], [0, 1, 2, 3, 4, 5, 6, 7, 8, 9, 10, 11, 12, 13, 14, 15, 16, 17, 18, 19, 20, 21, 22, 23, 24, 25, 26, 27, 28, 29, 30], [0, 1, 2, 3, 4, 5, 6, 7, 8, 9, 10, 11, 12, 13, 14, 15, 16, 17, 18, 19, 20, 21, 22, 23, 24, 25, 26, 27, 28, 29, 30, 31], [0, 1, 2, 3, 4, 5, 6, 7, 8, 9, 10, 11, 12, 13, 14, 15, 16, 17, 18, 19, 20, 21, 22, 23, 24, 25, 26, 27, 28, 29, 30, 31, 32], [0, 1, 2, 3, 4, 5, 6, 7, 8, 9, 10, 11, 12, 13, 14, 15, 16, 17, 18, 19, 20, 21, 22, 23, 24, 25, 26, 27, 28, 29, 30, 31, 32, 33], [0, 1, 2, 3, 4, 5, 6, 7, 8, 9, 10, 11, 12, 13, 14, 15, 16, 17, 18, 19, 20, 21, 22, 23, 24, 25, 26, 27, 28, 29, 30, 31, 32, 33, 34], [0, 1, 2, 3, 4, 5, 6, 7, 8, 9, 10, 11, 12, 13, 14, 15, 16, 17, 18, 19, 20, 21, 22, 23, 24, 25, 26, 27, 28, 29, 30, 31, 32, 33, 34, 35], [0, 1, 2, 3, 4, 5, 6, 7, 8, 9, 10, 11, 12, 13, 14, 15, 16, 17, 18, 19, 20, 21, 22, 23, 24, 25, 26, 27, 28, 29, 30, 31, 32, 33, 34, 35, 36], [0, 1, 2, 3, 4, 5, 6, 7, 8, 9, 10, 11, 12, 13, 14, 15, 16, 17, 18, 19, 20, 21, 22, 23, 24, 25, 26, 27, 28, 29, 30, 31, 32, 33, 34, 35, 36, 37], [0, 1, 2, 3, 4, 5, 6, 7, 8, 9, 10, 11, 12, 13, 14, 15, 16, 17, 18, 19, 20, 21, 22, 23, 24, 25, 26, 27, 28, 29, 30, 31, 32, 33, 34, 35, 36, 37, 38], [0, 1, 2, 3, 4, 5, 6, 7, 8, 9, 10, 11, 12, 13, 14, 15, 16, 17, 18, 19, 20, 21, 22, 23, 24, 25, 26, 27, 28, 29, 30, 31, 32, 33, 34, 35, 36, 37, 38, 39], [0, 1, 2, 3, 4, 5, 6, 7, 8, 9, 10, 11, 12, 13, 14, 15, 16, 17, 18, 19, 20, 21, 22, 23, 24, 25, 26, 27, 28, 29, 30, 31, 32, 33, 34, 35, 36, 37, 38, 39, 40], [0, 1, 2, 3, 4, 5, 6, 7, 8, 9, 10, 11, 12, 13, 14, 15, 16, 17, 18, 19, 20, 21, 22, 23, 24, 25, 26, 27, 28, 29, 30, 31, 32, 33, 34, 35, 36, 37, 38, 39, 40, 41], [0, 1, 2, 3, 4, 5, 6, 7, 8, 9, 10, 11, 12, 13, 14, 15, 16, 17, 18, 19, 20, 21, 22, 23, 24, 25, 26, 27, 28, 29, 30, 31, 32, 33, 34, 35, 36, 37, 38, 39, 40, 41, 42], [0, 1, 2, 3, 4, 5, 6, 7, 8, 9, 10, 11, 12, 13, 14, 15, 16, 17, 18, 19, 20, 21, 22, 23, 24, 25, 26, 27, 28, 29, 30, 31, 32, 33, 34, 35, 36, 37, 38, 39, 40, 41, 42, 43], [0, 1, 2, 3, 4, 5, 6, 7, 8, 9, 10, 11, 12, 13, 14, 15, 16, 17, 18, 19, 20, 21, 22, 23, 24, 25, 26, 27, 28, 29, 30, 31, 32, 33, 34, 35, 36, 37, 38, 39, 40, 41, 42, 43, 44]] [0, 1, 2, 3, 4, 5, 6, 7, 8, 9, 10, 11, 12, 13, 14, 15, 16, 17, 18, 19, 20, 21, 22, 23, 24, 25, 26, 27, 28, 29, 30, 31, 32, 33, 34, 35, 36, 37, 38, 39, 40, 41, 42, 43, 44, 45] (by kernel_rfl) ?_
  repeat (first | refine LoadP.at 1 rfl _ rfl rfl ?_ | refine LoadP.at 3 rfl _ rfl rfl ?_ | refine CmpD.yes rfl ?_)
  refine lay_cmp (layOf n) x rfl (.inr rfl) rfl rfl ?_
  refine CmpD.split (fun c1 => ?_) (fun c1 => ?_)
  rotate_left
  · skip
    refine Done.mk (badS _ _ (Drop.pick [0] _ rfl) (fun h => c1 ?_))
    rw [← h.2.1]
  have hx : x = layOf n := by
    simp only [List.cons.injEq, and_true] at c1
    obtain ⟨q1, q2, q3, q4, q5, q6, q7⟩ := c1
    obtain ⟨x1, x2, x3, x4, x5, x6, x7⟩ := x
    dsimp only at q1 q2 q3 q4 q5 q6 q7 ⊢
    rw [Lay.mk.injEq]
    exact ⟨q1.symm, q2.symm, q3.symm, q4.symm, q5.symm, q6.symm, q7.symm⟩
  have hxl : x.lb = layL n := by rw [hx]; rfl
  repeat (first | refine LoadP.at 2 rfl _ rfl rfl ?_)
  refine Tri.frame1 0 rfl (dk_Size hD) ?_
  rintro v J S' hJ ⟨rfl, rfl, rfl⟩
  refine ⟨_, rfl, ?_⟩
  rw [← hn]
  repeat (first | refine Chk.mk ⟨rfl, trivial⟩ ?_)
  refine CmpD.split (fun (c2 : s1 = (n : Int)) => ?_) (fun (c2 : ¬ (s1 = (n : Int))) => ?_)
  rotate_left
  · skip
    exact Done.mk (badS _ _ (Drop.pick [0] _ rfl) (fun h => c2 h.2.2.1))
  repeat (first | refine LoadP.at 2 rfl _ rfl rfl ?_)
  refine CmpD.split (fun (c3 : s4 < 0) => ?_) (fun (c3 : ¬ (s4 < 0)) => ?_)
  · skip
    exact Done.mk (badS _ _ (Drop.pick [0] _ rfl) (fun h => by have : 0 ≤ s4 := h.2.2.2.1; omega))
  repeat (first | refine LoadP.at 1 rfl _ rfl rfl ?_ | refine LoadP.at 2 rfl _ rfl rfl ?_)
  refine CmpD.split (fun (c4 : x.lb ≤ s4) => ?_) (fun (c4 : ¬ (x.lb ≤ s4)) => ?_)
  · skip
    exact Done.mk (badS _ _ (Drop.pick [0] _ rfl) (fun h => by have : s4 < layL n := h.2.2.2.2.1; omega))
  repeat (first | refine LoadP.at 2 rfl _ rfl rfl ?_)
  refine CmpD.split (fun (c5 : s2 < 1) => ?_) (fun (c5 : ¬ (s2 < 1)) => ?_)
  · skip
    exact Done.mk (badS _ _ (Drop.pick [0] _ rfl) (fun h => by have : 1 ≤ s2 := h.2.2.2.2.2.1; omega))
  repeat (first | refine LoadP.at 2 rfl _ rfl rfl ?_)
  refine CmpD.split (fun (c6 : (8388608 : Int) < s2) => ?_) (fun (c6 : ¬ ((8388608 : Int) < s2)) => ?_)
  · skip
    exact Done.mk (badS _ _ (Drop.pick [0] _ rfl) (fun h => by have : s2 ≤ 8388608 := h.2.2.2.2.2.2.1; omega))
  repeat (first | refine LoadP.at 2 rfl _ rfl rfl ?_)
  refine CmpD.split (fun (c7 : s3 < 1) => ?_) (fun (c7 : ¬ (s3 < 1)) => ?_)
  · skip
    exact Done.mk (badS _ _ (Drop.pick [0] _ rfl) (fun h => by have : 1 ≤ s3 := h.2.2.2.2.2.2.2.1; omega))
  repeat (first | refine LoadP.at 2 rfl _ rfl rfl ?_)
  refine CmpD.split (fun (c8 : (549755813888 : Int) < s3) => ?_) (fun (c8 : ¬ ((549755813888 : Int) < s3)) => ?_)
  · skip
    exact Done.mk (badS _ _ (Drop.pick [0] _ rfl) (fun h => by have : s3 ≤ 549755813888 := h.2.2.2.2.2.2.2.2; omega))
  have hok : ScanOk n x ⟨s1, s2, s3, s4⟩ := ⟨by omega, hx, c2, by show 0 ≤ s4; omega, by show s4 < _; omega, by show 1 ≤ s2; omega, by show s2 ≤ _; omega, by show 1 ≤ s3; omega, by show s3 ≤ _; omega⟩
  clear badS
  repeat (first | refine LoadD.own 1 rfl _ rfl rfl ?_)
  conv => whnf
  intro bR
  skip
  conv => whnf
  intro b12
  repeat (first | refine LoadD.own 2 rfl _ rfl rfl ?_)
  conv => whnf
  intro b13
  repeat (first | refine LoadD.own 2 rfl _ rfl rfl ?_ | refine StoreD.st 6 rfl rfl rfl ?_)
  refine Tri.frame (ring_groups bR ⟨s1, s2, s3, s4⟩ I) [] rfl rfl ?_
  rintro v J A' hJ ⟨bS, bP, rfl, rfl, rfl⟩
  refine ⟨by simp, ?_⟩
  obtain ⟨tail, rfl⟩ : ∃ t : Nat, s4 = t := ⟨s4.toNat, by omega⟩
  obtain ⟨lb, hlb⟩ : ∃ lb : Nat, layL n = lb := ⟨(layL n).toNat, by omega⟩
  have hxlb : x.lb = lb := by rw [hxl, hlb]
  have hxl2 : x.l = (2 : Nat) := by rw [hx]; rfl
  have hfit : 2 + lb ≤ d.now.length := by rw [← hn]; unfold layL at hlb; split at hlb <;> omega
  cases hdn : d.down with
  | true =>
    refine CodeF.rangeJ rfl [[(b12, row [.slice none 0 0] 162)], [(b13, row [.int .i64 tail] 3)]] (scIt bS bP bR bD ⟨s1, s2, s3, tail⟩ x 0 chD) (Drop.pick [5, 6, 8, 7, 4, 0] _ rfl) (scan_down hD hdn x 2 lb hxl2 hxlb (by omega) hfit ⟨s1, s2, s3, tail⟩ tail rfl)
      (fun _ _ _ _ h => h.elim) (fun _ _ S' => S' = [[(b12, row [.slice none 0 0] 162)], [(b13, row [.int .i64 tail] 3)]]) (fun _ _ _ _ _ h => h) (fun _ _ _ => False) rfl ?round ?done ?stop
    case round => rintro _ _ _ _ _ _ h; exact h.elim
    case stop => rintro _ _ _ _ _ h; exact h.elim
    case done =>
      rintro _ J S' R hJ rfl rfl
      repeat (first | refine LoadD.own 4 rfl _ rfl rfl ?_ | refine CmpD.no (by decide) ?_)
      refine CodeF.sched [[], [0], [0, 1], [0, 1, 2], [], [4], [0, 1, 2, 3, 4, 5]] [0, 1, 2, 3, 4, 5, 6] (by kernel_rfl) ?_
      repeat (first | refine LoadP.at 4 rfl _ rfl rfl ?_)
      exact Done.mk ⟨[chD, []], Drop.and (Drop.pick [5] _ rfl), [], rfl, .inr (.inl ⟨hok, rfl, rfl⟩)⟩
  | false =>
    have hsc : scanL d ⟨s1, s2, s3, tail⟩ = scanK (rbP d 2 lb) s2 (lb + 1) tail s3 lb := by
      unfold scanL
      rw [← hn, hlb]; rfl
    have hlbn : (layL n).toNat = lb := by rw [hlb]; rfl
    obtain ⟨L, hLe⟩ : ∃ L, L = scanL d ⟨s1, s2, s3, tail⟩ := ⟨_, rfl⟩
    have hbd := scan_bound (rb := rbP d 2 lb) (ep := s2) (lb + 1) tail s3 lb
    rw [← hsc, ← hLe] at hbd
    refine CodeF.rangeJ rfl [[(b12, row [.slice none 0 0] 162)], [(b13, row [.int .i64 tail] 3)], []] (scIt bS bP bR bD ⟨s1, s2, s3, tail⟩ x 0 chD) ((Drop.pick [5, 6, 8, 7, 4, 0] _ rfl).trans (Drop.flat (by simp [St.at]; exact ⟨rfl, rfl⟩))) (scan_up hD hdn x 2 lb hxl2 hxlb (by omega) hfit ⟨s1, s2, s3, tail⟩ tail rfl (by omega) ⟨by show 1 ≤ s3; omega, by show s3 ≤ _; omega⟩)
      (fun _ _ _ _ ⟨_, _, _, _, _, _, _, _, _, _, h, _⟩ => by rw [h]; rfl)
      (fun a J' S' => ∃ (aO : Option Addr) (capO : Nat) (chO : List Blk) (gl : List Grp) (acc : List G3), S' = [[(b12, row [.slice aO gl.length capO] 162)], [(b13, row [.int .i64 (placeP lb tail acc : Nat)] 3)], chO] ∧ OwnC chO 3 aO gl.length capO (grpCells gl) ∧ GrpsOk J' gl acc ∧ acc ++ scanK (rbP d 2 lb) s2 a.f a.at' a.seq a.room = L ∧ a.at' = tail + (acc.map fun g => g.2.2.length + 1).sum)
      (fun a J1 J2 S' hJ ⟨aO, capO, chO, gl, acc, h1, h2, h3, h4⟩ => ⟨aO, capO, chO, gl, acc, h1, h2, h3.mono hJ, h4⟩) (fun _ _ _ => False)
      ⟨none, 0, [], [], [], by rw [show placeP lb tail [] = tail from by unfold placeP; exact Nat.mod_eq_of_lt (by simp; omega)]; rfl, OwnC.nil _ _, ⟨by simp, rfl⟩, by rw [hLe, hsc]; rfl, by simp⟩ ?round ?done ?stop
    case stop => rintro _ _ _ _ _ h; exact h.elim
    case round =>
      rintro ⟨f, at_, seq, room⟩ xs ⟨f', at', seq', room'⟩ J' S' hJ' ⟨e, sn, li, aI, capI, gs, hf, hg, he, hs, rfl, hgs, hgp, hat, hsq, hrm⟩ ⟨aO, capO, chO, gl, acc, rfl, hO, hok2, hacc, hatl⟩
      dsimp only at hf hg hs hat hsq hrm hacc hatl
      subst hf hat hsq hrm
      rw [scanK, hg] at hacc
      dsimp only at hacc
      rw [if_pos ⟨he, hs⟩] at hacc
      have hgl2 := hok2.len
      have hll : L.length = acc.length + ((scanK (rbP d 2 lb) s2 f' (at_ + (li.length + 1)) (seq + 1) (room - (li.length + 1))).length + 1) := by rw [← hacc, List.length_append, List.length_cons]
      conv => whnf
      intro b15
      repeat (first | refine LoadD.own 0 rfl _ rfl rfl ?_ | refine LoadD.own 3 rfl _ rfl rfl ?_ | refine StoreD.st 3 rfl rfl rfl ?_)
      conv => whnf
      intro bN
      refine appendD tabOk rfl rfl rfl rfl rfl rfl rfl 2 rfl hO (SrcOk.slice (n := 1) (news := grpCells [⟨e, sn, aI, capI, gs⟩]) tabOk rfl ((OwnC.whole (len := 1) (size := 3) rfl).slC 4 rfl) (by intro v hv; simp [grpCells] at hv; rcases hv with rfl | rfl | rfl <;> rfl)) rfl (by show (gl.length + 1) * 40 ≤ _; omega) (by omega) ?_
      intro a2 cap2 ch2 hO2
      repeat (first | refine StoreD.st 0 rfl rfl rfl ?_ | refine StoreD.st 1 rfl rfl rfl ?_)
      have hll3 : (gl ++ [⟨e, sn, aI, capI, gs⟩] : List Grp).length = gl.length + 1 := by simp
      refine ⟨[[(b12, row [.slice a2 (gl.length + 1) cap2] 162)], [(b13, row [.int .i64 ((at_ + (li.length + 1)) % lb : Nat)] 3)], ch2], Drop.pick [0, 1, 2] _ rfl, a2, cap2, ch2, gl ++ [⟨e, sn, aI, capI, gs⟩], acc ++ [(e, sn, li)], ?_, ?_, ⟨?_, ?_⟩, ?_, ?_⟩
      · rw [hll3, placeP_snoc, ← hatl]
      · rw [hll3, grpCells_snoc]; exact hO2
      · intro g hg
        rcases List.mem_append.1 hg with hg | hg
        · exact hok2.each g hg
        · simp only [List.mem_singleton] at hg
          subst hg
          exact hgs
      · rw [List.map_append, List.map_append, hok2.g3, List.map_singleton, List.map_singleton]
        show _ ++ [((e : Int), (sn : Int), gs.map Img.pr)] = _
        rw [hgp]; rfl
      · rw [List.append_assoc]; exact hacc
      · show at_ + (li.length + 1) = _
        rw [List.map_append, List.sum_append, hatl]
        simp [Nat.add_assoc]
    case done =>
      rintro ⟨f, at_, seq, room⟩ J' S' R hJ' ⟨hfin, rfl⟩ ⟨aO, capO, chO, gl, acc, rfl, hO, hok2, hacc, hatl⟩
      rw [hfin, List.append_nil] at hacc
      subst hacc
      repeat (first | refine LoadD.own 5 rfl _ rfl rfl ?_ | refine CmpD.yes rfl ?_)
      refine CodeF.sched [[], [], [0], [0, 1, 2], [0, 1, 2, 3]] [0, 1, 2, 3, 4] (by kernel_rfl) ?_
      repeat (first | refine LoadP.at 0 rfl _ rfl rfl ?_ | refine LoadP.at 1 rfl _ rfl rfl ?_)
      refine Done.mk ⟨[chD, chO], Drop.pick [6, 2] _ rfl, chO, rfl, .inr (.inr ⟨hok, rfl, aO, capO, gl, ?_, hO, ?_⟩)⟩
      · rw [hlbn, ← hLe]; rfl
      · rw [← hLe]; exact hok2
end Go.Proofs.YtegdcjnjnoeinaaGreat
namespace Go.Proofs.YtegdcjnjnoeinaaGreat
open Go.RowKit Go.Sl
set_option maxRecDepth 20000

/-- what a disk's superblocks tell: the one that counts, which one it is, an error -/
def foundP (d : DSt) : Sup × Int × Int :=
  if d.down = true then (Sup.zero, 0, 6) else
  if (chooseP (getS (d.now.getD 0 [])) (getS (d.now.getD 1 []))).2.2 = false ∨ (chooseP (getS (d.now.getD 0 [])) (getS (d.now.getD 1 []))).1.blocks ≠ d.now.length ∨
    layL d.now.length ≤ (chooseP (getS (d.now.getD 0 [])) (getS (d.now.getD 1 []))).1.tail ∨ 8388608 ≤ (chooseP (getS (d.now.getD 0 [])) (getS (d.now.getD 1 []))).1.epoch then (Sup.zero, 0, 90) else
  ((chooseP (getS (d.now.getD 0 [])) (getS (d.now.getD 1 []))).1, (chooseP (getS (d.now.getD 0 [])) (getS (d.now.getD 1 []))).2.1, 0)
structure VSt where
  j : JSt
  epoch : Int
  slot : Int
  fresh : List PImg
  broken : Bool
def allG (gs : List G3) : List PImg := gs.flatMap fun g => g.2.2
noncomputable def mountL (n : Nat) (d : DSt) (s : Sup) (slot : Int) (gs : List G3) : DSt × Int × Option VSt :=
  if ¬ HomeOk (layOf n) (allG gs) ∨ 549755813888 - (gs.length : Int) < s.seq then (d, 90, none) else
  if (doP d (homeP (allG gs)) ⟨s.blocks, s.epoch + 1, s.seq + gs.length, placeP (layL n).toNat s.tail.toNat gs⟩ (1 - slot)).2 ≠ 0 then
    ((doP d (homeP (allG gs)) ⟨s.blocks, s.epoch + 1, s.seq + gs.length, placeP (layL n).toNat s.tail.toNat gs⟩ (1 - slot)).1, (doP d (homeP (allG gs)) ⟨s.blocks, s.epoch + 1, s.seq + gs.length, placeP (layL n).toNat s.tail.toNat gs⟩ (1 - slot)).2, none) else
  ((doP d (homeP (allG gs)) ⟨s.blocks, s.epoch + 1, s.seq + gs.length, placeP (layL n).toNat s.tail.toNat gs⟩ (1 - slot)).1, 0, some ⟨openJ n (s.epoch + 1) (s.seq + gs.length) (placeP (layL n).toNat s.tail.toNat gs), s.epoch + 1, slot, [], false⟩)
noncomputable def mountP (d : DSt) : DSt × Int × Option VSt :=
  if d.now.length < 64 then (d, 90, none) else
  if (foundP d).2.2 ≠ 0 then (d, (foundP d).2.2, none) else
  mountL d.now.length d (foundP d).1 (foundP d).2.1 (scanL d (foundP d).1)
def VSt.read (v : VSt) (d : DSt) (n : Int) : Dat × Int := if v.broken = true then ([], 4) else match v.fresh.lookup n with
  | some b => (b, 0)
  | none => d.read n
/-- what a checkpoint writes: each block's last image, by rising blocks -/
def sortP (l : List PImg) : List PImg := (sortI (l.map Prod.fst)).map fun n => (n, (l.lookup n).getD [])
def VSt.sup (v : VSt) : Sup := ⟨v.j.lay.b, v.epoch, v.j.next, (v.j.t + v.j.u) % v.j.s⟩
/-- a checkpoint's three steps: the error, the journal and the disk then -/
def VSt.ckS (v : VSt) (d : DSt) : Int × JSt × DSt :=
  if (v.j.flush d).2.2 ≠ 0 then ((v.j.flush d).2.2, (v.j.flush d).1, (v.j.flush d).2.1) else
  if (doP (v.j.flush d).2.1 (sortP v.fresh) v.sup v.slot).2 ≠ 0 then ((doP (v.j.flush d).2.1 (sortP v.fresh) v.sup v.slot).2, (v.j.flush d).1, (doP (v.j.flush d).2.1 (sortP v.fresh) v.sup v.slot).1) else
  (((v.j.flush d).1.release (v.j.flush d).1.synced).2, ((v.j.flush d).1.release (v.j.flush d).1.synced).1, (doP (v.j.flush d).2.1 (sortP v.fresh) v.sup v.slot).1)
def VSt.ckpt (v : VSt) (d : DSt) : VSt × DSt × Int :=
  if v.broken = true then (v, d, 4) else
  if (v.ckS d).1 ≠ 0 then ({ v with j := (v.ckS d).2.1, broken := true }, (v.ckS d).2.2, (v.ckS d).1) else
  ({ v with j := (v.ckS d).2.1, slot := 1 - v.slot, fresh := [] }, (v.ckS d).2.2, 0)
def VSt.fits (v : VSt) (k : Int) : Bool := decide (0 < blocksN k ∧ blocksN k ≤ v.j.lay.lb)
def VSt.app (v : VSt) (d : DSt) (l : List PImg) : VSt × DSt × Int × Int :=
  if (v.j.appendB d l false).2.2.2 ≠ 0 then ({ v with j := (v.j.appendB d l false).1, broken := true }, (v.j.appendB d l false).2.1, 0, (v.j.appendB d l false).2.2.2) else
  ({ v with j := (v.j.appendB d l false).1, fresh := l.foldl pput v.fresh }, (v.j.appendB d l false).2.1, (v.j.appendB d l false).2.2.1, 0)
def VSt.commit (v : VSt) (d : DSt) (l : List PImg) : VSt × DSt × Int × Int :=
  if v.broken = true then (v, d, 0, 4) else
  if ¬ HomeOk v.j.lay l then (v, d, 0, 70) else
  if ¬ RightP v.epoch v.j.next l then (v, d, 0, 80) else
  if v.fits l.length = false then (v, d, 0, 232) else
  if v.j.s - v.j.u - v.j.h < blocksN l.length then
    (if (v.ckpt d).2.2 ≠ 0 then ((v.ckpt d).1, (v.ckpt d).2.1, 0, (v.ckpt d).2.2) else (v.ckpt d).1.app (v.ckpt d).2.1 l)
  else v.app d l
end Go.Proofs.YtegdcjnjnoeinaaGreat
namespace Go.Proofs.YtegdcjnjnoeinaaGreat
open Go.RowKit Go.Sl
set_option maxRecDepth 20000

@[reducible] def vCells (bD bJ bM : Nat) (x : Lay) (ep sl : Int) (br : Bool) : List Value := .pointer (some ⟨bD, 0, none⟩) :: x.vals ++ [.pointer (some ⟨bJ, 0, none⟩), .int .i64 ep, .int .i64 sl, .map (some bM), .bool br]
@[reducible] def vChunk (bV bD bJ bM : Nat) (x : Lay) (ep sl : Int) (br : Bool) : List Blk := [(bV, row (vCells bD bJ bM x ep sl br) 49)]
section
variable (bV bD bJ bM : Nat) (x : Lay) (ep sl : Int) (br : Bool) (I : Imm)
theorem v_none (S : St) (k : Nat) (hk : S[k]? = some (vChunk bV bD bJ bM x ep sl br)) : Tri Tryz.prog 97 #[.pointer (some ⟨bV, 0, none⟩)] I S fun v J S' => v = .bool false ∧ I = J ∧ S' = S := by
  obtain ⟨l1, l2, l3, l4, l5, l6, l7⟩ := x
  refine Tri.of (args := [.pointer (some ⟨bV, 0, none⟩)]) tabOk Tryz.func97 rfl (by kernel_rfl) (by kernel_rfl) ?_
  refine LoadD.own k hk [.pointer (some ⟨bD, 0, none⟩)] rfl rfl ?_
  exact Done.mk ⟨rfl, rfl, rfl⟩
def wrongV (b : Bool) : Int := match b with
  | true => 4
  | false => 0
theorem v_wrong (S : St) (k : Nat) (hk : S[k]? = some (vChunk bV bD bJ bM x ep sl br)) : Tri Tryz.prog 78 #[.pointer (some ⟨bV, 0, none⟩)] I S fun v J S' => v = .int .i64 (wrongV br) ∧ I = J ∧ S' = S := by
  have h0 := v_none bV bD bJ bM x ep sl br I S k hk
  obtain ⟨l1, l2, l3, l4, l5, l6, l7⟩ := x
  refine Tri.of (args := [.pointer (some ⟨bV, 0, none⟩)]) tabOk Tryz.func78 rfl (by kernel_rfl) (by kernel_rfl) ?_
  refine Tri.mono h0 ?_
  rintro v _ _ hJ ⟨rfl, rfl, rfl⟩
  refine LoadD.own k hk [.bool br] rfl rfl ?_
  cases br <;> exact Done.mk ⟨rfl, rfl, rfl⟩
theorem v_did (e : Int) : Tri Tryz.prog 85 #[.pointer (some ⟨bV, 0, none⟩), .int .i64 e] I [vChunk bV bD bJ bM x ep sl br] fun v J S' => v = .int .i64 e ∧ I = J ∧ S' = [vChunk bV bD bJ bM x ep sl (br || decide (e ≠ 0))] := by
  obtain ⟨l1, l2, l3, l4, l5, l6, l7⟩ := x
  refine Tri.of (args := [.pointer (some ⟨bV, 0, none⟩), .int .i64 e]) tabOk Tryz.func85 rfl (by kernel_rfl) (by kernel_rfl) ?_
  refine LoadD.own 0 rfl [.bool br] rfl rfl ?_
  cases br
  · refine CmpD.split (fun c => ?_) (fun c => ?_)
    · refine StoreD.st 0 rfl rfl rfl ?_
      refine Done.mk ⟨rfl, rfl, ?_⟩
      rw [decide_eq_false (by simpa using c)]; rfl
    · refine StoreD.st 0 rfl rfl rfl ?_
      refine Done.mk ⟨rfl, rfl, ?_⟩
      rw [decide_eq_true (by simpa using c)]; rfl
  · refine StoreD.st 0 rfl rfl rfl ?_
    exact Done.mk ⟨rfl, rfl, rfl⟩
end
/-- a volume and what is in it, as one chunk -/
def Vk (J : Imm) (bV bD : Nat) (v : VSt) (ch : List Blk) : Prop := ∃ (bJ bM : Nat) (ob : Obj) (chJ : List Blk) (gs : List Img),
  ch = vChunk bV bD bJ bM v.j.lay v.epoch v.slot v.broken ++ ((bM, ob) :: chJ) ∧ Jk bJ bD v.j chJ ∧ MapR ob (gs.map hdr) ∧ (∀ g ∈ gs, ImgOk J g) ∧ gs.map Img.pr = v.fresh
theorem Vk.mono {I J : Imm} {bV bD : Nat} {v : VSt} {ch : List Blk} (h : Vk I bV bD v ch) (hJ : I.le J) : Vk J bV bD v ch := by
  obtain ⟨bJ, bM, ob, chJ, gs, h1, h2, h3, h4, h5⟩ := h
  exact ⟨bJ, bM, ob, chJ, gs, h1, h2, h3, fun g hg => (h4 g hg).mono hJ, h5⟩
theorem vk_lay (bV bD bJ bM : Nat) (x : Lay) (ep sl : Int) (br : Bool) (ob : Obj) (chJ : List Blk) : [vChunk bV bD bJ bM x ep sl br ++ ((bM, ob) :: chJ)].flatten = [vChunk bV bD bJ bM x ep sl br, [(bM, ob)], chJ].flatten := by simp
theorem vk_lay2 (bV bD bJ bM : Nat) (x : Lay) (ep sl : Int) (br : Bool) (ob : Obj) (chJ chD : List Blk) : [vChunk bV bD bJ bM x ep sl br ++ ((bM, ob) :: chJ), chD].flatten = [vChunk bV bD bJ bM x ep sl br, [(bM, ob)], chJ, chD].flatten := by simp
theorem vk_Next {bV bD : Nat} {v : VSt} {ch : List Blk} {I : Imm} (h : Vk I bV bD v ch) : Tri Tryz.prog 25 #[.pointer (some ⟨bV, 0, none⟩)] I [ch] fun r J S' => r = .int .i64 v.j.next ∧ I = J ∧ S' = [ch] := by
  obtain ⟨bJ, bM, ob, chJ, gs, rfl, hj, hM, hg, hp⟩ := h
  refine Tri.lay (S2 := [vChunk bV bD bJ bM v.j.lay v.epoch v.slot v.broken, [(bM, ob)], chJ]) (vk_lay ..) ?_
  refine Tri.drop ?_ (fun _ _ _ _ h => h)
  refine Tri.of (args := [.pointer (some ⟨bV, 0, none⟩)]) tabOk Tryz.func25 rfl (by kernel_rfl) (by kernel_rfl) ?_
  refine Tri.nf (v_none bV bD bJ bM _ _ _ _ I _ 0 rfl) ?_
  rintro r _ _ hJ ⟨rfl, rfl, rfl⟩
  repeat (first | refine LoadD.own 0 rfl _ rfl rfl ?_)
  refine Tri.frame1 2 rfl (jk_Next hj I) ?_
  rintro r _ A' hJ ⟨rfl, rfl, rfl⟩
  refine ⟨_, rfl, ?_⟩
  exact Done.mk ⟨_, Drop.flat (vk_lay ..).symm, rfl, rfl, rfl⟩
theorem vk_Synced {bV bD : Nat} {v : VSt} {ch : List Blk} {I : Imm} (h : Vk I bV bD v ch) : Tri Tryz.prog 26 #[.pointer (some ⟨bV, 0, none⟩)] I [ch] fun r J S' => r = .int .i64 v.j.synced ∧ I = J ∧ S' = [ch] := by
  obtain ⟨bJ, bM, ob, chJ, gs, rfl, hj, hM, hg, hp⟩ := h
  refine Tri.lay (S2 := [vChunk bV bD bJ bM v.j.lay v.epoch v.slot v.broken, [(bM, ob)], chJ]) (vk_lay ..) ?_
  refine Tri.drop ?_ (fun _ _ _ _ h => h)
  refine Tri.of (args := [.pointer (some ⟨bV, 0, none⟩)]) tabOk Tryz.func26 rfl (by kernel_rfl) (by kernel_rfl) ?_
  refine Tri.nf (v_none bV bD bJ bM _ _ _ _ I _ 0 rfl) ?_
  rintro r _ _ hJ ⟨rfl, rfl, rfl⟩
  repeat (first | refine LoadD.own 0 rfl _ rfl rfl ?_)
  refine Tri.frame1 2 rfl (jk_Synced hj I) ?_
  rintro r _ A' hJ ⟨rfl, rfl, rfl⟩
  refine ⟨_, rfl, ?_⟩
  exact Done.mk ⟨_, Drop.flat (vk_lay ..).symm, rfl, rfl, rfl⟩
end Go.Proofs.YtegdcjnjnoeinaaGreat
namespace Go.Proofs.YtegdcjnjnoeinaaGreat
open Go.RowKit Go.Sl
set_option maxRecDepth 20000

theorem mget_hdr (gs : List Img) (n : Int) : mget (gs.map hdr) n = none ∧ (gs.map Img.pr).lookup n = none ∨ ∃ g ∈ gs, mget (gs.map hdr) n = some (.slice g.a g.len g.cap) ∧ (gs.map Img.pr).lookup n = some g.data := by
  induction gs with
  | nil => exact .inl ⟨rfl, rfl⟩
  | cons g gs ih =>
    show (mget ((g.blk, _) :: gs.map hdr) n = none ∧ List.lookup n ((g.blk, g.data) :: gs.map Img.pr) = none) ∨ ∃ g' ∈ g :: gs, mget ((g.blk, _) :: gs.map hdr) n = _ ∧ List.lookup n ((g.blk, g.data) :: gs.map Img.pr) = _
    unfold mget
    rw [List.lookup_cons, List.lookup_cons]
    cases h : (n == g.blk) with
    | true => exact .inr ⟨g, by simp, rfl, rfl⟩
    | false =>
      rcases ih with ⟨h1, h2⟩ | ⟨g', hg', h1, h2⟩
      · exact .inl ⟨h1, h2⟩
      · exact .inr ⟨g', by simp [hg'], h1, h2⟩
/-- a block, as it counts: the bytes in a chunk of their own -/
theorem vk_Read {bV bD : Nat} {v : VSt} {ch : List Blk} {I : Imm} (h : Vk I bV bD v ch) {d : DSt} {chD : List Blk} (hD : Dk I bD d chD) (hfew : ∀ g ∈ v.fresh, g.2.length ≤ 1000000) (n : Int) :
    Tri Tryz.prog 17 #[.pointer (some ⟨bV, 0, none⟩), .int .i64 n] I [ch, chD] fun r J S' => ∃ a cap chB, r = .tuple #[.slice a (v.read d n).1.length cap, .int .i64 (v.read d n).2] ∧ OwnB chB a (v.read d n).1.length cap (v.read d n).1 ∧ I = J ∧ S' = [ch, chD, chB] := by
  obtain ⟨bJ, bM, ob, chJ, gs, rfl, hj, hM, hg, hp⟩ := h
  refine Tri.lay (S2 := [vChunk bV bD bJ bM v.j.lay v.epoch v.slot v.broken, [(bM, ob)], chJ, chD]) (vk_lay2 ..) ?_
  refine Tri.drop ?_ (fun _ _ _ _ h => h)
  refine Tri.of (args := [.pointer (some ⟨bV, 0, none⟩), .int .i64 n]) tabOk Tryz.func17 rfl (by kernel_rfl) (by kernel_rfl) ?_
  refine Tri.nf (v_wrong bV bD bJ bM _ _ _ _ I _ 0 rfl) ?_
  rintro r _ _ hJ ⟨rfl, rfl, rfl⟩
  have back : ∀ (x : List Blk), Drop [vChunk bV bD bJ bM v.j.lay v.epoch v.slot v.broken, [(bM, ob)], chJ, chD, x] [vChunk bV bD bJ bM v.j.lay v.epoch v.slot v.broken ++ ((bM, ob) :: chJ), chD, x] := fun x => Drop.flat (by simp)
  unfold VSt.read
  cases hb : v.broken
  · repeat (first | refine LoadD.own 0 rfl _ rfl rfl ?_ | refine CmpD.yes rfl ?_)
    refine lookupD tabOk rfl rfl rfl rfl rfl rfl 1 rfl hM ?_
    rw [if_neg (by simp)]
    rcases mget_hdr gs n with ⟨h1, h2⟩ | ⟨g, hgm, h1, h2⟩
    · rw [h1]
      rw [hp] at h2
      rw [h2]
      repeat (first | refine LoadD.own 0 rfl _ rfl rfl ?_)
      refine Tri.frame (dk_Read hD n) [3] rfl rfl ?_
      rintro r _ A' hJ ⟨a, cap, chB, rfl, hB, rfl, rfl⟩
      refine ⟨by simp, ?_⟩
      rw [hb] at back
      exact Done.mk ⟨_, back chB, a, cap, chB, rfl, hB, rfl, rfl⟩
    · rw [h1]
      rw [hp] at h2
      rw [h2]
      have hr := (hg g hgm).2
      have hl : g.data.length = g.len := by have := hr.len; rwa [bts_length] at this
      have hle : g.data.length ≤ 1000000 := hfew g.pr (by rw [← hp]; exact List.mem_map_of_mem hgm)
      skip
      refine Tri.frameX (clone_bytes I [] g.a g.len g.cap (bts g.data) (by rw [Nat.mul_one]; exact hr.slC) (bts_plain g.data) (by omega)) [] rfl rfl ?_
      rintro r _ A' hJ ⟨a, cap, chB, rfl, hB, rfl, rfl⟩
      rw [hb] at back
      refine Done.mk ⟨_, back chB, a, cap, chB, ?_, ?_, rfl, rfl⟩
      · rw [← hl]; rfl
      · show OwnB chB a g.data.length cap g.data; rw [hl]; exact hB
  · repeat (first | refine CmpD.no (by decide) ?_)
    rw [if_pos rfl]
    rw [hb] at back
    exact Done.mk ⟨_, (Drop.and (Drop.refl _)).trans (back []), none, 0, [], rfl, OwnC.nil _ _, rfl, rfl⟩
theorem flush_lay (j : JSt) (d : DSt) : (j.flush d).1.lay = j.lay := by
  unfold JSt.flush
  split
  · rfl
  · split <;> rfl
/-- steps, one behind the other, until one errs -/
def Steps (P : Program) : List Value → Imm → St → (Value → Imm → St → Prop) → Prop
  | [], I, S, K => K (.int .i64 0) I S
  | f :: fs, I, S, K => ∃ (g : FuncId) (b c : List Value), f = .func (.func g) b.toArray c.toArray ∧ Tri P g (b ++ c).toArray I S fun v J S' => ∃ e : Int, v = .int .i64 e ∧ (e ≠ 0 → K v J S') ∧ (e = 0 → Steps P fs J S' K)
theorem forceL_of {l : List Value} {K : List Value → Prop} (h : K l) : forceL l K := by rw [forceL_eq]; exact h
theorem Tri.cast {P : Program} {f : FuncId} {args args' : Array Value} {I : Imm} {S : St} {Q : Value → Imm → St → Prop} (e : args = args') (h : Tri P f args I S Q) : Tri P f args' I S Q := by subst e; exact h
theorem vol_first {I : Imm} {S : St} {K : Value → Imm → St → Prop} (a : Option Addr) (n cap : Nat) (fs : List Value) (hn : n ≤ 1000) (hl : Rds I a n fs) (h : Steps Tryz.prog fs I S K) : Tri Tryz.prog 91 #[.slice a n cap] I S K := by
  have hfl := hl.len
  refine Tri.of (args := [.slice a n cap]) tabOk Tryz.func91 rfl (by kernel_rfl) (by kernel_rfl) ?_
  refine CodeF.loopD [6, 7, 8] (fun vs J' S' => ∃ (i : Nat), i ≤ n ∧ Steps Tryz.prog (fs.drop i) J' S' K ∧ I.le J' ∧ vs = [.slice a n cap, .int .i64 n, .int .i64 i])
    (fun vs _ _ => match vs with | [_, _, .int _ i] => ((n : Int) - i).toNat | _ => 0) ?_ ?_
  · exact ⟨_, Drop.refl _, 0, by omega, h, I.le_refl, rfl⟩
  rintro vs gE J' S' hJ' ⟨i, hi, hs, hle, rfl⟩
  refine CmpD.split (fun (c1 : (i : Int) < n) => ?_) (fun (c1 : ¬ (i : Int) < n) => ?_)
  · rcases hl.mem with q0 | ⟨bL, oL, cL, TL, fL, rfl, hIL, hcL⟩
    · omega
    rw [List.drop_eq_getElem_cons (by omega)] at hs
    obtain ⟨g, b, c, hf, ht⟩ := hs
    have hcell : fs[i]? = some (.func (.func g) b.toArray c.toArray) := by rw [List.getElem?_eq_getElem (by omega), hf]
    refine Chk.mk (by omega) ?_
    refine LoadD.imm (hle _ _ hIL) [.func (.func g) b.toArray c.toArray] (take_get hcL hcell) rfl ?_
    refine forceL_of ?_
    refine Tri.cast (args := (b ++ c).toArray) (by simp) (ht.mono ?_)
    rintro v J2 S2 hJ2 ⟨e, rfl, h1, h2⟩
    refine CmpD.split (fun c2 => ?_) (fun c2 => ?_)
    · refine ToD.to (((i + 1 : Nat)) : Int) (by rw [wrap_i64 (by omega) (by omega)]; omega) ?_
      refine ⟨_, Drop.refl _, ⟨i + 1, by omega, h2 c2, Imm.le_trans hle hJ2, rfl⟩, ?_⟩
      show ((n : Int) - ((i + 1 : Nat) : Int)).toNat < ((n : Int) - (i : Int)).toNat; omega
    · exact Done.mk (h1 c2)
  · obtain rfl : i = n := by omega
    rw [List.drop_of_length_le (by omega)] at hs
    exact Done.mk hs
end Go.Proofs.YtegdcjnjnoeinaaGreat
namespace Go.Proofs.YtegdcjnjnoeinaaGreat
open Go.RowKit Go.Sl
set_option maxRecDepth 20000

theorem openJ_wf64 (tail : Int) (ht : 0 ≤ tail ∧ tail < 16) : (openJ 64 1 1 tail).Wf := openJ_wf 64 (by omega) ⟨rfl, by omega, by omega, by omega, by omega, ht.1, by rw [layL_64']; exact ht.2⟩
theorem fresh_calm (l : List Dat) : (DSt.of l).Calm := ⟨rfl, rfl, rfl⟩
theorem JSt.Wf.append {j : JSt} (hj : j.Wf) {d : DSt} {l : List PImg} {held : Bool} (h8 : j.groups.length ≤ 999999) : (j.appendB d l held).1.Wf := by
  have hr := hj.ring
  unfold JSt.appendB JSt.append
  split
  · exact hj
  split
  · exact hj
  rename_i hR
  have hR : RightP j.epoch j.next l := Decidable.of_not_not hR
  split
  · exact hj
  generalize hp : putS j.s j.t j.u j.h (l.length + 1) (if held then l.length + 1 else 0) = q
  obtain ⟨⟨s, t, u, h, e⟩, at_⟩ := q
  dsimp only
  split
  · exact hj
  rename_i he
  have he : e = 0 := Decidable.of_not_not he
  obtain ⟨e1, e2, h3, _, _⟩ := putS_mid hr hp he
  have hn := hj.next
  have hs := hj.synced
  have hl := hR.2.2.2.2.2.1
  have hs2 := hR.2.2.2.1
  generalize wrAll (fun i => j.lay.l + (at_ + i) % s) (putP j.epoch.toNat j.next.toNat l) 0 d = q
  obtain ⟨d', e'⟩ := q
  dsimp only
  split
  · exact ⟨hj.log, h3, hj.epoch, hj.next, hj.synced, hj.few, hj.groups⟩
  · refine ⟨hj.log, h3, hj.epoch, ?_, ?_, ?_, ?_⟩
    · show 1 ≤ j.next + 1 ∧ j.next + 1 ≤ _; omega
    · show 0 ≤ j.synced ∧ j.synced < j.next + 1; omega
    · show (j.groups ++ [_]).length ≤ _; simp; omega
    · intro g hg
      rcases List.mem_append.1 hg with hg | hg
      · exact hj.groups g hg
      · simp only [List.mem_singleton] at hg
        subst hg
        unfold In64; dsimp only; omega
theorem JSt.Wf.flush {j : JSt} (hj : j.Wf) (d : DSt) : (j.flush d).1.Wf := by
  have hn := hj.next
  unfold JSt.flush
  split
  · exact hj
  split
  · exact ⟨hj.log, hj.ring, hj.epoch, hj.next, hj.synced, hj.few, hj.groups⟩
  · refine ⟨hj.log, hj.ring, hj.epoch, hj.next, ?_, hj.few, hj.groups⟩
    show 0 ≤ j.next - 1 ∧ j.next - 1 < j.next; omega
theorem relAll_mid (seq : Int) : ∀ (gs : List (Int × Int)) (s t u h : Int) (gs' : List (Int × Int)) (s' t' u' h' e : Int), Ok s t u h → relAll seq gs s t u h = (gs', (s', t', u', h', e)) → Ok s' t' u' h' ∧ ∃ k, gs' = gs.drop k
  | [], s, t, u, h, _, _, _, _, _, _, hr, he => by
    rw [relAll] at he
    simp only [Prod.mk.injEq] at he
    obtain ⟨rfl, rfl, rfl, rfl, rfl, rfl⟩ := he
    exact ⟨hr, 0, rfl⟩
  | g :: gs, s, t, u, h, gs', s', t', u', h', e, hr, he => by
    rw [relAll] at he
    split at he
    · generalize hd : dropS s t u h g.2 = q at he
      obtain ⟨s1, t1, u1, h1, e1⟩ := q
      dsimp only at he
      split at he
      · rename_i h0
        obtain ⟨h2, k, hk⟩ := relAll_mid seq gs s1 t1 u1 h1 gs' s' t' u' h' e (dropS_mid hr hd h0) he
        exact ⟨h2, k + 1, hk⟩
      · simp only [Prod.mk.injEq] at he
        obtain ⟨rfl, rfl, rfl, rfl, rfl, rfl⟩ := he
        exact ⟨hr, 0, rfl⟩
    · simp only [Prod.mk.injEq] at he
      obtain ⟨rfl, rfl, rfl, rfl, rfl, rfl⟩ := he
      exact ⟨hr, 0, rfl⟩
theorem JSt.Wf.release {j : JSt} (hj : j.Wf) (seq : Int) : (j.release seq).1.Wf := by
  unfold JSt.release
  split
  · exact hj
  split
  · exact hj
  generalize hq : relAll seq j.groups j.s j.t j.u j.h = q
  obtain ⟨gs, s, t, u, h, e⟩ := q
  obtain ⟨h1, k, rfl⟩ := relAll_mid seq _ _ _ _ _ _ _ _ _ _ _ hj.ring hq
  exact ⟨hj.log, h1, hj.epoch, hj.next, hj.synced, by show (j.groups.drop k).length ≤ _; rw [List.length_drop]; have := hj.few; omega, fun g hg => hj.groups g (List.mem_of_mem_drop hg)⟩
/-- a group that fits is appended: what the journal is then -/
theorem JSt.append_next {j : JSt} (hj : j.Wf) (h8 : j.groups.length ≤ 999999) {d : DSt} {l : List PImg} {held : Bool} (hb : j.broken = false) (hR : RightP j.epoch j.next l) (hs : (l.length : Int) + 1 ≤ j.s) (hd : d.Calm) (hlen : j.s + 2 ≤ d.now.length)
    {t u h at_ : Int} (hp : putS j.s j.t j.u j.h (l.length + 1) (if held then l.length + 1 else 0) = ((j.s, t, u, h, 0), at_)) :
    ∃ j', j.appendB d l held = (j', wrD (fun i => 2 + (at_ + i) % j.s) (putP j.epoch.toNat j.next.toNat l) 0 d, j.next, 0) ∧ j'.lay = j.lay ∧ j'.s = j.s ∧ j'.t = t ∧ j'.u = u ∧ j'.h = h ∧ j'.epoch = j.epoch ∧ j'.next = j.next + 1 ∧ j'.synced = j.synced ∧ j'.groups = j.groups ++ [(j.next, (l.length + 1 : Int))] ∧ j'.broken = false ∧ j'.Wf := by
  have e := JSt.append_calm hb hR hs hj.log hd hlen hp
  have w := hj.append (d := d) (l := l) (held := held) h8
  rw [e] at w
  exact ⟨_, e, rfl, rfl, rfl, rfl, rfl, rfl, rfl, rfl, rfl, hb, w⟩
theorem JSt.flush_next {j : JSt} (hj : j.Wf) {d : DSt} (hb : j.broken = false) (hd : d.Calm) :
    ∃ j', j.flush d = (j', { d with safe := d.now, writes := [] }, 0) ∧ j'.lay = j.lay ∧ j'.s = j.s ∧ j'.t = j.t ∧ j'.u = j.u ∧ j'.h = j.h ∧ j'.epoch = j.epoch ∧ j'.next = j.next ∧ j'.synced = j.next - 1 ∧ j'.groups = j.groups ∧ j'.broken = false ∧ j'.Wf := by
  have e : j.flush d = ({ j with synced := j.next - 1 }, { d with safe := d.now, writes := [] }, 0) := by
    unfold JSt.flush DSt.flush
    rw [if_neg (by rw [hb]; simp), DSt.stop_calm hd]
    simp
  have w := hj.flush d
  rw [e] at w
  exact ⟨_, e, rfl, rfl, rfl, rfl, rfl, rfl, rfl, rfl, rfl, hb, w⟩
theorem JSt.release_next {j : JSt} (hj : j.Wf) {seq : Int} (hb : j.broken = false) (hs : ¬ j.synced < seq) {gs : List (Int × Int)} {s t u h e : Int} (hr : relAll seq j.groups j.s j.t j.u j.h = (gs, (s, t, u, h, e))) :
    ∃ j', j.release seq = (j', e) ∧ j'.lay = j.lay ∧ j'.s = s ∧ j'.t = t ∧ j'.u = u ∧ j'.h = h ∧ j'.epoch = j.epoch ∧ j'.next = j.next ∧ j'.synced = j.synced ∧ j'.groups = gs ∧ j'.broken = false ∧ j'.Wf := by
  have e' : j.release seq = ({ j with s := s, t := t, u := u, h := h, groups := gs }, e) := by
    unfold JSt.release
    rw [if_neg (by rw [hb]; simp), if_neg hs, hr]
  have w := hj.release seq
  rw [e'] at w
  exact ⟨_, e', rfl, rfl, rfl, rfl, rfl, rfl, rfl, rfl, rfl, hb, w⟩
end Go.Proofs.YtegdcjnjnoeinaaGreat
namespace Go.Proofs.YtegdcjnjnoeinaaGreat
open Go.RowKit Go.Sl
set_option maxRecDepth 20000

end Go.Proofs.YtegdcjnjnoeinaaGreat
namespace Go.Proofs.YtegdcjnjnoeinaaGreat
open Go.RowKit Go.Sl

def pickS (n m : Int) : Int := if m ≤ 0 then 0 else n % m
theorem pickS_range {n m : Int} (h : 0 < m) : 0 ≤ pickS n m ∧ pickS n m < m := by
  unfold pickS
  rw [if_neg (by omega)]
  exact ⟨Int.emod_nonneg _ (by omega), Int.emod_lt_of_pos _ h⟩
end Go.Proofs.YtegdcjnjnoeinaaGreat
namespace Go.Proofs.YtegdcjnjnoeinaaGreat
open Go.RowKit Go.Sl
set_option maxRecDepth 20000

def im9 (n : Nat) (seed : Int) : List PImg := (List.range n).map fun (i : Nat) => (30 + (i : Int), madeL (IntKind.i64.wrap (seed + (i : Int))) 4096)
theorem im9_length (n : Nat) (seed : Int) : (im9 n seed).length = n := by simp [im9]
theorem im9_right {e s : Int} (h1 : 1 ≤ e ∧ e ≤ 8388608) (h2 : 1 ≤ s ∧ s ≤ 549755813888) (n : Nat) (hn : 1 ≤ n ∧ n ≤ 32) (seed : Int) : RightP e s (im9 n seed) := by
  refine ⟨h1.1, h1.2, h2.1, h2.2, by rw [im9_length]; omega, by rw [im9_length]; omega, ?_, ?_⟩
  · intro g hg
    unfold im9 at hg
    obtain ⟨i, hi, rfl⟩ := List.mem_map.1 hg
    have := List.mem_range.1 hi
    exact ⟨by show (0 : Int) ≤ 30 + (i : Int); omega, by show 30 + (i : Int) < 512; omega, madeL_length _ _⟩
  · unfold im9
    rw [List.map_map, List.nodup_iff_pairwise_ne, List.pairwise_map]
    refine List.Pairwise.imp ?_ List.nodup_range
    intro a b hab he
    have he : 30 + (a : Int) = 30 + (b : Int) := he
    exact hab (by omega)
/-! ### written -/
def wrtStep (j : JSt) (d : DSt) (all : List (List PImg)) (sz : Int) : JSt × DSt × List (List PImg) :=
  ((j.appendB d (im9 (1 + pickS sz 5).toNat sz) false).1, (j.appendB d (im9 (1 + pickS sz 5).toNat sz) false).2.1, if (j.appendB d (im9 (1 + pickS sz 5).toNat sz) false).2.2.2 = 0 then all ++ [im9 (1 + pickS sz 5).toNat sz] else all)
def wrtK (x : JSt × DSt × List (List PImg)) (l : List Int) : JSt × DSt × List (List PImg) := l.foldl (fun y z => wrtStep y.1 y.2.1 y.2.2 z) x
/-- images, told as lists of lists -/
structure Ims where
  a : Option Addr
  cap : Nat
  gs : List Img
@[reducible] def Ims.cell (m : Ims) : Value := .slice m.a m.gs.length m.cap
def Ims.pr (m : Ims) : List PImg := m.gs.map Img.pr
end Go.Proofs.YtegdcjnjnoeinaaGreat
namespace Go.Proofs.YtegdcjnjnoeinaaGreat
open Go.RowKit Go.Sl
set_option maxRecDepth 20000

theorem JSt.Wf.turn {j : JSt} (hj : j.Wf) {r : R5} (hr : r.2.2.2.2 = 0 → Ok r.1 r.2.1 r.2.2.1 r.2.2.2.1) : (j.turn r).1.Wf := by
  obtain ⟨s, t, u, h, e⟩ := r
  unfold JSt.turn
  dsimp only at hr ⊢
  split
  · rename_i h0; exact ⟨hj.log, hr h0, hj.epoch, hj.next, hj.synced, hj.few, hj.groups⟩
  · exact hj
/-- a journal of the examples -/
structure JB (j : JSt) (t u h next synced : Int) (gs : List (Int × Int)) : Prop where
  s : j.s = 16
  t : j.t = t
  u : j.u = u
  h : j.h = h
  epoch : j.epoch = 1
  next : j.next = next
  synced : j.synced = synced
  groups : j.groups = gs
  broken : j.broken = false
  wf : j.Wf
/-- a disk of the examples -/
structure DB (d : DSt) (k : Nat) : Prop where
  calm : d.Calm
  len : d.now.length = 64
  few : d.Few k
/-- all of them -/
structure Numbers where
  jA : JSt
  jB : JSt
  jF : JSt
  jR : JSt
  jH : JSt
  jC : JSt
  jX : JSt
  dA : DSt
  dB : DSt
  dF : DSt
  dC : DSt
  dX : DSt
  dY : DSt
end Go.Proofs.YtegdcjnjnoeinaaGreat
namespace Go.Proofs.YtegdcjnjnoeinaaGreat
open Go.RowKit Go.Sl
set_option maxRecDepth 20000

/-! ### where writes go -/
theorem put_get {d : DSt} {p : Nat} {n : Nat} {b : Dat} (h : n ≠ p) : (d.put (n : Int) b).now[p]? = d.now[p]? := by
  show (d.now.set _ _)[p]? = _
  rw [Int.toNat_natCast, List.getElem?_set_ne h]
theorem put_hit {d : DSt} {p : Nat} {b : Dat} (h : p < d.now.length) : (d.put (p : Int) b).now[p]? = some b := by
  show (d.now.set _ _)[p]? = _
  rw [Int.toNat_natCast, List.getElem?_set_self h]
theorem wrD_miss (f : Nat → Nat) (p : Nat) : ∀ (bs : List Dat) (i : Nat) (d : DSt), (∀ k, k < bs.length → f (i + k) ≠ p) → (wrD (fun k => (f k : Int)) bs i d).now[p]? = d.now[p]?
  | [], _, _, _ => rfl
  | b :: bs, i, d, h => by
    rw [wrD, wrD_miss f p bs (i + 1) _ (fun k hk => by have := h (k + 1) (by simp; omega); rwa [show i + (k + 1) = i + 1 + k by omega] at this)]
    exact put_get (h 0 (by simp))
theorem wrD_hit (f : Nat → Nat) (p : Nat) : ∀ (bs : List Dat) (i : Nat) (d : DSt) (k : Nat), (hk : k < bs.length) → f (i + k) = p → (∀ k', k < k' → k' < bs.length → f (i + k') ≠ p) → p < d.now.length → (wrD (fun k => (f k : Int)) bs i d).now[p]? = some bs[k]
  | [], _, _, k, hk, _, _, _ => by simp at hk
  | b :: bs, i, d, 0, _, hf, hno, hp => by
    rw [wrD, wrD_miss f p bs (i + 1) _ (fun k' hk' => by have := hno (k' + 1) (by omega) (by simp; omega); rwa [show i + (k' + 1) = i + 1 + k' by omega] at this)]
    have hf : f i = p := hf
    show (d.put (f i : Int) b).now[p]? = _
    rw [hf, put_hit hp]; rfl
  | b :: bs, i, d, k + 1, hk, hf, hno, hp => by
    rw [wrD]
    have := wrD_hit f p bs (i + 1) (d.put (f i : Int) b) k (by simpa using hk) (by rw [show i + 1 + k = i + (k + 1) by omega]; exact hf) (fun k' h1 h2 => by have := hno (k' + 1) (by omega) (by simp; omega); rwa [show i + (k' + 1) = i + 1 + k' by omega] at this) (by rw [DSt.put_len]; exact hp)
    simpa using this
/-! ### the ring's blocks -/
def usedP (l : List (List PImg)) : Nat := (l.map fun g => g.length + 1).sum
def ringB (ep : Nat) : Nat → List (List PImg) → List Dat
  | _, [] => []
  | sq, g :: l => putP ep sq g ++ ringB ep (sq + 1) l
theorem ringB_length (ep : Nat) : ∀ (l : List (List PImg)) (sq : Nat), (ringB ep sq l).length = usedP l
  | [], _ => rfl
  | g :: l, sq => by rw [ringB, List.length_append, putP_length, ringB_length ep l]; simp [usedP]
theorem ringB_snoc (ep : Nat) : ∀ (l : List (List PImg)) (sq : Nat) (g : List PImg), ringB ep sq (l ++ [g]) = ringB ep sq l ++ putP ep (sq + l.length) g
  | [], sq, g => by simp [ringB]
  | x :: l, sq, g => by
    rw [List.cons_append, ringB, ringB_snoc ep l, ringB, List.append_assoc, List.length_cons, show sq + 1 + l.length = sq + (l.length + 1) by omega]
theorem usedP_snoc (l : List (List PImg)) (g : List PImg) : usedP (l ++ [g]) = usedP l + (g.length + 1) := by simp [usedP]
structure WI (ep tail : Nat) (z : Nat → Dat) (j : JSt) (d : DSt) (all : List (List PImg)) : Prop where
  s : j.s = 16
  t : j.t = tail
  u : j.u = (usedP all : Nat)
  h : j.h = 0
  epoch : j.epoch = ep
  next : j.next = (all.length + 1 : Nat)
  groups : j.groups.length = all.length
  broken : j.broken = false
  log : j.lay.l = 2
  wf : j.Wf
  calm : d.Calm
  dwf : d.Wf
  len : d.now.length = 64
  few : d.Few (usedP all)
  used : usedP all ≤ 16
  right : ∀ (i : Nat) (h : i < all.length), RightP ep ((i + 1 : Nat) : Int) all[i]
  ring : ∀ o, o < 16 → rbP d 2 16 (tail + o) = (ringB ep 1 all).getD o (z o)
theorem usedP_ge (l : List (List PImg)) : l.length ≤ usedP l := by
  unfold usedP
  induction l with
  | nil => simp
  | cons g l ih => simp; omega
theorem DSt.Wf.put {d : DSt} (h : d.Wf) (hc : d.Calm) {n : Int} {b : Dat} (hn : 0 ≤ n ∧ n < d.now.length) (hb : b.length = 4096) : (d.put n b).Wf := by
  have := h.write n b
  rwa [DSt.write_calm hc hn hb] at this
theorem wrD_wf (f : Nat → Int) : ∀ (bs : List Dat) (i : Nat) (d : DSt), d.Wf → d.Calm → (∀ b ∈ bs, b.length = 4096) → (∀ k, 0 ≤ f k ∧ f k < d.now.length) → (wrD f bs i d).Wf
  | [], _, _, h, _, _, _ => h
  | b :: bs, i, d, h, hc, hb, hf => wrD_wf f bs (i + 1) _ (h.put hc (hf i) (hb b (by simp))) (hc.put _ _) (fun x hx => hb x (by simp [hx])) (by rw [DSt.put_len]; exact hf)
/-- a group is appended, or there is no room -/
theorem WI.append {ep tail : Nat} {z : Nat → Dat} {j : JSt} {d : DSt} {all : List (List PImg)} (w : WI ep tail z j d all) {l : List PImg} (hR : RightP ep ((all.length + 1 : Nat) : Int) l) :
    (usedP all + (l.length + 1) ≤ 16 ∧ WI ep tail z (j.appendB d l false).1 (j.appendB d l false).2.1 (all ++ [l]) ∧ (j.appendB d l false).2.2.2 = 0) ∨
    (16 < usedP all + (l.length + 1) ∧ (j.appendB d l false).1 = j ∧ (j.appendB d l false).2.1 = d ∧ (j.appendB d l false).2.2.2 ≠ 0) := by
  have hge := usedP_ge all
  have hu := w.used
  have hll := hR.2.2.2.2.2.1
  have hR' : RightP j.epoch j.next l := by rw [w.epoch, w.next]; exact hR
  have hok := w.wf.ring
  have hokd : Ok 16 tail (usedP all : Nat) 0 := by have := hok; rw [w.s, w.t, w.u, w.h] at this; exact this
  have htl : (tail : Int) < 16 := hokd.2.2.2.1
  rcases Nat.lt_or_ge 16 (usedP all + (l.length + 1)) with hf | hf
  · right
    refine ⟨hf, ?_⟩
    unfold JSt.appendB JSt.append
    rw [if_neg (by rw [w.broken]; simp), if_neg (by simpa using hR')]
    by_cases hs : j.s < (l.length : Int) + 1
    · rw [if_pos hs]; exact ⟨rfl, rfl, by simp⟩
    rw [if_neg hs]
    have hp : putS j.s j.t j.u j.h ((l.length : Int) + 1) (if false = true then (l.length : Int) + 1 else 0) = ((0, 0, 0, 0, 5), 0) := by
      rw [w.s, w.t, w.u, w.h]
      unfold putS
      rw [if_neg (by simp only [Bool.false_eq_true, if_false]; rintro (h | h | h | h | h); exact h hokd; omega; omega; omega; omega), if_pos (by simp only [Bool.false_eq_true, if_false]; omega)]
    rw [hp]
    exact ⟨rfl, rfl, by simp⟩
  · left
    refine ⟨hf, ?_⟩
    have hp : putS j.s j.t j.u j.h ((l.length : Int) + 1) (if false = true then (l.length : Int) + 1 else 0) = ((j.s, (tail : Int), ((usedP all : Nat) : Int) + ((l.length : Int) + 1), 0, 0), ((tail : Int) + (usedP all : Nat)) % 16) := by
      rw [w.s, w.t, w.u, w.h]
      unfold putS
      rw [if_neg (by simp only [Bool.false_eq_true, if_false]; rintro (h | h | h | h | h); exact h hokd; omega; omega; omega; omega), if_neg (by simp only [Bool.false_eq_true, if_false]; omega)]
      simp only [Bool.false_eq_true, if_false, Int.sub_zero]
    have hlen16 : j.s + 2 ≤ d.now.length := by rw [w.s, w.len]; decide
    have hs1 : (l.length : Int) + 1 ≤ j.s := by rw [w.s]; omega
    obtain ⟨j', a, f1, f2, f3, f4, f5, f6, f7, f8, f9, f10, w'⟩ := JSt.append_next w.wf (by rw [w.groups]; omega) w.broken hR' hs1 w.calm hlen16 hp
    rw [a]
    have hB := putP_len (e := j.epoch.toNat) (s := j.next.toNat) hll hR.lens
    have hfl : ∀ k : Nat, (0 : Int) ≤ 2 + (((tail : Int) + (usedP all : Nat)) % 16 + k) % j.s ∧ 2 + (((tail : Int) + (usedP all : Nat)) % 16 + k) % j.s < d.now.length := by
      intro k
      rw [w.s, w.len]
      have := Int.emod_nonneg (((tail : Int) + (usedP all : Nat)) % 16 + k) (b := 16) (by decide)
      have := Int.emod_lt_of_pos (((tail : Int) + (usedP all : Nat)) % 16 + k) (b := 16) (by decide)
      omega
    have hff : (fun k : Nat => (2 : Int) + (((tail : Int) + (usedP all : Nat)) % 16 + k) % j.s) = fun k : Nat => ((2 + (tail + usedP all + k) % 16 : Nat) : Int) := by
      funext k
      rw [w.s]; omega
    refine ⟨⟨by rw [f2, w.s], f3, by rw [f4, usedP_snoc]; omega, f5, by rw [f6, w.epoch], by rw [f7, w.next, List.length_append]; rfl, by rw [f9]; simp [w.groups], f10, by rw [f1, w.log], w', wrD_calm _ _ _ _ w.calm, wrD_wf _ _ _ _ w.dwf w.calm hB hfl, by rw [wrD_len, w.len], ?_, by rw [usedP_snoc]; exact hf, ?_, ?_⟩, rfl⟩
    · have := wrD_few (fun i : Nat => (2 : Int) + (((tail : Int) + (usedP all : Nat)) % 16 + i) % j.s) (putP j.epoch.toNat j.next.toNat l) 0 d _ w.few
      rw [putP_length] at this
      rw [usedP_snoc]; exact this
    · intro i hi
      rw [List.getElem_append]
      split
      · rename_i h; exact w.right i h
      · rename_i h
        simp only [List.length_append, List.length_singleton] at hi
        obtain rfl : i = all.length := by omega
        simpa using hR
    · intro o ho
      rw [hff, ringB_snoc]
      have hrl := ringB_length ep all 1
      have he1 : j.epoch.toNat = ep := by rw [w.epoch]; rfl
      have he2 : j.next.toNat = 1 + all.length := by rw [w.next]; omega
      rw [he1, he2]
      have hpl := putP_length ep (1 + all.length) l
      obtain ⟨B, hBe⟩ : ∃ B, B = putP ep (1 + all.length) l := ⟨_, rfl⟩
      rw [← hBe] at hpl ⊢
      have hw := w.ring o ho
      unfold rbP at hw ⊢
      rw [List.getD_eq_getElem?_getD] at hw ⊢
      have inj : ∀ k, k < B.length → (2 + (tail + usedP all + k) % 16 = 2 + (tail + o) % 16 ↔ usedP all + k = o) := by
        intro k hk; omega
      by_cases hin : usedP all ≤ o ∧ o < usedP all + B.length
      · have := wrD_hit (fun k => 2 + (tail + usedP all + k) % 16) (2 + (tail + o) % 16) B 0 d (o - usedP all) (by omega) (by have := (inj (o - usedP all) (by omega)).2 (by omega); simpa using this)
          (fun k' h1 h2 h3 => by have := (inj k' h2).1 (by simpa using h3); omega) (by rw [w.len]; omega)
        rw [this, List.getD_eq_getElem?_getD, List.getElem?_append_right (by omega), hrl, List.getElem?_eq_getElem (by omega)]; rfl
      · have := wrD_miss (fun k => 2 + (tail + usedP all + k) % 16) (2 + (tail + o) % 16) B 0 d (fun k hk h3 => by have := (inj k hk).1 (by simpa using h3); omega)
        rw [this, hw]
        rw [List.getD_eq_getElem?_getD, List.getD_eq_getElem?_getD]
        rcases Nat.lt_or_ge o (usedP all) with g | g
        · rw [List.getElem?_append_left (by omega)]
        · rw [List.getElem?_eq_none (by omega), List.getElem?_eq_none (by rw [List.length_append]; omega)]
end Go.Proofs.YtegdcjnjnoeinaaGreat
namespace Go.Proofs.YtegdcjnjnoeinaaGreat
open Go.RowKit Go.Sl
set_option maxRecDepth 20000

def gsP (ep : Nat) : Nat → List (List PImg) → List G3
  | _, [] => []
  | sq, g :: l => (ep, sq, g) :: gsP ep (sq + 1) l
theorem grpP_put {rb : Nat → Dat} {at_ room ep sq : Nat} {l : List PImg} (hR : RightP ep sq l) (hroom : l.length + 1 ≤ room) (hrb : ∀ (k : Nat) (h : k < (putP ep sq l).length), rb (at_ + k) = (putP ep sq l)[k]) : grpP rb at_ room = some (ep, sq, l) := by
  have h0 : rb at_ = hblk ep sq l := by have := hrb 0 (by rw [putP_length]; omega); simpa [putP_eq] using this
  unfold grpP
  rw [h0, hdP_put hR]
  dsimp only
  rw [List.length_map, if_pos hroom]
  have : ((List.range (l.length + 1)).map fun i => rb (at_ + i)) = putP ep sq l := by
    refine getElem_eq_of (by rw [putP_length]; simp) fun i h1 h2 => ?_
    simp only [List.getElem_map, List.getElem_range]
    exact hrb i h2
  rw [this, getP_put hR]
theorem scan_prefix (rb : Nat → Dat) (ep : Nat) : ∀ (all : List (List PImg)) (f at_ sq room : Nat), (∀ (i : Nat) (h : i < all.length), RightP ep ((sq + i : Nat) : Int) all[i]) → usedP all ≤ room → all.length ≤ f → (∀ (k : Nat) (h : k < (ringB ep sq all).length), rb (at_ + k) = (ringB ep sq all)[k]) →
    scanK rb ep f at_ sq room = gsP ep sq all ++ scanK rb ep (f - all.length) (at_ + usedP all) ((sq + all.length : Nat) : Int) (room - usedP all)
  | [], f, at_, sq, room, _, _, _, _ => by simp [gsP, usedP]
  | g :: l, 0, _, _, _, _, _, h, _ => by simp at h
  | g :: l, f + 1, at_, sq, room, hR, hu, hf, hrb => by
    have e : usedP (g :: l) = g.length + 1 + usedP l := by simp [usedP]
    have hg : grpP rb at_ room = some (ep, sq, g) := by
      refine grpP_put (hR 0 (by simp)) (by omega) fun k hk => ?_
      have := hrb k (by rw [ringB, List.length_append]; omega)
      simp only [ringB] at this
      rw [List.getElem_append_left hk] at this
      exact this
    rw [scanK, hg]
    dsimp only
    rw [if_pos ⟨rfl, rfl⟩, gsP, List.cons_append]
    congr 1
    have ih := scan_prefix rb ep l f (at_ + (g.length + 1)) (sq + 1) (room - (g.length + 1)) (fun i hi => by
        have := hR (i + 1) (by simpa using hi)
        rw [show sq + (i + 1) = sq + 1 + i by omega] at this
        simpa using this) (by omega) (by simpa using hf) (fun k hk => by
        have hpl := putP_length ep sq g
        have := hrb (g.length + 1 + k) (by rw [ringB, List.length_append, hpl]; omega)
        simp only [ringB] at this
        rw [List.getElem_append_right (by omega)] at this
        rw [show at_ + (g.length + 1) + k = at_ + (g.length + 1 + k) by omega, this]
        congr 1
        omega)
    rw [show ((sq : Nat) : Int) + 1 = ((sq + 1 : Nat) : Int) by omega, ih, List.length_cons]
    rw [show f + 1 - (l.length + 1) = f - l.length by omega, show at_ + (g.length + 1) + usedP l = at_ + usedP (g :: l) by omega, show sq + 1 + l.length = sq + (l.length + 1) by omega, show room - (g.length + 1) - usedP l = room - usedP (g :: l) by omega]
/-- where no group follows -/
theorem scan_stop {rb : Nat → Dat} {ep : Int} {f at_ room : Nat} {seq : Int} (h : ∀ e s l, grpP rb at_ room = some (e, s, l) → ¬ ((e : Int) = ep ∧ (s : Int) = seq)) : scanK rb ep f at_ seq room = [] := by
  cases f with
  | zero => rfl
  | succ f =>
    rw [scanK]
    cases hg : grpP rb at_ room with
    | none => rfl
    | some p =>
      obtain ⟨e, s, l⟩ := p
      dsimp only
      rw [if_neg (h e s l hg)]
theorem hd_noughts : hdP noughts = none := by
  have h0 : (numV noughts 0 8).1 = 0 := by
    unfold numV noughts
    rw [if_neg (by rw [List.length_replicate]; omega)]
    simp [nb]
  unfold hdP hbE
  rw [h0, if_neg (fun h => by have := h.1.1; simp at this)]
theorem grpP_none {rb : Nat → Dat} {at_ room : Nat} (h : hdP (rb at_) = none) : grpP rb at_ room = none := by unfold grpP; rw [h]
theorem layL64 : layL (64 : Int) = 16 := by decide
theorem WI.fresh {ep tail : Nat} (hep : 1 ≤ ep ∧ ep ≤ 8388608) (ht : tail < 16) : WI ep tail (fun _ => noughts) (openJ 64 ep 1 tail) (DSt.of (List.replicate 64 noughts)) [] := by
  have hlen : (List.replicate 64 noughts).length = 64 := List.length_replicate ..
  have hmem : ∀ b ∈ List.replicate 64 noughts, b.length = 4096 := fun b hb => by rw [(List.mem_replicate.1 hb).2]; exact noughts_length
  have hw : (DSt.of (List.replicate 64 noughts)).Wf := ⟨rfl, by show 1 ≤ (List.replicate 64 noughts).length ∧ (List.replicate 64 noughts).length ≤ 512; omega, hmem, hmem, fun w hw => (List.not_mem_nil hw).elim, fun h => (Bool.false_ne_true h).elim, fun h => (Bool.false_ne_true h).elim⟩
  refine ⟨layL_64', rfl, rfl, rfl, rfl, rfl, rfl, rfl, rfl, openJ_wf 64 (by omega) ⟨rfl, by omega, by omega, by omega, by omega, by omega, by rw [layL_64']; omega⟩, fresh_calm _, hw, hlen, DSt.of_few _, by simp [usedP], fun i h => by simp at h, ?_⟩
  intro o ho
  unfold rbP
  show (List.replicate 64 noughts).getD _ [] = _
  rw [List.getD_eq_getElem?_getD, List.getElem?_replicate, if_pos (by omega)]; rfl
theorem im9_pick {ep : Nat} (hep : 1 ≤ ep ∧ ep ≤ 8388608) (sz : Int) (k : Nat) (hk : k ≤ 16) : RightP ep ((k + 1 : Nat) : Int) (im9 (1 + pickS sz 5).toNat sz) := by
  have := pickS_range (n := sz) (m := 5) (by decide)
  exact im9_right ⟨by omega, by omega⟩ ⟨by omega, by omega⟩ _ (by omega) _
theorem WI.step {ep tail : Nat} {z : Nat → Dat} (hep : 1 ≤ ep ∧ ep ≤ 8388608) {j : JSt} {d : DSt} {all : List (List PImg)} (w : WI ep tail z j d all) (sz : Int) : WI ep tail z (wrtStep j d all sz).1 (wrtStep j d all sz).2.1 (wrtStep j d all sz).2.2 := by
  have hge := usedP_ge all
  have hu := w.used
  unfold wrtStep
  rcases w.append (im9_pick hep sz all.length (by omega)) with ⟨_, h1, h2⟩ | ⟨_, h1, h2, h3⟩
  · dsimp only; rw [if_pos h2]; exact h1
  · dsimp only; rw [if_neg h3, h1, h2]; exact w
theorem WI.all {ep tail : Nat} {z : Nat → Dat} (hep : 1 ≤ ep ∧ ep ≤ 8388608) : ∀ (l : List Int) (x : JSt × DSt × List (List PImg)), WI ep tail z x.1 x.2.1 x.2.2 → WI ep tail z (wrtK x l).1 (wrtK x l).2.1 (wrtK x l).2.2
  | [], _, h => h
  | s :: l, _, h => WI.all hep l _ (h.step hep s)
end Go.Proofs.YtegdcjnjnoeinaaGreat
namespace Go.Proofs.YtegdcjnjnoeinaaGreat
open Go.RowKit Go.Sl
set_option maxRecDepth 20000

def grL : Nat → List (List PImg) → List (Int × Int)
  | _, [] => []
  | sq, l :: ls => ((sq : Int), ((l.length : Int) + 1)) :: grL (sq + 1) ls
theorem grL_length : ∀ (ls : List (List PImg)) (sq : Nat), (grL sq ls).length = ls.length
  | [], _ => rfl
  | _ :: ls, sq => by rw [grL, List.length_cons, grL_length ls, List.length_cons]
theorem grL_snoc : ∀ (ls : List (List PImg)) (sq : Nat) (l : List PImg), grL sq (ls ++ [l]) = grL sq ls ++ [(((sq + ls.length : Nat) : Int), ((l.length : Int) + 1))]
  | [], sq, l => rfl
  | x :: ls, sq, l => by
    rw [List.cons_append, grL, grL_snoc ls, grL, List.length_cons, show sq + 1 + ls.length = sq + (ls.length + 1) by omega]; rfl
structure WJ (t0 sq : Nat) (j : JSt) (d : DSt) (ls : List (List PImg)) (k : Nat) : Prop where
  s : j.s = 16
  t : j.t = ((t0 % 16 : Nat) : Int)
  u : j.u = (usedP ls : Nat)
  epoch : j.epoch = 1
  next : j.next = ((sq + ls.length : Nat) : Int)
  pos : 1 ≤ sq
  groups : j.groups = grL sq ls
  broken : j.broken = false
  wf : j.Wf
  calm : d.Calm
  dwf : d.Wf
  len : d.now.length = 64
  few : d.Few k
  used : usedP ls ≤ 16
  right : ∀ (i : Nat) (h : i < ls.length), RightP 1 ((sq + i : Nat) : Int) ls[i]
  ring : ∀ (o : Nat) (h : o < (ringB 1 sq ls).length), rbP d 2 16 (t0 + o) = (ringB 1 sq ls)[o]
theorem WJ.mono {t0 sq : Nat} {j : JSt} {d : DSt} {ls : List (List PImg)} {k m : Nat} (w : WJ t0 sq j d ls k) (h : k ≤ m) : WJ t0 sq j d ls m := { w with few := w.few.mono h }
theorem WJ.room {t0 sq : Nat} {j : JSt} {d : DSt} {ls : List (List PImg)} {k : Nat} (w : WJ t0 sq j d ls k) : Ok 16 ((t0 % 16 : Nat) : Int) (usedP ls : Nat) j.h := by
  have := w.wf.ring; rw [w.s, w.t, w.u] at this; exact this
theorem WJ.fresh (t0 : Nat) (ht : t0 < 16) : WJ t0 1 (openJ 64 1 1 t0) (DSt.of (List.replicate 64 noughts)) [] 0 :=
  ⟨layL_64', by show (t0 : Int) = _; rw [Nat.mod_eq_of_lt ht], rfl, rfl, rfl, Nat.le_refl _, rfl, rfl, openJ_wf64 t0 (by omega), fresh_calm _, (WI.fresh (ep := 1) (by omega) ht).dwf, List.length_replicate, DSt.of_few _, by simp [usedP], fun i h => by simp at h, fun o h => by simp [ringB] at h⟩
/-- a group is appended, or nothing changes -/
theorem WJ.append {t0 sq : Nat} {j : JSt} {d : DSt} {ls : List (List PImg)} {k : Nat} (w : WJ t0 sq j d ls k) {l : List PImg} (hR : RightP 1 ((sq + ls.length : Nat) : Int) l) (held : Bool) (hh : held = true → (l.length : Int) + 1 ≤ j.h) :
    (WJ t0 sq (j.appendB d l held).1 (j.appendB d l held).2.1 (ls ++ [l]) (k + 16) ∧ (j.appendB d l held).2.2.1 = ((sq + ls.length : Nat) : Int) ∧ (j.appendB d l held).2.2.2 = 0 ∧ (held = false → (j.appendB d l held).1.h = j.h)) ∨
    (held = false ∧ (j.appendB d l held).1 = j ∧ (j.appendB d l held).2.1 = d ∧ (j.appendB d l held).2.2.2 ≠ 0) := by
  have hge := usedP_ge ls
  have hu := w.used
  have hll := hR.2.2.2.2.2.1
  have hR' : RightP j.epoch j.next l := by rw [w.epoch, w.next]; exact hR
  have hokd := w.room
  have hok := hokd
  unfold Ok at hok
  obtain ⟨kk, hkk⟩ : ∃ kk : Int, kk = (if held = true then (l.length : Int) + 1 else 0) := ⟨_, rfl⟩
  have hk0 : 0 ≤ kk ∧ kk ≤ (l.length : Int) + 1 ∧ kk ≤ j.h := by
    rw [hkk]
    split
    · rename_i h; have := hh h; omega
    · omega
  by_cases hf : 16 - (usedP ls : Int) - j.h < (l.length : Int) + 1 - kk
  · right
    have hheld : held = false := by
      cases held with
      | false => rfl
      | true => rw [if_pos rfl] at hkk; omega
    refine ⟨hheld, ?_⟩
    unfold JSt.appendB JSt.append
    rw [if_neg (by rw [w.broken]; simp), if_neg (by simpa using hR')]
    by_cases hs : j.s < (l.length : Int) + 1
    · rw [if_pos hs]; exact ⟨rfl, rfl, by simp⟩
    rw [if_neg hs]
    have hp : putS j.s j.t j.u j.h ((l.length : Int) + 1) (if held = true then (l.length : Int) + 1 else 0) = ((0, 0, 0, 0, 5), 0) := by
      rw [w.s, w.t, w.u, ← hkk]
      unfold putS
      rw [if_neg (by rintro (h | h | h | h | h); exact h hokd; omega; omega; omega; omega), if_pos (by omega)]
    rw [hp]
    exact ⟨rfl, rfl, by simp⟩
  · left
    have hp : putS j.s j.t j.u j.h ((l.length : Int) + 1) (if held = true then (l.length : Int) + 1 else 0) = ((j.s, ((t0 % 16 : Nat) : Int), ((usedP ls : Nat) : Int) + ((l.length : Int) + 1), j.h - kk, 0), (((t0 % 16 : Nat) : Int) + (usedP ls : Nat)) % 16) := by
      rw [w.s, w.t, w.u, ← hkk]
      unfold putS
      rw [if_neg (by rintro (h | h | h | h | h); exact h hokd; omega; omega; omega; omega), if_neg (by omega)]
    have hlen16 : j.s + 2 ≤ d.now.length := by rw [w.s, w.len]; decide
    have hs1 : (l.length : Int) + 1 ≤ j.s := by rw [w.s]; omega
    have hgl : j.groups.length = ls.length := by rw [w.groups, grL_length]
    obtain ⟨j', a, f1, f2, f3, f4, f5, f6, f7, f8, f9, f10, w'⟩ := JSt.append_next w.wf (by rw [hgl]; omega) w.broken hR' hs1 w.calm hlen16 hp
    rw [a]
    have hB := putP_len (e := j.epoch.toNat) (s := j.next.toNat) hll hR.lens
    have hff : (fun k : Nat => (2 : Int) + ((((t0 % 16 : Nat) : Int) + (usedP ls : Nat)) % 16 + k) % j.s) = fun k : Nat => ((2 + (t0 + usedP ls + k) % 16 : Nat) : Int) := by
      funext k
      rw [w.s]; omega
    have hfl : ∀ k : Nat, (0 : Int) ≤ ((2 + (t0 + usedP ls + k) % 16 : Nat) : Int) ∧ ((2 + (t0 + usedP ls + k) % 16 : Nat) : Int) < d.now.length := by
      intro k
      rw [w.len]; omega
    have hroom : usedP ls + (l.length + 1) ≤ 16 := by
      have := w'.ring
      unfold Ok at this
      rw [f2, w.s, f4] at this
      omega
    rw [hff]
    refine ⟨⟨by rw [f2, w.s], f3, by rw [f4, usedP_snoc]; omega, by rw [f6, w.epoch], by rw [f7, w.next, List.length_append]; show _ = (((sq + (ls.length + 1) : Nat)) : Int); omega, w.pos, by rw [f9, w.groups, w.next, grL_snoc], f10, w', wrD_calm _ _ _ _ w.calm, wrD_wf _ _ _ _ w.dwf w.calm hB hfl, by rw [wrD_len, w.len], ?_, by rw [usedP_snoc]; exact hroom, ?_, ?_⟩, w.next, rfl, fun h => by rw [f5, hkk, h]; simp⟩
    · have := wrD_few (fun k : Nat => ((2 + (t0 + usedP ls + k) % 16 : Nat) : Int)) (putP j.epoch.toNat j.next.toNat l) 0 d _ w.few
      rw [putP_length] at this
      exact this.mono (by omega)
    · intro i hi
      rw [List.getElem_append]
      split
      · rename_i h; exact w.right i h
      · rename_i h
        simp only [List.length_append, List.length_singleton] at hi
        obtain rfl : i = ls.length := by omega
        simpa using hR
    · intro o ho
      have hrl := ringB_length 1 ls sq
      have he1 : j.epoch.toNat = 1 := by rw [w.epoch]; rfl
      have he2 : j.next.toNat = sq + ls.length := by rw [w.next]; omega
      have hsn := ringB_snoc 1 ls sq l
      have hpl := putP_length 1 (sq + ls.length) l
      obtain ⟨B, hBe⟩ : ∃ B, B = putP 1 (sq + ls.length) l := ⟨_, rfl⟩
      rw [he1, he2]
      rw [← hBe] at hpl hsn ⊢
      have ho2 : o < usedP ls + B.length := by rw [hsn, List.length_append, hrl] at ho; exact ho
      have e0 : (ringB 1 sq (ls ++ [l]))[o]? = (ringB 1 sq ls ++ B)[o]? := by rw [hsn]
      rw [List.getElem?_eq_getElem ho] at e0
      unfold rbP
      rw [List.getD_eq_getElem?_getD]
      have inj : ∀ k, k < B.length → (2 + (t0 + usedP ls + k) % 16 = 2 + (t0 + o) % 16 ↔ usedP ls + k = o) := by
        intro k hk; omega
      by_cases hin : usedP ls ≤ o
      · have := wrD_hit (fun k => 2 + (t0 + usedP ls + k) % 16) (2 + (t0 + o) % 16) B 0 d (o - usedP ls) (by omega) (by have := (inj (o - usedP ls) (by omega)).2 (by omega); simpa using this)
          (fun k' h1 h2 h3 => by have := (inj k' h2).1 (by simpa using h3); omega) (by rw [w.len]; omega)
        rw [this]
        rw [List.getElem?_append_right (by omega), hrl, List.getElem?_eq_getElem (by omega)] at e0
        exact (Option.some.inj e0).symm
      · have := wrD_miss (fun k => 2 + (t0 + usedP ls + k) % 16) (2 + (t0 + o) % 16) B 0 d (fun k hk h3 => by have := (inj k hk).1 (by simpa using h3); omega)
        rw [this]
        rw [List.getElem?_append_left (by omega), List.getElem?_eq_getElem (by omega)] at e0
        have hw := w.ring o (by omega)
        unfold rbP at hw
        rw [List.getD_eq_getElem?_getD] at hw
        rw [hw]
        exact (Option.some.inj e0).symm
theorem WJ.flush {t0 sq : Nat} {j : JSt} {d : DSt} {ls : List (List PImg)} {k : Nat} (w : WJ t0 sq j d ls k) :
    WJ t0 sq (j.flush d).1 (j.flush d).2.1 ls k ∧ (j.flush d).2.2 = 0 ∧ (j.flush d).1.synced = j.next - 1 ∧ (j.flush d).1.h = j.h := by
  obtain ⟨j', a, f1, f2, f3, f4, f5, f6, f7, f8, f9, f10, w'⟩ := JSt.flush_next w.wf w.broken w.calm
  have hc := w.calm
  have hdw : (j.flush d).2.1.Wf := by
    have := w.dwf.flush
    unfold JSt.flush
    rw [if_neg (by rw [w.broken]; simp)]
    split <;> exact this
  rw [a] at hdw ⊢
  refine ⟨⟨by rw [f2, w.s], by rw [f3, w.t], by rw [f4, w.u], by rw [f6, w.epoch], by rw [f7, w.next], w.pos, by rw [f9, w.groups], f10, w', hc, hdw, w.len, ?_, w.used, w.right, w.ring⟩, rfl, f8, f5⟩
  obtain ⟨h1, h2, h3⟩ := w.few
  exact ⟨by simp, h2, h3⟩
theorem ringB_drop (ep : Nat) : ∀ (ls : List (List PImg)) (sq m : Nat), (ringB ep sq ls).drop (usedP (ls.take m)) = ringB ep (sq + m) (ls.drop m)
  | ls, sq, 0 => by simp [usedP]
  | [], sq, m + 1 => by simp [ringB, usedP]
  | l :: ls, sq, m + 1 => by
    have e : usedP ((l :: ls).take (m + 1)) = (putP ep sq l).length + usedP (ls.take m) := by rw [putP_length]; simp [usedP]
    rw [e, ringB, ← List.drop_drop, List.drop_left, ringB_drop ep ls (sq + 1) m, List.drop_succ_cons, show sq + 1 + m = sq + (m + 1) by omega]
theorem usedP_split (ls : List (List PImg)) (m : Nat) : usedP ls = usedP (ls.take m) + usedP (ls.drop m) := by
  unfold usedP
  rw [← List.sum_append, ← List.map_append, List.take_append_drop]
theorem rel_gr : ∀ (m : Nat) (ls : List (List PImg)) (sq t0 : Nat) (u h : Int), m < ls.length → (usedP ls : Int) = u → Ok 16 ((t0 % 16 : Nat) : Int) u h →
    relAll ((sq + m : Nat) : Int) (grL sq ls) 16 ((t0 % 16 : Nat) : Int) u h = (grL (sq + (m + 1)) (ls.drop (m + 1)), (16, (((t0 + usedP (ls.take (m + 1))) % 16 : Nat) : Int), ((usedP (ls.drop (m + 1)) : Nat) : Int), h, 0))
  | m, [], _, _, _, _, hm, _, _ => by simp at hm
  | m, l :: ls, sq, t0, u, h, hm, hu, hr => by
    have hul : usedP (l :: ls) = (l.length + 1) + usedP ls := by simp [usedP]
    have hr2 := hr
    unfold Ok at hr2
    rw [grL, relAll, if_pos (by show ((sq : Nat) : Int) ≤ _; omega)]
    have hd : dropS 16 ((t0 % 16 : Nat) : Int) u h ((l.length : Int) + 1) = (16, (((t0 + (l.length + 1)) % 16 : Nat) : Int), ((usedP ls : Nat) : Int), h, 0) := by
      unfold dropS
      rw [if_neg (by rintro (h | h | h); exact h hr; omega; omega)]
      congr 1
      congr 1
      · omega
      · congr 1; omega
    dsimp only
    rw [hd]
    dsimp only
    rw [if_pos rfl]
    cases m with
    | zero =>
      rw [show (l :: ls).take (0 + 1) = [l] by rfl, show (l :: ls).drop (0 + 1) = ls by rfl, show usedP [l] = l.length + 1 by simp [usedP]]
      cases ls with
      | nil => rfl
      | cons x ls =>
        rw [grL, relAll, if_neg (by show ¬ (((sq + 1 : Nat) : Int) ≤ ((sq + 0 : Nat) : Int)); omega)]
    | succ m =>
      have ih := rel_gr m ls (sq + 1) (t0 + (l.length + 1)) ((usedP ls : Nat) : Int) h (by simpa using hm) rfl (by unfold Ok; omega)
      rw [show sq + (m + 1) = sq + 1 + m by omega, ih]
      rw [show (l :: ls).take (m + 1 + 1) = l :: ls.take (m + 1) by rfl, show (l :: ls).drop (m + 1 + 1) = ls.drop (m + 1) by rfl, show usedP (l :: ls.take (m + 1)) = (l.length + 1) + usedP (ls.take (m + 1)) by simp [usedP], Nat.add_assoc t0]
      rw [show sq + 1 + (m + 1) = sq + 1 + m + 1 by omega, show sq + (m + 1 + 1) = sq + 1 + m + 1 by omega]
theorem WJ.release {t0 sq : Nat} {j : JSt} {d : DSt} {ls : List (List PImg)} {k : Nat} (w : WJ t0 sq j d ls k) (hsy : j.synced = j.next - 1) (m : Nat) (hm : m < ls.length) :
    WJ (t0 + usedP (ls.take (m + 1))) (sq + (m + 1)) (j.release ((sq + m : Nat) : Int)).1 d (ls.drop (m + 1)) k ∧ (j.release ((sq + m : Nat) : Int)).2 = 0 ∧ (j.release ((sq + m : Nat) : Int)).1.h = j.h := by
  have hu := w.used
  have hsp := usedP_split ls (m + 1)
  have hr : relAll ((sq + m : Nat) : Int) j.groups j.s j.t j.u j.h = (grL (sq + (m + 1)) (ls.drop (m + 1)), (16, (((t0 + usedP (ls.take (m + 1))) % 16 : Nat) : Int), ((usedP (ls.drop (m + 1)) : Nat) : Int), j.h, 0)) := by
    rw [w.groups, w.s, w.t, w.u]; exact rel_gr m ls sq t0 ((usedP ls : Nat) : Int) j.h hm rfl w.room
  obtain ⟨j', a, f1, f2, f3, f4, f5, f6, f7, f8, f9, f10, w'⟩ := JSt.release_next w.wf (seq := ((sq + m : Nat) : Int)) w.broken (by rw [hsy, w.next]; omega) hr
  rw [a]
  refine ⟨⟨by rw [f2], f3, f4, by rw [f6, w.epoch], ?_, by have := w.pos; omega, f9, f10, w', w.calm, w.dwf, w.len, w.few, by omega, ?_, ?_⟩, rfl, f5⟩
  · rw [f7, w.next, List.length_drop]; omega
  · intro i hi
    rw [List.getElem_drop]
    have := w.right (m + 1 + i) (by rw [List.length_drop] at hi; omega)
    rwa [show sq + (m + 1 + i) = sq + (m + 1) + i by omega] at this
  · intro o ho
    have e := ringB_drop 1 ls sq (m + 1)
    have ho2 : usedP (ls.take (m + 1)) + o < (ringB 1 sq ls).length := by rw [← e, List.length_drop] at ho; omega
    have hw := w.ring _ ho2
    have e1 : (ringB 1 (sq + (m + 1)) (ls.drop (m + 1)))[o]? = ((ringB 1 sq ls).drop (usedP (ls.take (m + 1))))[o]? := by rw [e]
    rw [List.getElem?_eq_getElem ho, List.getElem?_drop, List.getElem?_eq_getElem ho2] at e1
    rw [Nat.add_assoc, hw]
    exact (Option.some.inj e1).symm
theorem WJ.turn {t0 sq : Nat} {j : JSt} {d : DSt} {ls : List (List PImg)} {k : Nat} (w : WJ t0 sq j d ls k) (h : Int) (hh : 0 ≤ h ∧ (usedP ls : Int) + h ≤ 16) : WJ t0 sq { j with h := h } d ls k := by
  refine ⟨w.s, w.t, w.u, w.epoch, w.next, w.pos, w.groups, w.broken, ⟨w.wf.log, ?_, w.wf.epoch, w.wf.next, w.wf.synced, w.wf.few, w.wf.groups⟩, w.calm, w.dwf, w.len, w.few, w.used, w.right, w.ring⟩
  have := w.wf.ring
  unfold Ok at this ⊢
  show 1 ≤ j.s ∧ j.s ≤ 512 ∧ 0 ≤ j.t ∧ j.t < j.s ∧ 0 ≤ j.u ∧ 0 ≤ h ∧ j.u + h ≤ j.s
  rw [w.s, w.u] at this ⊢
  omega
end Go.Proofs.YtegdcjnjnoeinaaGreat
namespace Go.Proofs.YtegdcjnjnoeinaaGreat
open Go.RowKit Go.Sl
set_option maxRecDepth 20000

theorem WJ.blk {t0 sq : Nat} {j : JSt} {d : DSt} {ls : List (List PImg)} {k : Nat} (w : WJ t0 sq j d ls k) (i : Nat) (hi : i < ls.length) (b : Nat) (hb : b < (putP 1 (sq + i) ls[i]).length) :
    d.now.getD (2 + ((t0 + usedP (ls.take i)) % 16 + b) % 16) [] = (putP 1 (sq + i) ls[i])[b] := by
  have e := ringB_drop 1 ls sq i
  rw [List.drop_eq_getElem_cons hi, ringB] at e
  have e1 : (ringB 1 sq ls)[usedP (ls.take i) + b]? = some (putP 1 (sq + i) ls[i])[b] := by
    rw [← List.getElem?_drop, e, List.getElem?_append_left hb, List.getElem?_eq_getElem hb]
  obtain ⟨h1, h2⟩ := List.getElem?_eq_some_iff.1 e1
  have := w.ring _ h1
  unfold rbP at this
  rw [h2] at this
  rw [← this, show 2 + ((t0 + usedP (ls.take i)) % 16 + b) % 16 = 2 + (t0 + (usedP (ls.take i) + b)) % 16 by omega]
structure LineOk (J : Imm) (t0 sq : Nat) (l : List Grp) (ls : List (List PImg)) : Prop where
  pr : l.map (fun g => g.gs.map Img.pr) = ls
  each : ∀ (i : Nat) (g : Grp), l[i]? = some g → g.e = ((sq + i : Nat) : Int) ∧ g.s = (((t0 + usedP (ls.take i)) % 16 : Nat) : Int) ∧ ImgsOk J g.a g.gs
theorem LineOk.mono {I J : Imm} {t0 sq : Nat} {l : List Grp} {ls : List (List PImg)} (h : LineOk I t0 sq l ls) (hJ : I.le J) : LineOk J t0 sq l ls :=
  ⟨h.pr, fun i g hg => ⟨(h.each i g hg).1, (h.each i g hg).2.1, (h.each i g hg).2.2.mono hJ⟩⟩
theorem LineOk.len {J : Imm} {t0 sq : Nat} {l : List Grp} {ls : List (List PImg)} (h : LineOk J t0 sq l ls) : l.length = ls.length := by rw [← h.pr, List.length_map]
theorem LineOk.nil (J : Imm) (t0 sq : Nat) : LineOk J t0 sq [] [] := ⟨rfl, fun i g h => by simp at h⟩
theorem LineOk.snoc {J : Imm} {t0 sq : Nat} {l : List Grp} {ls : List (List PImg)} (h : LineOk J t0 sq l ls) {g : Grp} (h1 : g.e = ((sq + ls.length : Nat) : Int)) (h2 : g.s = (((t0 + usedP ls) % 16 : Nat) : Int)) (h3 : ImgsOk J g.a g.gs) : LineOk J t0 sq (l ++ [g]) (ls ++ [g.gs.map Img.pr]) := by
  have hl := h.len
  refine ⟨by rw [List.map_append, h.pr]; rfl, fun i x hx => ?_⟩
  rcases Nat.lt_or_ge i l.length with c | c
  · rw [List.getElem?_append_left c] at hx
    rw [List.take_append_of_le_length (by omega)]
    exact h.each i x hx
  · rw [List.getElem?_append_right c] at hx
    obtain ⟨q1, q2⟩ := List.getElem?_eq_some_iff.1 hx
    simp at q1
    obtain rfl : i = ls.length := by omega
    have : x = g := by simpa using q2.symm
    subst this
    rw [List.take_append_of_le_length (by omega), List.take_length]
    exact ⟨h1, h2, h3⟩
theorem LineOk.drop {J : Imm} {t0 sq : Nat} {l : List Grp} {ls : List (List PImg)} (h : LineOk J t0 sq l ls) (m : Nat) : LineOk J (t0 + usedP (ls.take m)) (sq + m) (l.drop m) (ls.drop m) := by
  refine ⟨by rw [List.map_drop, h.pr], fun i x hx => ?_⟩
  rw [List.getElem?_drop] at hx
  obtain ⟨q1, q2, q3⟩ := h.each _ _ hx
  refine ⟨by rw [q1]; omega, ?_, q3⟩
  rw [q2]
  have e : usedP (ls.take (m + i)) = usedP (ls.take m) + usedP ((ls.drop m).take i) := by
    rw [List.take_add]
    simp [usedP]
  rw [e, Nat.add_assoc]
theorem dk_ReadK {I : Imm} {bD : Nat} {st : DSt} {ch : List Blk} (h : Dk I bD st ch) (hdn : st.down = false) (k : Nat) (hk : k < st.now.length) :
    Tri Tryz.prog 39 #[.pointer (some ⟨bD, 0, none⟩), .int .i64 k] I [ch] fun v J S' => ∃ bk : Bk, v = .tuple #[bk.cell, .int .i64 0] ∧ bk.data = st.now.getD k [] ∧ BkOk J bk ∧ 4096 ≤ bk.cap ∧ Dk J bD st ch ∧ S' = [ch] := by
  have hb4 : (st.now.getD k []).length = 4096 := by
    rw [List.getD_eq_getElem?_getD, List.getElem?_eq_getElem hk]
    exact h.wf.now _ (List.getElem_mem _)
  have hr := dk_Read h (k : Int)
  rw [read_up h.wf hdn hk] at hr
  refine Tri.drop (Tri.fixed hr (K := fun v J S' => ∃ bk : Bk, v = .tuple #[bk.cell, .int .i64 0] ∧ bk.data = st.now.getD k [] ∧ BkOk J bk ∧ 4096 ≤ bk.cap ∧ Dk J bD st ch ∧ S' = [ch, []]) ?_) ?_
  · rintro v J S' hJ ⟨a, cap, chB, rfl, hB, rfl, rfl⟩
    dsimp only at hB ⊢
    rw [hb4] at hB
    refine ⟨1, chB, rfl, fun J' hJ' hm => ⟨⟨a, cap, st.now.getD k []⟩, by rw [hb4], rfl, Rds.of_own hB hm, hB.le, h.mono hJ', rfl⟩⟩
  · rintro v J S' hJ ⟨bk, h1, h2, h3, h4, h5, rfl⟩
    exact ⟨[ch], Drop.pick [0] _ rfl, bk, h1, h2, h3, h4, h5, rfl⟩
end Go.Proofs.YtegdcjnjnoeinaaGreat

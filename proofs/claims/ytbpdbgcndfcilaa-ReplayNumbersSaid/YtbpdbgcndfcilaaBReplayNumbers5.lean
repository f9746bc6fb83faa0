/- Texts of this claim laid together: Do, Awake08, Awk08, Jk5, JNum, JournalNumbers, ReplayNumbers. -/
import Derived.Test.YtbpdbgcndfcilaaBReplayNumbers4
import Derived.Test.YtbpdbgcndfcilaaBReplayNumbers2
import Derived.Test.YtbpdbgcndfcilaaBReplayNumbers1
import Derived.Test.YtbpdbgcndfcilaaBReplayNumbers3
namespace Go.Proofs.Ytbpdbgcndfcilaa
open Go.RowKit Go.Sl
set_option maxRecDepth 20000

theorem super_PutF (s : Sup) (I : Imm) : Tri Try.prog 113 #[s.v] I [] fun v J _ =>
    (¬ RightS s ∧ v = .tuple #[.slice none 0 0, .int .i64 2]) ∨ (RightS s ∧ ∃ a cap, v = .tuple #[.slice a 4096 cap, .int .i64 0] ∧ Rds J a 4096 (bts (supL s))) := by
  by_cases hR : RightS s
  · refine Tri.fixed (super_Put s I) ?_
    rintro v J S' hJ ⟨rfl, ⟨h, _⟩ | ⟨_, a, cap, ch, rfl, hown, rfl⟩⟩
    · exact absurd hR h
    · exact ⟨0, ch, rfl, fun J' hJ' hm => .inr ⟨hR, a, cap, rfl, Rds.of_own hown hm⟩⟩
  · refine (super_Put s I).mono ?_
    rintro v J S' hJ ⟨rfl, ⟨_, rfl, rfl⟩ | ⟨h, _⟩⟩
    · exact .inl ⟨hR, rfl⟩
    · exact absurd h hR
def wrImgs : List PImg → DSt → DSt × Int
  | [], d => (d, 0)
  | g :: gs, d => if (d.write g.1 g.2).2 ≠ 0 then d.write g.1 g.2 else wrImgs gs (d.write g.1 g.2).1
def DoOk (d : DSt) (l : List PImg) : Prop := ∀ g ∈ l, 2 ≤ g.1 ∧ g.1 < d.now.length ∧ g.2.length = 4096
instance (d : DSt) (l : List PImg) : Decidable (DoOk d l) := by unfold DoOk; infer_instance
def lastWr (d : DSt) (slot : Int) (s : Sup) : DSt × Int := if (d.write slot (supL s)).2 ≠ 0 then d.write slot (supL s) else (d.write slot (supL s)).1.flush
def doP (d : DSt) (l : List PImg) (s : Sup) (slot : Int) : DSt × Int :=
  if ¬ RightS s ∨ slot < 0 ∨ 1 < slot ∨ ¬ DoOk d l then (d, 2) else if (wrImgs l d).2 ≠ 0 then wrImgs l d else if (wrImgs l d).1.flush.2 ≠ 0 then (wrImgs l d).1.flush else lastWr (wrImgs l d).1.flush.1 slot s
theorem wrImgs_few : ∀ (l : List PImg) (d : DSt) (k : Nat), d.Few k → (wrImgs l d).1.Few (k + l.length)
  | [], _, _, h => h
  | g :: l, d, k, h => by
    have h1 := h.write g.1 g.2
    rw [wrImgs]
    split
    · exact h1.mono (by simp)
    · have := wrImgs_few l _ _ h1
      rw [List.length_cons]
      exact this.mono (by omega)
set_option maxHeartbeats 4000000 in
theorem dk_Do {I : Imm} {bD : Nat} {d : DSt} {ch : List Blk} (hD : Dk I bD d ch) (k : Nat) (hf : d.Few k) (aL : Option Addr) (capL : Nat) (gs : List Img) (hi : ImgsOk I aL gs) (hk : k + gs.length ≤ 900000) (s : Sup) (slot : Int) :
    Tri Try.prog 60 #[.pointer (some ⟨bD, 0, none⟩), .slice aL gs.length capL, s.v, .int .i64 slot] I [ch] fun v J S' => v = .int .i64 (doP d (gs.map Img.pr) s slot).2 ∧ ∃ ch', Dk J bD (doP d (gs.map Img.pr) s slot).1 ch' ∧ S' = [ch'] := by
  have hr := hD.wf.range
  refine Tri.drop ?_ (fun _ _ _ _ h => h)
  refine Tri.of (args := [.pointer (some ⟨bD, 0, none⟩), .slice aL gs.length capL, s.v, .int .i64 slot]) tabOk Try.func60 rfl (by kernel_rfl) (by kernel_rfl) ?_
  conv => whnf
  intro b6
  refine Tri.frame1 0 rfl (dk_Size hD) ?_
  rintro v J S' hJ ⟨rfl, rfl, rfl⟩
  refine ⟨_, rfl, ?_⟩
  refine CmpD.no (by omega) ?_
  repeat (first
    | refine LoadD.own 0 rfl _ rfl rfl ?_
    | refine LoadD.own 1 rfl _ rfl rfl ?_
    | refine LoadP.at 0 rfl _ rfl rfl ?_
    | refine LoadP.at 1 rfl _ rfl rfl ?_
    | refine StoreD.st 0 rfl rfl rfl ?_
    | refine StoreD.st 1 rfl rfl rfl ?_
    | refine CmpD.yes rfl ?_
    | refine CmpD.yes (by decide) ?_
    | refine CmpD.no (by decide) ?_
    | refine Chk.mk ⟨rfl, trivial⟩ ?_
    | refine Chk.mk ⟨rfl, rfl, trivial⟩ ?_
    | refine Chk.mk ⟨rfl, rfl, rfl, trivial⟩ ?_
    | refine Chk.mk ⟨rfl, rfl, rfl, rfl, trivial⟩ ?_
    | refine Chk.mk ⟨rfl, rfl, rfl, rfl, rfl, trivial⟩ ?_
    | refine Chk.mk ⟨rfl, rfl, rfl, rfl, rfl, rfl, trivial⟩ ?_)
  unfold doP
  refine Tri.free (super_PutF s I) ?_
  rintro v J _ hJ (⟨hR, rfl⟩ | ⟨hR, aB, capB, rfl, hB⟩)
  · repeat (first
      | refine LoadD.own 0 rfl _ rfl rfl ?_
      | refine LoadD.own 1 rfl _ rfl rfl ?_
      | refine LoadP.at 0 rfl _ rfl rfl ?_
      | refine LoadP.at 1 rfl _ rfl rfl ?_
      | refine StoreD.st 0 rfl rfl rfl ?_
      | refine StoreD.st 1 rfl rfl rfl ?_
      | refine CmpD.yes rfl ?_
      | refine CmpD.yes (by decide) ?_
      | refine CmpD.no (by decide) ?_
      | refine Chk.mk ⟨rfl, trivial⟩ ?_
      | refine Chk.mk ⟨rfl, rfl, trivial⟩ ?_
      | refine Chk.mk ⟨rfl, rfl, rfl, trivial⟩ ?_
      | refine Chk.mk ⟨rfl, rfl, rfl, rfl, trivial⟩ ?_
      | refine Chk.mk ⟨rfl, rfl, rfl, rfl, rfl, trivial⟩ ?_
      | refine Chk.mk ⟨rfl, rfl, rfl, rfl, rfl, rfl, trivial⟩ ?_)
    refine Done.mk ⟨[ch], Drop.pick [0] _ rfl, ?_⟩
    rw [if_pos (.inl hR)]
    exact ⟨rfl, ch, hD.mono hJ, rfl⟩
  repeat (first
    | refine LoadD.own 0 rfl _ rfl rfl ?_
    | refine LoadD.own 1 rfl _ rfl rfl ?_
    | refine LoadP.at 0 rfl _ rfl rfl ?_
    | refine LoadP.at 1 rfl _ rfl rfl ?_
    | refine StoreD.st 0 rfl rfl rfl ?_
    | refine StoreD.st 1 rfl rfl rfl ?_
    | refine CmpD.yes rfl ?_
    | refine CmpD.yes (by decide) ?_
    | refine CmpD.no (by decide) ?_
    | refine Chk.mk ⟨rfl, trivial⟩ ?_
    | refine Chk.mk ⟨rfl, rfl, trivial⟩ ?_
    | refine Chk.mk ⟨rfl, rfl, rfl, trivial⟩ ?_
    | refine Chk.mk ⟨rfl, rfl, rfl, rfl, trivial⟩ ?_
    | refine Chk.mk ⟨rfl, rfl, rfl, rfl, rfl, trivial⟩ ?_
    | refine Chk.mk ⟨rfl, rfl, rfl, rfl, rfl, rfl, trivial⟩ ?_)
  refine CmpD.split (fun c1 => ?_) (fun c1 => ?_)
  · repeat (first
      | refine LoadD.own 0 rfl _ rfl rfl ?_
      | refine LoadD.own 1 rfl _ rfl rfl ?_
      | refine LoadP.at 0 rfl _ rfl rfl ?_
      | refine LoadP.at 1 rfl _ rfl rfl ?_
      | refine StoreD.st 0 rfl rfl rfl ?_
      | refine StoreD.st 1 rfl rfl rfl ?_
      | refine CmpD.yes rfl ?_
      | refine CmpD.yes (by decide) ?_
      | refine CmpD.no (by decide) ?_
      | refine Chk.mk ⟨rfl, trivial⟩ ?_
      | refine Chk.mk ⟨rfl, rfl, trivial⟩ ?_
      | refine Chk.mk ⟨rfl, rfl, rfl, trivial⟩ ?_
      | refine Chk.mk ⟨rfl, rfl, rfl, rfl, trivial⟩ ?_
      | refine Chk.mk ⟨rfl, rfl, rfl, rfl, rfl, trivial⟩ ?_
      | refine Chk.mk ⟨rfl, rfl, rfl, rfl, rfl, rfl, trivial⟩ ?_)
    refine Done.mk ⟨[ch], Drop.pick [0] _ rfl, ?_⟩
    rw [if_pos (.inr (.inl c1))]
    exact ⟨rfl, ch, hD.mono hJ, rfl⟩
  refine CmpD.split (fun c2 => ?_) (fun c2 => ?_)
  · repeat (first
      | refine LoadD.own 0 rfl _ rfl rfl ?_
      | refine LoadD.own 1 rfl _ rfl rfl ?_
      | refine LoadP.at 0 rfl _ rfl rfl ?_
      | refine LoadP.at 1 rfl _ rfl rfl ?_
      | refine StoreD.st 0 rfl rfl rfl ?_
      | refine StoreD.st 1 rfl rfl rfl ?_
      | refine CmpD.yes rfl ?_
      | refine CmpD.yes (by decide) ?_
      | refine CmpD.no (by decide) ?_
      | refine Chk.mk ⟨rfl, trivial⟩ ?_
      | refine Chk.mk ⟨rfl, rfl, trivial⟩ ?_
      | refine Chk.mk ⟨rfl, rfl, rfl, trivial⟩ ?_
      | refine Chk.mk ⟨rfl, rfl, rfl, rfl, trivial⟩ ?_
      | refine Chk.mk ⟨rfl, rfl, rfl, rfl, rfl, trivial⟩ ?_
      | refine Chk.mk ⟨rfl, rfl, rfl, rfl, rfl, rfl, trivial⟩ ?_)
    refine Done.mk ⟨[ch], Drop.pick [0] _ rfl, ?_⟩
    rw [if_pos (.inr (.inr (.inl c2)))]
    exact ⟨rfl, ch, hD.mono hJ, rfl⟩
  have hDJ := hD.mono hJ
  have hiJ := hi.mono hJ
  repeat (first
    | refine LoadD.own 0 rfl _ rfl rfl ?_
    | refine LoadD.own 1 rfl _ rfl rfl ?_
    | refine LoadP.at 0 rfl _ rfl rfl ?_
    | refine LoadP.at 1 rfl _ rfl rfl ?_
    | refine StoreD.st 0 rfl rfl rfl ?_
    | refine StoreD.st 1 rfl rfl rfl ?_
    | refine CmpD.yes rfl ?_
    | refine CmpD.yes (by decide) ?_
    | refine CmpD.no (by decide) ?_
    | refine Chk.mk ⟨rfl, trivial⟩ ?_
    | refine Chk.mk ⟨rfl, rfl, trivial⟩ ?_
    | refine Chk.mk ⟨rfl, rfl, rfl, trivial⟩ ?_
    | refine Chk.mk ⟨rfl, rfl, rfl, rfl, trivial⟩ ?_
    | refine Chk.mk ⟨rfl, rfl, rfl, rfl, rfl, trivial⟩ ?_
    | refine Chk.mk ⟨rfl, rfl, rfl, rfl, rfl, rfl, trivial⟩ ?_)
  refine CodeF.loopD [0, 1, 3, 9, 36, 37, 38] (fun vs J' S' => ∃ (i : Nat), i ≤ gs.length ∧ DoOk d ((gs.take i).map Img.pr) ∧ vs = [.pointer (some ⟨bD, 0, none⟩), .slice aL gs.length capL, .int .i64 slot, .slice aB 4096 capB, .slice aL gs.length capL, .int .i64 gs.length, .int .i64 i] ∧ J = J' ∧ S' = [ch])
    (fun vs _ _ => match vs with | [_, _, _, _, _, _, .int _ i] => ((gs.length : Int) - i).toNat | _ => 0) ?_ ?_
  · exact ⟨_, Drop.pick [0] _ rfl, 0, by omega, by intro g hg; simp at hg, rfl, rfl, rfl⟩
  rintro vs gE J' S' hJ' ⟨i, hil, hok, rfl, rfl, rfl⟩
  refine CmpD.split (fun c3 => ?_) (fun c3 => ?_)
  · have hlt : i < gs.length := by omega
    rcases hiJ.1.mem with q0 | ⟨bA, oA, cA, TA, fA, rfl, hIA, hcA⟩
    · omega
    have hcell := take_part hcA (i := i * 2) (m := 2) (by omega)
    rw [imgCells_at hlt] at hcell
    have hmem : gs[i] ∈ gs := List.getElem_mem hlt
    have htk : gs.take (i + 1) = gs.take i ++ [gs[i]] := by rw [List.take_add_one, List.getElem?_eq_getElem hlt]; rfl
    have hlen := hiJ.len hmem
    have bad : ¬ (2 ≤ gs[i].blk ∧ gs[i].blk < d.now.length ∧ gs[i].len = 4096) → ∃ S'', Drop [ch, [(b6, row [.int .i64 s.blocks, .int .i64 s.epoch, .int .i64 s.seq, .int .i64 s.tail] 56)]] S'' ∧ True := fun _ => ⟨[ch], Drop.pick [0] _ rfl, trivial⟩
    have no : ¬ (2 ≤ gs[i].blk ∧ gs[i].blk < d.now.length ∧ gs[i].len = 4096) → ¬ DoOk d (gs.map Img.pr) := by
      intro h h'
      have := h' gs[i].pr (List.mem_map_of_mem hmem)
      exact h ⟨this.1, this.2.1, by rw [← hlen]; exact this.2.2⟩
    clear bad
    generalize gs[i] = g at *
    refine Chk.mk (by omega) ?_
    refine LoadD.imm hIA _ hcell rfl ?_
    conv => whnf
    intro b12
    repeat (first
      | refine LoadD.own 0 rfl _ rfl rfl ?_
      | refine LoadD.own 1 rfl _ rfl rfl ?_
      | refine LoadP.at 0 rfl _ rfl rfl ?_
      | refine LoadP.at 1 rfl _ rfl rfl ?_
      | refine StoreD.st 0 rfl rfl rfl ?_
      | refine StoreD.st 1 rfl rfl rfl ?_
      | refine CmpD.yes rfl ?_
      | refine CmpD.yes (by decide) ?_
      | refine CmpD.no (by decide) ?_
      | refine Chk.mk ⟨rfl, trivial⟩ ?_
      | refine Chk.mk ⟨rfl, rfl, trivial⟩ ?_
      | refine Chk.mk ⟨rfl, rfl, rfl, trivial⟩ ?_
      | refine Chk.mk ⟨rfl, rfl, rfl, rfl, trivial⟩ ?_
      | refine Chk.mk ⟨rfl, rfl, rfl, rfl, rfl, trivial⟩ ?_
      | refine Chk.mk ⟨rfl, rfl, rfl, rfl, rfl, rfl, trivial⟩ ?_)
    refine CodeF.sched [[], [0], [0, 1], [0, 1, 2], [0, 1, 2, 3], [0, 1, 2, 3, 4], [0, 1, 2, 3], [0, 1, 2, 3, 6], [0, 1, 2, 3, 4, 5, 6, 7], [0, 1, 2, 3, 4, 5, 6, 7, 8], [0, 1, 2, 3, 4, 5, 6, 7, 8, 9], [0, 1, 2, 3, 4, 5, 6, 7, 8, 9, 10], [0, 1, 2, 3, 4, 5, 6, 7, 8, 9, 10, 11], [0, 1, 2, 3, 4, 5, 6, 7, 8, 9, 10, 11, 12], [0, 1, 2, 3, 4, 5, 6, 7, 8, 9, 10, 11, 12, 13], [0, 1, 2, 3, 4, 5, 6, 7, 8, 9, 10, 11, 12, 13, 14]] [0, 1, 2, 3, 4, 5, 6, 7, 8, 9, 10, 11, 12, 13, 14, 15] (by kernel_rfl) ?_
    repeat (first
      | refine LoadD.own 0 rfl _ rfl rfl ?_
      | refine LoadD.own 1 rfl _ rfl rfl ?_
      | refine LoadP.at 0 rfl _ rfl rfl ?_
      | refine LoadP.at 1 rfl _ rfl rfl ?_
      | refine StoreD.st 0 rfl rfl rfl ?_
      | refine StoreD.st 1 rfl rfl rfl ?_
      | refine CmpD.yes rfl ?_
      | refine CmpD.yes (by decide) ?_
      | refine CmpD.no (by decide) ?_
      | refine Chk.mk ⟨rfl, trivial⟩ ?_
      | refine Chk.mk ⟨rfl, rfl, trivial⟩ ?_
      | refine Chk.mk ⟨rfl, rfl, rfl, trivial⟩ ?_
      | refine Chk.mk ⟨rfl, rfl, rfl, rfl, trivial⟩ ?_
      | refine Chk.mk ⟨rfl, rfl, rfl, rfl, rfl, trivial⟩ ?_
      | refine Chk.mk ⟨rfl, rfl, rfl, rfl, rfl, rfl, trivial⟩ ?_)
    refine CmpD.split (fun c4 => ?_) (fun c4 => ?_)
    · repeat (first
        | refine LoadD.own 0 rfl _ rfl rfl ?_
        | refine LoadD.own 1 rfl _ rfl rfl ?_
        | refine LoadP.at 0 rfl _ rfl rfl ?_
        | refine LoadP.at 1 rfl _ rfl rfl ?_
        | refine StoreD.st 0 rfl rfl rfl ?_
        | refine StoreD.st 1 rfl rfl rfl ?_
        | refine CmpD.yes rfl ?_
        | refine CmpD.yes (by decide) ?_
        | refine CmpD.no (by decide) ?_
        | refine Chk.mk ⟨rfl, trivial⟩ ?_
        | refine Chk.mk ⟨rfl, rfl, trivial⟩ ?_
        | refine Chk.mk ⟨rfl, rfl, rfl, trivial⟩ ?_
        | refine Chk.mk ⟨rfl, rfl, rfl, rfl, trivial⟩ ?_
        | refine Chk.mk ⟨rfl, rfl, rfl, rfl, rfl, trivial⟩ ?_
        | refine Chk.mk ⟨rfl, rfl, rfl, rfl, rfl, rfl, trivial⟩ ?_)
      refine Done.mk ⟨[ch], Drop.pick [0] _ rfl, ?_⟩
      rw [if_pos (.inr (.inr (.inr (no (fun h => by omega)))))]
      exact ⟨rfl, ch, hDJ, rfl⟩
    repeat (first
      | refine LoadD.own 0 rfl _ rfl rfl ?_
      | refine LoadD.own 1 rfl _ rfl rfl ?_
      | refine LoadP.at 0 rfl _ rfl rfl ?_
      | refine LoadP.at 1 rfl _ rfl rfl ?_
      | refine StoreD.st 0 rfl rfl rfl ?_
      | refine StoreD.st 1 rfl rfl rfl ?_
      | refine CmpD.yes rfl ?_
      | refine CmpD.yes (by decide) ?_
      | refine CmpD.no (by decide) ?_
      | refine Chk.mk ⟨rfl, trivial⟩ ?_
      | refine Chk.mk ⟨rfl, rfl, trivial⟩ ?_
      | refine Chk.mk ⟨rfl, rfl, rfl, trivial⟩ ?_
      | refine Chk.mk ⟨rfl, rfl, rfl, rfl, trivial⟩ ?_
      | refine Chk.mk ⟨rfl, rfl, rfl, rfl, rfl, trivial⟩ ?_
      | refine Chk.mk ⟨rfl, rfl, rfl, rfl, rfl, rfl, trivial⟩ ?_)
    refine Tri.frame1 0 rfl (dk_Size hDJ) ?_
    rintro v J2 S' hJ2 ⟨rfl, rfl, rfl⟩
    refine ⟨_, rfl, ?_⟩
    repeat (first
      | refine LoadD.own 0 rfl _ rfl rfl ?_
      | refine LoadD.own 1 rfl _ rfl rfl ?_
      | refine LoadP.at 0 rfl _ rfl rfl ?_
      | refine LoadP.at 1 rfl _ rfl rfl ?_
      | refine StoreD.st 0 rfl rfl rfl ?_
      | refine StoreD.st 1 rfl rfl rfl ?_
      | refine CmpD.yes rfl ?_
      | refine CmpD.yes (by decide) ?_
      | refine CmpD.no (by decide) ?_
      | refine Chk.mk ⟨rfl, trivial⟩ ?_
      | refine Chk.mk ⟨rfl, rfl, trivial⟩ ?_
      | refine Chk.mk ⟨rfl, rfl, rfl, trivial⟩ ?_
      | refine Chk.mk ⟨rfl, rfl, rfl, rfl, trivial⟩ ?_
      | refine Chk.mk ⟨rfl, rfl, rfl, rfl, rfl, trivial⟩ ?_
      | refine Chk.mk ⟨rfl, rfl, rfl, rfl, rfl, rfl, trivial⟩ ?_)
    refine CmpD.split (fun c5 => ?_) (fun c5 => ?_)
    · repeat (first
        | refine LoadD.own 0 rfl _ rfl rfl ?_
        | refine LoadD.own 1 rfl _ rfl rfl ?_
        | refine LoadP.at 0 rfl _ rfl rfl ?_
        | refine LoadP.at 1 rfl _ rfl rfl ?_
        | refine StoreD.st 0 rfl rfl rfl ?_
        | refine StoreD.st 1 rfl rfl rfl ?_
        | refine CmpD.yes rfl ?_
        | refine CmpD.yes (by decide) ?_
        | refine CmpD.no (by decide) ?_
        | refine Chk.mk ⟨rfl, trivial⟩ ?_
        | refine Chk.mk ⟨rfl, rfl, trivial⟩ ?_
        | refine Chk.mk ⟨rfl, rfl, rfl, trivial⟩ ?_
        | refine Chk.mk ⟨rfl, rfl, rfl, rfl, trivial⟩ ?_
        | refine Chk.mk ⟨rfl, rfl, rfl, rfl, rfl, trivial⟩ ?_
        | refine Chk.mk ⟨rfl, rfl, rfl, rfl, rfl, rfl, trivial⟩ ?_)
      refine Done.mk ⟨[ch], Drop.pick [0] _ rfl, ?_⟩
      rw [if_pos (.inr (.inr (.inr (no (fun h => by omega)))))]
      exact ⟨rfl, ch, hDJ, rfl⟩
    repeat (first
      | refine LoadD.own 0 rfl _ rfl rfl ?_
      | refine LoadD.own 1 rfl _ rfl rfl ?_
      | refine LoadP.at 0 rfl _ rfl rfl ?_
      | refine LoadP.at 1 rfl _ rfl rfl ?_
      | refine StoreD.st 0 rfl rfl rfl ?_
      | refine StoreD.st 1 rfl rfl rfl ?_
      | refine CmpD.yes rfl ?_
      | refine CmpD.yes (by decide) ?_
      | refine CmpD.no (by decide) ?_
      | refine Chk.mk ⟨rfl, trivial⟩ ?_
      | refine Chk.mk ⟨rfl, rfl, trivial⟩ ?_
      | refine Chk.mk ⟨rfl, rfl, rfl, trivial⟩ ?_
      | refine Chk.mk ⟨rfl, rfl, rfl, rfl, trivial⟩ ?_
      | refine Chk.mk ⟨rfl, rfl, rfl, rfl, rfl, trivial⟩ ?_
      | refine Chk.mk ⟨rfl, rfl, rfl, rfl, rfl, rfl, trivial⟩ ?_)
    refine CmpD.split (fun c6 => ?_) (fun c6 => ?_)
    rotate_left
    · repeat (first
        | refine LoadD.own 0 rfl _ rfl rfl ?_
        | refine LoadD.own 1 rfl _ rfl rfl ?_
        | refine LoadP.at 0 rfl _ rfl rfl ?_
        | refine LoadP.at 1 rfl _ rfl rfl ?_
        | refine StoreD.st 0 rfl rfl rfl ?_
        | refine StoreD.st 1 rfl rfl rfl ?_
        | refine CmpD.yes rfl ?_
        | refine CmpD.yes (by decide) ?_
        | refine CmpD.no (by decide) ?_
        | refine Chk.mk ⟨rfl, trivial⟩ ?_
        | refine Chk.mk ⟨rfl, rfl, trivial⟩ ?_
        | refine Chk.mk ⟨rfl, rfl, rfl, trivial⟩ ?_
        | refine Chk.mk ⟨rfl, rfl, rfl, rfl, trivial⟩ ?_
        | refine Chk.mk ⟨rfl, rfl, rfl, rfl, rfl, trivial⟩ ?_
        | refine Chk.mk ⟨rfl, rfl, rfl, rfl, rfl, rfl, trivial⟩ ?_)
      refine Done.mk ⟨[ch], Drop.pick [0] _ rfl, ?_⟩
      rw [if_pos (.inr (.inr (.inr (no (fun h => by omega)))))]
      exact ⟨rfl, ch, hDJ, rfl⟩
    repeat (first
      | refine LoadD.own 0 rfl _ rfl rfl ?_
      | refine LoadD.own 1 rfl _ rfl rfl ?_
      | refine LoadP.at 0 rfl _ rfl rfl ?_
      | refine LoadP.at 1 rfl _ rfl rfl ?_
      | refine StoreD.st 0 rfl rfl rfl ?_
      | refine StoreD.st 1 rfl rfl rfl ?_
      | refine CmpD.yes rfl ?_
      | refine CmpD.yes (by decide) ?_
      | refine CmpD.no (by decide) ?_
      | refine Chk.mk ⟨rfl, trivial⟩ ?_
      | refine Chk.mk ⟨rfl, rfl, trivial⟩ ?_
      | refine Chk.mk ⟨rfl, rfl, rfl, trivial⟩ ?_
      | refine Chk.mk ⟨rfl, rfl, rfl, rfl, trivial⟩ ?_
      | refine Chk.mk ⟨rfl, rfl, rfl, rfl, rfl, trivial⟩ ?_
      | refine Chk.mk ⟨rfl, rfl, rfl, rfl, rfl, rfl, trivial⟩ ?_)
    refine ToD.i64 (by omega) (by omega) ?_
    refine ⟨[ch], Drop.pick [0] _ rfl, ⟨i + 1, by omega, ?_, rfl, rfl, rfl⟩, ?_⟩
    · rw [htk, List.map_append]
      intro q hq
      rcases List.mem_append.1 hq with hq | hq
      · exact hok q hq
      · simp only [List.map_cons, List.map_nil, List.mem_singleton] at hq
        subst hq
        exact ⟨by show 2 ≤ g.blk; omega, by show g.blk < _; omega, by show g.data.length = _; omega⟩
    · show ((gs.length : Int) - ((i : Int) + 1)).toNat < ((gs.length : Int) - (i : Int)).toNat
      omega
  · obtain rfl : i = gs.length := by omega
    rw [List.take_length] at hok
    rw [if_neg (by rintro (h | h | h | h); exact h hR; exact c1 h; exact c2 h; exact h hok)]
    obtain ⟨W, hW⟩ : ∃ W, W = wrImgs (gs.map Img.pr) d := ⟨_, rfl⟩
    have hWf : W.1.Few (k + gs.length) := by rw [hW]; have := wrImgs_few (gs.map Img.pr) d k hf; rwa [List.length_map] at this
    rw [← hW]
    refine CodeF.loopD [0, 3, 9, 59, 60, 61] (fun vs J' S' => ∃ (i : Nat) (d' : DSt) (ch' : List Blk), i ≤ gs.length ∧ W = wrImgs ((gs.drop i).map Img.pr) d' ∧ d'.Few (k + i) ∧ Dk J' bD d' ch' ∧ J.le J' ∧ vs = [.pointer (some ⟨bD, 0, none⟩), .int .i64 slot, .slice aB 4096 capB, .slice aL gs.length capL, .int .i64 gs.length, .int .i64 i] ∧ S' = [ch'])
      (fun vs _ _ => match vs with | [_, _, _, _, _, .int _ i] => ((gs.length : Int) - i).toNat | _ => 0) ?_ ?_
    · exact ⟨[ch], Drop.refl _, 0, d, ch, by omega, by rw [hW]; rfl, hf, hDJ, J.le_refl, rfl, rfl⟩
    rintro vs gE2 J2 S2 hJ2 ⟨i, d', ch', hil2, hWi, hfi, hDi, hle, rfl, rfl⟩
    refine CmpD.split (fun c4 => ?_) (fun c4 => ?_)
    · have hlt : i < gs.length := by omega
      rcases hiJ.1.mem with q0 | ⟨bA, oA, cA, TA, fA, rfl, hIA, hcA⟩
      · omega
      have hcell := take_part hcA (i := i * 2) (m := 2) (by omega)
      rw [imgCells_at hlt] at hcell
      have hmem : gs[i] ∈ gs := List.getElem_mem hlt
      have hlen := hiJ.len hmem
      have hok2 := hok gs[i].pr (List.mem_map_of_mem hmem)
      have hdata := (hiJ.2 _ hmem).2
      have hdr : gs.drop i = gs[i] :: gs.drop (i + 1) := List.drop_eq_getElem_cons hlt
      generalize gs[i] = g at *
      rw [hdr, List.map_cons, wrImgs] at hWi
      refine Chk.mk (by omega) ?_
      refine LoadD.imm (hle _ _ hIA) _ hcell rfl ?_
      conv => whnf
      intro b14
      repeat (first
        | refine LoadD.own 0 rfl _ rfl rfl ?_
        | refine LoadD.own 1 rfl _ rfl rfl ?_
        | refine LoadP.at 0 rfl _ rfl rfl ?_
        | refine LoadP.at 1 rfl _ rfl rfl ?_
        | refine StoreD.st 0 rfl rfl rfl ?_
        | refine StoreD.st 1 rfl rfl rfl ?_
        | refine CmpD.yes rfl ?_
        | refine CmpD.yes (by decide) ?_
        | refine CmpD.no (by decide) ?_
        | refine Chk.mk ⟨rfl, trivial⟩ ?_
        | refine Chk.mk ⟨rfl, rfl, trivial⟩ ?_
        | refine Chk.mk ⟨rfl, rfl, rfl, trivial⟩ ?_
        | refine Chk.mk ⟨rfl, rfl, rfl, rfl, trivial⟩ ?_
        | refine Chk.mk ⟨rfl, rfl, rfl, rfl, rfl, trivial⟩ ?_
        | refine Chk.mk ⟨rfl, rfl, rfl, rfl, rfl, rfl, trivial⟩ ?_)
      refine Tri.frame1 0 rfl (dk_Write hDi (hfi.mono (by omega)) g.blk g.a g.len g.cap g.data (hdata.mono hle)) ?_
      rintro v J3 S3 hJ3 ⟨rfl, ch3, hD3, rfl⟩
      refine ⟨_, rfl, ?_⟩
      refine CmpD.split (fun c5 => ?_) (fun c5 => ?_)
      · rw [if_neg (by simpa using c5)] at hWi
        repeat (first
          | refine LoadD.own 0 rfl _ rfl rfl ?_
          | refine LoadD.own 1 rfl _ rfl rfl ?_
          | refine LoadP.at 0 rfl _ rfl rfl ?_
          | refine LoadP.at 1 rfl _ rfl rfl ?_
          | refine StoreD.st 0 rfl rfl rfl ?_
          | refine StoreD.st 1 rfl rfl rfl ?_
          | refine CmpD.yes rfl ?_
          | refine CmpD.yes (by decide) ?_
          | refine CmpD.no (by decide) ?_
          | refine Chk.mk ⟨rfl, trivial⟩ ?_
          | refine Chk.mk ⟨rfl, rfl, trivial⟩ ?_
          | refine Chk.mk ⟨rfl, rfl, rfl, trivial⟩ ?_
          | refine Chk.mk ⟨rfl, rfl, rfl, rfl, trivial⟩ ?_
          | refine Chk.mk ⟨rfl, rfl, rfl, rfl, rfl, trivial⟩ ?_
          | refine Chk.mk ⟨rfl, rfl, rfl, rfl, rfl, rfl, trivial⟩ ?_)
        refine ToD.i64 (by omega) (by omega) ?_
        refine ⟨[ch3], Drop.pick [0] _ rfl, ⟨i + 1, _, ch3, by omega, hWi, hfi.write _ _, hD3, Imm.le_trans hle hJ3, rfl, rfl⟩, ?_⟩
        show ((gs.length : Int) - ((i : Int) + 1)).toNat < ((gs.length : Int) - (i : Int)).toNat
        omega
      · rw [if_pos c5] at hWi
        repeat (first
          | refine LoadD.own 0 rfl _ rfl rfl ?_
          | refine LoadD.own 1 rfl _ rfl rfl ?_
          | refine LoadP.at 0 rfl _ rfl rfl ?_
          | refine LoadP.at 1 rfl _ rfl rfl ?_
          | refine StoreD.st 0 rfl rfl rfl ?_
          | refine StoreD.st 1 rfl rfl rfl ?_
          | refine CmpD.yes rfl ?_
          | refine CmpD.yes (by decide) ?_
          | refine CmpD.no (by decide) ?_
          | refine Chk.mk ⟨rfl, trivial⟩ ?_
          | refine Chk.mk ⟨rfl, rfl, trivial⟩ ?_
          | refine Chk.mk ⟨rfl, rfl, rfl, trivial⟩ ?_
          | refine Chk.mk ⟨rfl, rfl, rfl, rfl, trivial⟩ ?_
          | refine Chk.mk ⟨rfl, rfl, rfl, rfl, rfl, trivial⟩ ?_
          | refine Chk.mk ⟨rfl, rfl, rfl, rfl, rfl, rfl, trivial⟩ ?_)
        refine Done.mk ⟨[ch3], Drop.pick [0] _ rfl, ?_⟩
        rw [hWi, if_pos c5]
        exact ⟨rfl, ch3, hD3, rfl⟩
    · obtain rfl : i = gs.length := by omega
      rw [List.drop_length, List.map_nil, wrImgs] at hWi
      subst hWi
      dsimp only at hWf ⊢
      rw [if_neg (by simp)]
      refine Tri.frame1 0 rfl (dk_Flush hDi) ?_
      rintro v J3 S3 hJ3 ⟨rfl, ch3, hD3, rfl⟩
      refine ⟨_, rfl, ?_⟩
      refine CmpD.split (fun c5 => ?_) (fun c5 => ?_)
      rotate_left
      · repeat (first
          | refine LoadD.own 0 rfl _ rfl rfl ?_
          | refine LoadD.own 1 rfl _ rfl rfl ?_
          | refine LoadP.at 0 rfl _ rfl rfl ?_
          | refine LoadP.at 1 rfl _ rfl rfl ?_
          | refine StoreD.st 0 rfl rfl rfl ?_
          | refine StoreD.st 1 rfl rfl rfl ?_
          | refine CmpD.yes rfl ?_
          | refine CmpD.yes (by decide) ?_
          | refine CmpD.no (by decide) ?_
          | refine Chk.mk ⟨rfl, trivial⟩ ?_
          | refine Chk.mk ⟨rfl, rfl, trivial⟩ ?_
          | refine Chk.mk ⟨rfl, rfl, rfl, trivial⟩ ?_
          | refine Chk.mk ⟨rfl, rfl, rfl, rfl, trivial⟩ ?_
          | refine Chk.mk ⟨rfl, rfl, rfl, rfl, rfl, trivial⟩ ?_
          | refine Chk.mk ⟨rfl, rfl, rfl, rfl, rfl, rfl, trivial⟩ ?_)
        refine Done.mk ⟨[ch3], Drop.refl _, ?_⟩
        rw [if_pos c5]
        exact ⟨rfl, ch3, hD3, rfl⟩
      rw [if_neg (by simpa using c5)]
      unfold lastWr
      refine Tri.frame1 0 rfl (dk_Write hD3 (hWf.flush.mono (by omega)) slot aB 4096 capB (supL s) (hB.mono (Imm.le_trans hle hJ3))) ?_
      rintro v J4 S4 hJ4 ⟨rfl, ch4, hD4, rfl⟩
      refine ⟨_, rfl, ?_⟩
      refine CmpD.split (fun c6 => ?_) (fun c6 => ?_)
      rotate_left
      · repeat (first
          | refine LoadD.own 0 rfl _ rfl rfl ?_
          | refine LoadD.own 1 rfl _ rfl rfl ?_
          | refine LoadP.at 0 rfl _ rfl rfl ?_
          | refine LoadP.at 1 rfl _ rfl rfl ?_
          | refine StoreD.st 0 rfl rfl rfl ?_
          | refine StoreD.st 1 rfl rfl rfl ?_
          | refine CmpD.yes rfl ?_
          | refine CmpD.yes (by decide) ?_
          | refine CmpD.no (by decide) ?_
          | refine Chk.mk ⟨rfl, trivial⟩ ?_
          | refine Chk.mk ⟨rfl, rfl, trivial⟩ ?_
          | refine Chk.mk ⟨rfl, rfl, rfl, trivial⟩ ?_
          | refine Chk.mk ⟨rfl, rfl, rfl, rfl, trivial⟩ ?_
          | refine Chk.mk ⟨rfl, rfl, rfl, rfl, rfl, trivial⟩ ?_
          | refine Chk.mk ⟨rfl, rfl, rfl, rfl, rfl, rfl, trivial⟩ ?_)
        refine Done.mk ⟨[ch4], Drop.refl _, ?_⟩
        rw [if_pos c6]
        exact ⟨rfl, ch4, hD4, rfl⟩
      rw [if_neg (by simpa using c6)]
      refine Tri.frame1 0 rfl (dk_Flush hD4) ?_
      rintro v J5 S5 hJ5 ⟨rfl, ch5, hD5, rfl⟩
      refine ⟨_, rfl, ?_⟩
      exact Done.mk ⟨[ch5], Drop.refl _, rfl, ch5, hD5, rfl⟩
end Go.Proofs.Ytbpdbgcndfcilaa
namespace Go.Proofs.Ytbpdbgcndfcilaa
open Go.RowKit Go.Sl
set_option maxRecDepth 20000

theorem openJ_wf64 (tail : Int) (ht : 0 ≤ tail ∧ tail < 16) : (openJ 64 1 1 tail).Wf := openJ_wf 64 (by omega) ⟨rfl, by omega, by omega, by omega, by omega, ht.1, by rw [layL_64']; exact ht.2⟩
theorem fresh_calm (l : List Dat) : (DSt.of l).Calm := ⟨rfl, rfl, rfl⟩
theorem JSt.Wf.append {j : JSt} (hj : j.Wf) {d : DSt} {l : List PImg} {held : Bool} (h8 : j.groups.length ≤ 999999) : (j.appendB d l held).1.Wf := by
  have hr := hj.ring
  unfold JSt.appendB JSt.append
  split
  · exact hj
  split
  · exact hj
  rename_i hR
  have hR : RightP j.epoch j.next l := Decidable.of_not_not hR
  split
  · exact hj
  generalize hp : putS j.s j.t j.u j.h (l.length + 1) (if held then l.length + 1 else 0) = q
  obtain ⟨⟨s, t, u, h, e⟩, at_⟩ := q
  dsimp only
  split
  · exact hj
  rename_i he
  have he : e = 0 := Decidable.of_not_not he
  obtain ⟨e1, e2, h3, _, _⟩ := putS_mid hr hp he
  have hn := hj.next
  have hs := hj.synced
  have hl := hR.2.2.2.2.2.1
  have hs2 := hR.2.2.2.1
  generalize wrAll (fun i => j.lay.l + (at_ + i) % s) (putP j.epoch.toNat j.next.toNat l) 0 d = q
  obtain ⟨d', e'⟩ := q
  dsimp only
  split
  · exact ⟨hj.log, h3, hj.epoch, hj.next, hj.synced, hj.few, hj.groups⟩
  · refine ⟨hj.log, h3, hj.epoch, ?_, ?_, ?_, ?_⟩
    · show 1 ≤ j.next + 1 ∧ j.next + 1 ≤ _; omega
    · show 0 ≤ j.synced ∧ j.synced < j.next + 1; omega
    · show (j.groups ++ [_]).length ≤ _; simp; omega
    · intro g hg
      rcases List.mem_append.1 hg with hg | hg
      · exact hj.groups g hg
      · simp only [List.mem_singleton] at hg
        subst hg
        unfold In64; dsimp only; omega
theorem JSt.Wf.flush {j : JSt} (hj : j.Wf) (d : DSt) : (j.flush d).1.Wf := by
  have hn := hj.next
  unfold JSt.flush
  split
  · exact hj
  split
  · exact ⟨hj.log, hj.ring, hj.epoch, hj.next, hj.synced, hj.few, hj.groups⟩
  · refine ⟨hj.log, hj.ring, hj.epoch, hj.next, ?_, hj.few, hj.groups⟩
    show 0 ≤ j.next - 1 ∧ j.next - 1 < j.next; omega
theorem relAll_mid (seq : Int) : ∀ (gs : List (Int × Int)) (s t u h : Int) (gs' : List (Int × Int)) (s' t' u' h' e : Int), Ok s t u h → relAll seq gs s t u h = (gs', (s', t', u', h', e)) → Ok s' t' u' h' ∧ ∃ k, gs' = gs.drop k
  | [], s, t, u, h, _, _, _, _, _, _, hr, he => by
    rw [relAll] at he
    simp only [Prod.mk.injEq] at he
    obtain ⟨rfl, rfl, rfl, rfl, rfl, rfl⟩ := he
    exact ⟨hr, 0, rfl⟩
  | g :: gs, s, t, u, h, gs', s', t', u', h', e, hr, he => by
    rw [relAll] at he
    split at he
    · generalize hd : dropS s t u h g.2 = q at he
      obtain ⟨s1, t1, u1, h1, e1⟩ := q
      dsimp only at he
      split at he
      · rename_i h0
        obtain ⟨h2, k, hk⟩ := relAll_mid seq gs s1 t1 u1 h1 gs' s' t' u' h' e (dropS_mid hr hd h0) he
        exact ⟨h2, k + 1, hk⟩
      · simp only [Prod.mk.injEq] at he
        obtain ⟨rfl, rfl, rfl, rfl, rfl, rfl⟩ := he
        exact ⟨hr, 0, rfl⟩
    · simp only [Prod.mk.injEq] at he
      obtain ⟨rfl, rfl, rfl, rfl, rfl, rfl⟩ := he
      exact ⟨hr, 0, rfl⟩
theorem JSt.Wf.release {j : JSt} (hj : j.Wf) (seq : Int) : (j.release seq).1.Wf := by
  unfold JSt.release
  split
  · exact hj
  split
  · exact hj
  generalize hq : relAll seq j.groups j.s j.t j.u j.h = q
  obtain ⟨gs, s, t, u, h, e⟩ := q
  obtain ⟨h1, k, rfl⟩ := relAll_mid seq _ _ _ _ _ _ _ _ _ _ _ hj.ring hq
  exact ⟨hj.log, h1, hj.epoch, hj.next, hj.synced, by show (j.groups.drop k).length ≤ _; rw [List.length_drop]; have := hj.few; omega, fun g hg => hj.groups g (List.mem_of_mem_drop hg)⟩
/-- a group that fits is appended: what the journal is then -/
theorem JSt.append_next {j : JSt} (hj : j.Wf) (h8 : j.groups.length ≤ 999999) {d : DSt} {l : List PImg} {held : Bool} (hb : j.broken = false) (hR : RightP j.epoch j.next l) (hs : (l.length : Int) + 1 ≤ j.s) (hd : d.Calm) (hlen : j.s + 2 ≤ d.now.length)
    {t u h at_ : Int} (hp : putS j.s j.t j.u j.h (l.length + 1) (if held then l.length + 1 else 0) = ((j.s, t, u, h, 0), at_)) :
    ∃ j', j.appendB d l held = (j', wrD (fun i => 2 + (at_ + i) % j.s) (putP j.epoch.toNat j.next.toNat l) 0 d, j.next, 0) ∧ j'.lay = j.lay ∧ j'.s = j.s ∧ j'.t = t ∧ j'.u = u ∧ j'.h = h ∧ j'.epoch = j.epoch ∧ j'.next = j.next + 1 ∧ j'.synced = j.synced ∧ j'.groups = j.groups ++ [(j.next, (l.length + 1 : Int))] ∧ j'.broken = false ∧ j'.Wf := by
  have e := JSt.append_calm hb hR hs hj.log hd hlen hp
  have w := hj.append (d := d) (l := l) (held := held) h8
  rw [e] at w
  exact ⟨_, e, rfl, rfl, rfl, rfl, rfl, rfl, rfl, rfl, rfl, hb, w⟩
theorem JSt.flush_next {j : JSt} (hj : j.Wf) {d : DSt} (hb : j.broken = false) (hd : d.Calm) :
    ∃ j', j.flush d = (j', { d with safe := d.now, writes := [] }, 0) ∧ j'.lay = j.lay ∧ j'.s = j.s ∧ j'.t = j.t ∧ j'.u = j.u ∧ j'.h = j.h ∧ j'.epoch = j.epoch ∧ j'.next = j.next ∧ j'.synced = j.next - 1 ∧ j'.groups = j.groups ∧ j'.broken = false ∧ j'.Wf := by
  have e : j.flush d = ({ j with synced := j.next - 1 }, { d with safe := d.now, writes := [] }, 0) := by
    unfold JSt.flush DSt.flush
    rw [if_neg (by rw [hb]; simp), DSt.stop_calm hd]
    simp
  have w := hj.flush d
  rw [e] at w
  exact ⟨_, e, rfl, rfl, rfl, rfl, rfl, rfl, rfl, rfl, rfl, hb, w⟩
theorem JSt.release_next {j : JSt} (hj : j.Wf) {seq : Int} (hb : j.broken = false) (hs : ¬ j.synced < seq) {gs : List (Int × Int)} {s t u h e : Int} (hr : relAll seq j.groups j.s j.t j.u j.h = (gs, (s, t, u, h, e))) :
    ∃ j', j.release seq = (j', e) ∧ j'.lay = j.lay ∧ j'.s = s ∧ j'.t = t ∧ j'.u = u ∧ j'.h = h ∧ j'.epoch = j.epoch ∧ j'.next = j.next ∧ j'.synced = j.synced ∧ j'.groups = gs ∧ j'.broken = false ∧ j'.Wf := by
  have e' : j.release seq = ({ j with s := s, t := t, u := u, h := h, groups := gs }, e) := by
    unfold JSt.release
    rw [if_neg (by rw [hb]; simp), if_neg hs, hr]
  have w := hj.release seq
  rw [e'] at w
  exact ⟨_, e', rfl, rfl, rfl, rfl, rfl, rfl, rfl, rfl, rfl, hb, w⟩
theorem putS_a : putS 16 14 0 0 (((imgsP (rowL 1) 1 0).length : Int) + 1) (if false = true then ((imgsP (rowL 1) 1 0).length : Int) + 1 else 0) = ((16, 14, 2, 0, 0), 14) := by rw [imgsP_length, rowL_length]; decide
theorem putS_b : putS 16 14 2 0 (((imgsP (rowL 2) 2 0).length : Int) + 1) (if false = true then ((imgsP (rowL 2) 2 0).length : Int) + 1 else 0) = ((16, 14, 5, 0, 0), 0) := by rw [imgsP_length, rowL_length]; decide
/-- what the example's calls come to -/
theorem awake_pure : ∃ (jA jB jF jR : JSt) (dA dB dF : DSt), (openJ 64 1 1 14).appendB (DSt.of (List.replicate 64 noughts)) (imgsP (rowL 1) 1 0) false = (jA, dA, 1, 0) ∧ jA.appendB dA (imgsP (rowL 2) 2 0) false = (jB, dB, 2, 0) ∧
    dB.writes.map Prod.fst = [16, 17, 2, 3, 4] ∧ jB.t = 14 ∧ firstOf jB.next jB.groups = 1 ∧ jB.flush dB = (jF, dF, 0) ∧ jF.release 1 = (jR, 0) ∧ jR.t = 0 ∧ firstOf jR.next jR.groups = 2 ∧ jR.groups = [(2, 3)] ∧
    (openJ 64 1 1 14).Wf ∧ jA.Wf ∧ jB.Wf ∧ jF.Wf ∧ jR.Wf ∧ dA.Few 2 ∧ dB.Few 5 ∧ jA.groups.length ≤ 5 := by
  have w0 : (openJ 64 1 1 14).Wf := openJ_wf64 14 (by omega)
  have c0 : (DSt.of (List.replicate 64 noughts)).Calm := fresh_calm _
  have f0 : (DSt.of (List.replicate 64 noughts)).Few 0 := DSt.of_few _
  have n0 : (DSt.of (List.replicate 64 noughts)).now.length = 64 := List.length_replicate ..
  have p0 : (DSt.of (List.replicate 64 noughts)).writes = [] := rfl
  generalize DSt.of (List.replicate 64 noughts) = d0 at *
  have hl1 : ((imgsP (rowL 1) 1 0).length : Int) + 1 = 2 := by rw [imgsP_length, rowL_length]; rfl
  have hl2 : ((imgsP (rowL 2) 2 0).length : Int) + 1 = 3 := by rw [imgsP_length, rowL_length]; rfl
  have ej : (openJ 64 1 1 14).s = 16 ∧ (openJ 64 1 1 14).t = 14 ∧ (openJ 64 1 1 14).u = 0 ∧ (openJ 64 1 1 14).h = 0 ∧ (openJ 64 1 1 14).epoch = 1 ∧ (openJ 64 1 1 14).next = 1 ∧ (openJ 64 1 1 14).groups = [] := ⟨layL_64', rfl, rfl, rfl, rfl, rfl, rfl⟩
  obtain ⟨i1, i2, i3, i4, i5, i6, i7⟩ := ej
  have hb0 : (openJ 64 1 1 14).broken = false := rfl
  generalize openJ 64 1 1 14 = j0 at *
  obtain ⟨jA, a1, e1, e2, e3, e4, e5, e6, e7, e8, e9, e10, w1⟩ := JSt.append_next w0 (d := d0) (l := imgsP (rowL 1) 1 0) (held := false) (t := 14) (u := 2) (h := 0) (at_ := 14) (by rw [i7]; decide) hb0 (by rw [i5, i6]; exact right_row ⟨by decide, by decide⟩ ⟨by decide, by decide⟩ 1 (by omega) 1) (by rw [hl1, i1]; decide) c0 (by rw [n0, i1]; decide) (by rw [i1, i2, i3, i4]; exact putS_a)
  rw [i1, i5, i6] at a1
  rw [i1] at e2
  rw [i5] at e6
  rw [i6] at e7
  rw [i6, i7, hl1] at e9
  have hn1 : (putP (1 : Int).toNat (1 : Int).toNat (imgsP (rowL 1) 1 0)).length = 2 := by rw [putP_length, imgsP_length, rowL_length]
  generalize putP (1 : Int).toNat (1 : Int).toNat (imgsP (rowL 1) 1 0) = P1 at *
  have cA : (wrD (fun i => 2 + (14 + (i : Int)) % 16) P1 0 d0).Calm := wrD_calm _ _ _ _ c0
  have nA : (wrD (fun i => 2 + (14 + (i : Int)) % 16) P1 0 d0).now.length = 64 := by rw [wrD_len, n0]
  have fA : (wrD (fun i => 2 + (14 + (i : Int)) % 16) P1 0 d0).Few 2 := (wrD_few _ P1 0 d0 0 f0).mono (by omega)
  have pA : (wrD (fun i => 2 + (14 + (i : Int)) % 16) P1 0 d0).writes.map Prod.fst = [16, 17] := by rw [wrD_writes, p0, hn1]; decide
  generalize wrD (fun i => 2 + (14 + (i : Int)) % 16) P1 0 d0 = dA at *
  obtain ⟨jB, a2, x1, x2, x3, x4, x5, x6, x7, x8, x9, x10, w2⟩ := JSt.append_next w1 (d := dA) (l := imgsP (rowL 2) 2 0) (held := false) (t := 14) (u := 5) (h := 0) (at_ := 0) (by rw [e9]; decide) e10 (by rw [e6, e7]; exact right_row ⟨by decide, by decide⟩ ⟨by decide, by decide⟩ 2 (by omega) 2) (by rw [hl2, e2]; decide) cA (by rw [nA, e2]; decide) (by rw [e2, e3, e4, e5]; exact putS_b)
  rw [e2, e6, e7] at a2
  rw [e2] at x2
  rw [e7] at x7
  rw [e7, e9, hl2] at x9
  have hn2 : (putP (1 : Int).toNat (1 + 1 : Int).toNat (imgsP (rowL 2) 2 0)).length = 3 := by rw [putP_length, imgsP_length, rowL_length]
  generalize putP (1 : Int).toNat (1 + 1 : Int).toNat (imgsP (rowL 2) 2 0) = P2 at *
  have cB : (wrD (fun i => 2 + (0 + (i : Int)) % 16) P2 0 dA).Calm := wrD_calm _ _ _ _ cA
  have fB : (wrD (fun i => 2 + (0 + (i : Int)) % 16) P2 0 dA).Few 5 := (wrD_few _ P2 0 dA 2 fA).mono (by omega)
  have pB : (wrD (fun i => 2 + (0 + (i : Int)) % 16) P2 0 dA).writes.map Prod.fst = [16, 17, 2, 3, 4] := by rw [wrD_writes, pA, hn2]; decide
  generalize wrD (fun i => 2 + (0 + (i : Int)) % 16) P2 0 dA = dB at *
  obtain ⟨jF, a3, y1, y2, y3, y4, y5, y6, y7, y8, y9, y10, w3⟩ := JSt.flush_next w2 x10 cB
  rw [x7] at y8
  obtain ⟨jR, a4, z1, z2, z3, z4, z5, z6, z7, z8, z9, z10, w4⟩ := JSt.release_next w3 (seq := 1) (gs := [(2, 3)]) (s := 16) (t := 0) (u := 3) (h := 0) (e := 0) y10 (by rw [y8]; decide) (by rw [y9, x9, y2, x2, y3, x3, y4, x4, y5, x5]; decide)
  exact ⟨jA, jB, jF, jR, dA, dB, _, a1, a2, pB, x3, by rw [x9]; rfl, a3, a4, z3, by rw [z9]; rfl, z9, w0, w1, w2, w3, w4, fA, fB, by rw [e9]; decide⟩
end Go.Proofs.Ytbpdbgcndfcilaa
namespace Go.Proofs.Ytbpdbgcndfcilaa
open Go.RowKit Go.Sl
set_option maxRecDepth 20000

theorem same_ints_at {I : Imm} {S : St} {a1 a2 : Option Addr} {n1 n2 cap1 cap2 : Nat} {z1 z2 : List Int} (h1 : SlC I S a1 n1 (ints z1)) (h2 : SlC I S a2 n2 (ints z2)) (hn : n1 ≤ 9223372036854775806) :
    Tri Try.prog 87 #[.slice a1 n1 cap1, .slice a2 n2 cap2] I S fun v J S' => ∃ b, v = .bool b ∧ (b = true ↔ z1 = z2) ∧ I = J ∧ S' = S := by
  refine Tri.pack ((same_ints _ I a1 a2 n1 n2 cap1 cap2 z1 z2 h1.pack h2.pack hn).mono ?_)
  rintro v J S' hJ ⟨b, rfl, h, rfl, rfl⟩
  exact ⟨[], rfl, b, rfl, h, rfl, by simp⟩
set_option maxHeartbeats 1000000 in
theorem awake08 (I : Imm) (S : St) : Tri Try.prog 25 #[] I S fun v _ _ => v = .bool true := by
  refine Tri.free (Q := fun v _ _ => v = .bool true) ?_ (fun v J _ _ h => h)
  obtain ⟨jA, jB, jF, jR, dA, dB, dF, a1, a2, pB, x3, x4, a3, a4, z3, z4, z5, w0, wA, wB, wF, wR, fA, fB, gA⟩ := awake_pure
  refine Tri.of (args := []) tabOk Try.func25 rfl (by kernel_rfl) (by kernel_rfl) ?_
  refine Tri.frameX (law_open 14 (by omega) I) [] rfl rfl ?_
  rintro v J A' hJ ⟨bD, bJ, chD, chJ, rfl, hD, hj, rfl⟩
  repeat (first
    | refine LoadD.own 0 rfl _ rfl rfl ?_
    | refine LoadD.own 1 rfl _ rfl rfl ?_
    | refine LoadD.own 2 rfl _ rfl rfl ?_
    | refine LoadD.own 3 rfl _ rfl rfl ?_
    | refine LoadD.own 4 rfl _ rfl rfl ?_
    | refine LoadD.own 5 rfl _ rfl rfl ?_
    | refine LoadP.at 0 rfl _ rfl rfl ?_
    | refine LoadP.at 1 rfl _ rfl rfl ?_
    | refine LoadP.at 2 rfl _ rfl rfl ?_
    | refine LoadP.at 3 rfl _ rfl rfl ?_
    | refine LoadP.at 4 rfl _ rfl rfl ?_
    | refine LoadP.at 5 rfl _ rfl rfl ?_
    | refine StoreD.st 0 rfl rfl rfl ?_
    | refine StoreD.st 1 rfl rfl rfl ?_
    | refine StoreD.st 2 rfl rfl rfl ?_
    | refine StoreD.st 3 rfl rfl rfl ?_
    | refine StoreD.st 4 rfl rfl rfl ?_
    | refine StoreD.st 5 rfl rfl rfl ?_
    | refine CmpD.yes rfl ?_
    | refine CmpD.yes (by decide) ?_
    | refine CmpD.no (by decide) ?_
    | refine Chk.mk ⟨rfl, trivial⟩ ?_
    | refine Chk.mk ⟨rfl, rfl, trivial⟩ ?_
    | refine Chk.mk ⟨rfl, rfl, rfl, trivial⟩ ?_
    | refine Chk.mk ⟨rfl, rfl, rfl, rfl, trivial⟩ ?_
    | refine Chk.mk ⟨rfl, rfl, rfl, rfl, rfl, trivial⟩ ?_
    | refine Chk.mk ⟨rfl, rfl, rfl, rfl, rfl, rfl, trivial⟩ ?_)
  refine Tri.free (row_of 1 (by omega) J) ?_
  rintro v J1 _ hJ1 ⟨aR, capR, rfl, hR⟩
  refine Tri.free (images_fix aR capR (rowL 1) (by rw [rowL_length]; omega) (rowL_in 1 (by omega)) 1 (by unfold In64; omega) J1 (by rw [rowL_length]; exact hR)) ?_
  rintro v J2 _ hJ2 ⟨aI, capI, gs, rfl, hI, hgs⟩
  have hgl : gs.length = 1 := by have := congrArg List.length hgs; rwa [List.length_map, imgsP_length, rowL_length] at this
  refine Tri.frame (jk_Append hj w0 (hD.mono (Imm.le_trans hJ1 hJ2)) ((DSt.of_few _).mono (by omega)) (by simp [openJ]) aI capI gs hI (by omega) false) [1, 0] rfl rfl ?_
  rw [hgs, a1]
  rintro v J3 A' hJ3 ⟨rfl, chJA, chDA, hjA, hDA, rfl⟩
  refine ⟨Nat.le_refl _, ?_⟩
  refine Tri.free (row_of 2 (by omega) J3) ?_
  rintro v J4 _ hJ4 ⟨aR2, capR2, rfl, hR2⟩
  refine Tri.free (images_fix aR2 capR2 (rowL 2) (by rw [rowL_length]; omega) (rowL_in 2 (by omega)) 2 (by unfold In64; omega) J4 (by rw [rowL_length]; exact hR2)) ?_
  rintro v J5 _ hJ5 ⟨aI2, capI2, gs2, rfl, hI2, hgs2⟩
  have hgl2 : gs2.length = 2 := by have := congrArg List.length hgs2; rwa [List.length_map, imgsP_length, rowL_length] at this
  refine Tri.frame (jk_Append hjA wA (hDA.mono (Imm.le_trans hJ4 hJ5)) (fA.mono (by omega)) (by dsimp only; omega) aI2 capI2 gs2 hI2 (by omega) false) [1, 0] rfl rfl ?_
  rw [hgs2, a2]
  rintro v J6 A' hJ6 ⟨rfl, chJB, chDB, hjB, hDB, rfl⟩
  refine ⟨Nat.le_refl _, ?_⟩
  refine Tri.frameX (dk_Pending hDB (fB.mono (by omega))) [0] rfl rfl ?_
  rintro v J7 A' hJ7 ⟨aP, capP, chP, rfl, hP, rfl, rfl⟩
  refine Tri.frame1 1 rfl (jk_Tail hjB J6) ?_
  rintro v J7 A' hJ7 ⟨rfl, rfl, rfl⟩
  refine ⟨_, rfl, ?_⟩
  refine Tri.frame (jk_Flush hjB wB hDB) [1, 2] rfl rfl ?_
  rw [a3]
  rintro v J8 A' hJ8 ⟨rfl, chJF, chDF, hjF, hDF, rfl⟩
  refine ⟨Nat.le_refl _, ?_⟩
  refine Tri.frame1 1 rfl (jk_Release hjF wF 1 J8) ?_
  rw [a4]
  rintro v J9 A' hJ9 ⟨rfl, rfl, chJR, hjR, rfl⟩
  refine ⟨_, rfl, ?_⟩
  refine Tri.frame1 1 rfl (jk_Tail hjR J8) ?_
  rintro v J9 A' hJ9 ⟨rfl, rfl, rfl⟩
  refine ⟨_, rfl, ?_⟩
  rw [x3, x4, z3, z4]
  rw [pB] at hP
  have hPl : dB.writes.length = 5 := by have := congrArg List.length pB; rwa [List.length_map] at this
  refine ToD.to 0 rfl ?_
  refine ToD.to 0 rfl ?_
  refine ToD.to 0 rfl ?_
  repeat (first
    | refine LoadD.own 0 rfl _ rfl rfl ?_
    | refine LoadD.own 1 rfl _ rfl rfl ?_
    | refine LoadD.own 2 rfl _ rfl rfl ?_
    | refine LoadD.own 3 rfl _ rfl rfl ?_
    | refine LoadD.own 4 rfl _ rfl rfl ?_
    | refine LoadD.own 5 rfl _ rfl rfl ?_
    | refine LoadP.at 0 rfl _ rfl rfl ?_
    | refine LoadP.at 1 rfl _ rfl rfl ?_
    | refine LoadP.at 2 rfl _ rfl rfl ?_
    | refine LoadP.at 3 rfl _ rfl rfl ?_
    | refine LoadP.at 4 rfl _ rfl rfl ?_
    | refine LoadP.at 5 rfl _ rfl rfl ?_
    | refine StoreD.st 0 rfl rfl rfl ?_
    | refine StoreD.st 1 rfl rfl rfl ?_
    | refine StoreD.st 2 rfl rfl rfl ?_
    | refine StoreD.st 3 rfl rfl rfl ?_
    | refine StoreD.st 4 rfl rfl rfl ?_
    | refine StoreD.st 5 rfl rfl rfl ?_
    | refine CmpD.yes rfl ?_
    | refine CmpD.yes (by decide) ?_
    | refine CmpD.no (by decide) ?_
    | refine Chk.mk ⟨rfl, trivial⟩ ?_
    | refine Chk.mk ⟨rfl, rfl, trivial⟩ ?_
    | refine Chk.mk ⟨rfl, rfl, rfl, trivial⟩ ?_
    | refine Chk.mk ⟨rfl, rfl, rfl, rfl, trivial⟩ ?_
    | refine Chk.mk ⟨rfl, rfl, rfl, rfl, rfl, trivial⟩ ?_
    | refine Chk.mk ⟨rfl, rfl, rfl, rfl, rfl, rfl, trivial⟩ ?_)
  conv => whnf
  intro b70
  refine Tri.nf (same_ints_at (z1 := [16, 17, 2, 3, 4]) (z2 := [16, 17, 2, 3, 4]) ?_ ?_ ?_) ?_
  · exact hP.slC1 3 rfl
  · exact (OwnC.whole (vs := ints [16, 17, 2, 3, 4]) (len := 5) (size := 1) rfl).slC 4 rfl
  · dsimp only; omega
  rintro v J9 S9 hJ9 ⟨b, rfl, hb, rfl, rfl⟩
  have hb : b = true := hb.2 rfl
  subst hb
  repeat (first
    | refine LoadD.own 0 rfl _ rfl rfl ?_
    | refine LoadD.own 1 rfl _ rfl rfl ?_
    | refine LoadD.own 2 rfl _ rfl rfl ?_
    | refine LoadD.own 3 rfl _ rfl rfl ?_
    | refine LoadD.own 4 rfl _ rfl rfl ?_
    | refine LoadD.own 5 rfl _ rfl rfl ?_
    | refine LoadP.at 0 rfl _ rfl rfl ?_
    | refine LoadP.at 1 rfl _ rfl rfl ?_
    | refine LoadP.at 2 rfl _ rfl rfl ?_
    | refine LoadP.at 3 rfl _ rfl rfl ?_
    | refine LoadP.at 4 rfl _ rfl rfl ?_
    | refine LoadP.at 5 rfl _ rfl rfl ?_
    | refine StoreD.st 0 rfl rfl rfl ?_
    | refine StoreD.st 1 rfl rfl rfl ?_
    | refine StoreD.st 2 rfl rfl rfl ?_
    | refine StoreD.st 3 rfl rfl rfl ?_
    | refine StoreD.st 4 rfl rfl rfl ?_
    | refine StoreD.st 5 rfl rfl rfl ?_
    | refine CmpD.yes rfl ?_
    | refine CmpD.yes (by decide) ?_
    | refine CmpD.no (by decide) ?_
    | refine Chk.mk ⟨rfl, trivial⟩ ?_
    | refine Chk.mk ⟨rfl, rfl, trivial⟩ ?_
    | refine Chk.mk ⟨rfl, rfl, rfl, trivial⟩ ?_
    | refine Chk.mk ⟨rfl, rfl, rfl, rfl, trivial⟩ ?_
    | refine Chk.mk ⟨rfl, rfl, rfl, rfl, rfl, trivial⟩ ?_
    | refine Chk.mk ⟨rfl, rfl, rfl, rfl, rfl, rfl, trivial⟩ ?_)
  refine Tri.frameX (jk_Groups hjR wR J8) [1] rfl rfl ?_
  rintro v J9 S9 hJ9 ⟨aG, capG, chG, rfl, hG, rfl, rfl⟩
  rw [z5] at hG
  rw [z5]
  conv => whnf
  intro b92
  refine Tri.nf (same_ints_at (z1 := [2]) (z2 := [2]) ?_ ?_ ?_) ?_
  · exact hG.slC1 6 rfl
  · exact (OwnC.whole (vs := ints [2]) (len := 1) (size := 1) rfl).slC 7 rfl
  · decide
  rintro v J9 S9 hJ9 ⟨b, rfl, hb, rfl, rfl⟩
  have hb : b = true := hb.2 rfl
  subst hb
  exact Done.mk rfl
end Go.Proofs.Ytbpdbgcndfcilaa
namespace Go.Proofs.Ytbpdbgcndfcilaa
open Go.RowKit Go.Sl
set_option maxRecDepth 20000

def blocksN (n : Int) : Int := if n < 1 ∨ 32 < n then 0 else n + 1
theorem record_Blocks (n : Int) (I : Imm) (S : St) : Tri Try.prog 80 #[.int .i64 n] I S fun v J S' => v = .int .i64 (blocksN n) ∧ I = J ∧ S' = S := by
  refine Tri.of (args := [.int .i64 n]) tabOk Try.func80 rfl (by kernel_rfl) (by kernel_rfl) ?_
  unfold blocksN
  refine CmpD.split (fun c1 => ?_) (fun c1 => ?_)
  · rw [if_pos (.inl c1)]; exact Done.mk ⟨rfl, rfl, rfl⟩
  refine CmpD.split (fun c2 => ?_) (fun c2 => ?_)
  · rw [if_pos (.inr c2)]; exact Done.mk ⟨rfl, rfl, rfl⟩
  rw [if_neg (by omega)]
  refine ToD.i64 (by omega) (by omega) ?_
  exact Done.mk ⟨rfl, rfl, rfl⟩
def JSt.turn (j : JSt) (r : R5) : JSt × Int := match r with
  | (s, t, u, h, e) => if e = 0 then ({ j with s := s, t := t, u := u, h := h }, 0) else (j, e)
def JSt.reserve (j : JSt) (n : Int) : JSt × Int := if j.broken then (j, 4) else if blocksN n = 0 then (j, 2) else if j.s < blocksN n then (j, 232) else j.turn (reserveS j.s j.t j.u j.h (blocksN n))
def JSt.cancel (j : JSt) (n : Int) : JSt × Int := if j.broken then (j, 4) else if blocksN n = 0 then (j, 2) else j.turn (releaseS j.s j.t j.u j.h (blocksN n))
theorem jk_Reserve1 (bn bx bJ bD : Nat) (n : Int) (j : JSt) (hj : j.Wf) (hb : j.broken = false) (g : Hd) (I : Imm) :
    Tri Try.prog 79 #[.pointer (some ⟨bn, 0, none⟩), .pointer (some ⟨bx, 0, none⟩)] I [pBox bn (.int .i64 n) 3, pBox bx (.pointer (some ⟨bJ, 0, none⟩)) 22, jChunk bJ (j.at bD g)] fun v J S' =>
      I = J ∧ v = .int .i64 (j.reserve n).2 ∧ S' = [jChunk bJ ((j.reserve n).1.at bD g)] := by
  have hr := hj.ring
  unfold Ok at hr
  unfold JSt.reserve
  rw [if_neg (by rw [hb]; simp)]
  refine Tri.drop ?_ (fun _ _ _ _ h => h)
  refine Tri.of (args := [.pointer (some ⟨bn, 0, none⟩), .pointer (some ⟨bx, 0, none⟩)]) tabOk Try.func79 rfl (by kernel_rfl) (by kernel_rfl) ?_
  repeat (first
    | refine LoadD.own 0 rfl _ rfl rfl ?_
    | refine LoadD.own 1 rfl _ rfl rfl ?_
    | refine LoadD.own 2 rfl _ rfl rfl ?_
    | refine LoadP.at 0 rfl _ rfl rfl ?_
    | refine LoadP.at 1 rfl _ rfl rfl ?_
    | refine LoadP.at 2 rfl _ rfl rfl ?_
    | refine StoreD.st 0 rfl rfl rfl ?_
    | refine StoreD.st 1 rfl rfl rfl ?_
    | refine StoreD.st 2 rfl rfl rfl ?_
    | refine CmpD.yes rfl ?_
    | refine CmpD.yes (by decide) ?_
    | refine CmpD.no (by decide) ?_
    | refine Chk.mk ⟨rfl, trivial⟩ ?_
    | refine Chk.mk ⟨rfl, rfl, trivial⟩ ?_
    | refine Chk.mk ⟨rfl, rfl, rfl, trivial⟩ ?_
    | refine Chk.mk ⟨rfl, rfl, rfl, rfl, trivial⟩ ?_
    | refine Chk.mk ⟨rfl, rfl, rfl, rfl, rfl, trivial⟩ ?_
    | refine Chk.mk ⟨rfl, rfl, rfl, rfl, rfl, rfl, trivial⟩ ?_)
  refine Tri.nf (record_Blocks n I _) ?_
  rintro _ _ _ _ ⟨rfl, rfl, rfl⟩
  have hbn : 0 ≤ blocksN n ∧ blocksN n ≤ 33 := by unfold blocksN; split <;> omega
  refine CmpD.split (fun c1 => ?_) (fun c1 => ?_)
  · rw [if_pos c1]
    exact Done.mk ⟨_, Drop.pick [2] _ rfl, rfl, rfl, rfl⟩
  rw [if_neg c1]
  repeat (first
    | refine LoadD.own 0 rfl _ rfl rfl ?_
    | refine LoadD.own 1 rfl _ rfl rfl ?_
    | refine LoadD.own 2 rfl _ rfl rfl ?_
    | refine LoadP.at 0 rfl _ rfl rfl ?_
    | refine LoadP.at 1 rfl _ rfl rfl ?_
    | refine LoadP.at 2 rfl _ rfl rfl ?_
    | refine StoreD.st 0 rfl rfl rfl ?_
    | refine StoreD.st 1 rfl rfl rfl ?_
    | refine StoreD.st 2 rfl rfl rfl ?_
    | refine CmpD.yes rfl ?_
    | refine CmpD.yes (by decide) ?_
    | refine CmpD.no (by decide) ?_
    | refine Chk.mk ⟨rfl, trivial⟩ ?_
    | refine Chk.mk ⟨rfl, rfl, trivial⟩ ?_
    | refine Chk.mk ⟨rfl, rfl, rfl, trivial⟩ ?_
    | refine Chk.mk ⟨rfl, rfl, rfl, rfl, trivial⟩ ?_
    | refine Chk.mk ⟨rfl, rfl, rfl, rfl, rfl, trivial⟩ ?_
    | refine Chk.mk ⟨rfl, rfl, rfl, rfl, rfl, rfl, trivial⟩ ?_)
  refine CmpD.split (fun c2 => ?_) (fun c2 => ?_)
  · rw [if_pos (by exact c2)]
    exact Done.mk ⟨_, Drop.pick [2] _ rfl, rfl, rfl, rfl⟩
  rw [if_neg (by exact c2)]
  refine CodeF.sched [[], [], [1], [1, 2], [1, 2, 3], [], [1, 2, 3, 4, 5], [1, 2, 3, 4, 5, 6], [1, 2, 3, 4, 5, 6], [0, 1, 2, 3, 4, 5, 6, 7, 8], [0, 1, 2, 3, 4, 5, 6, 7, 8, 9]] [0, 1, 2, 3, 4, 5, 6, 7, 8, 9, 10] (by kernel_rfl) ?_
  repeat (first
    | refine LoadD.own 0 rfl _ rfl rfl ?_
    | refine LoadD.own 1 rfl _ rfl rfl ?_
    | refine LoadD.own 2 rfl _ rfl rfl ?_
    | refine LoadP.at 0 rfl _ rfl rfl ?_
    | refine LoadP.at 1 rfl _ rfl rfl ?_
    | refine LoadP.at 2 rfl _ rfl rfl ?_
    | refine StoreD.st 0 rfl rfl rfl ?_
    | refine StoreD.st 1 rfl rfl rfl ?_
    | refine StoreD.st 2 rfl rfl rfl ?_
    | refine CmpD.yes rfl ?_
    | refine CmpD.yes (by decide) ?_
    | refine CmpD.no (by decide) ?_
    | refine Chk.mk ⟨rfl, trivial⟩ ?_
    | refine Chk.mk ⟨rfl, rfl, trivial⟩ ?_
    | refine Chk.mk ⟨rfl, rfl, rfl, trivial⟩ ?_
    | refine Chk.mk ⟨rfl, rfl, rfl, rfl, trivial⟩ ?_
    | refine Chk.mk ⟨rfl, rfl, rfl, rfl, rfl, trivial⟩ ?_
    | refine Chk.mk ⟨rfl, rfl, rfl, rfl, rfl, rfl, trivial⟩ ?_)
  refine Tri.free (ring_Reserve j.s j.t j.u j.h (blocksN n) I (by unfold In64; omega) (by unfold In64; omega) (by unfold In64; omega) (by unfold In64; omega) (by unfold In64; omega)) ?_
  rintro v J2 _ hJ2 ⟨⟨s', t', u', h', e', rfl, hd⟩, rfl⟩
  rw [hd]
  repeat (first
    | refine LoadD.own 0 rfl _ rfl rfl ?_
    | refine LoadD.own 1 rfl _ rfl rfl ?_
    | refine LoadD.own 2 rfl _ rfl rfl ?_
    | refine LoadP.at 0 rfl _ rfl rfl ?_
    | refine LoadP.at 1 rfl _ rfl rfl ?_
    | refine LoadP.at 2 rfl _ rfl rfl ?_
    | refine StoreD.st 0 rfl rfl rfl ?_
    | refine StoreD.st 1 rfl rfl rfl ?_
    | refine StoreD.st 2 rfl rfl rfl ?_
    | refine CmpD.yes rfl ?_
    | refine CmpD.yes (by decide) ?_
    | refine CmpD.no (by decide) ?_
    | refine Chk.mk ⟨rfl, trivial⟩ ?_
    | refine Chk.mk ⟨rfl, rfl, trivial⟩ ?_
    | refine Chk.mk ⟨rfl, rfl, rfl, trivial⟩ ?_
    | refine Chk.mk ⟨rfl, rfl, rfl, rfl, trivial⟩ ?_
    | refine Chk.mk ⟨rfl, rfl, rfl, rfl, rfl, trivial⟩ ?_
    | refine Chk.mk ⟨rfl, rfl, rfl, rfl, rfl, rfl, trivial⟩ ?_)
  refine Tri.frame1 2 rfl (jr_turned bJ (j.at bD g) s' t' u' h' e' I) ?_
  rintro v J3 S' hJ3 ⟨rfl, rfl, rfl⟩
  refine ⟨_, rfl, ?_⟩
  refine Done.mk ⟨_, Drop.pick [2] _ rfl, rfl, ?_, ?_⟩
  · show _ = Value.int .i64 (JSt.turn j (s', t', u', h', e')).2
    unfold JSt.turn; dsimp only; split
    · rename_i h; rw [h]; rfl
    · rfl
  · show [jChunk bJ _] = [jChunk bJ ((JSt.turn j (s', t', u', h', e')).1.at bD g)]
    unfold JSt.turn; dsimp only; split <;> rfl
theorem jk_Cancel1 (bn bx bJ bD : Nat) (n : Int) (j : JSt) (hj : j.Wf) (hb : j.broken = false) (g : Hd) (I : Imm) :
    Tri Try.prog 82 #[.pointer (some ⟨bn, 0, none⟩), .pointer (some ⟨bx, 0, none⟩)] I [pBox bn (.int .i64 n) 3, pBox bx (.pointer (some ⟨bJ, 0, none⟩)) 22, jChunk bJ (j.at bD g)] fun v J S' =>
      I = J ∧ v = .int .i64 (j.cancel n).2 ∧ S' = [jChunk bJ ((j.cancel n).1.at bD g)] := by
  have hr := hj.ring
  unfold Ok at hr
  unfold JSt.cancel
  rw [if_neg (by rw [hb]; simp)]
  refine Tri.drop ?_ (fun _ _ _ _ h => h)
  refine Tri.of (args := [.pointer (some ⟨bn, 0, none⟩), .pointer (some ⟨bx, 0, none⟩)]) tabOk Try.func82 rfl (by kernel_rfl) (by kernel_rfl) ?_
  repeat (first
    | refine LoadD.own 0 rfl _ rfl rfl ?_
    | refine LoadD.own 1 rfl _ rfl rfl ?_
    | refine LoadD.own 2 rfl _ rfl rfl ?_
    | refine LoadP.at 0 rfl _ rfl rfl ?_
    | refine LoadP.at 1 rfl _ rfl rfl ?_
    | refine LoadP.at 2 rfl _ rfl rfl ?_
    | refine StoreD.st 0 rfl rfl rfl ?_
    | refine StoreD.st 1 rfl rfl rfl ?_
    | refine StoreD.st 2 rfl rfl rfl ?_
    | refine CmpD.yes rfl ?_
    | refine CmpD.yes (by decide) ?_
    | refine CmpD.no (by decide) ?_
    | refine Chk.mk ⟨rfl, trivial⟩ ?_
    | refine Chk.mk ⟨rfl, rfl, trivial⟩ ?_
    | refine Chk.mk ⟨rfl, rfl, rfl, trivial⟩ ?_
    | refine Chk.mk ⟨rfl, rfl, rfl, rfl, trivial⟩ ?_
    | refine Chk.mk ⟨rfl, rfl, rfl, rfl, rfl, trivial⟩ ?_
    | refine Chk.mk ⟨rfl, rfl, rfl, rfl, rfl, rfl, trivial⟩ ?_)
  refine Tri.nf (record_Blocks n I _) ?_
  rintro _ _ _ _ ⟨rfl, rfl, rfl⟩
  have hbn : 0 ≤ blocksN n ∧ blocksN n ≤ 33 := by unfold blocksN; split <;> omega
  refine CmpD.split (fun c1 => ?_) (fun c1 => ?_)
  · rw [if_pos c1]
    exact Done.mk ⟨_, Drop.pick [2] _ rfl, rfl, rfl, rfl⟩
  rw [if_neg c1]
  refine CodeF.sched [[], [], [1], [1, 2], [1, 2, 3], [], [1, 2, 3, 4, 5], [1, 2, 3, 4, 5, 6], [1, 2, 3, 4, 5, 6], [0, 1, 2, 3, 4, 5, 6, 7, 8], [0, 1, 2, 3, 4, 5, 6, 7, 8, 9]] [0, 1, 2, 3, 4, 5, 6, 7, 8, 9, 10] (by kernel_rfl) ?_
  repeat (first
    | refine LoadD.own 0 rfl _ rfl rfl ?_
    | refine LoadD.own 1 rfl _ rfl rfl ?_
    | refine LoadD.own 2 rfl _ rfl rfl ?_
    | refine LoadP.at 0 rfl _ rfl rfl ?_
    | refine LoadP.at 1 rfl _ rfl rfl ?_
    | refine LoadP.at 2 rfl _ rfl rfl ?_
    | refine StoreD.st 0 rfl rfl rfl ?_
    | refine StoreD.st 1 rfl rfl rfl ?_
    | refine StoreD.st 2 rfl rfl rfl ?_
    | refine CmpD.yes rfl ?_
    | refine CmpD.yes (by decide) ?_
    | refine CmpD.no (by decide) ?_
    | refine Chk.mk ⟨rfl, trivial⟩ ?_
    | refine Chk.mk ⟨rfl, rfl, trivial⟩ ?_
    | refine Chk.mk ⟨rfl, rfl, rfl, trivial⟩ ?_
    | refine Chk.mk ⟨rfl, rfl, rfl, rfl, trivial⟩ ?_
    | refine Chk.mk ⟨rfl, rfl, rfl, rfl, rfl, trivial⟩ ?_
    | refine Chk.mk ⟨rfl, rfl, rfl, rfl, rfl, rfl, trivial⟩ ?_)
  refine Tri.free (ring_Release j.s j.t j.u j.h (blocksN n) I (by unfold In64; omega) (by unfold In64; omega) (by unfold In64; omega) (by unfold In64; omega) (by unfold In64; omega)) ?_
  rintro v J2 _ hJ2 ⟨⟨s', t', u', h', e', rfl, hd⟩, rfl⟩
  rw [hd]
  repeat (first
    | refine LoadD.own 0 rfl _ rfl rfl ?_
    | refine LoadD.own 1 rfl _ rfl rfl ?_
    | refine LoadD.own 2 rfl _ rfl rfl ?_
    | refine LoadP.at 0 rfl _ rfl rfl ?_
    | refine LoadP.at 1 rfl _ rfl rfl ?_
    | refine LoadP.at 2 rfl _ rfl rfl ?_
    | refine StoreD.st 0 rfl rfl rfl ?_
    | refine StoreD.st 1 rfl rfl rfl ?_
    | refine StoreD.st 2 rfl rfl rfl ?_
    | refine CmpD.yes rfl ?_
    | refine CmpD.yes (by decide) ?_
    | refine CmpD.no (by decide) ?_
    | refine Chk.mk ⟨rfl, trivial⟩ ?_
    | refine Chk.mk ⟨rfl, rfl, trivial⟩ ?_
    | refine Chk.mk ⟨rfl, rfl, rfl, trivial⟩ ?_
    | refine Chk.mk ⟨rfl, rfl, rfl, rfl, trivial⟩ ?_
    | refine Chk.mk ⟨rfl, rfl, rfl, rfl, rfl, trivial⟩ ?_
    | refine Chk.mk ⟨rfl, rfl, rfl, rfl, rfl, rfl, trivial⟩ ?_)
  refine Tri.frame1 2 rfl (jr_turned bJ (j.at bD g) s' t' u' h' e' I) ?_
  rintro v J3 S' hJ3 ⟨rfl, rfl, rfl⟩
  refine ⟨_, rfl, ?_⟩
  refine Done.mk ⟨_, Drop.pick [2] _ rfl, rfl, ?_, ?_⟩
  · show _ = Value.int .i64 (JSt.turn j (s', t', u', h', e')).2
    unfold JSt.turn; dsimp only; split
    · rename_i h; rw [h]; rfl
    · rfl
  · show [jChunk bJ _] = [jChunk bJ ((JSt.turn j (s', t', u', h', e')).1.at bD g)]
    unfold JSt.turn; dsimp only; split <;> rfl
theorem JSt.reserve_same (j : JSt) (n : Int) : (j.reserve n).1.groups = j.groups := by
  unfold JSt.reserve JSt.turn
  split; · rfl
  split; · rfl
  split; · rfl
  dsimp only; split <;> rfl
theorem JSt.cancel_same (j : JSt) (n : Int) : (j.cancel n).1.groups = j.groups := by
  unfold JSt.cancel JSt.turn
  split; · rfl
  split; · rfl
  dsimp only; split <;> rfl
theorem jk_Reserve {bJ bD : Nat} {j : JSt} {ch : List Blk} (hJ0 : Jk bJ bD j ch) (hj : j.Wf) (n : Int) (I : Imm) :
    Tri Try.prog 16 #[.pointer (some ⟨bJ, 0, none⟩), .int .i64 n] I [ch] fun v J S' => I = J ∧ v = .int .i64 (j.reserve n).2 ∧ ∃ chJ, Jk bJ bD (j.reserve n).1 chJ ∧ S' = [chJ] := by
  obtain ⟨g, chG, rfl, hG⟩ := hJ0
  have hm := fun bn bx => jr_may2 bJ (j.at bD g) 79 bn bx I [pBox bn (.int .i64 n) 3, pBox bx (.pointer (some ⟨bJ, 0, none⟩)) 22, jChunk bJ (j.at bD g)] 2 rfl (fun hb => jk_Reserve1 bn bx bJ bD n j hj hb g I)
  refine Tri.lay (S2 := [jChunk bJ (j.at bD g), chG]) (by simp) ?_
  refine Tri.drop ?_ (fun _ _ _ _ h => h)
  refine Tri.of (args := [.pointer (some ⟨bJ, 0, none⟩), .int .i64 n]) tabOk Try.func16 rfl (by kernel_rfl) (by kernel_rfl) ?_
  conv => whnf
  intro bx
  conv => whnf
  intro bn
  repeat (first
    | refine LoadD.own 0 rfl _ rfl rfl ?_
    | refine LoadD.own 1 rfl _ rfl rfl ?_
    | refine LoadD.own 2 rfl _ rfl rfl ?_
    | refine LoadD.own 3 rfl _ rfl rfl ?_
    | refine LoadP.at 0 rfl _ rfl rfl ?_
    | refine LoadP.at 1 rfl _ rfl rfl ?_
    | refine LoadP.at 2 rfl _ rfl rfl ?_
    | refine LoadP.at 3 rfl _ rfl rfl ?_
    | refine StoreD.st 0 rfl rfl rfl ?_
    | refine StoreD.st 1 rfl rfl rfl ?_
    | refine StoreD.st 2 rfl rfl rfl ?_
    | refine StoreD.st 3 rfl rfl rfl ?_
    | refine CmpD.yes rfl ?_
    | refine CmpD.yes (by decide) ?_
    | refine CmpD.no (by decide) ?_
    | refine Chk.mk ⟨rfl, trivial⟩ ?_
    | refine Chk.mk ⟨rfl, rfl, trivial⟩ ?_
    | refine Chk.mk ⟨rfl, rfl, rfl, trivial⟩ ?_
    | refine Chk.mk ⟨rfl, rfl, rfl, rfl, trivial⟩ ?_
    | refine Chk.mk ⟨rfl, rfl, rfl, rfl, rfl, trivial⟩ ?_
    | refine Chk.mk ⟨rfl, rfl, rfl, rfl, rfl, rfl, trivial⟩ ?_)
  refine Tri.frameX (hm bn bx) [3, 2, 0] rfl rfl ?_
  rintro v J A' hJ (⟨hb, rfl, rfl, rfl⟩ | ⟨hb, rfl, rfl, rfl⟩)
  · unfold JSt.reserve
    rw [if_pos hb]
    exact Done.mk ⟨[jChunk bJ (j.at bD g) ++ chG], (Drop.pick [6, 1] _ rfl).trans (Drop.flat (by simp [St.at])), rfl, rfl, _, ⟨g, chG, rfl, hG⟩, rfl⟩
  · exact Done.mk ⟨[jChunk bJ ((j.reserve n).1.at bD g) ++ chG], (Drop.pick [4, 1] _ rfl).trans (Drop.flat (by simp [St.at])), rfl, rfl, _, ⟨g, chG, rfl, by rw [JSt.reserve_same]; exact hG⟩, rfl⟩
theorem jk_Cancel {bJ bD : Nat} {j : JSt} {ch : List Blk} (hJ0 : Jk bJ bD j ch) (hj : j.Wf) (n : Int) (I : Imm) :
    Tri Try.prog 17 #[.pointer (some ⟨bJ, 0, none⟩), .int .i64 n] I [ch] fun v J S' => I = J ∧ v = .int .i64 (j.cancel n).2 ∧ ∃ chJ, Jk bJ bD (j.cancel n).1 chJ ∧ S' = [chJ] := by
  obtain ⟨g, chG, rfl, hG⟩ := hJ0
  have hm := fun bn bx => jr_may2 bJ (j.at bD g) 82 bn bx I [pBox bn (.int .i64 n) 3, pBox bx (.pointer (some ⟨bJ, 0, none⟩)) 22, jChunk bJ (j.at bD g)] 2 rfl (fun hb => jk_Cancel1 bn bx bJ bD n j hj hb g I)
  refine Tri.lay (S2 := [jChunk bJ (j.at bD g), chG]) (by simp) ?_
  refine Tri.drop ?_ (fun _ _ _ _ h => h)
  refine Tri.of (args := [.pointer (some ⟨bJ, 0, none⟩), .int .i64 n]) tabOk Try.func17 rfl (by kernel_rfl) (by kernel_rfl) ?_
  conv => whnf
  intro bx
  conv => whnf
  intro bn
  repeat (first
    | refine LoadD.own 0 rfl _ rfl rfl ?_
    | refine LoadD.own 1 rfl _ rfl rfl ?_
    | refine LoadD.own 2 rfl _ rfl rfl ?_
    | refine LoadD.own 3 rfl _ rfl rfl ?_
    | refine LoadP.at 0 rfl _ rfl rfl ?_
    | refine LoadP.at 1 rfl _ rfl rfl ?_
    | refine LoadP.at 2 rfl _ rfl rfl ?_
    | refine LoadP.at 3 rfl _ rfl rfl ?_
    | refine StoreD.st 0 rfl rfl rfl ?_
    | refine StoreD.st 1 rfl rfl rfl ?_
    | refine StoreD.st 2 rfl rfl rfl ?_
    | refine StoreD.st 3 rfl rfl rfl ?_
    | refine CmpD.yes rfl ?_
    | refine CmpD.yes (by decide) ?_
    | refine CmpD.no (by decide) ?_
    | refine Chk.mk ⟨rfl, trivial⟩ ?_
    | refine Chk.mk ⟨rfl, rfl, trivial⟩ ?_
    | refine Chk.mk ⟨rfl, rfl, rfl, trivial⟩ ?_
    | refine Chk.mk ⟨rfl, rfl, rfl, rfl, trivial⟩ ?_
    | refine Chk.mk ⟨rfl, rfl, rfl, rfl, rfl, trivial⟩ ?_
    | refine Chk.mk ⟨rfl, rfl, rfl, rfl, rfl, rfl, trivial⟩ ?_)
  refine Tri.frameX (hm bn bx) [3, 2, 0] rfl rfl ?_
  rintro v J A' hJ (⟨hb, rfl, rfl, rfl⟩ | ⟨hb, rfl, rfl, rfl⟩)
  · unfold JSt.cancel
    rw [if_pos hb]
    exact Done.mk ⟨[jChunk bJ (j.at bD g) ++ chG], (Drop.pick [6, 1] _ rfl).trans (Drop.flat (by simp [St.at])), rfl, rfl, _, ⟨g, chG, rfl, hG⟩, rfl⟩
  · exact Done.mk ⟨[jChunk bJ ((j.cancel n).1.at bD g) ++ chG], (Drop.pick [4, 1] _ rfl).trans (Drop.flat (by simp [St.at])), rfl, rfl, _, ⟨g, chG, rfl, by rw [JSt.cancel_same]; exact hG⟩, rfl⟩
theorem jk_Next {bJ bD : Nat} {j : JSt} {ch : List Blk} (hJ0 : Jk bJ bD j ch) (I : Imm) : Tri Try.prog 20 #[.pointer (some ⟨bJ, 0, none⟩)] I [ch] fun v J S' => v = .int .i64 j.next ∧ I = J ∧ S' = [ch] := by
  obtain ⟨g, chG, rfl, hG⟩ := hJ0
  refine Tri.abs1 (Q := fun v J S' => v = .int .i64 j.next ∧ I = J ∧ S' = [jChunk bJ (j.at bD g)]) ?_ (fun v J S' hJ h => ⟨_, h.2.2, h.1, h.2.1, rfl⟩)
  refine Tri.of (args := [.pointer (some ⟨bJ, 0, none⟩)]) tabOk Try.func20 rfl (by kernel_rfl) (by kernel_rfl) ?_
  refine Tri.nf (jr_none bJ (j.at bD g) I) ?_
  rintro _ _ _ _ ⟨rfl, rfl, rfl⟩
  refine LoadD.own 0 rfl [.int .i64 j.next] rfl rfl ?_
  exact Done.mk ⟨rfl, rfl, rfl⟩
theorem jk_Synced {bJ bD : Nat} {j : JSt} {ch : List Blk} (hJ0 : Jk bJ bD j ch) (I : Imm) : Tri Try.prog 21 #[.pointer (some ⟨bJ, 0, none⟩)] I [ch] fun v J S' => v = .int .i64 j.synced ∧ I = J ∧ S' = [ch] := by
  obtain ⟨g, chG, rfl, hG⟩ := hJ0
  refine Tri.abs1 (Q := fun v J S' => v = .int .i64 j.synced ∧ I = J ∧ S' = [jChunk bJ (j.at bD g)]) ?_ (fun v J S' hJ h => ⟨_, h.2.2, h.1, h.2.1, rfl⟩)
  refine Tri.of (args := [.pointer (some ⟨bJ, 0, none⟩)]) tabOk Try.func21 rfl (by kernel_rfl) (by kernel_rfl) ?_
  refine Tri.nf (jr_none bJ (j.at bD g) I) ?_
  rintro _ _ _ _ ⟨rfl, rfl, rfl⟩
  refine LoadD.own 0 rfl [.int .i64 j.synced] rfl rfl ?_
  exact Done.mk ⟨rfl, rfl, rfl⟩
theorem jk_Ring {bJ bD : Nat} {j : JSt} {ch : List Blk} (hJ0 : Jk bJ bD j ch) (I : Imm) : Tri Try.prog 24 #[.pointer (some ⟨bJ, 0, none⟩)] I [ch] fun v J S' => v = rg j.s j.t j.u j.h ∧ I = J ∧ S' = [ch] := by
  obtain ⟨g, chG, rfl, hG⟩ := hJ0
  refine Tri.abs1 (Q := fun v J S' => v = rg j.s j.t j.u j.h ∧ I = J ∧ S' = [jChunk bJ (j.at bD g)]) ?_ (fun v J S' hJ h => ⟨_, h.2.2, h.1, h.2.1, rfl⟩)
  refine Tri.drop ?_ (fun _ _ _ _ h => h)
  refine Tri.of (args := [.pointer (some ⟨bJ, 0, none⟩)]) tabOk Try.func24 rfl (by kernel_rfl) (by kernel_rfl) ?_
  conv => whnf
  intro b2
  refine Tri.frame1 0 rfl (jr_none bJ (j.at bD g) I) ?_
  rintro _ _ _ _ ⟨rfl, rfl, rfl⟩
  refine ⟨_, rfl, ?_⟩
  repeat (first
    | refine LoadD.own 0 rfl _ rfl rfl ?_
    | refine LoadD.own 1 rfl _ rfl rfl ?_
    | refine LoadP.at 0 rfl _ rfl rfl ?_
    | refine LoadP.at 1 rfl _ rfl rfl ?_
    | refine StoreD.st 0 rfl rfl rfl ?_
    | refine StoreD.st 1 rfl rfl rfl ?_
    | refine CmpD.yes rfl ?_
    | refine CmpD.yes (by decide) ?_
    | refine CmpD.no (by decide) ?_
    | refine Chk.mk ⟨rfl, trivial⟩ ?_
    | refine Chk.mk ⟨rfl, rfl, trivial⟩ ?_
    | refine Chk.mk ⟨rfl, rfl, rfl, trivial⟩ ?_
    | refine Chk.mk ⟨rfl, rfl, rfl, rfl, trivial⟩ ?_
    | refine Chk.mk ⟨rfl, rfl, rfl, rfl, rfl, trivial⟩ ?_
    | refine Chk.mk ⟨rfl, rfl, rfl, rfl, rfl, rfl, trivial⟩ ?_)
  exact Done.mk ⟨_, Drop.pick [0] _ rfl, rfl, rfl, rfl⟩
theorem jk_Broken {bJ bD : Nat} {j : JSt} {ch : List Blk} (hJ0 : Jk bJ bD j ch) (I : Imm) : Tri Try.prog 23 #[.pointer (some ⟨bJ, 0, none⟩)] I [ch] fun v J S' => v = .bool j.broken ∧ I = J ∧ S' = [ch] := by
  obtain ⟨g, chG, rfl, hG⟩ := hJ0
  refine Tri.abs1 (Q := fun v J S' => v = .bool j.broken ∧ I = J ∧ S' = [jChunk bJ (j.at bD g)]) ?_ (fun v J S' hJ h => ⟨_, h.2.2, h.1, h.2.1, rfl⟩)
  obtain ⟨lay, s, t, u, h, ep, nx, sy, gs, br⟩ := j
  refine Tri.of (args := [.pointer (some ⟨bJ, 0, none⟩)]) tabOk Try.func23 rfl (by kernel_rfl) (by kernel_rfl) ?_
  refine Tri.nf (jr_none bJ _ I) ?_
  rintro _ _ _ _ ⟨rfl, rfl, rfl⟩
  cases br
  · repeat (first
      | refine LoadD.own 0 rfl _ rfl rfl ?_
      | refine LoadP.at 0 rfl _ rfl rfl ?_
      | refine StoreD.st 0 rfl rfl rfl ?_
      | refine CmpD.yes rfl ?_
      | refine CmpD.yes (by decide) ?_
      | refine CmpD.no (by decide) ?_
      | refine Chk.mk ⟨rfl, trivial⟩ ?_
      | refine Chk.mk ⟨rfl, rfl, trivial⟩ ?_
      | refine Chk.mk ⟨rfl, rfl, rfl, trivial⟩ ?_
      | refine Chk.mk ⟨rfl, rfl, rfl, rfl, trivial⟩ ?_
      | refine Chk.mk ⟨rfl, rfl, rfl, rfl, rfl, trivial⟩ ?_
      | refine Chk.mk ⟨rfl, rfl, rfl, rfl, rfl, rfl, trivial⟩ ?_)
    exact Done.mk ⟨rfl, rfl, rfl⟩
  · repeat (first
      | refine LoadD.own 0 rfl _ rfl rfl ?_
      | refine LoadP.at 0 rfl _ rfl rfl ?_
      | refine StoreD.st 0 rfl rfl rfl ?_
      | refine CmpD.yes rfl ?_
      | refine CmpD.yes (by decide) ?_
      | refine CmpD.no (by decide) ?_
      | refine Chk.mk ⟨rfl, trivial⟩ ?_
      | refine Chk.mk ⟨rfl, rfl, trivial⟩ ?_
      | refine Chk.mk ⟨rfl, rfl, rfl, trivial⟩ ?_
      | refine Chk.mk ⟨rfl, rfl, rfl, rfl, trivial⟩ ?_
      | refine Chk.mk ⟨rfl, rfl, rfl, rfl, rfl, trivial⟩ ?_
      | refine Chk.mk ⟨rfl, rfl, rfl, rfl, rfl, rfl, trivial⟩ ?_)
    exact Done.mk ⟨rfl, rfl, rfl⟩
end Go.Proofs.Ytbpdbgcndfcilaa
namespace Go.Proofs.Ytbpdbgcndfcilaa
open Go.RowKit Go.Sl
set_option maxRecDepth 20000

theorem JSt.Wf.turn {j : JSt} (hj : j.Wf) {r : R5} (hr : r.2.2.2.2 = 0 → Ok r.1 r.2.1 r.2.2.1 r.2.2.2.1) : (j.turn r).1.Wf := by
  obtain ⟨s, t, u, h, e⟩ := r
  unfold JSt.turn
  dsimp only at hr ⊢
  split
  · rename_i h0; exact ⟨hj.log, hr h0, hj.epoch, hj.next, hj.synced, hj.few, hj.groups⟩
  · exact hj
theorem blocksN_range (n : Int) : 0 ≤ blocksN n ∧ blocksN n ≤ 33 := by unfold blocksN; split <;> omega
theorem reserveS_ok {s t u h n : Int} (hr : Ok s t u h) (h0 : (reserveS s t u h n).2.2.2.2 = 0) : Ok (reserveS s t u h n).1 (reserveS s t u h n).2.1 (reserveS s t u h n).2.2.1 (reserveS s t u h n).2.2.2.1 := by
  unfold reserveS at *
  split at h0
  · simp at h0
  split at h0
  · simp at h0
  rename_i h1 h2
  rw [if_neg h1, if_neg h2]
  unfold Ok at *
  dsimp only
  omega
theorem releaseS_ok {s t u h n : Int} (hr : Ok s t u h) (h0 : (releaseS s t u h n).2.2.2.2 = 0) : Ok (releaseS s t u h n).1 (releaseS s t u h n).2.1 (releaseS s t u h n).2.2.1 (releaseS s t u h n).2.2.2.1 := by
  unfold releaseS at *
  split at h0
  · simp at h0
  rename_i h1
  rw [if_neg h1]
  unfold Ok at *
  dsimp only
  omega
theorem JSt.Wf.reserve {j : JSt} (hj : j.Wf) (n : Int) : (j.reserve n).1.Wf := by
  unfold JSt.reserve
  split; · exact hj
  split; · exact hj
  split; · exact hj
  exact hj.turn (reserveS_ok hj.ring)
theorem JSt.Wf.cancel {j : JSt} (hj : j.Wf) (n : Int) : (j.cancel n).1.Wf := by
  unfold JSt.cancel
  split; · exact hj
  split; · exact hj
  exact hj.turn (releaseS_ok hj.ring)
/-- a journal of the examples -/
structure JB (j : JSt) (t u h next synced : Int) (gs : List (Int × Int)) : Prop where
  s : j.s = 16
  t : j.t = t
  u : j.u = u
  h : j.h = h
  epoch : j.epoch = 1
  next : j.next = next
  synced : j.synced = synced
  groups : j.groups = gs
  broken : j.broken = false
  wf : j.Wf
theorem jb_open (tail : Int) (ht : 0 ≤ tail ∧ tail < 16) : JB (openJ 64 1 1 tail) tail 0 0 1 0 [] := ⟨layL_64', rfl, rfl, rfl, rfl, rfl, rfl, rfl, rfl, openJ_wf64 tail ht⟩
/-- a disk of the examples -/
structure DB (d : DSt) (k : Nat) : Prop where
  calm : d.Calm
  len : d.now.length = 64
  few : d.Few k
theorem db_new : DB (DSt.of (List.replicate 64 noughts)) 0 := ⟨fresh_calm _, List.length_replicate .., DSt.of_few _⟩
theorem jb_append {j : JSt} {t u h next synced : Int} {gs : List (Int × Int)} (hj : JB j t u h next synced gs) (h8 : gs.length ≤ 999999) {d : DSt} {k : Nat} (hd : DB d k) (n : Nat) (hn : 1 ≤ n ∧ n ≤ 15) (hx : next ≤ 549755813888) (m : Int) (held : Bool)
    {t' u' h' at_ : Int} (hp : putS 16 t u h (n + 1) (if held then n + 1 else 0) = ((16, t', u', h', 0), at_)) :
    ∃ j' d', j.appendB d (imgsP (rowL n) m 0) held = (j', d', next, 0) ∧ JB j' t' u' h' (next + 1) synced (gs ++ [(next, (n + 1 : Int))]) ∧ DB d' (k + (n + 1)) := by
  obtain ⟨e1, e2, e3, e4, e5, e6, e7, e8, e9, w⟩ := hj
  have hn1 := w.next
  have hl : ((imgsP (rowL n) m 0).length : Int) + 1 = n + 1 := by rw [imgsP_length, rowL_length]
  obtain ⟨j', a, f1, f2, f3, f4, f5, f6, f7, f8, f9, f10, w'⟩ := JSt.append_next w (d := d) (l := imgsP (rowL n) m 0) (held := held) (t := t') (u := u') (h := h') (at_ := at_) (by rw [e8]; exact h8) e9 (by rw [e5, e6]; exact right_row ⟨by decide, by decide⟩ ⟨by omega, hx⟩ n ⟨hn.1, by omega⟩ m) (by rw [hl, e1]; omega) hd.calm (by rw [hd.len, e1]; decide) (by rw [e1, e2, e3, e4, hl]; exact hp)
  refine ⟨j', _, by rw [a, e6], ⟨by rw [f2, e1], f3, f4, f5, by rw [f6, e5], by rw [f7, e6], by rw [f8, e7], by rw [f9, e8, e6, hl], f10, w'⟩, ⟨wrD_calm _ _ _ _ hd.calm, by rw [wrD_len, hd.len], ?_⟩⟩
  have := wrD_few (fun i => 2 + (at_ + i) % j.s) (putP j.epoch.toNat j.next.toNat (imgsP (rowL n) m 0)) 0 d k hd.few
  rw [putP_length, imgsP_length, rowL_length, e6] at this
  exact this
theorem jb_full {j : JSt} {t u h next synced : Int} {gs : List (Int × Int)} (hj : JB j t u h next synced gs) {d : DSt} (n : Nat) (hn : 1 ≤ n ∧ n ≤ 32) (hx : next ≤ 549755813888) (m : Int) (held : Bool) (hf : 16 ≤ n) : j.appendB d (imgsP (rowL n) m 0) held = (j, d, 0, 232) := by
  obtain ⟨e1, e2, e3, e4, e5, e6, e7, e8, e9, w⟩ := hj
  have hn1 := w.next
  unfold JSt.appendB JSt.append
  rw [if_neg (by rw [e9]; simp), if_neg (by rw [e5, e6]; exact not_not_intro (right_row ⟨by decide, by decide⟩ ⟨by omega, hx⟩ n hn m)), if_pos (by rw [e1, imgsP_length, rowL_length]; omega)]
theorem jb_short {j : JSt} {t u h next synced : Int} {gs : List (Int × Int)} (hj : JB j t u h next synced gs) {d : DSt} (n : Nat) (hn : 1 ≤ n ∧ n ≤ 15) (hx : next ≤ 549755813888) (m : Int) (held : Bool)
    {r : R5} {at_ e : Int} (hp : putS 16 t u h (n + 1) (if held then n + 1 else 0) = (r, at_)) (hr : r.2.2.2.2 = e) (he : e ≠ 0) : j.appendB d (imgsP (rowL n) m 0) held = (j, d, 0, e) := by
  obtain ⟨e1, e2, e3, e4, e5, e6, e7, e8, e9, w⟩ := hj
  have hn1 := w.next
  obtain ⟨r1, r2, r3, r4, r5⟩ := r
  dsimp only at hr
  subst hr
  unfold JSt.appendB JSt.append
  rw [if_neg (by rw [e9]; simp), if_neg (by rw [e5, e6]; exact not_not_intro (right_row ⟨by decide, by decide⟩ ⟨by omega, hx⟩ n ⟨hn.1, by omega⟩ m)), if_neg (by rw [e1, imgsP_length, rowL_length]; omega)]
  rw [e1, e2, e3, e4, imgsP_length, rowL_length, hp]
  dsimp only
  rw [if_pos he]
theorem jb_nil {j : JSt} {t u h next synced : Int} {gs : List (Int × Int)} (hj : JB j t u h next synced gs) {d : DSt} (held : Bool) : j.appendB d [] held = (j, d, 0, 80) := by
  unfold JSt.appendB JSt.append
  rw [if_neg (by rw [hj.broken]; simp), if_pos (by intro h; have := h.2.2.2.2.1; simp at this)]
theorem jb_flush {j : JSt} {t u h next synced : Int} {gs : List (Int × Int)} (hj : JB j t u h next synced gs) {d : DSt} {k : Nat} (hd : DB d k) : ∃ j' d', j.flush d = (j', d', 0) ∧ JB j' t u h next (next - 1) gs ∧ DB d' k := by
  obtain ⟨e1, e2, e3, e4, e5, e6, e7, e8, e9, w⟩ := hj
  obtain ⟨j', a, f1, f2, f3, f4, f5, f6, f7, f8, f9, f10, w'⟩ := JSt.flush_next w (d := d) e9 hd.calm
  exact ⟨j', _, a, ⟨by rw [f2, e1], by rw [f3, e2], by rw [f4, e3], by rw [f5, e4], by rw [f6, e5], by rw [f7, e6], by rw [f8, e6], by rw [f9, e8], f10, w'⟩, ⟨hd.calm, hd.len, ⟨Nat.zero_le _, hd.few.2⟩⟩⟩
theorem jb_release {j : JSt} {t u h next synced : Int} {gs : List (Int × Int)} (hj : JB j t u h next synced gs) (seq : Int) (hs : ¬ synced < seq) {gs' : List (Int × Int)} {t' u' h' e : Int} (hr : relAll seq gs 16 t u h = (gs', (16, t', u', h', e))) : ∃ j', j.release seq = (j', e) ∧ JB j' t' u' h' next synced gs' := by
  obtain ⟨e1, e2, e3, e4, e5, e6, e7, e8, e9, w⟩ := hj
  obtain ⟨j', a, f1, f2, f3, f4, f5, f6, f7, f8, f9, f10, w'⟩ := JSt.release_next w (seq := seq) (gs := gs') (s := 16) (t := t') (u := u') (h := h') (e := e) e9 (by rw [e7]; exact hs) (by rw [e1, e2, e3, e4, e8]; exact hr)
  exact ⟨j', a, ⟨f2, f3, f4, f5, by rw [f6, e5], by rw [f7, e6], by rw [f8, e7], f9, f10, w'⟩⟩
theorem jb_early {j : JSt} {t u h next synced : Int} {gs : List (Int × Int)} (hj : JB j t u h next synced gs) (seq : Int) (hs : synced < seq) : j.release seq = (j, 2) := by
  unfold JSt.release
  rw [if_neg (by rw [hj.broken]; simp), if_pos (by rw [hj.synced]; exact hs)]
theorem jb_reserve {j : JSt} {t u h next synced : Int} {gs : List (Int × Int)} (hj : JB j t u h next synced gs) (n : Int) (h0 : blocksN n ≠ 0) (h1 : ¬ 16 < blocksN n) {h' : Int} (hr : reserveS 16 t u h (blocksN n) = (16, t, u, h', 0)) : ∃ j', j.reserve n = (j', 0) ∧ JB j' t u h' next synced gs := by
  have hw := hj.wf.reserve n
  obtain ⟨e1, e2, e3, e4, e5, e6, e7, e8, e9, w⟩ := hj
  have e : j.reserve n = ({ j with s := 16, t := t, u := u, h := h' }, 0) := by
    unfold JSt.reserve
    rw [if_neg (by rw [e9]; simp), if_neg h0, if_neg (by rw [e1]; exact h1), e1, e2, e3, e4, hr]
    rfl
  rw [e] at hw
  exact ⟨_, e, ⟨rfl, rfl, rfl, rfl, e5, e6, e7, e8, e9, hw⟩⟩
theorem jb_noReserve {j : JSt} {t u h next synced : Int} {gs : List (Int × Int)} (hj : JB j t u h next synced gs) (n : Int) (e : Int) (h0 : (blocksN n = 0 ∧ e = 2) ∨ (blocksN n ≠ 0 ∧ 16 < blocksN n ∧ e = 232)) : j.reserve n = (j, e) := by
  unfold JSt.reserve
  rw [if_neg (by rw [hj.broken]; simp)]
  rcases h0 with ⟨h0, rfl⟩ | ⟨h0, h1, rfl⟩
  · rw [if_pos h0]
  · rw [if_neg h0, if_pos (by rw [hj.s]; exact h1)]
theorem jb_noCancel {j : JSt} {t u h next synced : Int} {gs : List (Int × Int)} (hj : JB j t u h next synced gs) (n : Int) (h0 : blocksN n = 0 ∨ (blocksN n ≠ 0 ∧ (releaseS 16 t u h (blocksN n)) = (0, 0, 0, 0, 2))) : j.cancel n = (j, 2) := by
  unfold JSt.cancel
  rw [if_neg (by rw [hj.broken]; simp)]
  rcases h0 with h0 | ⟨h0, h1⟩
  · rw [if_pos h0]
  · rw [if_neg h0, hj.s, hj.t, hj.u, hj.h, h1]; rfl
/-- all of them -/
structure Numbers where
  jA : JSt
  jB : JSt
  jF : JSt
  jR : JSt
  jH : JSt
  jC : JSt
  jX : JSt
  dA : DSt
  dB : DSt
  dF : DSt
  dC : DSt
  dX : DSt
  dY : DSt
theorem numbers_pure : ∃ x : Numbers, (openJ 64 1 1 14).appendB (DSt.of (List.replicate 64 noughts)) (imgsP (rowL 1) 1 0) false = (x.jA, x.dA, 1, 0) ∧ x.jA.appendB x.dA (imgsP (rowL 2) 2 0) false = (x.jB, x.dB, 2, 0) ∧
    x.jB.flush x.dB = (x.jF, x.dF, 0) ∧ x.jF.release 1 = (x.jR, 0) ∧ x.jR.release 3 = (x.jR, 2) ∧ x.jR.appendB x.dF (imgsP (rowL 16) 1 0) false = (x.jR, x.dF, 0, 232) ∧ x.jR.appendB x.dF (imgsP (rowL 13) 1 0) false = (x.jR, x.dF, 0, 5) ∧
    x.jR.reserve 12 = (x.jH, 0) ∧ x.jH.reserve 16 = (x.jH, 232) ∧ x.jH.reserve 0 = (x.jH, 2) ∧ x.jH.reserve 33 = (x.jH, 2) ∧ x.jH.cancel 0 = (x.jH, 2) ∧ x.jH.cancel 13 = (x.jH, 2) ∧ x.jH.appendB x.dF (imgsP (rowL 1) 1 0) false = (x.jH, x.dF, 0, 5) ∧ x.jH.appendB x.dF [] false = (x.jH, x.dF, 0, 80) ∧
    x.jH.appendB x.dF (imgsP (rowL 12) 1 0) true = (x.jC, x.dC, 3, 0) ∧ x.dC.armed 0 = (x.dX, 0) ∧ x.jC.flush x.dX = (x.jX, x.dY, 6) ∧ x.jX.reserve 0 = (x.jX, 4) ∧ x.jX.cancel 0 = (x.jX, 4) ∧ x.jX.release 99 = (x.jX, 4) ∧ x.jX.broken = true ∧
    JB (openJ 64 1 1 14) 14 0 0 1 0 [] ∧ JB x.jA 14 2 0 2 0 [(1, 2)] ∧ JB x.jB 14 5 0 3 0 [(1, 2), (2, 3)] ∧ JB x.jF 14 5 0 3 2 [(1, 2), (2, 3)] ∧ JB x.jR 0 3 0 3 2 [(2, 3)] ∧ JB x.jH 0 3 13 3 2 [(2, 3)] ∧ JB x.jC 0 16 0 4 2 [(2, 3), (3, 13)] ∧ x.jX.Wf ∧
    DB (DSt.of (List.replicate 64 noughts)) 0 ∧ DB x.dA 2 ∧ DB x.dB 5 ∧ DB x.dF 5 ∧ DB x.dC 18 := by
  have h0 := jb_open 14 (by omega)
  have d0 := db_new
  obtain ⟨jA, dA, a1, hA, dA'⟩ := jb_append h0 (by decide) d0 1 (by omega) (by decide) 1 false (t' := 14) (u' := 2) (h' := 0) (at_ := 14) (by decide)
  obtain ⟨jB, dB, a2, hB, dB'⟩ := jb_append hA (by decide) dA' 2 (by omega) (by decide) 2 false (t' := 14) (u' := 5) (h' := 0) (at_ := 0) (by decide)
  obtain ⟨jF, dF, a3, hF, dF'⟩ := jb_flush hB dB'
  obtain ⟨jR, a4, hR⟩ := jb_release hF 1 (by decide) (gs' := [(2, 3)]) (t' := 0) (u' := 3) (h' := 0) (e := 0) (by decide)
  obtain ⟨jH, a5, hH⟩ := jb_reserve hR 12 (by decide) (by decide) (h' := 13) (by decide)
  obtain ⟨jC, dC, a6, hC, dC'⟩ := jb_append hH (by decide) dF' 12 (by omega) (by decide) 1 true (t' := 0) (u' := 16) (h' := 0) (at_ := 3) (by decide)
  have hfl : ∃ jX dY, jC.flush ({ dC with arm := ⟨true, 0⟩ }) = (jX, dY, 6) ∧ jX.broken = true := by
    obtain ⟨safe, now, ws, c, dn, ⟨b1, b2⟩, ⟨f1, f2⟩⟩ := dC
    obtain ⟨⟨c1, c2, c3⟩, _, _⟩ := dC'
    simp only at c1 c2 c3
    subst c1 c2 c3
    unfold JSt.flush
    rw [if_neg (by rw [hC.broken]; simp)]
    exact ⟨_, _, rfl, rfl⟩
  obtain ⟨jX, dY, a7, hX⟩ := hfl
  have wX : jX.Wf := by have := hC.wf.flush { dC with arm := ⟨true, 0⟩ }; rwa [a7] at this
  refine ⟨⟨jA, jB, jF, jR, jH, jC, jX, dA, dB, dF, dC, { dC with arm := ⟨true, 0⟩ }, dY⟩, a1, a2, a3, a4, jb_early hR 3 (by decide), jb_full hR 16 (by omega) (by decide) 1 false (by omega), ?_, a5, jb_noReserve hH 16 232 (.inr (by decide)), jb_noReserve hH 0 2 (.inl (by decide)), jb_noReserve hH 33 2 (.inl (by decide)), jb_noCancel hH 0 (.inl (by decide)), jb_noCancel hH 13 (.inr (by decide)), ?_, jb_nil hH false, a6, rfl, a7, ?_, ?_, ?_, hX, h0, hA, hB, hF, hR, hH, hC, wX, d0, dA', dB', dF', dC'⟩
  · exact jb_short hR 13 (by omega) (by decide) 1 false (r := (0, 0, 0, 0, 5)) (at_ := 0) (by decide) rfl (by decide)
  · exact jb_short hH 1 (by omega) (by decide) 1 false (r := (0, 0, 0, 0, 5)) (at_ := 0) (by decide) rfl (by decide)
  · unfold JSt.reserve; rw [if_pos hX]
  · unfold JSt.cancel; rw [if_pos hX]
  · unfold JSt.release; rw [if_pos hX]
end Go.Proofs.Ytbpdbgcndfcilaa
namespace Go.Proofs.Ytbpdbgcndfcilaa
open Go.RowKit Go.Sl
set_option maxRecDepth 20000

theorem disk_none0 (I : Imm) (S : St) : Tri Try.prog 90 #[.pointer none] I S fun v J S' => v = .bool true ∧ I = J ∧ S' = S := by
  refine Tri.of (args := [.pointer none]) tabOk Try.func90 rfl (by kernel_rfl) (by kernel_rfl) ?_
  exact Done.mk ⟨rfl, rfl, rfl⟩
theorem disk_Size0 (I : Imm) (S : St) : Tri Try.prog 88 #[.pointer none] I S fun v J S' => v = .int .i64 0 ∧ I = J ∧ S' = S := by
  refine Tri.of (args := [.pointer none]) tabOk Try.func88 rfl (by kernel_rfl) (by kernel_rfl) ?_
  refine Tri.mono (disk_none0 I S) ?_
  rintro v J S' hJ ⟨rfl, rfl, rfl⟩
  exact Done.mk ⟨rfl, rfl, rfl⟩
theorem journal_Open0 (x : Lay) (epoch seq tail : Int) (I : Imm) : Tri Try.prog 30 #[.pointer none, x.v, .int .i64 epoch, .int .i64 seq, .int .i64 tail] I [] fun v J _ => v = .tuple #[.pointer none, .int .i64 1] ∧ I = J := by
  obtain ⟨x1, x2, x3, x4, x5, x6, x7⟩ := x
  refine Tri.of (args := [.pointer none, layV x1 x2 x3 x4 x5 x6 x7, .int .i64 epoch, .int .i64 seq, .int .i64 tail]) tabOk Try.func30 rfl (by kernel_rfl) (by kernel_rfl) ?_
  conv => whnf
  intro b6
  refine Tri.nf (disk_Size0 I _) ?_
  rintro v J S' hJ ⟨rfl, rfl, rfl⟩
  repeat (first
    | refine LoadD.own 0 rfl _ rfl rfl ?_
    | refine LoadP.at 0 rfl _ rfl rfl ?_
    | refine StoreD.st 0 rfl rfl rfl ?_
    | refine CmpD.yes rfl ?_
    | refine CmpD.yes (by decide) ?_
    | refine CmpD.no (by decide) ?_
    | refine Chk.mk ⟨rfl, trivial⟩ ?_
    | refine Chk.mk ⟨rfl, rfl, trivial⟩ ?_
    | refine Chk.mk ⟨rfl, rfl, rfl, trivial⟩ ?_
    | refine Chk.mk ⟨rfl, rfl, rfl, rfl, trivial⟩ ?_
    | refine Chk.mk ⟨rfl, rfl, rfl, rfl, rfl, trivial⟩ ?_
    | refine Chk.mk ⟨rfl, rfl, rfl, rfl, rfl, rfl, trivial⟩ ?_)
  exact Done.mk ⟨rfl, rfl⟩
theorem ring_cmp {o : Oper} {ρ : Env} {yt : TypeId} {x y : Operand} {K : Value → Prop} {op : BinOp} (p q : List Int) (ho : o.op = .binOp op 27 x y yt) (hop : op = .eql ∨ op = .neq)
    (hx : ρ.ev x = .agg (p.map (Value.int .i64)).toArray) (hy : ρ.ev y = .agg (q.map (Value.int .i64)).toArray) (hp : p.length = 4) (hq : q.length = 4) (h : CmpD (p = q) fun t => boolF (xor (op == .neq) t) fun t => K (.bool t)) : PureD Try.prog o ρ K :=
  eq_ints (k := .i64) tabOk p q ho hop rfl hx hy (by kernel_rfl) (by kernel_rfl) (by kernel_rfl) hp hq h
set_option maxHeartbeats 4000000 in
theorem journalNumbers_walk (I : Imm) : Tri Try.prog 4 #[] I [] fun v _ _ => v = .bool true := by
  obtain ⟨⟨jA, jB, jF, jR, jH, jC, jX, dA, dB, dF, dC, dX, dY⟩, a1, a2, a3, a4, a5, a6, a7, a8, a9, a10, a11, a12, a13, a14, a15, a16, a17, a18, a19, a20, a21, a22, h0, hA, hB, hF, hR, hH, hC, wX, d0, dA', dB', dF', dC'⟩ := numbers_pure
  dsimp only at a1 a2 a3 a4 a5 a6 a7 a8 a9 a10 a11 a12 a13 a14 a15 a16 a17 a18 a19 a20 a21 a22 hA hB hF hR hH hC wX dA' dB' dF' dC'
  refine Tri.of (args := []) tabOk Try.func4 rfl (by kernel_rfl) (by kernel_rfl) ?_
  refine Tri.frameX (law_open 14 (by omega) I) [] rfl rfl ?_
  rintro v J A' hJ ⟨bD, bJ, chD, chJ, rfl, hD, hj, rfl⟩
  repeat (first
    | refine LoadD.own 0 rfl _ rfl rfl ?_
    | refine LoadD.own 1 rfl _ rfl rfl ?_
    | refine LoadP.at 0 rfl _ rfl rfl ?_
    | refine LoadP.at 1 rfl _ rfl rfl ?_
    | refine StoreD.st 0 rfl rfl rfl ?_
    | refine StoreD.st 1 rfl rfl rfl ?_
    | refine CmpD.yes rfl ?_
    | refine CmpD.yes (by decide) ?_
    | refine CmpD.no (by decide) ?_
    | refine Chk.mk ⟨rfl, trivial⟩ ?_
    | refine Chk.mk ⟨rfl, rfl, trivial⟩ ?_
    | refine Chk.mk ⟨rfl, rfl, rfl, trivial⟩ ?_
    | refine Chk.mk ⟨rfl, rfl, rfl, rfl, trivial⟩ ?_
    | refine Chk.mk ⟨rfl, rfl, rfl, rfl, rfl, trivial⟩ ?_
    | refine Chk.mk ⟨rfl, rfl, rfl, rfl, rfl, rfl, trivial⟩ ?_)
  refine Tri.free (row_of 1 (by omega) _) ?_
  rintro v Jr1 _ hJr1 ⟨aR1, capR1, rfl, hR1⟩
  refine Tri.free (images_fix aR1 capR1 (rowL 1) (by rw [rowL_length]; omega) (rowL_in 1 (by omega)) 1 (by unfold In64; omega) Jr1 (by rw [rowL_length]; exact hR1)) ?_
  rintro v Ji1 _ hJi1 ⟨aI1, capI1, gs1, rfl, hI1, hgs1⟩
  have hgl1 : gs1.length = 1 := by have := congrArg List.length hgs1; rwa [List.length_map, imgsP_length, rowL_length] at this
  refine Tri.frame (jk_Append hj h0.wf (hD.mono (Imm.le_trans hJr1 hJi1)) (d0.few.mono (by omega)) (by rw [h0.groups]; decide) aI1 capI1 gs1 hI1 (by omega) false) [1, 0] rfl rfl ?_
  rw [hgs1, a1]
  rintro v J1 A' hJ1 ⟨rfl, chJ1, chD1, hj1, hD1, rfl⟩
  refine ⟨Nat.le_refl _, ?_⟩
  dsimp only at hj1 hD1
  refine Tri.free (row_of 2 (by omega) _) ?_
  rintro v Jr2 _ hJr2 ⟨aR2, capR2, rfl, hR2⟩
  refine Tri.free (images_fix aR2 capR2 (rowL 2) (by rw [rowL_length]; omega) (rowL_in 2 (by omega)) 2 (by unfold In64; omega) Jr2 (by rw [rowL_length]; exact hR2)) ?_
  rintro v Ji2 _ hJi2 ⟨aI2, capI2, gs2, rfl, hI2, hgs2⟩
  have hgl2 : gs2.length = 2 := by have := congrArg List.length hgs2; rwa [List.length_map, imgsP_length, rowL_length] at this
  refine Tri.frame (jk_Append hj1 hA.wf (hD1.mono (Imm.le_trans hJr2 hJi2)) (dA'.few.mono (by omega)) (by rw [hA.groups]; decide) aI2 capI2 gs2 hI2 (by omega) false) [1, 0] rfl rfl ?_
  rw [hgs2, a2]
  rintro v J2 A' hJ2 ⟨rfl, chJ2, chD2, hj2, hD2, rfl⟩
  refine ⟨Nat.le_refl _, ?_⟩
  dsimp only at hj2 hD2
  refine Tri.frame (jk_Flush hj2 hB.wf hD2) [1, 0] rfl rfl ?_
  rw [a3]
  rintro v Jf A' hJf ⟨rfl, chJf, chDf, hjf, hDf, rfl⟩
  refine ⟨Nat.le_refl _, ?_⟩
  dsimp only at hjf hDf
  refine Tri.frame1 1 rfl (jk_Release hjf hF.wf 1 _) ?_
  rw [a4]
  rintro v _ A' _ ⟨rfl, rfl, chR1, hR1, rfl⟩
  refine ⟨_, rfl, ?_⟩
  dsimp only at hR1
  repeat (first
    | refine LoadD.own 0 rfl _ rfl rfl ?_
    | refine LoadD.own 1 rfl _ rfl rfl ?_
    | refine LoadP.at 0 rfl _ rfl rfl ?_
    | refine LoadP.at 1 rfl _ rfl rfl ?_
    | refine StoreD.st 0 rfl rfl rfl ?_
    | refine StoreD.st 1 rfl rfl rfl ?_
    | refine CmpD.yes rfl ?_
    | refine CmpD.yes (by decide) ?_
    | refine CmpD.no (by decide) ?_
    | refine Chk.mk ⟨rfl, trivial⟩ ?_
    | refine Chk.mk ⟨rfl, rfl, trivial⟩ ?_
    | refine Chk.mk ⟨rfl, rfl, rfl, trivial⟩ ?_
    | refine Chk.mk ⟨rfl, rfl, rfl, rfl, trivial⟩ ?_
    | refine Chk.mk ⟨rfl, rfl, rfl, rfl, rfl, trivial⟩ ?_
    | refine Chk.mk ⟨rfl, rfl, rfl, rfl, rfl, rfl, trivial⟩ ?_)
  refine Tri.frame1 1 rfl (jk_Release hR1 hR.wf 3 _) ?_
  rw [a5]
  rintro v _ A' _ ⟨rfl, rfl, chR2, hR2, rfl⟩
  refine ⟨_, rfl, ?_⟩
  dsimp only at hR2
  repeat (first
    | refine LoadD.own 0 rfl _ rfl rfl ?_
    | refine LoadD.own 1 rfl _ rfl rfl ?_
    | refine LoadP.at 0 rfl _ rfl rfl ?_
    | refine LoadP.at 1 rfl _ rfl rfl ?_
    | refine StoreD.st 0 rfl rfl rfl ?_
    | refine StoreD.st 1 rfl rfl rfl ?_
    | refine CmpD.yes rfl ?_
    | refine CmpD.yes (by decide) ?_
    | refine CmpD.no (by decide) ?_
    | refine Chk.mk ⟨rfl, trivial⟩ ?_
    | refine Chk.mk ⟨rfl, rfl, trivial⟩ ?_
    | refine Chk.mk ⟨rfl, rfl, rfl, trivial⟩ ?_
    | refine Chk.mk ⟨rfl, rfl, rfl, rfl, trivial⟩ ?_
    | refine Chk.mk ⟨rfl, rfl, rfl, rfl, rfl, trivial⟩ ?_
    | refine Chk.mk ⟨rfl, rfl, rfl, rfl, rfl, rfl, trivial⟩ ?_)
  refine Tri.frame1 1 rfl (jk_Next hR2 _) ?_
  rintro v _ A' _ ⟨rfl, rfl, rfl⟩
  refine ⟨_, rfl, ?_⟩
  rw [hR.next]
  repeat (first
    | refine LoadD.own 0 rfl _ rfl rfl ?_
    | refine LoadD.own 1 rfl _ rfl rfl ?_
    | refine LoadP.at 0 rfl _ rfl rfl ?_
    | refine LoadP.at 1 rfl _ rfl rfl ?_
    | refine StoreD.st 0 rfl rfl rfl ?_
    | refine StoreD.st 1 rfl rfl rfl ?_
    | refine CmpD.yes rfl ?_
    | refine CmpD.yes (by decide) ?_
    | refine CmpD.no (by decide) ?_
    | refine Chk.mk ⟨rfl, trivial⟩ ?_
    | refine Chk.mk ⟨rfl, rfl, trivial⟩ ?_
    | refine Chk.mk ⟨rfl, rfl, rfl, trivial⟩ ?_
    | refine Chk.mk ⟨rfl, rfl, rfl, rfl, trivial⟩ ?_
    | refine Chk.mk ⟨rfl, rfl, rfl, rfl, rfl, trivial⟩ ?_
    | refine Chk.mk ⟨rfl, rfl, rfl, rfl, rfl, rfl, trivial⟩ ?_)
  refine Tri.frame1 1 rfl (jk_Synced hR2 _) ?_
  rintro v _ A' _ ⟨rfl, rfl, rfl⟩
  refine ⟨_, rfl, ?_⟩
  rw [hR.synced]
  repeat (first
    | refine LoadD.own 0 rfl _ rfl rfl ?_
    | refine LoadD.own 1 rfl _ rfl rfl ?_
    | refine LoadP.at 0 rfl _ rfl rfl ?_
    | refine LoadP.at 1 rfl _ rfl rfl ?_
    | refine StoreD.st 0 rfl rfl rfl ?_
    | refine StoreD.st 1 rfl rfl rfl ?_
    | refine CmpD.yes rfl ?_
    | refine CmpD.yes (by decide) ?_
    | refine CmpD.no (by decide) ?_
    | refine Chk.mk ⟨rfl, trivial⟩ ?_
    | refine Chk.mk ⟨rfl, rfl, trivial⟩ ?_
    | refine Chk.mk ⟨rfl, rfl, rfl, trivial⟩ ?_
    | refine Chk.mk ⟨rfl, rfl, rfl, rfl, trivial⟩ ?_
    | refine Chk.mk ⟨rfl, rfl, rfl, rfl, rfl, trivial⟩ ?_
    | refine Chk.mk ⟨rfl, rfl, rfl, rfl, rfl, rfl, trivial⟩ ?_)
  refine Tri.free (row_of 16 (by omega) _) ?_
  rintro v Jr3 _ hJr3 ⟨aR3, capR3, rfl, hR3⟩
  refine Tri.free (images_fix aR3 capR3 (rowL 16) (by rw [rowL_length]; omega) (rowL_in 16 (by omega)) 1 (by unfold In64; omega) Jr3 (by rw [rowL_length]; exact hR3)) ?_
  rintro v Ji3 _ hJi3 ⟨aI3, capI3, gs3, rfl, hI3, hgs3⟩
  have hgl3 : gs3.length = 16 := by have := congrArg List.length hgs3; rwa [List.length_map, imgsP_length, rowL_length] at this
  refine Tri.frame (jk_Append hR2 hR.wf (hDf.mono (Imm.le_trans hJr3 hJi3)) (dF'.few.mono (by omega)) (by rw [hR.groups]; decide) aI3 capI3 gs3 hI3 (by omega) false) [1, 0] rfl rfl ?_
  rw [hgs3, a6]
  rintro v J3 A' hJ3 ⟨rfl, chJ3, chD3, hj3, hD3, rfl⟩
  refine ⟨Nat.le_refl _, ?_⟩
  dsimp only at hj3 hD3
  refine Tri.free (row_of 13 (by omega) _) ?_
  rintro v Jr4 _ hJr4 ⟨aR4, capR4, rfl, hR4⟩
  refine Tri.free (images_fix aR4 capR4 (rowL 13) (by rw [rowL_length]; omega) (rowL_in 13 (by omega)) 1 (by unfold In64; omega) Jr4 (by rw [rowL_length]; exact hR4)) ?_
  rintro v Ji4 _ hJi4 ⟨aI4, capI4, gs4, rfl, hI4, hgs4⟩
  have hgl4 : gs4.length = 13 := by have := congrArg List.length hgs4; rwa [List.length_map, imgsP_length, rowL_length] at this
  refine Tri.frame (jk_Append hj3 hR.wf (hD3.mono (Imm.le_trans hJr4 hJi4)) (dF'.few.mono (by omega)) (by rw [hR.groups]; decide) aI4 capI4 gs4 hI4 (by omega) false) [1, 0] rfl rfl ?_
  rw [hgs4, a7]
  rintro v J4 A' hJ4 ⟨rfl, chJ4, chD4, hj4, hD4, rfl⟩
  refine ⟨Nat.le_refl _, ?_⟩
  dsimp only at hj4 hD4
  repeat (first
    | refine LoadD.own 0 rfl _ rfl rfl ?_
    | refine LoadD.own 1 rfl _ rfl rfl ?_
    | refine LoadP.at 0 rfl _ rfl rfl ?_
    | refine LoadP.at 1 rfl _ rfl rfl ?_
    | refine StoreD.st 0 rfl rfl rfl ?_
    | refine StoreD.st 1 rfl rfl rfl ?_
    | refine CmpD.yes rfl ?_
    | refine CmpD.yes (by decide) ?_
    | refine CmpD.no (by decide) ?_
    | refine Chk.mk ⟨rfl, trivial⟩ ?_
    | refine Chk.mk ⟨rfl, rfl, trivial⟩ ?_
    | refine Chk.mk ⟨rfl, rfl, rfl, trivial⟩ ?_
    | refine Chk.mk ⟨rfl, rfl, rfl, rfl, trivial⟩ ?_
    | refine Chk.mk ⟨rfl, rfl, rfl, rfl, rfl, trivial⟩ ?_
    | refine Chk.mk ⟨rfl, rfl, rfl, rfl, rfl, rfl, trivial⟩ ?_)
  refine Tri.frame1 1 rfl (jk_Reserve hj4 hR.wf 12 _) ?_
  rw [a8]
  rintro v _ A' _ ⟨rfl, rfl, chH1, hH1, rfl⟩
  refine ⟨_, rfl, ?_⟩
  dsimp only at hH1
  repeat (first
    | refine LoadD.own 0 rfl _ rfl rfl ?_
    | refine LoadD.own 1 rfl _ rfl rfl ?_
    | refine LoadP.at 0 rfl _ rfl rfl ?_
    | refine LoadP.at 1 rfl _ rfl rfl ?_
    | refine StoreD.st 0 rfl rfl rfl ?_
    | refine StoreD.st 1 rfl rfl rfl ?_
    | refine CmpD.yes rfl ?_
    | refine CmpD.yes (by decide) ?_
    | refine CmpD.no (by decide) ?_
    | refine Chk.mk ⟨rfl, trivial⟩ ?_
    | refine Chk.mk ⟨rfl, rfl, trivial⟩ ?_
    | refine Chk.mk ⟨rfl, rfl, rfl, trivial⟩ ?_
    | refine Chk.mk ⟨rfl, rfl, rfl, rfl, trivial⟩ ?_
    | refine Chk.mk ⟨rfl, rfl, rfl, rfl, rfl, trivial⟩ ?_
    | refine Chk.mk ⟨rfl, rfl, rfl, rfl, rfl, rfl, trivial⟩ ?_)
  refine Tri.frame1 1 rfl (jk_Reserve hH1 hH.wf 16 _) ?_
  rw [a9]
  rintro v _ A' _ ⟨rfl, rfl, chH2, hH2, rfl⟩
  refine ⟨_, rfl, ?_⟩
  dsimp only at hH2
  repeat (first
    | refine LoadD.own 0 rfl _ rfl rfl ?_
    | refine LoadD.own 1 rfl _ rfl rfl ?_
    | refine LoadP.at 0 rfl _ rfl rfl ?_
    | refine LoadP.at 1 rfl _ rfl rfl ?_
    | refine StoreD.st 0 rfl rfl rfl ?_
    | refine StoreD.st 1 rfl rfl rfl ?_
    | refine CmpD.yes rfl ?_
    | refine CmpD.yes (by decide) ?_
    | refine CmpD.no (by decide) ?_
    | refine Chk.mk ⟨rfl, trivial⟩ ?_
    | refine Chk.mk ⟨rfl, rfl, trivial⟩ ?_
    | refine Chk.mk ⟨rfl, rfl, rfl, trivial⟩ ?_
    | refine Chk.mk ⟨rfl, rfl, rfl, rfl, trivial⟩ ?_
    | refine Chk.mk ⟨rfl, rfl, rfl, rfl, rfl, trivial⟩ ?_
    | refine Chk.mk ⟨rfl, rfl, rfl, rfl, rfl, rfl, trivial⟩ ?_)
  refine Tri.frame1 1 rfl (jk_Reserve hH2 hH.wf 0 _) ?_
  rw [a10]
  rintro v _ A' _ ⟨rfl, rfl, chH3, hH3, rfl⟩
  refine ⟨_, rfl, ?_⟩
  dsimp only at hH3
  repeat (first
    | refine LoadD.own 0 rfl _ rfl rfl ?_
    | refine LoadD.own 1 rfl _ rfl rfl ?_
    | refine LoadP.at 0 rfl _ rfl rfl ?_
    | refine LoadP.at 1 rfl _ rfl rfl ?_
    | refine StoreD.st 0 rfl rfl rfl ?_
    | refine StoreD.st 1 rfl rfl rfl ?_
    | refine CmpD.yes rfl ?_
    | refine CmpD.yes (by decide) ?_
    | refine CmpD.no (by decide) ?_
    | refine Chk.mk ⟨rfl, trivial⟩ ?_
    | refine Chk.mk ⟨rfl, rfl, trivial⟩ ?_
    | refine Chk.mk ⟨rfl, rfl, rfl, trivial⟩ ?_
    | refine Chk.mk ⟨rfl, rfl, rfl, rfl, trivial⟩ ?_
    | refine Chk.mk ⟨rfl, rfl, rfl, rfl, rfl, trivial⟩ ?_
    | refine Chk.mk ⟨rfl, rfl, rfl, rfl, rfl, rfl, trivial⟩ ?_)
  refine Tri.frame1 1 rfl (jk_Reserve hH3 hH.wf 33 _) ?_
  rw [a11]
  rintro v _ A' _ ⟨rfl, rfl, chH4, hH4, rfl⟩
  refine ⟨_, rfl, ?_⟩
  dsimp only at hH4
  repeat (first
    | refine LoadD.own 0 rfl _ rfl rfl ?_
    | refine LoadD.own 1 rfl _ rfl rfl ?_
    | refine LoadP.at 0 rfl _ rfl rfl ?_
    | refine LoadP.at 1 rfl _ rfl rfl ?_
    | refine StoreD.st 0 rfl rfl rfl ?_
    | refine StoreD.st 1 rfl rfl rfl ?_
    | refine CmpD.yes rfl ?_
    | refine CmpD.yes (by decide) ?_
    | refine CmpD.no (by decide) ?_
    | refine Chk.mk ⟨rfl, trivial⟩ ?_
    | refine Chk.mk ⟨rfl, rfl, trivial⟩ ?_
    | refine Chk.mk ⟨rfl, rfl, rfl, trivial⟩ ?_
    | refine Chk.mk ⟨rfl, rfl, rfl, rfl, trivial⟩ ?_
    | refine Chk.mk ⟨rfl, rfl, rfl, rfl, rfl, trivial⟩ ?_
    | refine Chk.mk ⟨rfl, rfl, rfl, rfl, rfl, rfl, trivial⟩ ?_)
  refine Tri.frame1 1 rfl (jk_Cancel hH4 hH.wf 0 _) ?_
  rw [a12]
  rintro v _ A' _ ⟨rfl, rfl, chH5, hH5, rfl⟩
  refine ⟨_, rfl, ?_⟩
  dsimp only at hH5
  repeat (first
    | refine LoadD.own 0 rfl _ rfl rfl ?_
    | refine LoadD.own 1 rfl _ rfl rfl ?_
    | refine LoadP.at 0 rfl _ rfl rfl ?_
    | refine LoadP.at 1 rfl _ rfl rfl ?_
    | refine StoreD.st 0 rfl rfl rfl ?_
    | refine StoreD.st 1 rfl rfl rfl ?_
    | refine CmpD.yes rfl ?_
    | refine CmpD.yes (by decide) ?_
    | refine CmpD.no (by decide) ?_
    | refine Chk.mk ⟨rfl, trivial⟩ ?_
    | refine Chk.mk ⟨rfl, rfl, trivial⟩ ?_
    | refine Chk.mk ⟨rfl, rfl, rfl, trivial⟩ ?_
    | refine Chk.mk ⟨rfl, rfl, rfl, rfl, trivial⟩ ?_
    | refine Chk.mk ⟨rfl, rfl, rfl, rfl, rfl, trivial⟩ ?_
    | refine Chk.mk ⟨rfl, rfl, rfl, rfl, rfl, rfl, trivial⟩ ?_)
  refine Tri.frame1 1 rfl (jk_Cancel hH5 hH.wf 13 _) ?_
  rw [a13]
  rintro v _ A' _ ⟨rfl, rfl, chH6, hH6, rfl⟩
  refine ⟨_, rfl, ?_⟩
  dsimp only at hH6
  repeat (first
    | refine LoadD.own 0 rfl _ rfl rfl ?_
    | refine LoadD.own 1 rfl _ rfl rfl ?_
    | refine LoadP.at 0 rfl _ rfl rfl ?_
    | refine LoadP.at 1 rfl _ rfl rfl ?_
    | refine StoreD.st 0 rfl rfl rfl ?_
    | refine StoreD.st 1 rfl rfl rfl ?_
    | refine CmpD.yes rfl ?_
    | refine CmpD.yes (by decide) ?_
    | refine CmpD.no (by decide) ?_
    | refine Chk.mk ⟨rfl, trivial⟩ ?_
    | refine Chk.mk ⟨rfl, rfl, trivial⟩ ?_
    | refine Chk.mk ⟨rfl, rfl, rfl, trivial⟩ ?_
    | refine Chk.mk ⟨rfl, rfl, rfl, rfl, trivial⟩ ?_
    | refine Chk.mk ⟨rfl, rfl, rfl, rfl, rfl, trivial⟩ ?_
    | refine Chk.mk ⟨rfl, rfl, rfl, rfl, rfl, rfl, trivial⟩ ?_)
  refine Tri.free (row_of 1 (by omega) _) ?_
  rintro v Jr5 _ hJr5 ⟨aR5, capR5, rfl, hR5⟩
  refine Tri.free (images_fix aR5 capR5 (rowL 1) (by rw [rowL_length]; omega) (rowL_in 1 (by omega)) 1 (by unfold In64; omega) Jr5 (by rw [rowL_length]; exact hR5)) ?_
  rintro v Ji5 _ hJi5 ⟨aI5, capI5, gs5, rfl, hI5, hgs5⟩
  have hgl5 : gs5.length = 1 := by have := congrArg List.length hgs5; rwa [List.length_map, imgsP_length, rowL_length] at this
  refine Tri.frame (jk_Append hH6 hH.wf (hD4.mono (Imm.le_trans hJr5 hJi5)) (dF'.few.mono (by omega)) (by rw [hH.groups]; decide) aI5 capI5 gs5 hI5 (by omega) false) [1, 0] rfl rfl ?_
  rw [hgs5, a14]
  rintro v J5 A' hJ5 ⟨rfl, chJ5, chD5, hj5, hD5, rfl⟩
  refine ⟨Nat.le_refl _, ?_⟩
  dsimp only at hj5 hD5
  refine Tri.frame (jk_Append hj5 hH.wf hD5 (dF'.few.mono (by omega)) (by rw [hH.groups]; decide) none 0 [] ⟨⟨rfl, .inl rfl⟩, by simp⟩ (by decide) false) [1, 0] rfl rfl ?_
  rw [show List.map Img.pr [] = [] from rfl, a15]
  rintro v J6 A' hJ6 ⟨rfl, chJ6, chD6, hj6, hD6, rfl⟩
  refine ⟨Nat.le_refl _, ?_⟩
  dsimp only at hj6 hD6
  refine Tri.free (row_of 12 (by omega) _) ?_
  rintro v Jr7 _ hJr7 ⟨aR7, capR7, rfl, hR7⟩
  refine Tri.free (images_fix aR7 capR7 (rowL 12) (by rw [rowL_length]; omega) (rowL_in 12 (by omega)) 1 (by unfold In64; omega) Jr7 (by rw [rowL_length]; exact hR7)) ?_
  rintro v Ji7 _ hJi7 ⟨aI7, capI7, gs7, rfl, hI7, hgs7⟩
  have hgl7 : gs7.length = 12 := by have := congrArg List.length hgs7; rwa [List.length_map, imgsP_length, rowL_length] at this
  refine Tri.frame (jk_Append hj6 hH.wf (hD6.mono (Imm.le_trans hJr7 hJi7)) (dF'.few.mono (by omega)) (by rw [hH.groups]; decide) aI7 capI7 gs7 hI7 (by omega) true) [1, 0] rfl rfl ?_
  rw [hgs7, a16]
  rintro v J7 A' hJ7 ⟨rfl, chJ7, chD7, hj7, hD7, rfl⟩
  refine ⟨Nat.le_refl _, ?_⟩
  dsimp only at hj7 hD7
  repeat (first
    | refine LoadD.own 0 rfl _ rfl rfl ?_
    | refine LoadD.own 1 rfl _ rfl rfl ?_
    | refine LoadP.at 0 rfl _ rfl rfl ?_
    | refine LoadP.at 1 rfl _ rfl rfl ?_
    | refine StoreD.st 0 rfl rfl rfl ?_
    | refine StoreD.st 1 rfl rfl rfl ?_
    | refine CmpD.yes rfl ?_
    | refine CmpD.yes (by decide) ?_
    | refine CmpD.no (by decide) ?_
    | refine Chk.mk ⟨rfl, trivial⟩ ?_
    | refine Chk.mk ⟨rfl, rfl, trivial⟩ ?_
    | refine Chk.mk ⟨rfl, rfl, rfl, trivial⟩ ?_
    | refine Chk.mk ⟨rfl, rfl, rfl, rfl, trivial⟩ ?_
    | refine Chk.mk ⟨rfl, rfl, rfl, rfl, rfl, trivial⟩ ?_
    | refine Chk.mk ⟨rfl, rfl, rfl, rfl, rfl, rfl, trivial⟩ ?_)
  refine Tri.frame1 1 rfl (jk_Ring hj7 _) ?_
  rintro v _ A' _ ⟨rfl, rfl, rfl⟩
  refine ⟨_, rfl, ?_⟩
  rw [hC.s, hC.t, hC.u, hC.h]
  refine ring_cmp [16, 0, 16, 0] [16, 0, 16, 0] rfl (.inl rfl) rfl rfl rfl rfl ?_
  repeat (first
    | refine LoadD.own 0 rfl _ rfl rfl ?_
    | refine LoadD.own 1 rfl _ rfl rfl ?_
    | refine LoadP.at 0 rfl _ rfl rfl ?_
    | refine LoadP.at 1 rfl _ rfl rfl ?_
    | refine StoreD.st 0 rfl rfl rfl ?_
    | refine StoreD.st 1 rfl rfl rfl ?_
    | refine CmpD.yes rfl ?_
    | refine CmpD.yes (by decide) ?_
    | refine CmpD.no (by decide) ?_
    | refine Chk.mk ⟨rfl, trivial⟩ ?_
    | refine Chk.mk ⟨rfl, rfl, trivial⟩ ?_
    | refine Chk.mk ⟨rfl, rfl, rfl, trivial⟩ ?_
    | refine Chk.mk ⟨rfl, rfl, rfl, rfl, trivial⟩ ?_
    | refine Chk.mk ⟨rfl, rfl, rfl, rfl, rfl, trivial⟩ ?_
    | refine Chk.mk ⟨rfl, rfl, rfl, rfl, rfl, rfl, trivial⟩ ?_)
  refine Tri.free (ref_Of ((64 : Nat) : Int) _) ?_
  rintro v JL _ hJL ⟨rfl, rfl⟩
  rw [layA, if_neg (by omega)]
  conv => whnf
  intro bl
  repeat (first
    | refine LoadD.own 0 rfl _ rfl rfl ?_
    | refine LoadD.own 1 rfl _ rfl rfl ?_
    | refine LoadD.own 2 rfl _ rfl rfl ?_
    | refine LoadP.at 0 rfl _ rfl rfl ?_
    | refine LoadP.at 1 rfl _ rfl rfl ?_
    | refine LoadP.at 2 rfl _ rfl rfl ?_
    | refine StoreD.st 0 rfl rfl rfl ?_
    | refine StoreD.st 1 rfl rfl rfl ?_
    | refine StoreD.st 2 rfl rfl rfl ?_
    | refine CmpD.yes rfl ?_
    | refine CmpD.yes (by decide) ?_
    | refine CmpD.no (by decide) ?_
    | refine Chk.mk ⟨rfl, trivial⟩ ?_
    | refine Chk.mk ⟨rfl, rfl, trivial⟩ ?_
    | refine Chk.mk ⟨rfl, rfl, rfl, trivial⟩ ?_
    | refine Chk.mk ⟨rfl, rfl, rfl, rfl, trivial⟩ ?_
    | refine Chk.mk ⟨rfl, rfl, rfl, rfl, rfl, trivial⟩ ?_
    | refine Chk.mk ⟨rfl, rfl, rfl, rfl, rfl, rfl, trivial⟩ ?_)
  refine Tri.free (journal_Open0 (layOf 64) 1 1 0 _) ?_
  rintro v J' _ hJ' ⟨rfl, rfl⟩
  repeat (first
    | refine LoadD.own 0 rfl _ rfl rfl ?_
    | refine LoadD.own 1 rfl _ rfl rfl ?_
    | refine LoadD.own 2 rfl _ rfl rfl ?_
    | refine LoadP.at 0 rfl _ rfl rfl ?_
    | refine LoadP.at 1 rfl _ rfl rfl ?_
    | refine LoadP.at 2 rfl _ rfl rfl ?_
    | refine StoreD.st 0 rfl rfl rfl ?_
    | refine StoreD.st 1 rfl rfl rfl ?_
    | refine StoreD.st 2 rfl rfl rfl ?_
    | refine CmpD.yes rfl ?_
    | refine CmpD.yes (by decide) ?_
    | refine CmpD.no (by decide) ?_
    | refine Chk.mk ⟨rfl, trivial⟩ ?_
    | refine Chk.mk ⟨rfl, rfl, trivial⟩ ?_
    | refine Chk.mk ⟨rfl, rfl, rfl, trivial⟩ ?_
    | refine Chk.mk ⟨rfl, rfl, rfl, rfl, trivial⟩ ?_
    | refine Chk.mk ⟨rfl, rfl, rfl, rfl, rfl, trivial⟩ ?_
    | refine Chk.mk ⟨rfl, rfl, rfl, rfl, rfl, rfl, trivial⟩ ?_)
  refine Tri.frameX (jk_Open hD7 64 dC'.len (by omega) (layOf ((64 : Nat) : Int)) 0 1 0 (by unfold In64; omega)) [0] rfl rfl ?_
  rintro v J' A' hJ' (⟨_, rfl, rfl, rfl⟩ | ⟨h, _⟩)
  rotate_left
  · exact absurd h.2.1 (by omega)
  repeat (first
    | refine LoadD.own 0 rfl _ rfl rfl ?_
    | refine LoadD.own 1 rfl _ rfl rfl ?_
    | refine LoadD.own 2 rfl _ rfl rfl ?_
    | refine LoadD.own 3 rfl _ rfl rfl ?_
    | refine LoadP.at 0 rfl _ rfl rfl ?_
    | refine LoadP.at 1 rfl _ rfl rfl ?_
    | refine LoadP.at 2 rfl _ rfl rfl ?_
    | refine LoadP.at 3 rfl _ rfl rfl ?_
    | refine StoreD.st 0 rfl rfl rfl ?_
    | refine StoreD.st 1 rfl rfl rfl ?_
    | refine StoreD.st 2 rfl rfl rfl ?_
    | refine StoreD.st 3 rfl rfl rfl ?_
    | refine CmpD.yes rfl ?_
    | refine CmpD.yes (by decide) ?_
    | refine CmpD.no (by decide) ?_
    | refine Chk.mk ⟨rfl, trivial⟩ ?_
    | refine Chk.mk ⟨rfl, rfl, trivial⟩ ?_
    | refine Chk.mk ⟨rfl, rfl, rfl, trivial⟩ ?_
    | refine Chk.mk ⟨rfl, rfl, rfl, rfl, trivial⟩ ?_
    | refine Chk.mk ⟨rfl, rfl, rfl, rfl, rfl, trivial⟩ ?_
    | refine Chk.mk ⟨rfl, rfl, rfl, rfl, rfl, rfl, trivial⟩ ?_)
  refine Tri.frameX (jk_Open hD7 64 dC'.len (by omega) (layOf ((64 : Nat) : Int)) 1 1 16 (by unfold In64; omega)) [3] rfl rfl ?_
  rintro v J' A' hJ' (⟨_, rfl, rfl, rfl⟩ | ⟨h, _⟩)
  rotate_left
  · exact absurd h.2.2.2.2.2.2 (by rw [layL_64']; omega)
  repeat (first
    | refine LoadD.own 0 rfl _ rfl rfl ?_
    | refine LoadD.own 1 rfl _ rfl rfl ?_
    | refine LoadD.own 2 rfl _ rfl rfl ?_
    | refine LoadD.own 3 rfl _ rfl rfl ?_
    | refine LoadD.own 4 rfl _ rfl rfl ?_
    | refine LoadP.at 0 rfl _ rfl rfl ?_
    | refine LoadP.at 1 rfl _ rfl rfl ?_
    | refine LoadP.at 2 rfl _ rfl rfl ?_
    | refine LoadP.at 3 rfl _ rfl rfl ?_
    | refine LoadP.at 4 rfl _ rfl rfl ?_
    | refine StoreD.st 0 rfl rfl rfl ?_
    | refine StoreD.st 1 rfl rfl rfl ?_
    | refine StoreD.st 2 rfl rfl rfl ?_
    | refine StoreD.st 3 rfl rfl rfl ?_
    | refine StoreD.st 4 rfl rfl rfl ?_
    | refine CmpD.yes rfl ?_
    | refine CmpD.yes (by decide) ?_
    | refine CmpD.no (by decide) ?_
    | refine Chk.mk ⟨rfl, trivial⟩ ?_
    | refine Chk.mk ⟨rfl, rfl, trivial⟩ ?_
    | refine Chk.mk ⟨rfl, rfl, rfl, trivial⟩ ?_
    | refine Chk.mk ⟨rfl, rfl, rfl, rfl, trivial⟩ ?_
    | refine Chk.mk ⟨rfl, rfl, rfl, rfl, rfl, trivial⟩ ?_
    | refine Chk.mk ⟨rfl, rfl, rfl, rfl, rfl, rfl, trivial⟩ ?_)
  refine ToD.to ((layOf ((64 : Nat) : Int)).d + 1) rfl ?_
  repeat (first
    | refine LoadD.own 0 rfl _ rfl rfl ?_
    | refine LoadD.own 1 rfl _ rfl rfl ?_
    | refine LoadD.own 2 rfl _ rfl rfl ?_
    | refine LoadD.own 3 rfl _ rfl rfl ?_
    | refine LoadD.own 4 rfl _ rfl rfl ?_
    | refine LoadP.at 0 rfl _ rfl rfl ?_
    | refine LoadP.at 1 rfl _ rfl rfl ?_
    | refine LoadP.at 2 rfl _ rfl rfl ?_
    | refine LoadP.at 3 rfl _ rfl rfl ?_
    | refine LoadP.at 4 rfl _ rfl rfl ?_
    | refine StoreD.st 0 rfl rfl rfl ?_
    | refine StoreD.st 1 rfl rfl rfl ?_
    | refine StoreD.st 2 rfl rfl rfl ?_
    | refine StoreD.st 3 rfl rfl rfl ?_
    | refine StoreD.st 4 rfl rfl rfl ?_
    | refine CmpD.yes rfl ?_
    | refine CmpD.yes (by decide) ?_
    | refine CmpD.no (by decide) ?_
    | refine Chk.mk ⟨rfl, trivial⟩ ?_
    | refine Chk.mk ⟨rfl, rfl, trivial⟩ ?_
    | refine Chk.mk ⟨rfl, rfl, rfl, trivial⟩ ?_
    | refine Chk.mk ⟨rfl, rfl, rfl, rfl, trivial⟩ ?_
    | refine Chk.mk ⟨rfl, rfl, rfl, rfl, rfl, trivial⟩ ?_
    | refine Chk.mk ⟨rfl, rfl, rfl, rfl, rfl, rfl, trivial⟩ ?_)
  refine Tri.frameX (jk_Open hD7 64 dC'.len (by omega) { layOf ((64 : Nat) : Int) with d := (layOf ((64 : Nat) : Int)).d + 1 } 1 1 0 (by unfold In64; omega)) [4] rfl rfl ?_
  rintro v J' A' hJ' (⟨_, rfl, rfl, rfl⟩ | ⟨h, _⟩)
  rotate_left
  · have := congrArg Lay.d h.1
    dsimp only at this
    omega
  repeat (first
    | refine LoadD.own 0 rfl _ rfl rfl ?_
    | refine LoadD.own 1 rfl _ rfl rfl ?_
    | refine LoadD.own 2 rfl _ rfl rfl ?_
    | refine LoadD.own 3 rfl _ rfl rfl ?_
    | refine LoadD.own 4 rfl _ rfl rfl ?_
    | refine LoadD.own 5 rfl _ rfl rfl ?_
    | refine LoadP.at 0 rfl _ rfl rfl ?_
    | refine LoadP.at 1 rfl _ rfl rfl ?_
    | refine LoadP.at 2 rfl _ rfl rfl ?_
    | refine LoadP.at 3 rfl _ rfl rfl ?_
    | refine LoadP.at 4 rfl _ rfl rfl ?_
    | refine LoadP.at 5 rfl _ rfl rfl ?_
    | refine StoreD.st 0 rfl rfl rfl ?_
    | refine StoreD.st 1 rfl rfl rfl ?_
    | refine StoreD.st 2 rfl rfl rfl ?_
    | refine StoreD.st 3 rfl rfl rfl ?_
    | refine StoreD.st 4 rfl rfl rfl ?_
    | refine StoreD.st 5 rfl rfl rfl ?_
    | refine CmpD.yes rfl ?_
    | refine CmpD.yes (by decide) ?_
    | refine CmpD.no (by decide) ?_
    | refine Chk.mk ⟨rfl, trivial⟩ ?_
    | refine Chk.mk ⟨rfl, rfl, trivial⟩ ?_
    | refine Chk.mk ⟨rfl, rfl, rfl, trivial⟩ ?_
    | refine Chk.mk ⟨rfl, rfl, rfl, rfl, trivial⟩ ?_
    | refine Chk.mk ⟨rfl, rfl, rfl, rfl, rfl, trivial⟩ ?_
    | refine Chk.mk ⟨rfl, rfl, rfl, rfl, rfl, rfl, trivial⟩ ?_)
  refine Tri.frame1 5 rfl (dk_Arm hD7 0 (by unfold In64; omega)) ?_
  rw [a17]
  rintro v J' A' hJ' ⟨rfl, chDa, hDa, rfl⟩
  refine ⟨_, rfl, ?_⟩
  dsimp only at hDa
  repeat (first
    | refine LoadD.own 0 rfl _ rfl rfl ?_
    | refine LoadD.own 1 rfl _ rfl rfl ?_
    | refine LoadD.own 2 rfl _ rfl rfl ?_
    | refine LoadD.own 3 rfl _ rfl rfl ?_
    | refine LoadD.own 4 rfl _ rfl rfl ?_
    | refine LoadD.own 5 rfl _ rfl rfl ?_
    | refine LoadP.at 0 rfl _ rfl rfl ?_
    | refine LoadP.at 1 rfl _ rfl rfl ?_
    | refine LoadP.at 2 rfl _ rfl rfl ?_
    | refine LoadP.at 3 rfl _ rfl rfl ?_
    | refine LoadP.at 4 rfl _ rfl rfl ?_
    | refine LoadP.at 5 rfl _ rfl rfl ?_
    | refine StoreD.st 0 rfl rfl rfl ?_
    | refine StoreD.st 1 rfl rfl rfl ?_
    | refine StoreD.st 2 rfl rfl rfl ?_
    | refine StoreD.st 3 rfl rfl rfl ?_
    | refine StoreD.st 4 rfl rfl rfl ?_
    | refine StoreD.st 5 rfl rfl rfl ?_
    | refine CmpD.yes rfl ?_
    | refine CmpD.yes (by decide) ?_
    | refine CmpD.no (by decide) ?_
    | refine Chk.mk ⟨rfl, trivial⟩ ?_
    | refine Chk.mk ⟨rfl, rfl, trivial⟩ ?_
    | refine Chk.mk ⟨rfl, rfl, rfl, trivial⟩ ?_
    | refine Chk.mk ⟨rfl, rfl, rfl, rfl, trivial⟩ ?_
    | refine Chk.mk ⟨rfl, rfl, rfl, rfl, rfl, trivial⟩ ?_
    | refine Chk.mk ⟨rfl, rfl, rfl, rfl, rfl, rfl, trivial⟩ ?_)
  refine Tri.frame (jk_Flush hj7 hC.wf hDa) [1, 5] rfl rfl ?_
  rw [a18]
  rintro v JZ A' hJZ ⟨rfl, chJz, chDz, hjz, hDz, rfl⟩
  refine ⟨Nat.le_refl _, ?_⟩
  dsimp only at hjz hDz
  repeat (first
    | refine LoadD.own 0 rfl _ rfl rfl ?_
    | refine LoadD.own 1 rfl _ rfl rfl ?_
    | refine LoadD.own 2 rfl _ rfl rfl ?_
    | refine LoadD.own 3 rfl _ rfl rfl ?_
    | refine LoadD.own 4 rfl _ rfl rfl ?_
    | refine LoadD.own 5 rfl _ rfl rfl ?_
    | refine LoadP.at 0 rfl _ rfl rfl ?_
    | refine LoadP.at 1 rfl _ rfl rfl ?_
    | refine LoadP.at 2 rfl _ rfl rfl ?_
    | refine LoadP.at 3 rfl _ rfl rfl ?_
    | refine LoadP.at 4 rfl _ rfl rfl ?_
    | refine LoadP.at 5 rfl _ rfl rfl ?_
    | refine StoreD.st 0 rfl rfl rfl ?_
    | refine StoreD.st 1 rfl rfl rfl ?_
    | refine StoreD.st 2 rfl rfl rfl ?_
    | refine StoreD.st 3 rfl rfl rfl ?_
    | refine StoreD.st 4 rfl rfl rfl ?_
    | refine StoreD.st 5 rfl rfl rfl ?_
    | refine CmpD.yes rfl ?_
    | refine CmpD.yes (by decide) ?_
    | refine CmpD.no (by decide) ?_
    | refine Chk.mk ⟨rfl, trivial⟩ ?_
    | refine Chk.mk ⟨rfl, rfl, trivial⟩ ?_
    | refine Chk.mk ⟨rfl, rfl, rfl, trivial⟩ ?_
    | refine Chk.mk ⟨rfl, rfl, rfl, rfl, trivial⟩ ?_
    | refine Chk.mk ⟨rfl, rfl, rfl, rfl, rfl, trivial⟩ ?_
    | refine Chk.mk ⟨rfl, rfl, rfl, rfl, rfl, rfl, trivial⟩ ?_)
  refine Tri.frame1 1 rfl (jk_Broken hjz _) ?_
  rw [a22]
  rintro v _ A' _ ⟨rfl, rfl, rfl⟩
  refine ⟨_, rfl, ?_⟩
  repeat (first
    | refine LoadD.own 0 rfl _ rfl rfl ?_
    | refine LoadD.own 1 rfl _ rfl rfl ?_
    | refine LoadD.own 2 rfl _ rfl rfl ?_
    | refine LoadD.own 3 rfl _ rfl rfl ?_
    | refine LoadD.own 4 rfl _ rfl rfl ?_
    | refine LoadD.own 5 rfl _ rfl rfl ?_
    | refine LoadP.at 0 rfl _ rfl rfl ?_
    | refine LoadP.at 1 rfl _ rfl rfl ?_
    | refine LoadP.at 2 rfl _ rfl rfl ?_
    | refine LoadP.at 3 rfl _ rfl rfl ?_
    | refine LoadP.at 4 rfl _ rfl rfl ?_
    | refine LoadP.at 5 rfl _ rfl rfl ?_
    | refine StoreD.st 0 rfl rfl rfl ?_
    | refine StoreD.st 1 rfl rfl rfl ?_
    | refine StoreD.st 2 rfl rfl rfl ?_
    | refine StoreD.st 3 rfl rfl rfl ?_
    | refine StoreD.st 4 rfl rfl rfl ?_
    | refine StoreD.st 5 rfl rfl rfl ?_
    | refine CmpD.yes rfl ?_
    | refine CmpD.yes (by decide) ?_
    | refine CmpD.no (by decide) ?_
    | refine Chk.mk ⟨rfl, trivial⟩ ?_
    | refine Chk.mk ⟨rfl, rfl, trivial⟩ ?_
    | refine Chk.mk ⟨rfl, rfl, rfl, trivial⟩ ?_
    | refine Chk.mk ⟨rfl, rfl, rfl, rfl, trivial⟩ ?_
    | refine Chk.mk ⟨rfl, rfl, rfl, rfl, rfl, trivial⟩ ?_
    | refine Chk.mk ⟨rfl, rfl, rfl, rfl, rfl, rfl, trivial⟩ ?_)
  refine Tri.frame1 1 rfl (jk_Reserve hjz wX 0 _) ?_
  rw [a19]
  rintro v _ A' _ ⟨rfl, rfl, chZ1, hz1, rfl⟩
  refine ⟨_, rfl, ?_⟩
  dsimp only at hz1
  repeat (first
    | refine LoadD.own 0 rfl _ rfl rfl ?_
    | refine LoadD.own 1 rfl _ rfl rfl ?_
    | refine LoadD.own 2 rfl _ rfl rfl ?_
    | refine LoadD.own 3 rfl _ rfl rfl ?_
    | refine LoadD.own 4 rfl _ rfl rfl ?_
    | refine LoadD.own 5 rfl _ rfl rfl ?_
    | refine LoadP.at 0 rfl _ rfl rfl ?_
    | refine LoadP.at 1 rfl _ rfl rfl ?_
    | refine LoadP.at 2 rfl _ rfl rfl ?_
    | refine LoadP.at 3 rfl _ rfl rfl ?_
    | refine LoadP.at 4 rfl _ rfl rfl ?_
    | refine LoadP.at 5 rfl _ rfl rfl ?_
    | refine StoreD.st 0 rfl rfl rfl ?_
    | refine StoreD.st 1 rfl rfl rfl ?_
    | refine StoreD.st 2 rfl rfl rfl ?_
    | refine StoreD.st 3 rfl rfl rfl ?_
    | refine StoreD.st 4 rfl rfl rfl ?_
    | refine StoreD.st 5 rfl rfl rfl ?_
    | refine CmpD.yes rfl ?_
    | refine CmpD.yes (by decide) ?_
    | refine CmpD.no (by decide) ?_
    | refine Chk.mk ⟨rfl, trivial⟩ ?_
    | refine Chk.mk ⟨rfl, rfl, trivial⟩ ?_
    | refine Chk.mk ⟨rfl, rfl, rfl, trivial⟩ ?_
    | refine Chk.mk ⟨rfl, rfl, rfl, rfl, trivial⟩ ?_
    | refine Chk.mk ⟨rfl, rfl, rfl, rfl, rfl, trivial⟩ ?_
    | refine Chk.mk ⟨rfl, rfl, rfl, rfl, rfl, rfl, trivial⟩ ?_)
  refine Tri.frame1 1 rfl (jk_Cancel hz1 wX 0 _) ?_
  rw [a20]
  rintro v _ A' _ ⟨rfl, rfl, chZ2, hz2, rfl⟩
  refine ⟨_, rfl, ?_⟩
  dsimp only at hz2
  repeat (first
    | refine LoadD.own 0 rfl _ rfl rfl ?_
    | refine LoadD.own 1 rfl _ rfl rfl ?_
    | refine LoadD.own 2 rfl _ rfl rfl ?_
    | refine LoadD.own 3 rfl _ rfl rfl ?_
    | refine LoadD.own 4 rfl _ rfl rfl ?_
    | refine LoadD.own 5 rfl _ rfl rfl ?_
    | refine LoadP.at 0 rfl _ rfl rfl ?_
    | refine LoadP.at 1 rfl _ rfl rfl ?_
    | refine LoadP.at 2 rfl _ rfl rfl ?_
    | refine LoadP.at 3 rfl _ rfl rfl ?_
    | refine LoadP.at 4 rfl _ rfl rfl ?_
    | refine LoadP.at 5 rfl _ rfl rfl ?_
    | refine StoreD.st 0 rfl rfl rfl ?_
    | refine StoreD.st 1 rfl rfl rfl ?_
    | refine StoreD.st 2 rfl rfl rfl ?_
    | refine StoreD.st 3 rfl rfl rfl ?_
    | refine StoreD.st 4 rfl rfl rfl ?_
    | refine StoreD.st 5 rfl rfl rfl ?_
    | refine CmpD.yes rfl ?_
    | refine CmpD.yes (by decide) ?_
    | refine CmpD.no (by decide) ?_
    | refine Chk.mk ⟨rfl, trivial⟩ ?_
    | refine Chk.mk ⟨rfl, rfl, trivial⟩ ?_
    | refine Chk.mk ⟨rfl, rfl, rfl, trivial⟩ ?_
    | refine Chk.mk ⟨rfl, rfl, rfl, rfl, trivial⟩ ?_
    | refine Chk.mk ⟨rfl, rfl, rfl, rfl, rfl, trivial⟩ ?_
    | refine Chk.mk ⟨rfl, rfl, rfl, rfl, rfl, rfl, trivial⟩ ?_)
  refine Tri.frame1 1 rfl (jk_Release hz2 wX 99 _) ?_
  rw [a21]
  rintro v _ A' _ ⟨rfl, rfl, chZ3, hz3, rfl⟩
  refine ⟨_, rfl, ?_⟩
  repeat (first
    | refine LoadD.own 0 rfl _ rfl rfl ?_
    | refine LoadD.own 1 rfl _ rfl rfl ?_
    | refine LoadD.own 2 rfl _ rfl rfl ?_
    | refine LoadD.own 3 rfl _ rfl rfl ?_
    | refine LoadD.own 4 rfl _ rfl rfl ?_
    | refine LoadD.own 5 rfl _ rfl rfl ?_
    | refine LoadP.at 0 rfl _ rfl rfl ?_
    | refine LoadP.at 1 rfl _ rfl rfl ?_
    | refine LoadP.at 2 rfl _ rfl rfl ?_
    | refine LoadP.at 3 rfl _ rfl rfl ?_
    | refine LoadP.at 4 rfl _ rfl rfl ?_
    | refine LoadP.at 5 rfl _ rfl rfl ?_
    | refine StoreD.st 0 rfl rfl rfl ?_
    | refine StoreD.st 1 rfl rfl rfl ?_
    | refine StoreD.st 2 rfl rfl rfl ?_
    | refine StoreD.st 3 rfl rfl rfl ?_
    | refine StoreD.st 4 rfl rfl rfl ?_
    | refine StoreD.st 5 rfl rfl rfl ?_
    | refine CmpD.yes rfl ?_
    | refine CmpD.yes (by decide) ?_
    | refine CmpD.no (by decide) ?_
    | refine Chk.mk ⟨rfl, trivial⟩ ?_
    | refine Chk.mk ⟨rfl, rfl, trivial⟩ ?_
    | refine Chk.mk ⟨rfl, rfl, rfl, trivial⟩ ?_
    | refine Chk.mk ⟨rfl, rfl, rfl, rfl, trivial⟩ ?_
    | refine Chk.mk ⟨rfl, rfl, rfl, rfl, rfl, trivial⟩ ?_
    | refine Chk.mk ⟨rfl, rfl, rfl, rfl, rfl, rfl, trivial⟩ ?_)
  refine Tri.mono (awake08 _ _) ?_
  rintro v J' S' hJ' rfl
  exact Done.mk rfl
end Go.Proofs.Ytbpdbgcndfcilaa
namespace Go.Proofs.Ytbpdbgcndfcilaa
open Go.RowKit Go.Sl
set_option maxRecDepth 20000

theorem get_none {b : Dat} (h : ∀ s, supL s ≠ b) : getS b = none := by
  unfold getS; rw [if_neg (fun h' => h _ h'.2)]
theorem get_zeros : getS (List.replicate 4096 0) = none := get_none fun s h => by
  have e := congrArg (·[0]?) h
  have e1 : (supL s)[0]? = some 76 := rfl
  have e2 : (List.replicate 4096 (0 : UInt8))[0]? = some 0 := by rw [List.getElem?_replicate, if_pos (by omega)]
  simp only [e1, e2] at e
  exact absurd e (by decide)
theorem get_nil : getS [] = none := get_none fun s h => by
  have e := congrArg List.length h
  rw [supL_length] at e; cases e
theorem replay_Do0 (s : Sup) (slot : Int) (I : Imm) (S : St) : Tri Try.prog 60 #[.pointer none, .slice none 0 0, s.v, .int .i64 slot] I S fun v J S' => v = .int .i64 1 ∧ I = J ∧ S' = S := by
  refine Tri.free (Q := fun v J _ => v = .int .i64 1 ∧ I = J) ?_ (fun v J _ _ h => ⟨h.1, h.2, rfl⟩)
  refine Tri.of (args := [.pointer none, .slice none 0 0, s.v, .int .i64 slot]) tabOk Try.func60 rfl (by kernel_rfl) (by kernel_rfl) ?_
  conv => whnf
  intro b
  refine Tri.nf (disk_Size0 I _) ?_
  rintro v J S' hJ ⟨rfl, rfl, rfl⟩
  repeat (first
    | refine LoadD.own 0 rfl _ rfl rfl ?_
    | refine LoadP.at 0 rfl _ rfl rfl ?_
    | refine StoreD.st 0 rfl rfl rfl ?_
    | refine CmpD.yes rfl ?_
    | refine CmpD.yes (by decide) ?_
    | refine CmpD.no (by decide) ?_
    | refine Chk.mk ⟨rfl, trivial⟩ ?_
    | refine Chk.mk ⟨rfl, rfl, trivial⟩ ?_
    | refine Chk.mk ⟨rfl, rfl, rfl, trivial⟩ ?_
    | refine Chk.mk ⟨rfl, rfl, rfl, rfl, trivial⟩ ?_
    | refine Chk.mk ⟨rfl, rfl, rfl, rfl, rfl, trivial⟩ ?_
    | refine Chk.mk ⟨rfl, rfl, rfl, rfl, rfl, rfl, trivial⟩ ?_)
  exact Done.mk ⟨rfl, rfl⟩
theorem flush_calm {d : DSt} (h : d.Calm) : d.flush = ({ d with safe := d.now, writes := [] }, 0) := by
  unfold DSt.flush; rw [DSt.stop_calm h]; simp
theorem num_do (s : Sup) (hs : RightS s) (m : Dat) (hm : m.length = 4096) : ∃ d1, doP (DSt.of (List.replicate 64 noughts)) [(30, m)] s 1 = (d1, 0) ∧ d1.Calm ∧ d1.now.length = 64 ∧ d1.writes = [] ∧ d1.count = 2 ∧ d1.read 1 = (supL s, 0) ∧ d1.read 30 = (m, 0) := by
  have c0 : (DSt.of (List.replicate 64 noughts)).Calm := fresh_calm _
  have n0 : (DSt.of (List.replicate 64 noughts)).now.length = 64 := List.length_replicate ..
  have k0 : (DSt.of (List.replicate 64 noughts)).count = 0 := rfl
  generalize DSt.of (List.replicate 64 noughts) = d at *
  have hok : DoOk d [(30, m)] := by
    intro g hg
    simp only [List.mem_singleton] at hg
    subst hg
    exact ⟨by show (2:Int) ≤ 30; decide, by rw [n0]; show (30:Int) < 64; decide, hm⟩
  have w1 : d.write 30 m = (d.put 30 m, 0) := DSt.write_calm c0 (by rw [n0]; decide) hm
  have c1 : (d.put 30 m).Calm := c0
  have f1 : (d.put 30 m).flush = ({ d.put 30 m with safe := (d.put 30 m).now, writes := [] }, 0) := flush_calm c1
  have n1 : (d.put 30 m).now.length = 64 := by rw [DSt.put_len, n0]
  obtain ⟨e, he⟩ : ∃ e, e = ({ d.put 30 m with safe := (d.put 30 m).now, writes := [] } : DSt) := ⟨_, rfl⟩
  rw [← he] at f1
  have ce : e.Calm := by rw [he]; exact c1
  have ne : e.now = (d.put 30 m).now := by rw [he]
  have ke : e.count = 1 := by rw [he]; show d.count + 1 = 1; rw [k0]; rfl
  have w2 : e.write 1 (supL s) = (e.put 1 (supL s), 0) := DSt.write_calm ce (by rw [ne, n1]; decide) (supL_length s)
  have f2 : (e.put 1 (supL s)).flush = ({ e.put 1 (supL s) with safe := (e.put 1 (supL s)).now, writes := [] }, 0) := flush_calm ce
  have nf : (e.put 1 (supL s)).now.length = 64 := by rw [DSt.put_len, ne, n1]
  have hne : e.now.length = 64 := by rw [ne, n1]
  have hnw : (e.put 1 (supL s)).now = ((d.now.set 30 m).set 1 (supL s)) := by show e.now.set _ _ = _; rw [ne]; rfl
  refine ⟨{ e.put 1 (supL s) with safe := (e.put 1 (supL s)).now, writes := [] }, ?_, ce, nf, rfl, ?_, ?_, ?_⟩
  · unfold doP lastWr
    rw [if_neg (by rintro (h | h | h | h); exact h hs; exact absurd h (by decide); exact absurd h (by decide); exact h hok)]
    simp only [wrImgs, w1]
    simp [f1, w2, f2]
  · show e.count + 1 = 2; rw [ke]; rfl
  · unfold DSt.read
    rw [if_neg (by rw [show ({ e.put 1 (supL s) with safe := (e.put 1 (supL s)).now, writes := [] } : DSt).now.length = 64 from nf]; decide), if_neg (by rw [show ({ e.put 1 (supL s) with safe := (e.put 1 (supL s)).now, writes := [] } : DSt).down = e.down from rfl, ce.1]; simp)]
    show ((e.put 1 (supL s)).now.getD 1 [], (0 : Int)) = _
    rw [hnw, List.getD_eq_getElem?_getD, List.getElem?_set_self (by rw [List.length_set, n0]; decide)]; rfl
  · unfold DSt.read
    rw [if_neg (by rw [show ({ e.put 1 (supL s) with safe := (e.put 1 (supL s)).now, writes := [] } : DSt).now.length = 64 from nf]; decide), if_neg (by rw [show ({ e.put 1 (supL s) with safe := (e.put 1 (supL s)).now, writes := [] } : DSt).down = e.down from rfl, ce.1]; simp)]
    show ((e.put 1 (supL s)).now.getD 30 [], (0 : Int)) = _
    rw [hnw, List.getD_eq_getElem?_getD, List.getElem?_set_ne (by decide), List.getElem?_set_self (by rw [n0]; decide)]; rfl
theorem do_wrong {d : DSt} {l : List PImg} {s : Sup} {slot : Int} (h : ¬ RightS s ∨ slot < 0 ∨ 1 < slot ∨ ¬ DoOk d l) : doP d l s slot = (d, 2) := by unfold doP; rw [if_pos h]
theorem lay64 : (layOf 64).bi = 18 ∧ (layOf 64).b = 64 := ⟨by show 2 + layL ((64 : Nat) : Int) = 18; rw [layL_64']; rfl, rfl⟩
theorem home_bad {x : Int} {m : Dat} (h : x < 18 ∨ 64 ≤ x) : ¬ HomeOk (layOf 64) [(x, m)] := by
  intro h'
  have := h' (x, m) (by simp)
  rw [lay64.1, lay64.2] at this
  dsimp only at this
  omega
theorem one_grp {I : Imm} {S : St} {b1 b2 : Nat} {k1 k2 : Nat} {x : Int} {aM : Option Addr} {m : Dat} {T1 T2 : TypeId} (h1 : S[k1]? = some [(b1, row [.int .i64 x, .slice aM 4096 4096] T1)]) (h2 : S[k2]? = some [(b2, row [.int .i64 0, .int .i64 0, .slice (some ⟨b1, 0, none⟩) 1 1] T2)]) (hm : Rds I aM 4096 (bts m)) :
    GrpsR I S (some ⟨b2, 0, none⟩) [⟨0, 0, some ⟨b1, 0, none⟩, 1, [⟨x, aM, 4096, 4096, m⟩]⟩] := by
  refine ⟨⟨rfl, .inr ⟨b2, 0, rfl, _, _, _, .own k2 (mem_getD h2 (List.mem_singleton.2 rfl)), rfl, rfl⟩⟩, ?_⟩
  intro g hg
  simp only [List.mem_singleton] at hg
  subst hg
  refine ⟨⟨⟨rfl, .inr ⟨b1, 0, rfl, _, _, _, .own k1 (mem_getD h1 (List.mem_singleton.2 rfl)), rfl, rfl⟩⟩, ?_⟩, by simp⟩
  intro g hg
  simp only [List.mem_singleton] at hg
  subst hg
  exact ⟨hm.slC⟩
theorem two_grp {I : Imm} {S : St} {b1 b2 : Nat} {k1 k2 : Nat} {x y : Int} {aM aN : Option Addr} {m n : Dat} {T1 T2 : TypeId} (h1 : S[k1]? = some [(b1, row [.int .i64 x, .slice aM 4096 4096, .int .i64 y, .slice aN 4096 4096] T1)]) (h2 : S[k2]? = some [(b2, row [.int .i64 0, .int .i64 0, .slice (some ⟨b1, 0, none⟩) 2 2] T2)]) (hm : Rds I aM 4096 (bts m)) (hn : Rds I aN 4096 (bts n)) :
    GrpsR I S (some ⟨b2, 0, none⟩) [⟨0, 0, some ⟨b1, 0, none⟩, 2, [⟨x, aM, 4096, 4096, m⟩, ⟨y, aN, 4096, 4096, n⟩]⟩] := by
  refine ⟨⟨rfl, .inr ⟨b2, 0, rfl, _, _, _, .own k2 (mem_getD h2 (List.mem_singleton.2 rfl)), rfl, rfl⟩⟩, ?_⟩
  intro g hg
  simp only [List.mem_singleton] at hg
  subst hg
  refine ⟨⟨⟨rfl, .inr ⟨b1, 0, rfl, _, _, _, .own k1 (mem_getD h1 (List.mem_singleton.2 rfl)), rfl, rfl⟩⟩, ?_⟩, by simp⟩
  intro g hg
  simp only [List.mem_cons, List.not_mem_nil, or_false] at hg
  rcases hg with rfl | rfl
  · exact ⟨hm.slC⟩
  · exact ⟨hn.slC⟩
theorem home_two (x y : Dat) : homeP [(18, x), (63, y)] = [(18, x), (63, y)] := by
  have h : lastP [(18, x), (63, y)] = [(18, x), (63, y)] := by simp [lastP, pput]
  unfold homeP
  rw [h, show List.map Prod.fst [((18 : Int), x), (63, y)] = [18, 63] from rfl, sortI_of (m := [18, 63]) (List.Perm.refl _) (by decide)]
  rfl
theorem home_few {I : Imm} {S : St} {aG : Option Addr} {capG : Nat} {l : List Grp} (hG : GrpsR I S aG l) (hl : l.length ≤ 1000000) (hall : (allI l).length ≤ 1000000) (hfew : ∀ g ∈ allI l, g.len ≤ 100000000) (x : Lay) (hx : 64 ≤ x.b ∧ x.b ≤ 512 ∧ x = layOf x.b.toNat) (hok : HomeOk x (allP l)) :
    Tri Try.prog 50 #[x.v, .slice aG l.length capG] I S fun v _ S' => ∃ aO capO, v = .tuple #[.slice aO (homeP (allP l)).length capO, .int .i64 0] ∧ S' = [] := by
  refine Tri.drop (home_any hG hl hall hfew x) ?_
  rintro v J S' hJ (⟨h, _⟩ | ⟨_, h, _⟩ | ⟨_, _, aO, capO, chO, chs, outs, rfl, hO, hcs, hpr, rfl⟩)
  · exact absurd hx h
  · exact absurd hok h
  · exact ⟨[], Drop.pick [] _ rfl, aO, capO, by rw [← hpr, List.length_map], rfl⟩
theorem imgs_fixed {J : Imm} {b : Nat} {x : Int} {aM : Option Addr} {len cap : Nat} {m : Dat} {T : TypeId} (hx : In64 x) (hm : ∀ y ∈ [(b, row [.int .i64 x, .slice aM len cap] T)], J y.1 = some y.2) (h : Rds J aM len (bts m)) : ImgsOk J (some ⟨b, 0, none⟩) [⟨x, aM, len, cap, m⟩] :=
  ⟨⟨rfl, .inr ⟨b, 0, _, _, _, rfl, hm _ (List.mem_singleton.2 rfl), rfl⟩⟩, by intro g hg; simp only [List.mem_singleton] at hg; subst hg; exact ⟨hx, h⟩⟩
theorem do_bad {d : DSt} {x : Int} {m : Dat} (h : ¬ (2 ≤ x ∧ x < d.now.length ∧ m.length = 4096)) : ¬ DoOk d [(x, m)] := fun h' => h (h' (x, m) (by simp))
set_option maxHeartbeats 8000000 in
theorem replayNumbers_walk (I : Imm) : Tri Try.prog 11 #[] I [] fun v _ _ => v = .bool true := by
  refine Tri.of (args := []) tabOk Try.func11 rfl (by kernel_rfl) (by kernel_rfl) ?_
  refine Tri.free (law_bytes 1 5 (right_of _ _ (by decide) (by decide)) _) ?_
  rintro v Ja1 _ hJa1 ⟨aa1, ca1, rfl, ha1⟩
  refine Tri.free (law_bytes 1 6 (right_of _ _ (by decide) (by decide)) _) ?_
  rintro v Jb1 _ hJb1 ⟨ab1, cb1, rfl, hb1⟩
  refine Tri.free (replay_Choose (ha1.mono hJb1) hb1 (by decide) (by decide)) ?_
  rintro v Jc1 _ hJc1 ⟨rfl, rfl⟩
  rw [get_supL (right_of _ _ (by decide) (by decide)), get_supL (right_of _ _ (by decide) (by decide))]
  rw [show chooseP (some (superOf 1 5)) (some (superOf 1 6)) = (superOf 1 6, 1, true) from by rw [chooseP, if_neg (by decide)]]
  conv => whnf
  intro b1
  repeat (first
    | refine LoadD.own 0 rfl _ rfl rfl ?_
    | refine LoadD.own 1 rfl _ rfl rfl ?_
    | refine LoadD.own 2 rfl _ rfl rfl ?_
    | refine LoadD.own 3 rfl _ rfl rfl ?_
    | refine LoadP.at 0 rfl _ rfl rfl ?_
    | refine LoadP.at 1 rfl _ rfl rfl ?_
    | refine LoadP.at 2 rfl _ rfl rfl ?_
    | refine LoadP.at 3 rfl _ rfl rfl ?_
    | refine StoreD.st 0 rfl rfl rfl ?_
    | refine StoreD.st 1 rfl rfl rfl ?_
    | refine StoreD.st 2 rfl rfl rfl ?_
    | refine StoreD.st 3 rfl rfl rfl ?_
    | refine CmpD.yes rfl ?_
    | refine CmpD.yes (by decide) ?_
    | refine CmpD.no (by decide) ?_
    | refine Chk.mk ⟨rfl, trivial⟩ ?_
    | refine Chk.mk ⟨rfl, rfl, trivial⟩ ?_
    | refine Chk.mk ⟨rfl, rfl, rfl, trivial⟩ ?_
    | refine Chk.mk ⟨rfl, rfl, rfl, rfl, trivial⟩ ?_
    | refine Chk.mk ⟨rfl, rfl, rfl, rfl, rfl, trivial⟩ ?_
    | refine Chk.mk ⟨rfl, rfl, rfl, rfl, rfl, rfl, trivial⟩ ?_)
  refine Tri.free (law_bytes 1 5 (right_of _ _ (by decide) (by decide)) _) ?_
  rintro v Ja2 _ hJa2 ⟨aa2, ca2, rfl, ha2⟩
  refine Tri.free (law_bytes 1 5 (right_of _ _ (by decide) (by decide)) _) ?_
  rintro v Jb2 _ hJb2 ⟨ab2, cb2, rfl, hb2⟩
  refine Tri.free (replay_Choose (ha2.mono hJb2) hb2 (by decide) (by decide)) ?_
  rintro v Jc2 _ hJc2 ⟨rfl, rfl⟩
  rw [get_supL (right_of _ _ (by decide) (by decide))]
  rw [show chooseP (some (superOf 1 5)) (some (superOf 1 5)) = (superOf 1 5, 0, true) from by rw [chooseP, if_pos (by decide)]]
  conv => whnf
  intro b4
  repeat (first
    | refine LoadD.own 0 rfl _ rfl rfl ?_
    | refine LoadD.own 1 rfl _ rfl rfl ?_
    | refine LoadD.own 2 rfl _ rfl rfl ?_
    | refine LoadD.own 3 rfl _ rfl rfl ?_
    | refine LoadP.at 0 rfl _ rfl rfl ?_
    | refine LoadP.at 1 rfl _ rfl rfl ?_
    | refine LoadP.at 2 rfl _ rfl rfl ?_
    | refine LoadP.at 3 rfl _ rfl rfl ?_
    | refine StoreD.st 0 rfl rfl rfl ?_
    | refine StoreD.st 1 rfl rfl rfl ?_
    | refine StoreD.st 2 rfl rfl rfl ?_
    | refine StoreD.st 3 rfl rfl rfl ?_
    | refine CmpD.yes rfl ?_
    | refine CmpD.yes (by decide) ?_
    | refine CmpD.no (by decide) ?_
    | refine Chk.mk ⟨rfl, trivial⟩ ?_
    | refine Chk.mk ⟨rfl, rfl, trivial⟩ ?_
    | refine Chk.mk ⟨rfl, rfl, rfl, trivial⟩ ?_
    | refine Chk.mk ⟨rfl, rfl, rfl, rfl, trivial⟩ ?_
    | refine Chk.mk ⟨rfl, rfl, rfl, rfl, rfl, trivial⟩ ?_
    | refine Chk.mk ⟨rfl, rfl, rfl, rfl, rfl, rfl, trivial⟩ ?_)
  refine CodeF.cutD [2, 3, 5, 6, 8, 9] (fun vs _ S' => vs = [.int .i64 1, .bool true, .int .i64 0, .bool true, .int .i64 1, .bool true] ∧ S' = []) ?_ ?_
  · refine CodeF.schedT [[], [], [0, 1], [0, 1, 2], [0, 1, 2, 3], [0, 1, 2, 3], [0, 1, 2, 3], [], [0, 1, 2, 3, 4, 7], [0, 1, 2, 3, 4, 5, 7, 8], [0, 1, 2, 3, 4, 5, 6, 7, 8, 9]] (.alt (.ef 0 (.alt (.ef 1 (.alt (.ef 2 (.rd 3 (.rd 4 (.rd 5 (.rd 6 (.ef 7 (.ef 8 (.rd 9 (.rd 10 .nil))))))))) (.ef 7 (.ef 2 (.rd 3 (.rd 4 (.rd 5 (.rd 6 (.ef 8 (.rd 9 (.rd 10 .nil))))))))))) (.ef 7 (.ef 1 (.ef 2 (.rd 3 (.rd 4 (.rd 5 (.rd 6 (.ef 8 (.rd 9 (.rd 10 .nil)))))))))))) (.alt (.ef 1 (.alt (.ef 0 (.alt (.ef 2 (.rd 3 (.rd 4 (.rd 5 (.rd 6 (.ef 7 (.ef 8 (.rd 9 (.rd 10 .nil))))))))) (.ef 7 (.ef 2 (.rd 3 (.rd 4 (.rd 5 (.rd 6 (.ef 8 (.rd 9 (.rd 10 .nil))))))))))) (.ef 7 (.ef 0 (.ef 2 (.rd 3 (.rd 4 (.rd 5 (.rd 6 (.ef 8 (.rd 9 (.rd 10 .nil)))))))))))) (.ef 7 (.alt (.ef 0 (.ef 1 (.ef 2 (.rd 3 (.rd 4 (.rd 5 (.rd 6 (.ef 8 (.rd 9 (.rd 10 .nil)))))))))) (.ef 1 (.ef 0 (.ef 2 (.rd 3 (.rd 4 (.rd 5 (.rd 6 (.ef 8 (.rd 9 (.rd 10 .nil)))))))))))))) (by kernel_rfl) ?_
    refine And.intro ?_ ?_
    · skip
      refine makeD tabOk rfl rfl rfl 4096 4096 rfl rfl (Nat.le_refl _) (by show 1 * 4096 ≤ _; decide) (by decide) (by show 4096 * 1 ≤ _; decide) rfl (by decide) ?_
      intro bM
      refine And.intro ?_ ?_
      · skip
        refine Tri.free (law_bytes 1 1 (right_of _ _ (by decide) (by decide)) _) ?_
        rintro v JB _ hJB ⟨aB, cB, rfl, hB⟩
        refine And.intro ?_ ?_
        · skip
          refine Tri.fix 2 rfl fun I' hI' hm => ?_
          refine Tri.free (replay_Choose (l1 := List.replicate 4096 0) (Rds.of_own (cap := 4096) (by show OwnC _ 1 _ _ _ _; rw [show bts (List.replicate 4096 0) = rows 4096 [Value.int .u8 0] from (zeros_bts 4096).symm]; exact OwnC.whole (by rw [rows_length]; rfl)) hm) (hB.mono hI') (by decide) (by decide)) ?_
          rintro v JC _ hJC ⟨rfl, rfl⟩
          rw [get_zeros, get_supL (right_of _ _ (by decide) (by decide))]
          rw [show chooseP none (some (superOf 1 1)) = (superOf 1 1, 1, true) from rfl]
          conv => whnf
          intro b7
          refine StoreD.st 3 rfl rfl rfl ?_
          exact ⟨[], ⟨_, List.Perm.refl _⟩, rfl, rfl⟩
        · skip
          conv => whnf
          intro b7
          refine Tri.fix 2 rfl fun I' hI' hm => ?_
          refine Tri.free (replay_Choose (l1 := List.replicate 4096 0) (Rds.of_own (cap := 4096) (by show OwnC _ 1 _ _ _ _; rw [show bts (List.replicate 4096 0) = rows 4096 [Value.int .u8 0] from (zeros_bts 4096).symm]; exact OwnC.whole (by rw [rows_length]; rfl)) hm) (hB.mono hI') (by decide) (by decide)) ?_
          rintro v JC _ hJC ⟨rfl, rfl⟩
          rw [get_zeros, get_supL (right_of _ _ (by decide) (by decide))]
          rw [show chooseP none (some (superOf 1 1)) = (superOf 1 1, 1, true) from rfl]
          refine StoreD.st 3 rfl rfl rfl ?_
          exact ⟨[], ⟨_, List.Perm.refl _⟩, rfl, rfl⟩
      · skip
        conv => whnf
        intro b7
        refine Tri.free (law_bytes 1 1 (right_of _ _ (by decide) (by decide)) _) ?_
        rintro v JB _ hJB ⟨aB, cB, rfl, hB⟩
        refine Tri.fix 2 rfl fun I' hI' hm => ?_
        refine Tri.free (replay_Choose (l1 := List.replicate 4096 0) (Rds.of_own (cap := 4096) (by show OwnC _ 1 _ _ _ _; rw [show bts (List.replicate 4096 0) = rows 4096 [Value.int .u8 0] from (zeros_bts 4096).symm]; exact OwnC.whole (by rw [rows_length]; rfl)) hm) (hB.mono hI') (by decide) (by decide)) ?_
        rintro v JC _ hJC ⟨rfl, rfl⟩
        rw [get_zeros, get_supL (right_of _ _ (by decide) (by decide))]
        rw [show chooseP none (some (superOf 1 1)) = (superOf 1 1, 1, true) from rfl]
        refine StoreD.st 3 rfl rfl rfl ?_
        exact ⟨[], ⟨_, List.Perm.refl _⟩, rfl, rfl⟩
    · skip
      refine And.intro ?_ ?_
      · skip
        refine Tri.free (law_bytes 1 1 (right_of _ _ (by decide) (by decide)) _) ?_
        rintro v JB _ hJB ⟨aB, cB, rfl, hB⟩
        refine And.intro ?_ ?_
        · skip
          refine makeD tabOk rfl rfl rfl 4096 4096 rfl rfl (Nat.le_refl _) (by show 1 * 4096 ≤ _; decide) (by decide) (by show 4096 * 1 ≤ _; decide) rfl (by decide) ?_
          intro bM
          refine And.intro ?_ ?_
          · skip
            refine Tri.fix 2 rfl fun I' hI' hm => ?_
            refine Tri.free (replay_Choose (l1 := List.replicate 4096 0) (Rds.of_own (cap := 4096) (by show OwnC _ 1 _ _ _ _; rw [show bts (List.replicate 4096 0) = rows 4096 [Value.int .u8 0] from (zeros_bts 4096).symm]; exact OwnC.whole (by rw [rows_length]; rfl)) hm) (hB.mono hI') (by decide) (by decide)) ?_
            rintro v JC _ hJC ⟨rfl, rfl⟩
            rw [get_zeros, get_supL (right_of _ _ (by decide) (by decide))]
            rw [show chooseP none (some (superOf 1 1)) = (superOf 1 1, 1, true) from rfl]
            conv => whnf
            intro b7
            refine StoreD.st 3 rfl rfl rfl ?_
            exact ⟨[], ⟨_, List.Perm.refl _⟩, rfl, rfl⟩
          · skip
            conv => whnf
            intro b7
            refine Tri.fix 2 rfl fun I' hI' hm => ?_
            refine Tri.free (replay_Choose (l1 := List.replicate 4096 0) (Rds.of_own (cap := 4096) (by show OwnC _ 1 _ _ _ _; rw [show bts (List.replicate 4096 0) = rows 4096 [Value.int .u8 0] from (zeros_bts 4096).symm]; exact OwnC.whole (by rw [rows_length]; rfl)) hm) (hB.mono hI') (by decide) (by decide)) ?_
            rintro v JC _ hJC ⟨rfl, rfl⟩
            rw [get_zeros, get_supL (right_of _ _ (by decide) (by decide))]
            rw [show chooseP none (some (superOf 1 1)) = (superOf 1 1, 1, true) from rfl]
            refine StoreD.st 3 rfl rfl rfl ?_
            exact ⟨[], ⟨_, List.Perm.refl _⟩, rfl, rfl⟩
        · skip
          conv => whnf
          intro b7
          refine makeD tabOk rfl rfl rfl 4096 4096 rfl rfl (Nat.le_refl _) (by show 1 * 4096 ≤ _; decide) (by decide) (by show 4096 * 1 ≤ _; decide) rfl (by decide) ?_
          intro bM
          refine Tri.fix 3 rfl fun I' hI' hm => ?_
          refine Tri.free (replay_Choose (l1 := List.replicate 4096 0) (Rds.of_own (cap := 4096) (by show OwnC _ 1 _ _ _ _; rw [show bts (List.replicate 4096 0) = rows 4096 [Value.int .u8 0] from (zeros_bts 4096).symm]; exact OwnC.whole (by rw [rows_length]; rfl)) hm) (hB.mono hI') (by decide) (by decide)) ?_
          rintro v JC _ hJC ⟨rfl, rfl⟩
          rw [get_zeros, get_supL (right_of _ _ (by decide) (by decide))]
          rw [show chooseP none (some (superOf 1 1)) = (superOf 1 1, 1, true) from rfl]
          refine StoreD.st 2 rfl rfl rfl ?_
          exact ⟨[], ⟨_, List.Perm.refl _⟩, rfl, rfl⟩
      · skip
        conv => whnf
        intro b7
        refine And.intro ?_ ?_
        · skip
          refine makeD tabOk rfl rfl rfl 4096 4096 rfl rfl (Nat.le_refl _) (by show 1 * 4096 ≤ _; decide) (by decide) (by show 4096 * 1 ≤ _; decide) rfl (by decide) ?_
          intro bM
          refine Tri.free (law_bytes 1 1 (right_of _ _ (by decide) (by decide)) _) ?_
          rintro v JB _ hJB ⟨aB, cB, rfl, hB⟩
          refine Tri.fix 3 rfl fun I' hI' hm => ?_
          refine Tri.free (replay_Choose (l1 := List.replicate 4096 0) (Rds.of_own (cap := 4096) (by show OwnC _ 1 _ _ _ _; rw [show bts (List.replicate 4096 0) = rows 4096 [Value.int .u8 0] from (zeros_bts 4096).symm]; exact OwnC.whole (by rw [rows_length]; rfl)) hm) (hB.mono hI') (by decide) (by decide)) ?_
          rintro v JC _ hJC ⟨rfl, rfl⟩
          rw [get_zeros, get_supL (right_of _ _ (by decide) (by decide))]
          rw [show chooseP none (some (superOf 1 1)) = (superOf 1 1, 1, true) from rfl]
          refine StoreD.st 2 rfl rfl rfl ?_
          exact ⟨[], ⟨_, List.Perm.refl _⟩, rfl, rfl⟩
        · skip
          refine Tri.free (law_bytes 1 1 (right_of _ _ (by decide) (by decide)) _) ?_
          rintro v JB _ hJB ⟨aB, cB, rfl, hB⟩
          refine makeD tabOk rfl rfl rfl 4096 4096 rfl rfl (Nat.le_refl _) (by show 1 * 4096 ≤ _; decide) (by decide) (by show 4096 * 1 ≤ _; decide) rfl (by decide) ?_
          intro bM
          refine Tri.fix 3 rfl fun I' hI' hm => ?_
          refine Tri.free (replay_Choose (l1 := List.replicate 4096 0) (Rds.of_own (cap := 4096) (by show OwnC _ 1 _ _ _ _; rw [show bts (List.replicate 4096 0) = rows 4096 [Value.int .u8 0] from (zeros_bts 4096).symm]; exact OwnC.whole (by rw [rows_length]; rfl)) hm) (hB.mono hI') (by decide) (by decide)) ?_
          rintro v JC _ hJC ⟨rfl, rfl⟩
          rw [get_zeros, get_supL (right_of _ _ (by decide) (by decide))]
          rw [show chooseP none (some (superOf 1 1)) = (superOf 1 1, 1, true) from rfl]
          refine StoreD.st 2 rfl rfl rfl ?_
          exact ⟨[], ⟨_, List.Perm.refl _⟩, rfl, rfl⟩
  rintro vs g J3 S3 hJ3 ⟨rfl, rfl⟩
  refine Tri.free (law_bytes 1 1 (right_of _ _ (by decide) (by decide)) _) ?_
  rintro v Jd _ hJd ⟨ad, cd, rfl, hd⟩
  refine Tri.free (replay_Choose (l2 := []) hd ⟨rfl, .inl rfl⟩ (by decide) (by decide)) ?_
  rintro v Je _ hJe ⟨rfl, rfl⟩
  rw [get_supL (right_of _ _ (by decide) (by decide)), get_nil]
  rw [show chooseP (some (superOf 1 1)) none = (superOf 1 1, 0, true) from rfl]
  conv => whnf
  intro b10
  repeat (first
    | refine LoadD.own 0 rfl _ rfl rfl ?_
    | refine LoadD.own 1 rfl _ rfl rfl ?_
    | refine LoadD.own 2 rfl _ rfl rfl ?_
    | refine LoadD.own 3 rfl _ rfl rfl ?_
    | refine LoadP.at 0 rfl _ rfl rfl ?_
    | refine LoadP.at 1 rfl _ rfl rfl ?_
    | refine LoadP.at 2 rfl _ rfl rfl ?_
    | refine LoadP.at 3 rfl _ rfl rfl ?_
    | refine StoreD.st 0 rfl rfl rfl ?_
    | refine StoreD.st 1 rfl rfl rfl ?_
    | refine StoreD.st 2 rfl rfl rfl ?_
    | refine StoreD.st 3 rfl rfl rfl ?_
    | refine CmpD.yes rfl ?_
    | refine CmpD.yes (by decide) ?_
    | refine CmpD.no (by decide) ?_
    | refine Chk.mk ⟨rfl, trivial⟩ ?_
    | refine Chk.mk ⟨rfl, rfl, trivial⟩ ?_
    | refine Chk.mk ⟨rfl, rfl, rfl, trivial⟩ ?_
    | refine Chk.mk ⟨rfl, rfl, rfl, rfl, trivial⟩ ?_
    | refine Chk.mk ⟨rfl, rfl, rfl, rfl, rfl, trivial⟩ ?_
    | refine Chk.mk ⟨rfl, rfl, rfl, rfl, rfl, rfl, trivial⟩ ?_)
  refine Tri.free (replay_Choose (l1 := []) (l2 := []) ⟨rfl, .inl rfl⟩ ⟨rfl, .inl rfl⟩ (by decide) (by decide)) ?_
  rintro v Jf _ hJf ⟨rfl, rfl⟩
  rw [get_nil]
  rw [show chooseP none none = (Sup.zero, 0, false) from rfl]
  conv => whnf
  intro b13
  repeat (first
    | refine LoadD.own 0 rfl _ rfl rfl ?_
    | refine LoadD.own 1 rfl _ rfl rfl ?_
    | refine LoadD.own 2 rfl _ rfl rfl ?_
    | refine LoadD.own 3 rfl _ rfl rfl ?_
    | refine LoadP.at 0 rfl _ rfl rfl ?_
    | refine LoadP.at 1 rfl _ rfl rfl ?_
    | refine LoadP.at 2 rfl _ rfl rfl ?_
    | refine LoadP.at 3 rfl _ rfl rfl ?_
    | refine StoreD.st 0 rfl rfl rfl ?_
    | refine StoreD.st 1 rfl rfl rfl ?_
    | refine StoreD.st 2 rfl rfl rfl ?_
    | refine StoreD.st 3 rfl rfl rfl ?_
    | refine CmpD.yes rfl ?_
    | refine CmpD.yes (by decide) ?_
    | refine CmpD.no (by decide) ?_
    | refine Chk.mk ⟨rfl, trivial⟩ ?_
    | refine Chk.mk ⟨rfl, rfl, trivial⟩ ?_
    | refine Chk.mk ⟨rfl, rfl, rfl, trivial⟩ ?_
    | refine Chk.mk ⟨rfl, rfl, rfl, rfl, trivial⟩ ?_
    | refine Chk.mk ⟨rfl, rfl, rfl, rfl, rfl, trivial⟩ ?_
    | refine Chk.mk ⟨rfl, rfl, rfl, rfl, rfl, rfl, trivial⟩ ?_)
  refine Tri.free (law_bytes 2 1 (right_of _ _ (by decide) (by decide)) _) ?_
  rintro v Ja3 _ hJa3 ⟨aa3, ca3, rfl, ha3⟩
  refine Tri.free (law_bytes 1 9 (right_of _ _ (by decide) (by decide)) _) ?_
  rintro v Jb3 _ hJb3 ⟨ab3, cb3, rfl, hb3⟩
  refine Tri.free (replay_Choose (ha3.mono hJb3) hb3 (by decide) (by decide)) ?_
  rintro v Jc3 _ hJc3 ⟨rfl, rfl⟩
  rw [get_supL (right_of _ _ (by decide) (by decide)), get_supL (right_of _ _ (by decide) (by decide))]
  rw [show chooseP (some (superOf 2 1)) (some (superOf 1 9)) = (superOf 2 1, 0, true) from by rw [chooseP, if_pos (by decide)]]
  conv => whnf
  intro b16
  repeat (first
    | refine LoadD.own 0 rfl _ rfl rfl ?_
    | refine LoadD.own 1 rfl _ rfl rfl ?_
    | refine LoadD.own 2 rfl _ rfl rfl ?_
    | refine LoadD.own 3 rfl _ rfl rfl ?_
    | refine LoadP.at 0 rfl _ rfl rfl ?_
    | refine LoadP.at 1 rfl _ rfl rfl ?_
    | refine LoadP.at 2 rfl _ rfl rfl ?_
    | refine LoadP.at 3 rfl _ rfl rfl ?_
    | refine StoreD.st 0 rfl rfl rfl ?_
    | refine StoreD.st 1 rfl rfl rfl ?_
    | refine StoreD.st 2 rfl rfl rfl ?_
    | refine StoreD.st 3 rfl rfl rfl ?_
    | refine CmpD.yes rfl ?_
    | refine CmpD.yes (by decide) ?_
    | refine CmpD.no (by decide) ?_
    | refine Chk.mk ⟨rfl, trivial⟩ ?_
    | refine Chk.mk ⟨rfl, rfl, trivial⟩ ?_
    | refine Chk.mk ⟨rfl, rfl, rfl, trivial⟩ ?_
    | refine Chk.mk ⟨rfl, rfl, rfl, rfl, trivial⟩ ?_
    | refine Chk.mk ⟨rfl, rfl, rfl, rfl, rfl, trivial⟩ ?_
    | refine Chk.mk ⟨rfl, rfl, rfl, rfl, rfl, rfl, trivial⟩ ?_)
  refine sup_cmp Sup.zero Sup.zero rfl (.inl rfl) rfl rfl ?_
  repeat (first
    | refine LoadD.own 0 rfl _ rfl rfl ?_
    | refine LoadD.own 1 rfl _ rfl rfl ?_
    | refine LoadD.own 2 rfl _ rfl rfl ?_
    | refine LoadD.own 3 rfl _ rfl rfl ?_
    | refine LoadP.at 0 rfl _ rfl rfl ?_
    | refine LoadP.at 1 rfl _ rfl rfl ?_
    | refine LoadP.at 2 rfl _ rfl rfl ?_
    | refine LoadP.at 3 rfl _ rfl rfl ?_
    | refine StoreD.st 0 rfl rfl rfl ?_
    | refine StoreD.st 1 rfl rfl rfl ?_
    | refine StoreD.st 2 rfl rfl rfl ?_
    | refine StoreD.st 3 rfl rfl rfl ?_
    | refine CmpD.yes rfl ?_
    | refine CmpD.yes (by decide) ?_
    | refine CmpD.no (by decide) ?_
    | refine Chk.mk ⟨rfl, trivial⟩ ?_
    | refine Chk.mk ⟨rfl, rfl, trivial⟩ ?_
    | refine Chk.mk ⟨rfl, rfl, rfl, trivial⟩ ?_
    | refine Chk.mk ⟨rfl, rfl, rfl, rfl, trivial⟩ ?_
    | refine Chk.mk ⟨rfl, rfl, rfl, rfl, rfl, trivial⟩ ?_
    | refine Chk.mk ⟨rfl, rfl, rfl, rfl, rfl, rfl, trivial⟩ ?_)
  conv => whnf
  intro b122
  have hX : 64 ≤ (layOf 64).b ∧ (layOf 64).b ≤ 512 ∧ layOf 64 = layOf (layOf 64).b.toNat := ⟨by decide, by decide, rfl⟩
  refine CodeF.loopD [19, 122, 123, 124] (fun vs J' S' => ∃ (i : Nat), i ≤ 4 ∧ vs = [.bool true, .slice (some ⟨b122, 0, none⟩) 4 4, .int .i64 4, .int .i64 i] ∧ S' = [[(b122, row [.int .i64 17, .int .i64 64, .int .i64 0, .int .i64 (-1)] 3)]])
    (fun vs _ _ => match vs with | [_, _, _, .int _ i] => ((4 : Int) - i).toNat | _ => 0) ?_ ?_
  · exact ⟨_, Drop.pick [3] _ rfl, 0, by omega, rfl, rfl⟩
  rintro vs g2 J4 S4 hJ4 ⟨i, hi, rfl, rfl⟩
  refine CmpD.split (fun c1 => ?_) (fun c1 => ?_)
  · have h4 : i = 0 ∨ i = 1 ∨ i = 2 ∨ i = 3 := by omega
    rcases h4 with rfl | rfl | rfl | rfl
    all_goals
      refine Chk.mk (by decide) ?_
      refine LoadD.own 0 rfl _ rfl rfl ?_
      refine Tri.free (law_layout64 _) ?_
      rintro v J5 _ hJ5 ⟨rfl, rfl⟩
      refine Tri.free (law_made _ 1 _) ?_
      rintro v J6 _ hJ6 ⟨aM, rfl, hM⟩
      conv => whnf
      intro b132
      repeat (first
        | refine LoadD.own 0 rfl _ rfl rfl ?_
        | refine LoadD.own 1 rfl _ rfl rfl ?_
        | refine LoadD.own 2 rfl _ rfl rfl ?_
        | refine LoadP.at 0 rfl _ rfl rfl ?_
        | refine LoadP.at 1 rfl _ rfl rfl ?_
        | refine LoadP.at 2 rfl _ rfl rfl ?_
        | refine StoreD.st 0 rfl rfl rfl ?_
        | refine StoreD.st 1 rfl rfl rfl ?_
        | refine StoreD.st 2 rfl rfl rfl ?_
        | refine CmpD.yes rfl ?_
        | refine CmpD.yes (by decide) ?_
        | refine CmpD.no (by decide) ?_
        | refine Chk.mk ⟨rfl, trivial⟩ ?_
        | refine Chk.mk ⟨rfl, rfl, trivial⟩ ?_
        | refine Chk.mk ⟨rfl, rfl, rfl, trivial⟩ ?_
        | refine Chk.mk ⟨rfl, rfl, rfl, rfl, trivial⟩ ?_
        | refine Chk.mk ⟨rfl, rfl, rfl, rfl, rfl, trivial⟩ ?_
        | refine Chk.mk ⟨rfl, rfl, rfl, rfl, rfl, rfl, trivial⟩ ?_)
      conv => whnf
      intro b134
      refine Tri.mono (home_any (one_grp (k1 := 1) (k2 := 2) rfl rfl hM) (by simp) (by simp [allI]) (by intro g hg; simp [allI] at hg; subst hg; simp) (layOf 64)) ?_
      rintro v J7 S7 hJ7 (⟨h, _⟩ | ⟨_, _, rfl, rfl⟩ | ⟨_, h, _⟩)
      · exact absurd hX h
      · repeat (first
          | refine LoadD.own 0 rfl _ rfl rfl ?_
          | refine LoadD.own 1 rfl _ rfl rfl ?_
          | refine LoadD.own 2 rfl _ rfl rfl ?_
          | refine LoadP.at 0 rfl _ rfl rfl ?_
          | refine LoadP.at 1 rfl _ rfl rfl ?_
          | refine LoadP.at 2 rfl _ rfl rfl ?_
          | refine StoreD.st 0 rfl rfl rfl ?_
          | refine StoreD.st 1 rfl rfl rfl ?_
          | refine StoreD.st 2 rfl rfl rfl ?_
          | refine CmpD.yes rfl ?_
          | refine CmpD.yes (by decide) ?_
          | refine CmpD.no (by decide) ?_
          | refine Chk.mk ⟨rfl, trivial⟩ ?_
          | refine Chk.mk ⟨rfl, rfl, trivial⟩ ?_
          | refine Chk.mk ⟨rfl, rfl, rfl, trivial⟩ ?_
          | refine Chk.mk ⟨rfl, rfl, rfl, rfl, trivial⟩ ?_
          | refine Chk.mk ⟨rfl, rfl, rfl, rfl, rfl, trivial⟩ ?_
          | refine Chk.mk ⟨rfl, rfl, rfl, rfl, rfl, rfl, trivial⟩ ?_)
        refine ToD.i64 (by decide) (by decide) ?_
        first
          | exact ⟨_, Drop.pick [0] _ rfl, ⟨1, by omega, rfl, rfl⟩, by show (4 - (((0 : Nat) : Int) + 1)).toNat < (4 - ((0 : Nat) : Int)).toNat; decide⟩
          | exact ⟨_, Drop.pick [0] _ rfl, ⟨2, by omega, rfl, rfl⟩, by show (4 - (((1 : Nat) : Int) + 1)).toNat < (4 - ((1 : Nat) : Int)).toNat; decide⟩
          | exact ⟨_, Drop.pick [0] _ rfl, ⟨3, by omega, rfl, rfl⟩, by show (4 - (((2 : Nat) : Int) + 1)).toNat < (4 - ((2 : Nat) : Int)).toNat; decide⟩
          | exact ⟨_, Drop.pick [0] _ rfl, ⟨4, by omega, rfl, rfl⟩, by show (4 - (((3 : Nat) : Int) + 1)).toNat < (4 - ((3 : Nat) : Int)).toNat; decide⟩
      · exact absurd h (home_bad (by dsimp only; decide))
  obtain rfl : i = 4 := by omega
  refine Tri.mono (home_any (aG := none) (capG := 0) (l := []) ⟨⟨rfl, .inl rfl⟩, by simp⟩ (by simp) (by simp [allI]) (by simp [allI]) ⟨0, 0, 0, 0, 0, 0, 0⟩) ?_
  rintro v J15 S15 hJ15 (⟨_, rfl, rfl⟩ | ⟨⟨h, _⟩, _⟩ | ⟨⟨h, _⟩, _⟩)
  rotate_left
  · exact absurd h (by decide)
  · exact absurd h (by decide)
  repeat (first
    | refine LoadD.own 0 rfl _ rfl rfl ?_
    | refine LoadD.own 1 rfl _ rfl rfl ?_
    | refine LoadP.at 0 rfl _ rfl rfl ?_
    | refine LoadP.at 1 rfl _ rfl rfl ?_
    | refine StoreD.st 0 rfl rfl rfl ?_
    | refine StoreD.st 1 rfl rfl rfl ?_
    | refine CmpD.yes rfl ?_
    | refine CmpD.yes (by decide) ?_
    | refine CmpD.no (by decide) ?_
    | refine Chk.mk ⟨rfl, trivial⟩ ?_
    | refine Chk.mk ⟨rfl, rfl, trivial⟩ ?_
    | refine Chk.mk ⟨rfl, rfl, rfl, trivial⟩ ?_
    | refine Chk.mk ⟨rfl, rfl, rfl, rfl, trivial⟩ ?_
    | refine Chk.mk ⟨rfl, rfl, rfl, rfl, rfl, trivial⟩ ?_
    | refine Chk.mk ⟨rfl, rfl, rfl, rfl, rfl, rfl, trivial⟩ ?_)
  refine Tri.free (law_layout64 _) ?_
  rintro v J16 _ hJ16 ⟨rfl, rfl⟩
  refine Tri.free (law_made 18 1 _) ?_
  rintro v J17 _ hJ17 ⟨aM, rfl, hM⟩
  refine Tri.free (law_made 63 1 _) ?_
  rintro v J18 _ hJ18 ⟨aN, rfl, hN⟩
  conv => whnf
  intro b150
  repeat (first
    | refine LoadD.own 0 rfl _ rfl rfl ?_
    | refine LoadD.own 1 rfl _ rfl rfl ?_
    | refine LoadD.own 2 rfl _ rfl rfl ?_
    | refine LoadP.at 0 rfl _ rfl rfl ?_
    | refine LoadP.at 1 rfl _ rfl rfl ?_
    | refine LoadP.at 2 rfl _ rfl rfl ?_
    | refine StoreD.st 0 rfl rfl rfl ?_
    | refine StoreD.st 1 rfl rfl rfl ?_
    | refine StoreD.st 2 rfl rfl rfl ?_
    | refine CmpD.yes rfl ?_
    | refine CmpD.yes (by decide) ?_
    | refine CmpD.no (by decide) ?_
    | refine Chk.mk ⟨rfl, trivial⟩ ?_
    | refine Chk.mk ⟨rfl, rfl, trivial⟩ ?_
    | refine Chk.mk ⟨rfl, rfl, rfl, trivial⟩ ?_
    | refine Chk.mk ⟨rfl, rfl, rfl, rfl, trivial⟩ ?_
    | refine Chk.mk ⟨rfl, rfl, rfl, rfl, rfl, trivial⟩ ?_
    | refine Chk.mk ⟨rfl, rfl, rfl, rfl, rfl, rfl, trivial⟩ ?_)
  conv => whnf
  intro b152
  refine Tri.mono (home_few (two_grp (k1 := 1) (k2 := 2) rfl rfl (hM.mono hJ18) hN) (by simp) (by simp [allI]) (by intro g hg; simp [allI] at hg; rcases hg with rfl | rfl <;> simp) (layOf 64) hX ?_) ?_
  · intro g hg
    rw [lay64.1, lay64.2]
    have hg' : g = (18, madeL 1 4096) ∨ g = (63, madeL 1 4096) := by simpa [allP, Img.pr] using hg
    rcases hg' with rfl | rfl <;> exact ⟨by dsimp only; decide, by dsimp only; decide⟩
  rintro v J19 S19 hJ19 ⟨aO, capO, rfl, rfl⟩
  rw [show homeP (allP [⟨0, 0, some ⟨b150, 0, none⟩, 2, [⟨18, aM, 4096, 4096, madeL 1 4096⟩, ⟨63, aN, 4096, 4096, madeL 1 4096⟩]⟩]) = [(18, madeL 1 4096), (63, madeL 1 4096)] from home_two _ _, show [((18 : Int), madeL 1 4096), (63, madeL 1 4096)].length = 2 from rfl]
  repeat (first
    | refine LoadD.own 0 rfl _ rfl rfl ?_
    | refine LoadD.own 1 rfl _ rfl rfl ?_
    | refine LoadD.own 2 rfl _ rfl rfl ?_
    | refine LoadP.at 0 rfl _ rfl rfl ?_
    | refine LoadP.at 1 rfl _ rfl rfl ?_
    | refine LoadP.at 2 rfl _ rfl rfl ?_
    | refine StoreD.st 0 rfl rfl rfl ?_
    | refine StoreD.st 1 rfl rfl rfl ?_
    | refine StoreD.st 2 rfl rfl rfl ?_
    | refine CmpD.yes rfl ?_
    | refine CmpD.yes (by decide) ?_
    | refine CmpD.no (by decide) ?_
    | refine Chk.mk ⟨rfl, trivial⟩ ?_
    | refine Chk.mk ⟨rfl, rfl, trivial⟩ ?_
    | refine Chk.mk ⟨rfl, rfl, rfl, trivial⟩ ?_
    | refine Chk.mk ⟨rfl, rfl, rfl, rfl, trivial⟩ ?_
    | refine Chk.mk ⟨rfl, rfl, rfl, rfl, rfl, trivial⟩ ?_
    | refine Chk.mk ⟨rfl, rfl, rfl, rfl, rfl, rfl, trivial⟩ ?_)
  refine Tri.mono (dk_New _ 64 (by omega)) ?_
  rintro v J20 S20 hJ20 ⟨bD, ch0, rfl, hD0, rfl⟩
  repeat (first
    | refine LoadD.own 0 rfl _ rfl rfl ?_
    | refine LoadD.own 1 rfl _ rfl rfl ?_
    | refine LoadD.own 2 rfl _ rfl rfl ?_
    | refine LoadP.at 0 rfl _ rfl rfl ?_
    | refine LoadP.at 1 rfl _ rfl rfl ?_
    | refine LoadP.at 2 rfl _ rfl rfl ?_
    | refine StoreD.st 0 rfl rfl rfl ?_
    | refine StoreD.st 1 rfl rfl rfl ?_
    | refine StoreD.st 2 rfl rfl rfl ?_
    | refine CmpD.yes rfl ?_
    | refine CmpD.yes (by decide) ?_
    | refine CmpD.no (by decide) ?_
    | refine Chk.mk ⟨rfl, trivial⟩ ?_
    | refine Chk.mk ⟨rfl, rfl, trivial⟩ ?_
    | refine Chk.mk ⟨rfl, rfl, rfl, trivial⟩ ?_
    | refine Chk.mk ⟨rfl, rfl, rfl, rfl, trivial⟩ ?_
    | refine Chk.mk ⟨rfl, rfl, rfl, rfl, rfl, trivial⟩ ?_
    | refine Chk.mk ⟨rfl, rfl, rfl, rfl, rfl, rfl, trivial⟩ ?_)
  refine Tri.free (law_made 30 2 _) ?_
  rintro v J21 _ hJ21 ⟨aP, rfl, hP⟩
  conv => whnf
  intro b162
  repeat (first
    | refine LoadD.own 0 rfl _ rfl rfl ?_
    | refine LoadD.own 1 rfl _ rfl rfl ?_
    | refine LoadD.own 2 rfl _ rfl rfl ?_
    | refine LoadP.at 0 rfl _ rfl rfl ?_
    | refine LoadP.at 1 rfl _ rfl rfl ?_
    | refine LoadP.at 2 rfl _ rfl rfl ?_
    | refine StoreD.st 0 rfl rfl rfl ?_
    | refine StoreD.st 1 rfl rfl rfl ?_
    | refine StoreD.st 2 rfl rfl rfl ?_
    | refine CmpD.yes rfl ?_
    | refine CmpD.yes (by decide) ?_
    | refine CmpD.no (by decide) ?_
    | refine Chk.mk ⟨rfl, trivial⟩ ?_
    | refine Chk.mk ⟨rfl, rfl, trivial⟩ ?_
    | refine Chk.mk ⟨rfl, rfl, rfl, trivial⟩ ?_
    | refine Chk.mk ⟨rfl, rfl, rfl, rfl, trivial⟩ ?_
    | refine Chk.mk ⟨rfl, rfl, rfl, rfl, rfl, trivial⟩ ?_
    | refine Chk.mk ⟨rfl, rfl, rfl, rfl, rfl, rfl, trivial⟩ ?_)
  refine Tri.free (law_of 1 2 _) ?_
  rintro v J22 _ hJ22 ⟨rfl, rfl⟩
  repeat (first
    | refine LoadD.own 0 rfl _ rfl rfl ?_
    | refine LoadD.own 1 rfl _ rfl rfl ?_
    | refine LoadD.own 2 rfl _ rfl rfl ?_
    | refine LoadP.at 0 rfl _ rfl rfl ?_
    | refine LoadP.at 1 rfl _ rfl rfl ?_
    | refine LoadP.at 2 rfl _ rfl rfl ?_
    | refine StoreD.st 0 rfl rfl rfl ?_
    | refine StoreD.st 1 rfl rfl rfl ?_
    | refine StoreD.st 2 rfl rfl rfl ?_
    | refine CmpD.yes rfl ?_
    | refine CmpD.yes (by decide) ?_
    | refine CmpD.no (by decide) ?_
    | refine Chk.mk ⟨rfl, trivial⟩ ?_
    | refine Chk.mk ⟨rfl, rfl, trivial⟩ ?_
    | refine Chk.mk ⟨rfl, rfl, rfl, trivial⟩ ?_
    | refine Chk.mk ⟨rfl, rfl, rfl, rfl, trivial⟩ ?_
    | refine Chk.mk ⟨rfl, rfl, rfl, rfl, rfl, trivial⟩ ?_
    | refine Chk.mk ⟨rfl, rfl, rfl, rfl, rfl, rfl, trivial⟩ ?_)
  obtain ⟨d1, hdo, c1, n1, w1, k1, r1, r30⟩ := num_do (superOf 1 2) (right_of _ _ (by decide) (by decide)) (madeL 2 4096) (madeL_length _ _)
  refine Tri.fix 1 rfl fun J23 hJ23 hm => ?_
  refine Tri.frame1 0 rfl (dk_Do (hD0.mono (Imm.le_trans hJ21 hJ23)) 0 (DSt.of_few _) (some ⟨b162, 0, none⟩) 1 [⟨30, aP, 4096, 4096, madeL 2 4096⟩] (imgs_fixed (by unfold In64; omega) hm (hP.mono hJ23)) (by simp) (superOf 1 2) 1) ?_
  rw [show List.map Img.pr [⟨30, aP, 4096, 4096, madeL 2 4096⟩] = [(30, madeL 2 4096)] from rfl, hdo]
  rintro v J24 A' hJ24 ⟨rfl, ch1, hD1, rfl⟩
  refine ⟨_, rfl, ?_⟩
  dsimp only at hD1
  have few : d1.Few 2 := ⟨by rw [w1]; simp, by rw [k1]; decide, by rw [k1]; decide⟩
  repeat (first
    | refine LoadD.own 0 rfl _ rfl rfl ?_
    | refine LoadD.own 1 rfl _ rfl rfl ?_
    | refine LoadD.own 2 rfl _ rfl rfl ?_
    | refine LoadP.at 0 rfl _ rfl rfl ?_
    | refine LoadP.at 1 rfl _ rfl rfl ?_
    | refine LoadP.at 2 rfl _ rfl rfl ?_
    | refine StoreD.st 0 rfl rfl rfl ?_
    | refine StoreD.st 1 rfl rfl rfl ?_
    | refine StoreD.st 2 rfl rfl rfl ?_
    | refine CmpD.yes rfl ?_
    | refine CmpD.yes (by decide) ?_
    | refine CmpD.no (by decide) ?_
    | refine Chk.mk ⟨rfl, trivial⟩ ?_
    | refine Chk.mk ⟨rfl, rfl, trivial⟩ ?_
    | refine Chk.mk ⟨rfl, rfl, rfl, trivial⟩ ?_
    | refine Chk.mk ⟨rfl, rfl, rfl, rfl, trivial⟩ ?_
    | refine Chk.mk ⟨rfl, rfl, rfl, rfl, rfl, trivial⟩ ?_
    | refine Chk.mk ⟨rfl, rfl, rfl, rfl, rfl, rfl, trivial⟩ ?_)
  refine Tri.frame (dk_Read hD1 1) [0] rfl rfl ?_
  rw [r1]
  rintro v J25 A' hJ25 ⟨aB, capB, chB, rfl, hB, rfl, rfl⟩
  refine ⟨by simp, ?_⟩
  repeat (first
    | refine LoadD.own 0 rfl _ rfl rfl ?_
    | refine LoadD.own 1 rfl _ rfl rfl ?_
    | refine LoadD.own 2 rfl _ rfl rfl ?_
    | refine LoadP.at 0 rfl _ rfl rfl ?_
    | refine LoadP.at 1 rfl _ rfl rfl ?_
    | refine LoadP.at 2 rfl _ rfl rfl ?_
    | refine StoreD.st 0 rfl rfl rfl ?_
    | refine StoreD.st 1 rfl rfl rfl ?_
    | refine StoreD.st 2 rfl rfl rfl ?_
    | refine CmpD.yes rfl ?_
    | refine CmpD.yes (by decide) ?_
    | refine CmpD.no (by decide) ?_
    | refine Chk.mk ⟨rfl, trivial⟩ ?_
    | refine Chk.mk ⟨rfl, rfl, trivial⟩ ?_
    | refine Chk.mk ⟨rfl, rfl, rfl, trivial⟩ ?_
    | refine Chk.mk ⟨rfl, rfl, rfl, rfl, trivial⟩ ?_
    | refine Chk.mk ⟨rfl, rfl, rfl, rfl, rfl, trivial⟩ ?_
    | refine Chk.mk ⟨rfl, rfl, rfl, rfl, rfl, rfl, trivial⟩ ?_)
  refine Tri.frame (dk_Read hD1 30) [0] rfl rfl ?_
  rw [r30]
  rintro v J26 A' hJ26 ⟨aC, capC, chC, rfl, hC, rfl, rfl⟩
  refine ⟨by simp, ?_⟩
  repeat (first
    | refine LoadD.own 0 rfl _ rfl rfl ?_
    | refine LoadD.own 1 rfl _ rfl rfl ?_
    | refine LoadD.own 2 rfl _ rfl rfl ?_
    | refine LoadD.own 3 rfl _ rfl rfl ?_
    | refine LoadP.at 0 rfl _ rfl rfl ?_
    | refine LoadP.at 1 rfl _ rfl rfl ?_
    | refine LoadP.at 2 rfl _ rfl rfl ?_
    | refine LoadP.at 3 rfl _ rfl rfl ?_
    | refine StoreD.st 0 rfl rfl rfl ?_
    | refine StoreD.st 1 rfl rfl rfl ?_
    | refine StoreD.st 2 rfl rfl rfl ?_
    | refine StoreD.st 3 rfl rfl rfl ?_
    | refine CmpD.yes rfl ?_
    | refine CmpD.yes (by decide) ?_
    | refine CmpD.no (by decide) ?_
    | refine Chk.mk ⟨rfl, trivial⟩ ?_
    | refine Chk.mk ⟨rfl, rfl, trivial⟩ ?_
    | refine Chk.mk ⟨rfl, rfl, rfl, trivial⟩ ?_
    | refine Chk.mk ⟨rfl, rfl, rfl, rfl, trivial⟩ ?_
    | refine Chk.mk ⟨rfl, rfl, rfl, rfl, rfl, trivial⟩ ?_
    | refine Chk.mk ⟨rfl, rfl, rfl, rfl, rfl, rfl, trivial⟩ ?_)
  refine ToD.to 0 rfl ?_
  refine ToD.to 0 rfl ?_
  refine ToD.to 0 rfl ?_
  repeat (first
    | refine LoadD.own 0 rfl _ rfl rfl ?_
    | refine LoadD.own 1 rfl _ rfl rfl ?_
    | refine LoadD.own 2 rfl _ rfl rfl ?_
    | refine LoadD.own 3 rfl _ rfl rfl ?_
    | refine LoadP.at 0 rfl _ rfl rfl ?_
    | refine LoadP.at 1 rfl _ rfl rfl ?_
    | refine LoadP.at 2 rfl _ rfl rfl ?_
    | refine LoadP.at 3 rfl _ rfl rfl ?_
    | refine StoreD.st 0 rfl rfl rfl ?_
    | refine StoreD.st 1 rfl rfl rfl ?_
    | refine StoreD.st 2 rfl rfl rfl ?_
    | refine StoreD.st 3 rfl rfl rfl ?_
    | refine CmpD.yes rfl ?_
    | refine CmpD.yes (by decide) ?_
    | refine CmpD.no (by decide) ?_
    | refine Chk.mk ⟨rfl, trivial⟩ ?_
    | refine Chk.mk ⟨rfl, rfl, trivial⟩ ?_
    | refine Chk.mk ⟨rfl, rfl, rfl, trivial⟩ ?_
    | refine Chk.mk ⟨rfl, rfl, rfl, rfl, trivial⟩ ?_
    | refine Chk.mk ⟨rfl, rfl, rfl, rfl, rfl, trivial⟩ ?_
    | refine Chk.mk ⟨rfl, rfl, rfl, rfl, rfl, rfl, trivial⟩ ?_)
  refine Tri.free (law_bytes 1 2 (right_of _ _ (by decide) (by decide)) _) ?_
  rintro v J27 _ hJ27 ⟨aE, cE, rfl, hE⟩
  repeat (first
    | refine LoadD.own 0 rfl _ rfl rfl ?_
    | refine LoadD.own 1 rfl _ rfl rfl ?_
    | refine LoadD.own 2 rfl _ rfl rfl ?_
    | refine LoadD.own 3 rfl _ rfl rfl ?_
    | refine LoadP.at 0 rfl _ rfl rfl ?_
    | refine LoadP.at 1 rfl _ rfl rfl ?_
    | refine LoadP.at 2 rfl _ rfl rfl ?_
    | refine LoadP.at 3 rfl _ rfl rfl ?_
    | refine StoreD.st 0 rfl rfl rfl ?_
    | refine StoreD.st 1 rfl rfl rfl ?_
    | refine StoreD.st 2 rfl rfl rfl ?_
    | refine StoreD.st 3 rfl rfl rfl ?_
    | refine CmpD.yes rfl ?_
    | refine CmpD.yes (by decide) ?_
    | refine CmpD.no (by decide) ?_
    | refine Chk.mk ⟨rfl, trivial⟩ ?_
    | refine Chk.mk ⟨rfl, rfl, trivial⟩ ?_
    | refine Chk.mk ⟨rfl, rfl, rfl, trivial⟩ ?_
    | refine Chk.mk ⟨rfl, rfl, rfl, rfl, trivial⟩ ?_
    | refine Chk.mk ⟨rfl, rfl, rfl, rfl, rfl, trivial⟩ ?_
    | refine Chk.mk ⟨rfl, rfl, rfl, rfl, rfl, rfl, trivial⟩ ?_)
  refine Tri.mono (same_bytes (hB.slC1 2 rfl) hE.slC) ?_
  rintro v J28 S28 hJ28 ⟨rfl, rfl, rfl⟩
  rw [decide_eq_true rfl]
  repeat (first
    | refine LoadD.own 0 rfl _ rfl rfl ?_
    | refine LoadD.own 1 rfl _ rfl rfl ?_
    | refine LoadD.own 2 rfl _ rfl rfl ?_
    | refine LoadD.own 3 rfl _ rfl rfl ?_
    | refine LoadP.at 0 rfl _ rfl rfl ?_
    | refine LoadP.at 1 rfl _ rfl rfl ?_
    | refine LoadP.at 2 rfl _ rfl rfl ?_
    | refine LoadP.at 3 rfl _ rfl rfl ?_
    | refine StoreD.st 0 rfl rfl rfl ?_
    | refine StoreD.st 1 rfl rfl rfl ?_
    | refine StoreD.st 2 rfl rfl rfl ?_
    | refine StoreD.st 3 rfl rfl rfl ?_
    | refine CmpD.yes rfl ?_
    | refine CmpD.yes (by decide) ?_
    | refine CmpD.no (by decide) ?_
    | refine Chk.mk ⟨rfl, trivial⟩ ?_
    | refine Chk.mk ⟨rfl, rfl, trivial⟩ ?_
    | refine Chk.mk ⟨rfl, rfl, rfl, trivial⟩ ?_
    | refine Chk.mk ⟨rfl, rfl, rfl, rfl, trivial⟩ ?_
    | refine Chk.mk ⟨rfl, rfl, rfl, rfl, rfl, trivial⟩ ?_
    | refine Chk.mk ⟨rfl, rfl, rfl, rfl, rfl, rfl, trivial⟩ ?_)
  refine Tri.free (made 2 4096 (by omega) _) ?_
  rintro v J29 _ hJ29 ⟨aF, rfl, hF⟩
  repeat (first
    | refine LoadD.own 0 rfl _ rfl rfl ?_
    | refine LoadD.own 1 rfl _ rfl rfl ?_
    | refine LoadD.own 2 rfl _ rfl rfl ?_
    | refine LoadD.own 3 rfl _ rfl rfl ?_
    | refine LoadP.at 0 rfl _ rfl rfl ?_
    | refine LoadP.at 1 rfl _ rfl rfl ?_
    | refine LoadP.at 2 rfl _ rfl rfl ?_
    | refine LoadP.at 3 rfl _ rfl rfl ?_
    | refine StoreD.st 0 rfl rfl rfl ?_
    | refine StoreD.st 1 rfl rfl rfl ?_
    | refine StoreD.st 2 rfl rfl rfl ?_
    | refine StoreD.st 3 rfl rfl rfl ?_
    | refine CmpD.yes rfl ?_
    | refine CmpD.yes (by decide) ?_
    | refine CmpD.no (by decide) ?_
    | refine Chk.mk ⟨rfl, trivial⟩ ?_
    | refine Chk.mk ⟨rfl, rfl, trivial⟩ ?_
    | refine Chk.mk ⟨rfl, rfl, rfl, trivial⟩ ?_
    | refine Chk.mk ⟨rfl, rfl, rfl, rfl, trivial⟩ ?_
    | refine Chk.mk ⟨rfl, rfl, rfl, rfl, rfl, trivial⟩ ?_
    | refine Chk.mk ⟨rfl, rfl, rfl, rfl, rfl, rfl, trivial⟩ ?_)
  refine Tri.mono (same_bytes (hC.slC1 3 rfl) hF.slC) ?_
  rintro v J30 S30 hJ30 ⟨rfl, rfl, rfl⟩
  rw [decide_eq_true rfl]
  repeat (first
    | refine LoadD.own 0 rfl _ rfl rfl ?_
    | refine LoadD.own 1 rfl _ rfl rfl ?_
    | refine LoadD.own 2 rfl _ rfl rfl ?_
    | refine LoadD.own 3 rfl _ rfl rfl ?_
    | refine LoadP.at 0 rfl _ rfl rfl ?_
    | refine LoadP.at 1 rfl _ rfl rfl ?_
    | refine LoadP.at 2 rfl _ rfl rfl ?_
    | refine LoadP.at 3 rfl _ rfl rfl ?_
    | refine StoreD.st 0 rfl rfl rfl ?_
    | refine StoreD.st 1 rfl rfl rfl ?_
    | refine StoreD.st 2 rfl rfl rfl ?_
    | refine StoreD.st 3 rfl rfl rfl ?_
    | refine CmpD.yes rfl ?_
    | refine CmpD.yes (by decide) ?_
    | refine CmpD.no (by decide) ?_
    | refine Chk.mk ⟨rfl, trivial⟩ ?_
    | refine Chk.mk ⟨rfl, rfl, trivial⟩ ?_
    | refine Chk.mk ⟨rfl, rfl, rfl, trivial⟩ ?_
    | refine Chk.mk ⟨rfl, rfl, rfl, rfl, trivial⟩ ?_
    | refine Chk.mk ⟨rfl, rfl, rfl, rfl, rfl, trivial⟩ ?_
    | refine Chk.mk ⟨rfl, rfl, rfl, rfl, rfl, rfl, trivial⟩ ?_)
  have hD2 := hD1.mono (Imm.le_trans hJ27 hJ29)
  refine Tri.frame1 0 rfl (dk_Writes hD2) ?_
  rw [k1]
  rintro v J31 A' hJ31 ⟨rfl, rfl, rfl⟩
  refine ⟨_, rfl, ?_⟩
  repeat (first
    | refine LoadD.own 0 rfl _ rfl rfl ?_
    | refine LoadD.own 1 rfl _ rfl rfl ?_
    | refine LoadD.own 2 rfl _ rfl rfl ?_
    | refine LoadD.own 3 rfl _ rfl rfl ?_
    | refine LoadP.at 0 rfl _ rfl rfl ?_
    | refine LoadP.at 1 rfl _ rfl rfl ?_
    | refine LoadP.at 2 rfl _ rfl rfl ?_
    | refine LoadP.at 3 rfl _ rfl rfl ?_
    | refine StoreD.st 0 rfl rfl rfl ?_
    | refine StoreD.st 1 rfl rfl rfl ?_
    | refine StoreD.st 2 rfl rfl rfl ?_
    | refine StoreD.st 3 rfl rfl rfl ?_
    | refine CmpD.yes rfl ?_
    | refine CmpD.yes (by decide) ?_
    | refine CmpD.no (by decide) ?_
    | refine Chk.mk ⟨rfl, trivial⟩ ?_
    | refine Chk.mk ⟨rfl, rfl, trivial⟩ ?_
    | refine Chk.mk ⟨rfl, rfl, rfl, trivial⟩ ?_
    | refine Chk.mk ⟨rfl, rfl, rfl, rfl, trivial⟩ ?_
    | refine Chk.mk ⟨rfl, rfl, rfl, rfl, rfl, trivial⟩ ?_
    | refine Chk.mk ⟨rfl, rfl, rfl, rfl, rfl, rfl, trivial⟩ ?_)
  refine Tri.frame (dk_Pending hD2 (few.mono (by omega))) [0] rfl rfl ?_
  rw [w1]
  rintro v J32 A' hJ32 ⟨aQ, capQ, chQ, rfl, hQ, rfl, rfl⟩
  refine ⟨by simp, ?_⟩
  repeat (first
    | refine LoadD.own 0 rfl _ rfl rfl ?_
    | refine LoadD.own 1 rfl _ rfl rfl ?_
    | refine LoadD.own 2 rfl _ rfl rfl ?_
    | refine LoadD.own 3 rfl _ rfl rfl ?_
    | refine LoadP.at 0 rfl _ rfl rfl ?_
    | refine LoadP.at 1 rfl _ rfl rfl ?_
    | refine LoadP.at 2 rfl _ rfl rfl ?_
    | refine LoadP.at 3 rfl _ rfl rfl ?_
    | refine StoreD.st 0 rfl rfl rfl ?_
    | refine StoreD.st 1 rfl rfl rfl ?_
    | refine StoreD.st 2 rfl rfl rfl ?_
    | refine StoreD.st 3 rfl rfl rfl ?_
    | refine CmpD.yes rfl ?_
    | refine CmpD.yes (by decide) ?_
    | refine CmpD.no (by decide) ?_
    | refine Chk.mk ⟨rfl, trivial⟩ ?_
    | refine Chk.mk ⟨rfl, rfl, trivial⟩ ?_
    | refine Chk.mk ⟨rfl, rfl, rfl, trivial⟩ ?_
    | refine Chk.mk ⟨rfl, rfl, rfl, rfl, trivial⟩ ?_
    | refine Chk.mk ⟨rfl, rfl, rfl, rfl, rfl, trivial⟩ ?_
    | refine Chk.mk ⟨rfl, rfl, rfl, rfl, rfl, rfl, trivial⟩ ?_)
  refine Tri.free (law_of 1 1 _) ?_
  rintro v Jl1 _ hJl1 ⟨rfl, rfl⟩
  repeat (first
    | refine LoadD.own 0 rfl _ rfl rfl ?_
    | refine LoadD.own 1 rfl _ rfl rfl ?_
    | refine LoadD.own 2 rfl _ rfl rfl ?_
    | refine LoadD.own 3 rfl _ rfl rfl ?_
    | refine LoadD.own 4 rfl _ rfl rfl ?_
    | refine LoadP.at 0 rfl _ rfl rfl ?_
    | refine LoadP.at 1 rfl _ rfl rfl ?_
    | refine LoadP.at 2 rfl _ rfl rfl ?_
    | refine LoadP.at 3 rfl _ rfl rfl ?_
    | refine LoadP.at 4 rfl _ rfl rfl ?_
    | refine StoreD.st 0 rfl rfl rfl ?_
    | refine StoreD.st 1 rfl rfl rfl ?_
    | refine StoreD.st 2 rfl rfl rfl ?_
    | refine StoreD.st 3 rfl rfl rfl ?_
    | refine StoreD.st 4 rfl rfl rfl ?_
    | refine CmpD.yes rfl ?_
    | refine CmpD.yes (by decide) ?_
    | refine CmpD.no (by decide) ?_
    | refine Chk.mk ⟨rfl, trivial⟩ ?_
    | refine Chk.mk ⟨rfl, rfl, trivial⟩ ?_
    | refine Chk.mk ⟨rfl, rfl, rfl, trivial⟩ ?_
    | refine Chk.mk ⟨rfl, rfl, rfl, rfl, trivial⟩ ?_
    | refine Chk.mk ⟨rfl, rfl, rfl, rfl, rfl, trivial⟩ ?_
    | refine Chk.mk ⟨rfl, rfl, rfl, rfl, rfl, rfl, trivial⟩ ?_)
  refine Tri.mono (replay_Do0 (superOf 1 1) 0 _ _) ?_
  rintro v J33 S33 hJ33 ⟨rfl, rfl, rfl⟩
  repeat (first
    | refine LoadD.own 0 rfl _ rfl rfl ?_
    | refine LoadD.own 1 rfl _ rfl rfl ?_
    | refine LoadD.own 2 rfl _ rfl rfl ?_
    | refine LoadD.own 3 rfl _ rfl rfl ?_
    | refine LoadD.own 4 rfl _ rfl rfl ?_
    | refine LoadP.at 0 rfl _ rfl rfl ?_
    | refine LoadP.at 1 rfl _ rfl rfl ?_
    | refine LoadP.at 2 rfl _ rfl rfl ?_
    | refine LoadP.at 3 rfl _ rfl rfl ?_
    | refine LoadP.at 4 rfl _ rfl rfl ?_
    | refine StoreD.st 0 rfl rfl rfl ?_
    | refine StoreD.st 1 rfl rfl rfl ?_
    | refine StoreD.st 2 rfl rfl rfl ?_
    | refine StoreD.st 3 rfl rfl rfl ?_
    | refine StoreD.st 4 rfl rfl rfl ?_
    | refine CmpD.yes rfl ?_
    | refine CmpD.yes (by decide) ?_
    | refine CmpD.no (by decide) ?_
    | refine Chk.mk ⟨rfl, trivial⟩ ?_
    | refine Chk.mk ⟨rfl, rfl, trivial⟩ ?_
    | refine Chk.mk ⟨rfl, rfl, rfl, trivial⟩ ?_
    | refine Chk.mk ⟨rfl, rfl, rfl, rfl, trivial⟩ ?_
    | refine Chk.mk ⟨rfl, rfl, rfl, rfl, rfl, trivial⟩ ?_
    | refine Chk.mk ⟨rfl, rfl, rfl, rfl, rfl, rfl, trivial⟩ ?_)
  refine Tri.free (law_of 0 1 _) ?_
  rintro v Jl2 _ hJl2 ⟨rfl, rfl⟩
  repeat (first
    | refine LoadD.own 0 rfl _ rfl rfl ?_
    | refine LoadD.own 1 rfl _ rfl rfl ?_
    | refine LoadD.own 2 rfl _ rfl rfl ?_
    | refine LoadD.own 3 rfl _ rfl rfl ?_
    | refine LoadD.own 4 rfl _ rfl rfl ?_
    | refine LoadP.at 0 rfl _ rfl rfl ?_
    | refine LoadP.at 1 rfl _ rfl rfl ?_
    | refine LoadP.at 2 rfl _ rfl rfl ?_
    | refine LoadP.at 3 rfl _ rfl rfl ?_
    | refine LoadP.at 4 rfl _ rfl rfl ?_
    | refine StoreD.st 0 rfl rfl rfl ?_
    | refine StoreD.st 1 rfl rfl rfl ?_
    | refine StoreD.st 2 rfl rfl rfl ?_
    | refine StoreD.st 3 rfl rfl rfl ?_
    | refine StoreD.st 4 rfl rfl rfl ?_
    | refine CmpD.yes rfl ?_
    | refine CmpD.yes (by decide) ?_
    | refine CmpD.no (by decide) ?_
    | refine Chk.mk ⟨rfl, trivial⟩ ?_
    | refine Chk.mk ⟨rfl, rfl, trivial⟩ ?_
    | refine Chk.mk ⟨rfl, rfl, rfl, trivial⟩ ?_
    | refine Chk.mk ⟨rfl, rfl, rfl, rfl, trivial⟩ ?_
    | refine Chk.mk ⟨rfl, rfl, rfl, rfl, rfl, trivial⟩ ?_
    | refine Chk.mk ⟨rfl, rfl, rfl, rfl, rfl, rfl, trivial⟩ ?_)
  refine Tri.frame1 0 rfl (dk_Do hD2 2 few none 0 [] ⟨⟨rfl, .inl rfl⟩, by simp⟩ (by decide) (superOf 0 1) 0) ?_
  rw [do_wrong (.inl (fun h => absurd h.2.2.1 (by show ¬ (1 : Int) ≤ 0; decide)))]
  rintro v J34 A' hJ34 ⟨rfl, ch3, hD3, rfl⟩
  refine ⟨_, rfl, ?_⟩
  dsimp only at hD3
  repeat (first
    | refine LoadD.own 0 rfl _ rfl rfl ?_
    | refine LoadD.own 1 rfl _ rfl rfl ?_
    | refine LoadD.own 2 rfl _ rfl rfl ?_
    | refine LoadD.own 3 rfl _ rfl rfl ?_
    | refine LoadD.own 4 rfl _ rfl rfl ?_
    | refine LoadP.at 0 rfl _ rfl rfl ?_
    | refine LoadP.at 1 rfl _ rfl rfl ?_
    | refine LoadP.at 2 rfl _ rfl rfl ?_
    | refine LoadP.at 3 rfl _ rfl rfl ?_
    | refine LoadP.at 4 rfl _ rfl rfl ?_
    | refine StoreD.st 0 rfl rfl rfl ?_
    | refine StoreD.st 1 rfl rfl rfl ?_
    | refine StoreD.st 2 rfl rfl rfl ?_
    | refine StoreD.st 3 rfl rfl rfl ?_
    | refine StoreD.st 4 rfl rfl rfl ?_
    | refine CmpD.yes rfl ?_
    | refine CmpD.yes (by decide) ?_
    | refine CmpD.no (by decide) ?_
    | refine Chk.mk ⟨rfl, trivial⟩ ?_
    | refine Chk.mk ⟨rfl, rfl, trivial⟩ ?_
    | refine Chk.mk ⟨rfl, rfl, rfl, trivial⟩ ?_
    | refine Chk.mk ⟨rfl, rfl, rfl, rfl, trivial⟩ ?_
    | refine Chk.mk ⟨rfl, rfl, rfl, rfl, rfl, trivial⟩ ?_
    | refine Chk.mk ⟨rfl, rfl, rfl, rfl, rfl, rfl, trivial⟩ ?_)
  refine Tri.free (law_of 1 1 _) ?_
  rintro v Jl3 _ hJl3 ⟨rfl, rfl⟩
  repeat (first
    | refine LoadD.own 0 rfl _ rfl rfl ?_
    | refine LoadD.own 1 rfl _ rfl rfl ?_
    | refine LoadD.own 2 rfl _ rfl rfl ?_
    | refine LoadD.own 3 rfl _ rfl rfl ?_
    | refine LoadD.own 4 rfl _ rfl rfl ?_
    | refine LoadP.at 0 rfl _ rfl rfl ?_
    | refine LoadP.at 1 rfl _ rfl rfl ?_
    | refine LoadP.at 2 rfl _ rfl rfl ?_
    | refine LoadP.at 3 rfl _ rfl rfl ?_
    | refine LoadP.at 4 rfl _ rfl rfl ?_
    | refine StoreD.st 0 rfl rfl rfl ?_
    | refine StoreD.st 1 rfl rfl rfl ?_
    | refine StoreD.st 2 rfl rfl rfl ?_
    | refine StoreD.st 3 rfl rfl rfl ?_
    | refine StoreD.st 4 rfl rfl rfl ?_
    | refine CmpD.yes rfl ?_
    | refine CmpD.yes (by decide) ?_
    | refine CmpD.no (by decide) ?_
    | refine Chk.mk ⟨rfl, trivial⟩ ?_
    | refine Chk.mk ⟨rfl, rfl, trivial⟩ ?_
    | refine Chk.mk ⟨rfl, rfl, rfl, trivial⟩ ?_
    | refine Chk.mk ⟨rfl, rfl, rfl, rfl, trivial⟩ ?_
    | refine Chk.mk ⟨rfl, rfl, rfl, rfl, rfl, trivial⟩ ?_
    | refine Chk.mk ⟨rfl, rfl, rfl, rfl, rfl, rfl, trivial⟩ ?_)
  refine Tri.frame1 0 rfl (dk_Do hD3 2 few none 0 [] ⟨⟨rfl, .inl rfl⟩, by simp⟩ (by decide) (superOf 1 1) 2) ?_
  rw [do_wrong (.inr (.inr (.inl (by decide))))]
  rintro v J35 A' hJ35 ⟨rfl, ch4, hD4, rfl⟩
  refine ⟨_, rfl, ?_⟩
  dsimp only at hD4
  repeat (first
    | refine LoadD.own 0 rfl _ rfl rfl ?_
    | refine LoadD.own 1 rfl _ rfl rfl ?_
    | refine LoadD.own 2 rfl _ rfl rfl ?_
    | refine LoadD.own 3 rfl _ rfl rfl ?_
    | refine LoadD.own 4 rfl _ rfl rfl ?_
    | refine LoadP.at 0 rfl _ rfl rfl ?_
    | refine LoadP.at 1 rfl _ rfl rfl ?_
    | refine LoadP.at 2 rfl _ rfl rfl ?_
    | refine LoadP.at 3 rfl _ rfl rfl ?_
    | refine LoadP.at 4 rfl _ rfl rfl ?_
    | refine StoreD.st 0 rfl rfl rfl ?_
    | refine StoreD.st 1 rfl rfl rfl ?_
    | refine StoreD.st 2 rfl rfl rfl ?_
    | refine StoreD.st 3 rfl rfl rfl ?_
    | refine StoreD.st 4 rfl rfl rfl ?_
    | refine CmpD.yes rfl ?_
    | refine CmpD.yes (by decide) ?_
    | refine CmpD.no (by decide) ?_
    | refine Chk.mk ⟨rfl, trivial⟩ ?_
    | refine Chk.mk ⟨rfl, rfl, trivial⟩ ?_
    | refine Chk.mk ⟨rfl, rfl, rfl, trivial⟩ ?_
    | refine Chk.mk ⟨rfl, rfl, rfl, rfl, trivial⟩ ?_
    | refine Chk.mk ⟨rfl, rfl, rfl, rfl, rfl, trivial⟩ ?_
    | refine Chk.mk ⟨rfl, rfl, rfl, rfl, rfl, rfl, trivial⟩ ?_)
  refine Tri.free (law_made 64 1 _) ?_
  rintro v Jm5 _ hJm5 ⟨aX5, rfl, hX5⟩
  repeat (first
    | refine LoadD.own 0 rfl _ rfl rfl ?_
    | refine LoadD.own 1 rfl _ rfl rfl ?_
    | refine LoadD.own 2 rfl _ rfl rfl ?_
    | refine LoadD.own 3 rfl _ rfl rfl ?_
    | refine LoadD.own 4 rfl _ rfl rfl ?_
    | refine LoadP.at 0 rfl _ rfl rfl ?_
    | refine LoadP.at 1 rfl _ rfl rfl ?_
    | refine LoadP.at 2 rfl _ rfl rfl ?_
    | refine LoadP.at 3 rfl _ rfl rfl ?_
    | refine LoadP.at 4 rfl _ rfl rfl ?_
    | refine StoreD.st 0 rfl rfl rfl ?_
    | refine StoreD.st 1 rfl rfl rfl ?_
    | refine StoreD.st 2 rfl rfl rfl ?_
    | refine StoreD.st 3 rfl rfl rfl ?_
    | refine StoreD.st 4 rfl rfl rfl ?_
    | refine CmpD.yes rfl ?_
    | refine CmpD.yes (by decide) ?_
    | refine CmpD.no (by decide) ?_
    | refine Chk.mk ⟨rfl, trivial⟩ ?_
    | refine Chk.mk ⟨rfl, rfl, trivial⟩ ?_
    | refine Chk.mk ⟨rfl, rfl, rfl, trivial⟩ ?_
    | refine Chk.mk ⟨rfl, rfl, rfl, rfl, trivial⟩ ?_
    | refine Chk.mk ⟨rfl, rfl, rfl, rfl, rfl, trivial⟩ ?_
    | refine Chk.mk ⟨rfl, rfl, rfl, rfl, rfl, rfl, trivial⟩ ?_)
  conv => whnf
  intro bX5
  repeat (first
    | refine LoadD.own 0 rfl _ rfl rfl ?_
    | refine LoadD.own 1 rfl _ rfl rfl ?_
    | refine LoadD.own 2 rfl _ rfl rfl ?_
    | refine LoadD.own 3 rfl _ rfl rfl ?_
    | refine LoadD.own 4 rfl _ rfl rfl ?_
    | refine LoadP.at 0 rfl _ rfl rfl ?_
    | refine LoadP.at 1 rfl _ rfl rfl ?_
    | refine LoadP.at 2 rfl _ rfl rfl ?_
    | refine LoadP.at 3 rfl _ rfl rfl ?_
    | refine LoadP.at 4 rfl _ rfl rfl ?_
    | refine StoreD.st 0 rfl rfl rfl ?_
    | refine StoreD.st 1 rfl rfl rfl ?_
    | refine StoreD.st 2 rfl rfl rfl ?_
    | refine StoreD.st 3 rfl rfl rfl ?_
    | refine StoreD.st 4 rfl rfl rfl ?_
    | refine CmpD.yes rfl ?_
    | refine CmpD.yes (by decide) ?_
    | refine CmpD.no (by decide) ?_
    | refine Chk.mk ⟨rfl, trivial⟩ ?_
    | refine Chk.mk ⟨rfl, rfl, trivial⟩ ?_
    | refine Chk.mk ⟨rfl, rfl, rfl, trivial⟩ ?_
    | refine Chk.mk ⟨rfl, rfl, rfl, rfl, trivial⟩ ?_
    | refine Chk.mk ⟨rfl, rfl, rfl, rfl, rfl, trivial⟩ ?_
    | refine Chk.mk ⟨rfl, rfl, rfl, rfl, rfl, rfl, trivial⟩ ?_)
  refine Tri.free (law_of 1 1 _) ?_
  rintro v Jl5 _ hJl5 ⟨rfl, rfl⟩
  repeat (first
    | refine LoadD.own 0 rfl _ rfl rfl ?_
    | refine LoadD.own 1 rfl _ rfl rfl ?_
    | refine LoadD.own 2 rfl _ rfl rfl ?_
    | refine LoadD.own 3 rfl _ rfl rfl ?_
    | refine LoadD.own 4 rfl _ rfl rfl ?_
    | refine LoadP.at 0 rfl _ rfl rfl ?_
    | refine LoadP.at 1 rfl _ rfl rfl ?_
    | refine LoadP.at 2 rfl _ rfl rfl ?_
    | refine LoadP.at 3 rfl _ rfl rfl ?_
    | refine LoadP.at 4 rfl _ rfl rfl ?_
    | refine StoreD.st 0 rfl rfl rfl ?_
    | refine StoreD.st 1 rfl rfl rfl ?_
    | refine StoreD.st 2 rfl rfl rfl ?_
    | refine StoreD.st 3 rfl rfl rfl ?_
    | refine StoreD.st 4 rfl rfl rfl ?_
    | refine CmpD.yes rfl ?_
    | refine CmpD.yes (by decide) ?_
    | refine CmpD.no (by decide) ?_
    | refine Chk.mk ⟨rfl, trivial⟩ ?_
    | refine Chk.mk ⟨rfl, rfl, trivial⟩ ?_
    | refine Chk.mk ⟨rfl, rfl, rfl, trivial⟩ ?_
    | refine Chk.mk ⟨rfl, rfl, rfl, rfl, trivial⟩ ?_
    | refine Chk.mk ⟨rfl, rfl, rfl, rfl, rfl, trivial⟩ ?_
    | refine Chk.mk ⟨rfl, rfl, rfl, rfl, rfl, rfl, trivial⟩ ?_)
  refine Tri.fix 5 rfl fun Jf5 hJf5 hm5 => ?_
  refine Tri.frame1 0 rfl (dk_Do (hD4.mono (Imm.le_trans hJm5 hJf5)) 2 few (some ⟨bX5, 0, none⟩) 1 [⟨64, aX5, 4096, 4096, madeL 1 4096⟩] (imgs_fixed (by unfold In64; omega) hm5 (hX5.mono hJf5)) (by simp) (superOf 1 1) 0) ?_
  rw [show List.map Img.pr [⟨64, aX5, 4096, 4096, madeL 1 4096⟩] = [(64, madeL 1 4096)] from rfl, do_wrong (.inr (.inr (.inr (do_bad (by rw [n1]; rintro ⟨h1, h2, h3⟩; omega)))))]
  rintro v Jg5 A' hJg5 ⟨rfl, ch5, hD5, rfl⟩
  refine ⟨_, rfl, ?_⟩
  dsimp only at hD5
  repeat (first
    | refine LoadD.own 0 rfl _ rfl rfl ?_
    | refine LoadD.own 1 rfl _ rfl rfl ?_
    | refine LoadD.own 2 rfl _ rfl rfl ?_
    | refine LoadD.own 3 rfl _ rfl rfl ?_
    | refine LoadD.own 4 rfl _ rfl rfl ?_
    | refine LoadP.at 0 rfl _ rfl rfl ?_
    | refine LoadP.at 1 rfl _ rfl rfl ?_
    | refine LoadP.at 2 rfl _ rfl rfl ?_
    | refine LoadP.at 3 rfl _ rfl rfl ?_
    | refine LoadP.at 4 rfl _ rfl rfl ?_
    | refine StoreD.st 0 rfl rfl rfl ?_
    | refine StoreD.st 1 rfl rfl rfl ?_
    | refine StoreD.st 2 rfl rfl rfl ?_
    | refine StoreD.st 3 rfl rfl rfl ?_
    | refine StoreD.st 4 rfl rfl rfl ?_
    | refine CmpD.yes rfl ?_
    | refine CmpD.yes (by decide) ?_
    | refine CmpD.no (by decide) ?_
    | refine Chk.mk ⟨rfl, trivial⟩ ?_
    | refine Chk.mk ⟨rfl, rfl, trivial⟩ ?_
    | refine Chk.mk ⟨rfl, rfl, rfl, trivial⟩ ?_
    | refine Chk.mk ⟨rfl, rfl, rfl, rfl, trivial⟩ ?_
    | refine Chk.mk ⟨rfl, rfl, rfl, rfl, rfl, trivial⟩ ?_
    | refine Chk.mk ⟨rfl, rfl, rfl, rfl, rfl, rfl, trivial⟩ ?_)
  refine Tri.free (law_made 1 1 _) ?_
  rintro v Jm6 _ hJm6 ⟨aX6, rfl, hX6⟩
  repeat (first
    | refine LoadD.own 0 rfl _ rfl rfl ?_
    | refine LoadD.own 1 rfl _ rfl rfl ?_
    | refine LoadD.own 2 rfl _ rfl rfl ?_
    | refine LoadD.own 3 rfl _ rfl rfl ?_
    | refine LoadD.own 4 rfl _ rfl rfl ?_
    | refine LoadP.at 0 rfl _ rfl rfl ?_
    | refine LoadP.at 1 rfl _ rfl rfl ?_
    | refine LoadP.at 2 rfl _ rfl rfl ?_
    | refine LoadP.at 3 rfl _ rfl rfl ?_
    | refine LoadP.at 4 rfl _ rfl rfl ?_
    | refine StoreD.st 0 rfl rfl rfl ?_
    | refine StoreD.st 1 rfl rfl rfl ?_
    | refine StoreD.st 2 rfl rfl rfl ?_
    | refine StoreD.st 3 rfl rfl rfl ?_
    | refine StoreD.st 4 rfl rfl rfl ?_
    | refine CmpD.yes rfl ?_
    | refine CmpD.yes (by decide) ?_
    | refine CmpD.no (by decide) ?_
    | refine Chk.mk ⟨rfl, trivial⟩ ?_
    | refine Chk.mk ⟨rfl, rfl, trivial⟩ ?_
    | refine Chk.mk ⟨rfl, rfl, rfl, trivial⟩ ?_
    | refine Chk.mk ⟨rfl, rfl, rfl, rfl, trivial⟩ ?_
    | refine Chk.mk ⟨rfl, rfl, rfl, rfl, rfl, trivial⟩ ?_
    | refine Chk.mk ⟨rfl, rfl, rfl, rfl, rfl, rfl, trivial⟩ ?_)
  conv => whnf
  intro bX6
  repeat (first
    | refine LoadD.own 0 rfl _ rfl rfl ?_
    | refine LoadD.own 1 rfl _ rfl rfl ?_
    | refine LoadD.own 2 rfl _ rfl rfl ?_
    | refine LoadD.own 3 rfl _ rfl rfl ?_
    | refine LoadD.own 4 rfl _ rfl rfl ?_
    | refine LoadP.at 0 rfl _ rfl rfl ?_
    | refine LoadP.at 1 rfl _ rfl rfl ?_
    | refine LoadP.at 2 rfl _ rfl rfl ?_
    | refine LoadP.at 3 rfl _ rfl rfl ?_
    | refine LoadP.at 4 rfl _ rfl rfl ?_
    | refine StoreD.st 0 rfl rfl rfl ?_
    | refine StoreD.st 1 rfl rfl rfl ?_
    | refine StoreD.st 2 rfl rfl rfl ?_
    | refine StoreD.st 3 rfl rfl rfl ?_
    | refine StoreD.st 4 rfl rfl rfl ?_
    | refine CmpD.yes rfl ?_
    | refine CmpD.yes (by decide) ?_
    | refine CmpD.no (by decide) ?_
    | refine Chk.mk ⟨rfl, trivial⟩ ?_
    | refine Chk.mk ⟨rfl, rfl, trivial⟩ ?_
    | refine Chk.mk ⟨rfl, rfl, rfl, trivial⟩ ?_
    | refine Chk.mk ⟨rfl, rfl, rfl, rfl, trivial⟩ ?_
    | refine Chk.mk ⟨rfl, rfl, rfl, rfl, rfl, trivial⟩ ?_
    | refine Chk.mk ⟨rfl, rfl, rfl, rfl, rfl, rfl, trivial⟩ ?_)
  refine Tri.free (law_of 1 1 _) ?_
  rintro v Jl6 _ hJl6 ⟨rfl, rfl⟩
  repeat (first
    | refine LoadD.own 0 rfl _ rfl rfl ?_
    | refine LoadD.own 1 rfl _ rfl rfl ?_
    | refine LoadD.own 2 rfl _ rfl rfl ?_
    | refine LoadD.own 3 rfl _ rfl rfl ?_
    | refine LoadD.own 4 rfl _ rfl rfl ?_
    | refine LoadP.at 0 rfl _ rfl rfl ?_
    | refine LoadP.at 1 rfl _ rfl rfl ?_
    | refine LoadP.at 2 rfl _ rfl rfl ?_
    | refine LoadP.at 3 rfl _ rfl rfl ?_
    | refine LoadP.at 4 rfl _ rfl rfl ?_
    | refine StoreD.st 0 rfl rfl rfl ?_
    | refine StoreD.st 1 rfl rfl rfl ?_
    | refine StoreD.st 2 rfl rfl rfl ?_
    | refine StoreD.st 3 rfl rfl rfl ?_
    | refine StoreD.st 4 rfl rfl rfl ?_
    | refine CmpD.yes rfl ?_
    | refine CmpD.yes (by decide) ?_
    | refine CmpD.no (by decide) ?_
    | refine Chk.mk ⟨rfl, trivial⟩ ?_
    | refine Chk.mk ⟨rfl, rfl, trivial⟩ ?_
    | refine Chk.mk ⟨rfl, rfl, rfl, trivial⟩ ?_
    | refine Chk.mk ⟨rfl, rfl, rfl, rfl, trivial⟩ ?_
    | refine Chk.mk ⟨rfl, rfl, rfl, rfl, rfl, trivial⟩ ?_
    | refine Chk.mk ⟨rfl, rfl, rfl, rfl, rfl, rfl, trivial⟩ ?_)
  refine Tri.fix 6 rfl fun Jf6 hJf6 hm6 => ?_
  refine Tri.frame1 0 rfl (dk_Do (hD5.mono (Imm.le_trans hJm6 hJf6)) 2 few (some ⟨bX6, 0, none⟩) 1 [⟨1, aX6, 4096, 4096, madeL 1 4096⟩] (imgs_fixed (by unfold In64; omega) hm6 (hX6.mono hJf6)) (by simp) (superOf 1 1) 0) ?_
  rw [show List.map Img.pr [⟨1, aX6, 4096, 4096, madeL 1 4096⟩] = [(1, madeL 1 4096)] from rfl, do_wrong (.inr (.inr (.inr (do_bad (by rw [n1]; rintro ⟨h1, h2, h3⟩; omega)))))]
  rintro v Jg6 A' hJg6 ⟨rfl, ch6, hD6, rfl⟩
  refine ⟨_, rfl, ?_⟩
  dsimp only at hD6
  repeat (first
    | refine LoadD.own 0 rfl _ rfl rfl ?_
    | refine LoadD.own 1 rfl _ rfl rfl ?_
    | refine LoadD.own 2 rfl _ rfl rfl ?_
    | refine LoadD.own 3 rfl _ rfl rfl ?_
    | refine LoadD.own 4 rfl _ rfl rfl ?_
    | refine LoadP.at 0 rfl _ rfl rfl ?_
    | refine LoadP.at 1 rfl _ rfl rfl ?_
    | refine LoadP.at 2 rfl _ rfl rfl ?_
    | refine LoadP.at 3 rfl _ rfl rfl ?_
    | refine LoadP.at 4 rfl _ rfl rfl ?_
    | refine StoreD.st 0 rfl rfl rfl ?_
    | refine StoreD.st 1 rfl rfl rfl ?_
    | refine StoreD.st 2 rfl rfl rfl ?_
    | refine StoreD.st 3 rfl rfl rfl ?_
    | refine StoreD.st 4 rfl rfl rfl ?_
    | refine CmpD.yes rfl ?_
    | refine CmpD.yes (by decide) ?_
    | refine CmpD.no (by decide) ?_
    | refine Chk.mk ⟨rfl, trivial⟩ ?_
    | refine Chk.mk ⟨rfl, rfl, trivial⟩ ?_
    | refine Chk.mk ⟨rfl, rfl, rfl, trivial⟩ ?_
    | refine Chk.mk ⟨rfl, rfl, rfl, rfl, trivial⟩ ?_
    | refine Chk.mk ⟨rfl, rfl, rfl, rfl, rfl, trivial⟩ ?_
    | refine Chk.mk ⟨rfl, rfl, rfl, rfl, rfl, rfl, trivial⟩ ?_)
  conv => whnf
  intro bX7
  repeat (first
    | refine LoadD.own 0 rfl _ rfl rfl ?_
    | refine LoadD.own 1 rfl _ rfl rfl ?_
    | refine LoadD.own 2 rfl _ rfl rfl ?_
    | refine LoadD.own 3 rfl _ rfl rfl ?_
    | refine LoadD.own 4 rfl _ rfl rfl ?_
    | refine LoadP.at 0 rfl _ rfl rfl ?_
    | refine LoadP.at 1 rfl _ rfl rfl ?_
    | refine LoadP.at 2 rfl _ rfl rfl ?_
    | refine LoadP.at 3 rfl _ rfl rfl ?_
    | refine LoadP.at 4 rfl _ rfl rfl ?_
    | refine StoreD.st 0 rfl rfl rfl ?_
    | refine StoreD.st 1 rfl rfl rfl ?_
    | refine StoreD.st 2 rfl rfl rfl ?_
    | refine StoreD.st 3 rfl rfl rfl ?_
    | refine StoreD.st 4 rfl rfl rfl ?_
    | refine CmpD.yes rfl ?_
    | refine CmpD.yes (by decide) ?_
    | refine CmpD.no (by decide) ?_
    | refine Chk.mk ⟨rfl, trivial⟩ ?_
    | refine Chk.mk ⟨rfl, rfl, trivial⟩ ?_
    | refine Chk.mk ⟨rfl, rfl, rfl, trivial⟩ ?_
    | refine Chk.mk ⟨rfl, rfl, rfl, rfl, trivial⟩ ?_
    | refine Chk.mk ⟨rfl, rfl, rfl, rfl, rfl, trivial⟩ ?_
    | refine Chk.mk ⟨rfl, rfl, rfl, rfl, rfl, rfl, trivial⟩ ?_)
  refine Tri.free (law_of 1 1 _) ?_
  rintro v Jl7 _ hJl7 ⟨rfl, rfl⟩
  repeat (first
    | refine LoadD.own 0 rfl _ rfl rfl ?_
    | refine LoadD.own 1 rfl _ rfl rfl ?_
    | refine LoadD.own 2 rfl _ rfl rfl ?_
    | refine LoadD.own 3 rfl _ rfl rfl ?_
    | refine LoadD.own 4 rfl _ rfl rfl ?_
    | refine LoadP.at 0 rfl _ rfl rfl ?_
    | refine LoadP.at 1 rfl _ rfl rfl ?_
    | refine LoadP.at 2 rfl _ rfl rfl ?_
    | refine LoadP.at 3 rfl _ rfl rfl ?_
    | refine LoadP.at 4 rfl _ rfl rfl ?_
    | refine StoreD.st 0 rfl rfl rfl ?_
    | refine StoreD.st 1 rfl rfl rfl ?_
    | refine StoreD.st 2 rfl rfl rfl ?_
    | refine StoreD.st 3 rfl rfl rfl ?_
    | refine StoreD.st 4 rfl rfl rfl ?_
    | refine CmpD.yes rfl ?_
    | refine CmpD.yes (by decide) ?_
    | refine CmpD.no (by decide) ?_
    | refine Chk.mk ⟨rfl, trivial⟩ ?_
    | refine Chk.mk ⟨rfl, rfl, trivial⟩ ?_
    | refine Chk.mk ⟨rfl, rfl, rfl, trivial⟩ ?_
    | refine Chk.mk ⟨rfl, rfl, rfl, rfl, trivial⟩ ?_
    | refine Chk.mk ⟨rfl, rfl, rfl, rfl, rfl, trivial⟩ ?_
    | refine Chk.mk ⟨rfl, rfl, rfl, rfl, rfl, rfl, trivial⟩ ?_)
  refine Tri.fix 7 rfl fun Jf7 hJf7 hm7 => ?_
  refine Tri.frame1 0 rfl (dk_Do (hD6.mono hJf7) 2 few (some ⟨bX7, 0, none⟩) 1 [⟨30, none, 0, 0, []⟩] (imgs_fixed (by unfold In64; omega) hm7 ⟨rfl, .inl rfl⟩) (by simp) (superOf 1 1) 0) ?_
  rw [show List.map Img.pr [⟨30, none, 0, 0, []⟩] = [(30, [])] from rfl, do_wrong (.inr (.inr (.inr (do_bad (by rw [n1]; rintro ⟨h1, h2, h3⟩; cases h3)))))]
  rintro v Jg7 A' hJg7 ⟨rfl, ch7, hD7, rfl⟩
  refine ⟨_, rfl, ?_⟩
  dsimp only at hD7
  repeat (first
    | refine LoadD.own 0 rfl _ rfl rfl ?_
    | refine LoadD.own 1 rfl _ rfl rfl ?_
    | refine LoadD.own 2 rfl _ rfl rfl ?_
    | refine LoadD.own 3 rfl _ rfl rfl ?_
    | refine LoadD.own 4 rfl _ rfl rfl ?_
    | refine LoadP.at 0 rfl _ rfl rfl ?_
    | refine LoadP.at 1 rfl _ rfl rfl ?_
    | refine LoadP.at 2 rfl _ rfl rfl ?_
    | refine LoadP.at 3 rfl _ rfl rfl ?_
    | refine LoadP.at 4 rfl _ rfl rfl ?_
    | refine StoreD.st 0 rfl rfl rfl ?_
    | refine StoreD.st 1 rfl rfl rfl ?_
    | refine StoreD.st 2 rfl rfl rfl ?_
    | refine StoreD.st 3 rfl rfl rfl ?_
    | refine StoreD.st 4 rfl rfl rfl ?_
    | refine CmpD.yes rfl ?_
    | refine CmpD.yes (by decide) ?_
    | refine CmpD.no (by decide) ?_
    | refine Chk.mk ⟨rfl, trivial⟩ ?_
    | refine Chk.mk ⟨rfl, rfl, trivial⟩ ?_
    | refine Chk.mk ⟨rfl, rfl, rfl, trivial⟩ ?_
    | refine Chk.mk ⟨rfl, rfl, rfl, rfl, trivial⟩ ?_
    | refine Chk.mk ⟨rfl, rfl, rfl, rfl, rfl, trivial⟩ ?_
    | refine Chk.mk ⟨rfl, rfl, rfl, rfl, rfl, rfl, trivial⟩ ?_)
  refine Tri.frame1 0 rfl (dk_Writes hD7) ?_
  rw [k1]
  rintro v J40 A' hJ40 ⟨rfl, rfl, rfl⟩
  refine ⟨_, rfl, ?_⟩
  repeat (first
    | refine LoadD.own 0 rfl _ rfl rfl ?_
    | refine LoadD.own 1 rfl _ rfl rfl ?_
    | refine LoadD.own 2 rfl _ rfl rfl ?_
    | refine LoadD.own 3 rfl _ rfl rfl ?_
    | refine LoadD.own 4 rfl _ rfl rfl ?_
    | refine LoadP.at 0 rfl _ rfl rfl ?_
    | refine LoadP.at 1 rfl _ rfl rfl ?_
    | refine LoadP.at 2 rfl _ rfl rfl ?_
    | refine LoadP.at 3 rfl _ rfl rfl ?_
    | refine LoadP.at 4 rfl _ rfl rfl ?_
    | refine StoreD.st 0 rfl rfl rfl ?_
    | refine StoreD.st 1 rfl rfl rfl ?_
    | refine StoreD.st 2 rfl rfl rfl ?_
    | refine StoreD.st 3 rfl rfl rfl ?_
    | refine StoreD.st 4 rfl rfl rfl ?_
    | refine CmpD.yes rfl ?_
    | refine CmpD.yes (by decide) ?_
    | refine CmpD.no (by decide) ?_
    | refine Chk.mk ⟨rfl, trivial⟩ ?_
    | refine Chk.mk ⟨rfl, rfl, trivial⟩ ?_
    | refine Chk.mk ⟨rfl, rfl, rfl, trivial⟩ ?_
    | refine Chk.mk ⟨rfl, rfl, rfl, rfl, trivial⟩ ?_
    | refine Chk.mk ⟨rfl, rfl, rfl, rfl, rfl, trivial⟩ ?_
    | refine Chk.mk ⟨rfl, rfl, rfl, rfl, rfl, rfl, trivial⟩ ?_)
  refine Tri.mono (awake10 _ _) ?_
  rintro v J41 S41 hJ41 rfl
  exact Done.mk rfl
end Go.Proofs.Ytbpdbgcndfcilaa

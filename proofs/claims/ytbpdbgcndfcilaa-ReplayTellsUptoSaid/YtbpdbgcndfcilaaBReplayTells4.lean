/- Texts of this claim laid together: Ref03, Shelf, Keys, Sort, Sorted, Ring, Journal, Home, Home2, SameImgs, Rf4, Rf4b, May, JTail, Jk, Jk2, Jk3, Jk4, CopyImgs. -/
import Derived.Test.YtbpdbgcndfcilaaBReplayTells3
import Derived.Shelf.Sort.Plain
import Derived.Shelf.Slices.In.SortNone
import Derived.Test.YtbpdbgcndfcilaaProg
import Derived.Test.YtbpdbgcndfcilaaBReplayTells2
import Derived.Test.YtbpdbgcndfcilaaBReplayTells1
namespace Go.Proofs.Ytbpdbgcndfcilaa
open Go.RowKit Go.Sl
set_option maxRecDepth 20000

theorem ref_Add' {I : Imm} {S : St} {a : Option Addr} {len cap : Nat} {l : Dat} (h : SlC I S a len (bts l)) (hlen : len ≤ 1000000) (v : Nat) (hv : v < 18446744073709551616) (n : Nat) (hn : n ≤ 8) :
    Tri Try.prog 159 #[.slice a len cap, .int .u64 v, .int .i64 n] I S fun r J S' => ∃ a' cap' ch, r = .slice a' (len + n) cap' ∧ OwnB ch a' (len + n) cap' (l ++ be v n) ∧ I = J ∧ S' = S ++ [ch] := by
  refine Tri.pack ((ref_Add S.flatten h.pack hlen v hv n hn).mono ?_)
  rintro r J S' hJ ⟨a', cap', ch, rfl, hown, rfl, rfl⟩
  exact ⟨[ch], rfl, a', cap', ch, rfl, hown, rfl, rfl⟩
theorem ref_add {I : Imm} {S : St} {a : Option Addr} {len cap : Nat} {l : Dat} (h : SlC I S a len (bts l)) (hlen : len ≤ 1000000) (x : Int) (hx : 0 ≤ x ∧ x ≤ 9223372036854775807) (n : Nat) (hn : n ≤ 8) :
    Tri Try.prog 147 #[.slice a len cap, .int .i64 x, .int .i64 n] I S fun r J S' => ∃ a' cap' ch, r = .slice a' (len + n) cap' ∧ OwnB ch a' (len + n) cap' (l ++ be x.toNat n) ∧ I = J ∧ S' = S ++ [ch] := by
  obtain ⟨k, rfl⟩ : ∃ k : Nat, x = k := ⟨x.toNat, by omega⟩
  refine Tri.of (args := [.slice a len cap, .int .i64 k, .int .i64 n]) tabOk Try.func147 rfl (by kernel_rfl) (by kernel_rfl) ?_
  refine ToD.to (k : Int) (wrap_u64 k (by omega)) ?_
  refine Tri.mono (ref_Add' h hlen k (by omega) n hn) ?_
  rintro r J S' hJ ⟨a', cap', ch, rfl, hown, rfl, rfl⟩
  exact Done.mk ⟨a', cap', ch, rfl, hown, rfl, rfl⟩
theorem zeros_snoc (l : Dat) (n : Nat) : l ++ List.replicate n 0 ++ [0] = l ++ List.replicate (n + 1) (0 : UInt8) := by
  rw [List.append_assoc, ← List.replicate_succ']
set_option maxHeartbeats 2000000 in
theorem ref_PutSuper (s : Sup) (I : Imm) : Tri Try.prog 112 #[s.v] I [] fun v J S' => I = J ∧
    ((¬ RightS s ∧ v = .tuple #[.slice none 0 0, .int .i64 2] ∧ S' = []) ∨ (RightS s ∧ ∃ a cap ch, v = .tuple #[.slice a 4096 cap, .int .i64 0] ∧ OwnB ch a 4096 cap (supL s) ∧ S' = [ch])) := by
  refine Tri.drop ?_ (fun _ _ _ _ h => h)
  refine Tri.of (args := [s.v]) tabOk Try.func112 rfl (by kernel_rfl) (by kernel_rfl) ?_
  conv => whnf
  intro b
  repeat (first
    | refine LoadD.own 0 rfl _ rfl rfl ?_
    | refine LoadP.at 0 rfl _ rfl rfl ?_
    | refine StoreD.st 0 rfl rfl rfl ?_
    | refine CmpD.yes rfl ?_
    | refine CmpD.yes (by decide) ?_
    | refine CmpD.no (by decide) ?_
    | refine Chk.mk ⟨rfl, trivial⟩ ?_
    | refine Chk.mk ⟨rfl, rfl, trivial⟩ ?_
    | refine Chk.mk ⟨rfl, rfl, rfl, trivial⟩ ?_
    | refine Chk.mk ⟨rfl, rfl, rfl, rfl, trivial⟩ ?_
    | refine Chk.mk ⟨rfl, rfl, rfl, rfl, rfl, trivial⟩ ?_
    | refine Chk.mk ⟨rfl, rfl, rfl, rfl, rfl, rfl, trivial⟩ ?_)
  by_cases hR : RightS s
  rotate_left
  · have fin : ∃ S'', Drop [[(b, row [.int .i64 s.blocks, .int .i64 s.epoch, .int .i64 s.seq, .int .i64 s.tail] 56)]] S'' ∧ I = I ∧ ((¬ RightS s ∧ Value.tuple #[.slice none 0 0, .int .i64 2] = .tuple #[.slice none 0 0, .int .i64 2] ∧ S'' = []) ∨ (RightS s ∧ ∃ a cap ch, Value.tuple #[.slice none 0 0, .int .i64 2] = .tuple #[.slice a 4096 cap, .int .i64 0] ∧ OwnB ch a 4096 cap (supL s) ∧ S'' = [ch])) :=
      ⟨[], ⟨_, List.Perm.refl _⟩, rfl, .inl ⟨hR, rfl, rfl⟩⟩
    refine CmpD.split (fun c1 => ?_) (fun c1 => ?_)
    · exact Done.mk fin
    repeat (first
      | refine LoadD.own 0 rfl _ rfl rfl ?_
      | refine LoadP.at 0 rfl _ rfl rfl ?_
      | refine StoreD.st 0 rfl rfl rfl ?_
      | refine CmpD.yes rfl ?_
      | refine CmpD.yes (by decide) ?_
      | refine CmpD.no (by decide) ?_
      | refine Chk.mk ⟨rfl, trivial⟩ ?_
      | refine Chk.mk ⟨rfl, rfl, trivial⟩ ?_
      | refine Chk.mk ⟨rfl, rfl, rfl, trivial⟩ ?_
      | refine Chk.mk ⟨rfl, rfl, rfl, rfl, trivial⟩ ?_
      | refine Chk.mk ⟨rfl, rfl, rfl, rfl, rfl, trivial⟩ ?_
      | refine Chk.mk ⟨rfl, rfl, rfl, rfl, rfl, rfl, trivial⟩ ?_)
    refine CmpD.split (fun c2 => ?_) (fun c2 => ?_)
    · exact Done.mk fin
    repeat (first
      | refine LoadD.own 0 rfl _ rfl rfl ?_
      | refine LoadP.at 0 rfl _ rfl rfl ?_
      | refine StoreD.st 0 rfl rfl rfl ?_
      | refine CmpD.yes rfl ?_
      | refine CmpD.yes (by decide) ?_
      | refine CmpD.no (by decide) ?_
      | refine Chk.mk ⟨rfl, trivial⟩ ?_
      | refine Chk.mk ⟨rfl, rfl, trivial⟩ ?_
      | refine Chk.mk ⟨rfl, rfl, rfl, trivial⟩ ?_
      | refine Chk.mk ⟨rfl, rfl, rfl, rfl, trivial⟩ ?_
      | refine Chk.mk ⟨rfl, rfl, rfl, rfl, rfl, trivial⟩ ?_
      | refine Chk.mk ⟨rfl, rfl, rfl, rfl, rfl, rfl, trivial⟩ ?_)
    refine CmpD.split (fun c3 => ?_) (fun c3 => ?_)
    · exact Done.mk fin
    repeat (first
      | refine LoadD.own 0 rfl _ rfl rfl ?_
      | refine LoadP.at 0 rfl _ rfl rfl ?_
      | refine StoreD.st 0 rfl rfl rfl ?_
      | refine CmpD.yes rfl ?_
      | refine CmpD.yes (by decide) ?_
      | refine CmpD.no (by decide) ?_
      | refine Chk.mk ⟨rfl, trivial⟩ ?_
      | refine Chk.mk ⟨rfl, rfl, trivial⟩ ?_
      | refine Chk.mk ⟨rfl, rfl, rfl, trivial⟩ ?_
      | refine Chk.mk ⟨rfl, rfl, rfl, rfl, trivial⟩ ?_
      | refine Chk.mk ⟨rfl, rfl, rfl, rfl, rfl, trivial⟩ ?_
      | refine Chk.mk ⟨rfl, rfl, rfl, rfl, rfl, rfl, trivial⟩ ?_)
    refine CmpD.split (fun c4 => ?_) (fun c4 => ?_)
    · exact Done.mk fin
    repeat (first
      | refine LoadD.own 0 rfl _ rfl rfl ?_
      | refine LoadP.at 0 rfl _ rfl rfl ?_
      | refine StoreD.st 0 rfl rfl rfl ?_
      | refine CmpD.yes rfl ?_
      | refine CmpD.yes (by decide) ?_
      | refine CmpD.no (by decide) ?_
      | refine Chk.mk ⟨rfl, trivial⟩ ?_
      | refine Chk.mk ⟨rfl, rfl, trivial⟩ ?_
      | refine Chk.mk ⟨rfl, rfl, rfl, trivial⟩ ?_
      | refine Chk.mk ⟨rfl, rfl, rfl, rfl, trivial⟩ ?_
      | refine Chk.mk ⟨rfl, rfl, rfl, rfl, rfl, trivial⟩ ?_
      | refine Chk.mk ⟨rfl, rfl, rfl, rfl, rfl, rfl, trivial⟩ ?_)
    refine CmpD.split (fun c5 => ?_) (fun c5 => ?_)
    · exact Done.mk fin
    repeat (first
      | refine LoadD.own 0 rfl _ rfl rfl ?_
      | refine LoadP.at 0 rfl _ rfl rfl ?_
      | refine StoreD.st 0 rfl rfl rfl ?_
      | refine CmpD.yes rfl ?_
      | refine CmpD.yes (by decide) ?_
      | refine CmpD.no (by decide) ?_
      | refine Chk.mk ⟨rfl, trivial⟩ ?_
      | refine Chk.mk ⟨rfl, rfl, trivial⟩ ?_
      | refine Chk.mk ⟨rfl, rfl, rfl, trivial⟩ ?_
      | refine Chk.mk ⟨rfl, rfl, rfl, rfl, trivial⟩ ?_
      | refine Chk.mk ⟨rfl, rfl, rfl, rfl, rfl, trivial⟩ ?_
      | refine Chk.mk ⟨rfl, rfl, rfl, rfl, rfl, rfl, trivial⟩ ?_)
    refine CmpD.split (fun c6 => ?_) (fun c6 => ?_)
    · exact Done.mk fin
    repeat (first
      | refine LoadD.own 0 rfl _ rfl rfl ?_
      | refine LoadP.at 0 rfl _ rfl rfl ?_
      | refine StoreD.st 0 rfl rfl rfl ?_
      | refine CmpD.yes rfl ?_
      | refine CmpD.yes (by decide) ?_
      | refine CmpD.no (by decide) ?_
      | refine Chk.mk ⟨rfl, trivial⟩ ?_
      | refine Chk.mk ⟨rfl, rfl, trivial⟩ ?_
      | refine Chk.mk ⟨rfl, rfl, rfl, trivial⟩ ?_
      | refine Chk.mk ⟨rfl, rfl, rfl, rfl, trivial⟩ ?_
      | refine Chk.mk ⟨rfl, rfl, rfl, rfl, rfl, trivial⟩ ?_
      | refine Chk.mk ⟨rfl, rfl, rfl, rfl, rfl, rfl, trivial⟩ ?_)
    refine CmpD.split (fun c7 => ?_) (fun c7 => ?_)
    · exact Done.mk fin
    repeat (first
      | refine LoadD.own 0 rfl _ rfl rfl ?_
      | refine LoadP.at 0 rfl _ rfl rfl ?_
      | refine StoreD.st 0 rfl rfl rfl ?_
      | refine CmpD.yes rfl ?_
      | refine CmpD.yes (by decide) ?_
      | refine CmpD.no (by decide) ?_
      | refine Chk.mk ⟨rfl, trivial⟩ ?_
      | refine Chk.mk ⟨rfl, rfl, trivial⟩ ?_
      | refine Chk.mk ⟨rfl, rfl, rfl, trivial⟩ ?_
      | refine Chk.mk ⟨rfl, rfl, rfl, rfl, trivial⟩ ?_
      | refine Chk.mk ⟨rfl, rfl, rfl, rfl, rfl, trivial⟩ ?_
      | refine Chk.mk ⟨rfl, rfl, rfl, rfl, rfl, rfl, trivial⟩ ?_)
    refine CmpD.split (fun c8 => ?_) (fun c8 => ?_)
    · exact Done.mk fin
    exact absurd ⟨by omega, by omega, by omega, by omega, by omega, by omega, by omega, by omega⟩ hR
  have hR2 := hR
  unfold RightS at hR2
  repeat (first
    | refine LoadD.own 0 rfl _ rfl rfl ?_
    | refine LoadP.at 0 rfl _ rfl rfl ?_
    | refine StoreD.st 0 rfl rfl rfl ?_
    | refine CmpD.yes rfl ?_
    | refine CmpD.yes (by decide) ?_
    | refine CmpD.no (by decide) ?_
    | refine Chk.mk ⟨rfl, trivial⟩ ?_
    | refine Chk.mk ⟨rfl, rfl, trivial⟩ ?_
    | refine Chk.mk ⟨rfl, rfl, rfl, trivial⟩ ?_
    | refine Chk.mk ⟨rfl, rfl, rfl, rfl, trivial⟩ ?_
    | refine Chk.mk ⟨rfl, rfl, rfl, rfl, rfl, trivial⟩ ?_
    | refine Chk.mk ⟨rfl, rfl, rfl, rfl, rfl, rfl, trivial⟩ ?_
    | refine ToD.i64 (by omega) (by omega) ?_
    | refine Chk.mk (by omega) ?_
    | refine CmpD.yes (by omega) ?_
    | refine CmpD.no (by omega) ?_)
  refine CodeF.sched [[], [0], [], [2], [0, 1, 2, 3], [], [5], [0, 1, 2, 3, 4, 5, 6], [], [8], [0, 1, 2, 3, 4, 5, 6, 7, 8, 9], [], [11], [0, 1, 2, 3, 4, 5, 6, 7, 8, 9, 10, 11, 12], [0, 1, 2, 3, 4, 5, 6, 7, 8, 9, 10, 11, 12, 13]] [2, 3, 5, 6, 8, 9, 11, 12, 0, 1, 4, 7, 10, 13, 14] (by kernel_rfl) ?_
  repeat (first
    | refine LoadD.own 0 rfl _ rfl rfl ?_
    | refine LoadP.at 0 rfl _ rfl rfl ?_
    | refine StoreD.st 0 rfl rfl rfl ?_
    | refine CmpD.yes rfl ?_
    | refine CmpD.yes (by decide) ?_
    | refine CmpD.no (by decide) ?_
    | refine Chk.mk ⟨rfl, trivial⟩ ?_
    | refine Chk.mk ⟨rfl, rfl, trivial⟩ ?_
    | refine Chk.mk ⟨rfl, rfl, rfl, trivial⟩ ?_
    | refine Chk.mk ⟨rfl, rfl, rfl, rfl, trivial⟩ ?_
    | refine Chk.mk ⟨rfl, rfl, rfl, rfl, rfl, trivial⟩ ?_
    | refine Chk.mk ⟨rfl, rfl, rfl, rfl, rfl, rfl, trivial⟩ ?_)
  conv => whnf
  intro bM
  repeat (first
    | refine LoadD.own 0 rfl _ rfl rfl ?_
    | refine LoadD.own 1 rfl _ rfl rfl ?_
    | refine LoadP.at 0 rfl _ rfl rfl ?_
    | refine LoadP.at 1 rfl _ rfl rfl ?_
    | refine StoreD.st 0 rfl rfl rfl ?_
    | refine StoreD.st 1 rfl rfl rfl ?_
    | refine CmpD.yes rfl ?_
    | refine CmpD.yes (by decide) ?_
    | refine CmpD.no (by decide) ?_
    | refine Chk.mk ⟨rfl, trivial⟩ ?_
    | refine Chk.mk ⟨rfl, rfl, trivial⟩ ?_
    | refine Chk.mk ⟨rfl, rfl, rfl, trivial⟩ ?_
    | refine Chk.mk ⟨rfl, rfl, rfl, rfl, trivial⟩ ?_
    | refine Chk.mk ⟨rfl, rfl, rfl, rfl, rfl, trivial⟩ ?_
    | refine Chk.mk ⟨rfl, rfl, rfl, rfl, rfl, rfl, trivial⟩ ?_)
  refine convMarkD tabOk rfl rfl rfl rfl 1 rfl ?_
  repeat (first
    | refine LoadD.own 0 rfl _ rfl rfl ?_
    | refine LoadD.own 1 rfl _ rfl rfl ?_
    | refine LoadP.at 0 rfl _ rfl rfl ?_
    | refine LoadP.at 1 rfl _ rfl rfl ?_
    | refine StoreD.st 0 rfl rfl rfl ?_
    | refine StoreD.st 1 rfl rfl rfl ?_
    | refine CmpD.yes rfl ?_
    | refine CmpD.yes (by decide) ?_
    | refine CmpD.no (by decide) ?_
    | refine Chk.mk ⟨rfl, trivial⟩ ?_
    | refine Chk.mk ⟨rfl, rfl, trivial⟩ ?_
    | refine Chk.mk ⟨rfl, rfl, rfl, trivial⟩ ?_
    | refine Chk.mk ⟨rfl, rfl, rfl, rfl, trivial⟩ ?_
    | refine Chk.mk ⟨rfl, rfl, rfl, rfl, rfl, trivial⟩ ?_
    | refine Chk.mk ⟨rfl, rfl, rfl, rfl, rfl, rfl, trivial⟩ ?_)
  refine Tri.nf (ref_add (l := magicL) ?_ (by omega) s.blocks (by omega) 8 (by omega)) ?_
  · exact ⟨rfl, .inr ⟨bM, 0, rfl, _, _, _, .own 1 List.mem_cons_self, rfl, rfl⟩⟩
  rintro v J S' hJ ⟨a1, cap1, ch1, rfl, h1, rfl, rfl⟩
  repeat (first
    | refine LoadD.own 0 rfl _ rfl rfl ?_
    | refine LoadD.own 1 rfl _ rfl rfl ?_
    | refine LoadP.at 0 rfl _ rfl rfl ?_
    | refine LoadP.at 1 rfl _ rfl rfl ?_
    | refine StoreD.st 0 rfl rfl rfl ?_
    | refine StoreD.st 1 rfl rfl rfl ?_
    | refine CmpD.yes rfl ?_
    | refine CmpD.yes (by decide) ?_
    | refine CmpD.no (by decide) ?_
    | refine Chk.mk ⟨rfl, trivial⟩ ?_
    | refine Chk.mk ⟨rfl, rfl, trivial⟩ ?_
    | refine Chk.mk ⟨rfl, rfl, rfl, trivial⟩ ?_
    | refine Chk.mk ⟨rfl, rfl, rfl, rfl, trivial⟩ ?_
    | refine Chk.mk ⟨rfl, rfl, rfl, rfl, rfl, trivial⟩ ?_
    | refine Chk.mk ⟨rfl, rfl, rfl, rfl, rfl, rfl, trivial⟩ ?_)
  refine Tri.nf (ref_add (h1.slC1 2 rfl) (by omega) s.epoch (by omega) 8 (by omega)) ?_
  rintro v J S' hJ ⟨a2, cap2, ch2, rfl, h2, rfl, rfl⟩
  repeat (first
    | refine LoadD.own 0 rfl _ rfl rfl ?_
    | refine LoadD.own 1 rfl _ rfl rfl ?_
    | refine LoadP.at 0 rfl _ rfl rfl ?_
    | refine LoadP.at 1 rfl _ rfl rfl ?_
    | refine StoreD.st 0 rfl rfl rfl ?_
    | refine StoreD.st 1 rfl rfl rfl ?_
    | refine CmpD.yes rfl ?_
    | refine CmpD.yes (by decide) ?_
    | refine CmpD.no (by decide) ?_
    | refine Chk.mk ⟨rfl, trivial⟩ ?_
    | refine Chk.mk ⟨rfl, rfl, trivial⟩ ?_
    | refine Chk.mk ⟨rfl, rfl, rfl, trivial⟩ ?_
    | refine Chk.mk ⟨rfl, rfl, rfl, rfl, trivial⟩ ?_
    | refine Chk.mk ⟨rfl, rfl, rfl, rfl, rfl, trivial⟩ ?_
    | refine Chk.mk ⟨rfl, rfl, rfl, rfl, rfl, rfl, trivial⟩ ?_)
  refine Tri.nf (ref_add (h2.slC1 3 rfl) (by omega) s.seq (by omega) 8 (by omega)) ?_
  rintro v J S' hJ ⟨a3, cap3, ch3, rfl, h3, rfl, rfl⟩
  repeat (first
    | refine LoadD.own 0 rfl _ rfl rfl ?_
    | refine LoadD.own 1 rfl _ rfl rfl ?_
    | refine LoadP.at 0 rfl _ rfl rfl ?_
    | refine LoadP.at 1 rfl _ rfl rfl ?_
    | refine StoreD.st 0 rfl rfl rfl ?_
    | refine StoreD.st 1 rfl rfl rfl ?_
    | refine CmpD.yes rfl ?_
    | refine CmpD.yes (by decide) ?_
    | refine CmpD.no (by decide) ?_
    | refine Chk.mk ⟨rfl, trivial⟩ ?_
    | refine Chk.mk ⟨rfl, rfl, trivial⟩ ?_
    | refine Chk.mk ⟨rfl, rfl, rfl, trivial⟩ ?_
    | refine Chk.mk ⟨rfl, rfl, rfl, rfl, trivial⟩ ?_
    | refine Chk.mk ⟨rfl, rfl, rfl, rfl, rfl, trivial⟩ ?_
    | refine Chk.mk ⟨rfl, rfl, rfl, rfl, rfl, rfl, trivial⟩ ?_)
  refine Tri.nf (ref_add (h3.slC1 4 rfl) (by omega) s.tail (by omega) 8 (by omega)) ?_
  rintro v J S' hJ ⟨a4, cap4, ch4, rfl, h4, rfl, rfl⟩
  repeat (first
    | refine LoadD.own 0 rfl _ rfl rfl ?_
    | refine LoadD.own 1 rfl _ rfl rfl ?_
    | refine LoadP.at 0 rfl _ rfl rfl ?_
    | refine LoadP.at 1 rfl _ rfl rfl ?_
    | refine StoreD.st 0 rfl rfl rfl ?_
    | refine StoreD.st 1 rfl rfl rfl ?_
    | refine CmpD.yes rfl ?_
    | refine CmpD.yes (by decide) ?_
    | refine CmpD.no (by decide) ?_
    | refine Chk.mk ⟨rfl, trivial⟩ ?_
    | refine Chk.mk ⟨rfl, rfl, trivial⟩ ?_
    | refine Chk.mk ⟨rfl, rfl, rfl, trivial⟩ ?_
    | refine Chk.mk ⟨rfl, rfl, rfl, rfl, trivial⟩ ?_
    | refine Chk.mk ⟨rfl, rfl, rfl, rfl, rfl, trivial⟩ ?_
    | refine Chk.mk ⟨rfl, rfl, rfl, rfl, rfl, rfl, trivial⟩ ?_)
  have h40 : OwnB ch4 a4 (8 + 8 + 8 + 8 + 8) cap4 (sup40 s) := h4
  refine Tri.nf (ref_More 0 (by decide) (h40.slC1 5 rfl) (by omega)) ?_
  rintro v J S' hJ ⟨rfl, rfl, rfl⟩
  have hcrc : crcMore 0 (sup40 s) < 4294967296 := Nat.xor_lt_two_pow (n := 32) (crcReg_lt (by decide) _) (by decide)
  refine ToD.to ((crcMore 0 (sup40 s) : Nat) : Int) (wrap_i64 (by omega) (by omega)) ?_
  refine Tri.nf (ref_add (h40.slC1 5 rfl) (by omega) _ (by omega) 4 (by omega)) ?_
  rintro v J S' hJ ⟨a5, cap5, ch5, rfl, h5, rfl, rfl⟩
  have h44 : OwnB ch5 a5 44 cap5 (sup44 s) := h5
  refine CodeF.loopD [4] (fun vs J' S' => ∃ (i : Nat) (a : Option Addr) (cap : Nat) (ch : List Blk), i ≤ 4052 ∧ OwnB ch a (44 + i) cap (sup44 s ++ List.replicate i 0) ∧ vs = [.slice a (44 + i) cap] ∧ I = J' ∧ S' = [ch])
    (fun vs _ _ => match vs with | [.slice _ l _] => 4096 - l | _ => 0) ?_ ?_
  · exact ⟨_, Drop.pick [6] _ rfl, 0, a5, cap5, ch5, by omega, by rw [List.replicate_zero, List.append_nil]; exact h44, rfl, rfl, rfl⟩
  rintro vs gE J' S' hJ' ⟨i, a, cap, ch, hi, hown, rfl, rfl, rfl⟩
  refine CmpD.split (fun c1 => ?_) (fun c1 => ?_)
  · conv => whnf
    intro bN
    refine appendD tabOk rfl rfl rfl rfl rfl rfl rfl 0 rfl hown (SrcOk.slice (n := 1) (news := bts [0]) tabOk rfl ((OwnC.whole (len := 1) (size := 1) rfl).slC 1 rfl) (bts_plain _)) rfl (by show (44 + i + 1) * 1 ≤ _; omega) (by omega) ?_
    intro a2 cap2 ch2 hown2
    refine ⟨_, Drop.pick [0] _ rfl, ⟨i + 1, a2, cap2, ch2, by omega, by rw [OwnB, ← zeros_snoc, bts_append]; exact hown2, rfl, rfl, rfl⟩, ?_⟩
    show 4096 - (44 + i + 1) < 4096 - (44 + i)
    omega
  · obtain rfl : i = 4052 := by omega
    exact Done.mk ⟨[ch], Drop.refl _, rfl, .inr ⟨hR, a, cap, ch, rfl, hown, rfl⟩⟩
/-- law 10's superblock as bytes, fixed -/
def superOf (epoch seq : Int) : Sup := ⟨64, epoch, seq, 0⟩
theorem law_of (epoch seq : Int) (I : Imm) : Tri Try.prog 61 #[.int .i64 epoch, .int .i64 seq] I [] fun v J _ => v = (superOf epoch seq).v ∧ I = J := by
  refine Tri.of (args := [.int .i64 epoch, .int .i64 seq]) tabOk Try.func61 rfl (by kernel_rfl) (by kernel_rfl) ?_
  conv => whnf
  intro b
  repeat (first
    | refine LoadD.own 0 rfl _ rfl rfl ?_
    | refine LoadP.at 0 rfl _ rfl rfl ?_
    | refine StoreD.st 0 rfl rfl rfl ?_
    | refine CmpD.yes rfl ?_
    | refine CmpD.yes (by decide) ?_
    | refine CmpD.no (by decide) ?_
    | refine Chk.mk ⟨rfl, trivial⟩ ?_
    | refine Chk.mk ⟨rfl, rfl, trivial⟩ ?_
    | refine Chk.mk ⟨rfl, rfl, rfl, trivial⟩ ?_
    | refine Chk.mk ⟨rfl, rfl, rfl, rfl, trivial⟩ ?_
    | refine Chk.mk ⟨rfl, rfl, rfl, rfl, rfl, trivial⟩ ?_
    | refine Chk.mk ⟨rfl, rfl, rfl, rfl, rfl, rfl, trivial⟩ ?_)
  exact Done.mk ⟨rfl, rfl⟩
theorem law_bytes (epoch seq : Int) (hR : RightS (superOf epoch seq)) (I : Imm) : Tri Try.prog 59 #[.int .i64 epoch, .int .i64 seq] I [] fun v J _ => ∃ a cap, v = .slice a 4096 cap ∧ Rds J a 4096 (bts (supL (superOf epoch seq))) := by
  have own : Tri Try.prog 59 #[.int .i64 epoch, .int .i64 seq] I [] fun v J S' => ∃ a cap ch, v = .slice a 4096 cap ∧ OwnB ch a 4096 cap (supL (superOf epoch seq)) ∧ S' = [ch] := by
    refine Tri.of (args := [.int .i64 epoch, .int .i64 seq]) tabOk Try.func59 rfl (by kernel_rfl) (by kernel_rfl) ?_
    refine Tri.free (law_of epoch seq I) ?_
    rintro v J _ hJ ⟨rfl, rfl⟩
    refine Tri.nf (ref_PutSuper (superOf epoch seq) I) ?_
    rintro v J S' hJ ⟨rfl, ⟨h, _⟩ | ⟨_, a, cap, ch, rfl, hown, rfl⟩⟩
    · exact absurd hR h
    · exact Done.mk ⟨a, cap, ch, rfl, hown, rfl⟩
  refine Tri.fixed own ?_
  rintro v J S' hJ ⟨a, cap, ch, rfl, hown, rfl⟩
  exact ⟨0, ch, rfl, fun J' hJ' hm => ⟨a, cap, rfl, Rds.of_own hown hm⟩⟩
theorem law_layout64 (I : Imm) : Tri Try.prog 51 #[] I [] fun v J _ => v = layV 64 2 (layL 64) (2 + layL 64) (3 + layL 64) (64 / 16) (3 + layL 64 + 64 / 16) ∧ I = J := by
  refine Tri.of (args := []) tabOk Try.func51 rfl (by kernel_rfl) (by kernel_rfl) ?_
  conv => whnf
  intro b
  refine Tri.free (ref_Of 64 I) ?_
  rintro v J _ hJ ⟨rfl, rfl⟩
  rw [layA, if_neg (by omega)]
  conv => whnf
  intro b2
  repeat (first
    | refine LoadD.own 0 rfl _ rfl rfl ?_
    | refine LoadD.own 1 rfl _ rfl rfl ?_
    | refine LoadP.at 0 rfl _ rfl rfl ?_
    | refine LoadP.at 1 rfl _ rfl rfl ?_
    | refine StoreD.st 0 rfl rfl rfl ?_
    | refine StoreD.st 1 rfl rfl rfl ?_
    | refine CmpD.yes rfl ?_
    | refine CmpD.yes (by decide) ?_
    | refine CmpD.no (by decide) ?_
    | refine Chk.mk ⟨rfl, trivial⟩ ?_
    | refine Chk.mk ⟨rfl, rfl, trivial⟩ ?_
    | refine Chk.mk ⟨rfl, rfl, rfl, trivial⟩ ?_
    | refine Chk.mk ⟨rfl, rfl, rfl, rfl, trivial⟩ ?_
    | refine Chk.mk ⟨rfl, rfl, rfl, rfl, rfl, trivial⟩ ?_
    | refine Chk.mk ⟨rfl, rfl, rfl, rfl, rfl, rfl, trivial⟩ ?_)
  exact Done.mk ⟨rfl, rfl⟩
end Go.Proofs.Ytbpdbgcndfcilaa
namespace Go.Proofs
open Go.Shelf
def Try.lays189_ren : Go.Shelf.Ren := ⟨fun | 189 => 139 | 125 => 163 | 257 => 162 | 128 => 177 | 129 => 178 | 294 => 168 | 295 => 169 | 296 => 170 | 297 => 171 | 298 => 172 | 299 => 173 | 216 => 174 | 300 => 175 | 301 => 176 | 328 => 179 | 329 => 180 | 330 => 181 | 331 => 182 | 332 => 183 | 215 => 184 | 343 => 185 | n => n, fun | 28 => 40 | 3 => 3 | 46 => 167 | 0 => 0 | 51 => 178 | 53 => 166 | 4 => 4 | 183 => 214 | 182 => 213 | 131 => 218 | 5 => 5 | 9 => 9 | 218 => 222 | 222 => 226 | 228 => 228 | 229 => 35 | n => n, fun | n => n⟩
theorem Try.lays189 : Go.Proofs.Lays.n189 Try.prog Try.lays189_ren := {
  mixed := by kernel_rfl
  f125 := Try.func163.trans (congrArg some (by kernel_rfl))
  f128 := Try.func177.trans (congrArg some (by kernel_rfl))
  f129 := Try.func178.trans (congrArg some (by kernel_rfl))
  f189 := Try.func139.trans (congrArg some (by kernel_rfl))
  f215 := Try.func184.trans (congrArg some (by kernel_rfl))
  f216 := Try.func174.trans (congrArg some (by kernel_rfl))
  f257 := Try.func162.trans (congrArg some (by kernel_rfl))
  f294 := Try.func168.trans (congrArg some (by kernel_rfl))
  f295 := Try.func169.trans (congrArg some (by kernel_rfl))
  f296 := Try.func170.trans (congrArg some (by kernel_rfl))
  f297 := Try.func171.trans (congrArg some (by kernel_rfl))
  f298 := Try.func172.trans (congrArg some (by kernel_rfl))
  f299 := Try.func173.trans (congrArg some (by kernel_rfl))
  f300 := Try.func175.trans (congrArg some (by kernel_rfl))
  f301 := Try.func176.trans (congrArg some (by kernel_rfl))
  f328 := Try.func179.trans (congrArg some (by kernel_rfl))
  f329 := Try.func180.trans (congrArg some (by kernel_rfl))
  f330 := Try.func181.trans (congrArg some (by kernel_rfl))
  f331 := Try.func182.trans (congrArg some (by kernel_rfl))
  f332 := Try.func183.trans (congrArg some (by kernel_rfl))
  f343 := Try.func185.trans (congrArg some (by kernel_rfl))
  t0 := Try.underlying0
  a0 := Try.isAgg0
  z0 := Try.sizeOf0
  v0 := Try.zeroValue0
  t3 := Try.underlying3
  a3 := Try.isAgg3
  z3 := Try.sizeOf3
  v3 := Try.zeroValue3
  t4 := Try.underlying4
  a4 := Try.isAgg4
  z4 := Try.sizeOf4
  v4 := Try.zeroValue4
  t5 := Try.underlying5
  a5 := Try.isAgg5
  z5 := Try.sizeOf5
  v5 := Try.zeroValue5
  t9 := Try.underlying9
  a9 := Try.isAgg9
  z9 := Try.sizeOf9
  v9 := Try.zeroValue9
  t28 := Try.underlying40
  a28 := Try.isAgg40
  z28 := Try.sizeOf40
  v28 := Try.zeroValue40
  t46 := Try.underlying167
  a46 := Try.isAgg167
  z46 := Try.sizeOf167
  v46 := Try.zeroValue167
  t51 := Try.underlying178
  a51 := Try.isAgg178
  z51 := Try.sizeOf178
  v51 := Try.zeroValue178
  t53 := Try.underlying166
  a53 := Try.isAgg166
  z53 := Try.sizeOf166
  v53 := Try.zeroValue166
  t131 := Try.underlying218
  a131 := Try.isAgg218
  z131 := Try.sizeOf218
  v131 := Try.zeroValue218
  t182 := Try.underlying213
  a182 := Try.isAgg213
  z182 := Try.sizeOf213
  v182 := Try.zeroValue213
  t183 := Try.underlying214
  a183 := Try.isAgg214
  z183 := Try.sizeOf214
  v183 := Try.zeroValue214
  t218 := Try.underlying222
  a218 := Try.isAgg222
  z218 := Try.sizeOf222
  v218 := Try.zeroValue222
  t222 := Try.underlying226
  a222 := Try.isAgg226
  z222 := Try.sizeOf226
  v222 := Try.zeroValue226
  t228 := Try.underlying228
  a228 := Try.isAgg228
  z228 := Try.sizeOf228
  v228 := Try.zeroValue228
  t229 := Try.underlying35
  a229 := Try.isAgg35
  z229 := Try.sizeOf35
  v229 := Try.zeroValue35 }
open Go.Sort Go.RowKit in
theorem Try.slices_Sort_int (blk off cap : Nat) (zs : List Int) (w : World) (hH : Holds (Value.int .i64) w blk off zs.toArray) (hblk : blk < w.heap.size) (hsz : zs.length < 4611686018427387904) :
    Calls Try.prog 139 #[.slice (some ⟨blk, off, none⟩) zs.length cap] w fun e w' =>
      e = .returned (.tuple #[]) ∧ ∃ n os, w' = grow (putRow (Value.int .i64) (Sort.ahead w n) blk off (zs.mergeSort fun x y => decide (x ≤ y)).toArray) os := Any.slices_Sort_int Try.lays189 blk off cap zs w hH hblk hsz
open Go.RowKit Go.Sort in
/-- .. and plain. (LAID: no walk: one application.) -/
theorem Try.slices_Sort_int_none (p : Option Addr) (cap : Nat) (w : World) :
    Calls Try.prog 139 #[.slice p 0 cap] w fun e w' => e = .returned (.tuple #[]) ∧ w' = w := Any.slices_Sort_int_none Try.lays189 p cap w
end Go.Proofs
namespace Go.Proofs.Ytbpdbgcndfcilaa
open Go.RowKit Go.Sl
set_option maxRecDepth 20000

theorem nodup_len {α : Type} [DecidableEq α] : ∀ (l m : List α), l.Nodup → (∀ x ∈ l, x ∈ m) → l.length ≤ m.length
  | [], _, _, _ => by simp
  | x :: l, m, h, hs => by
    have hx := hs x (by simp)
    rw [List.nodup_cons] at h
    have h1 := nodup_len l (m.erase x) h.2 (fun y hy => (List.mem_erase_of_ne (by rintro rfl; exact h.1 hy)).2 (hs y (by simp [hy])))
    rw [List.length_erase_of_mem hx] at h1
    have h2 : 0 < m.length := List.length_pos_of_mem hx
    rw [List.length_cons]; omega
theorem keys_of (r : Nat) (I : Imm) (S : St) : Tri Try.prog 105 #[.map (some r)] I S fun v J S' => ∃ b, v = .func (.func 140) #[] #[.pointer (some ⟨b, 0, none⟩)] ∧ I = J ∧ S' = S ++ [[(b, row [.map (some r)] 152)]] := by
  refine Tri.of (args := [.map (some r)]) tabOk Try.func105 rfl (by kernel_rfl) (by kernel_rfl) ?_
  conv => whnf
  intro b
  exact Done.mk ⟨b, rfl, rfl, rfl⟩
@[reducible] def keyBox (b r : Nat) : List Blk := [(b, row [.map (some r)] 152)]
theorem keys_it (b r : Nat) (ob : Obj) (l : List (Int × Value)) (hM : MapR ob l) (I : Imm) :
    SeqG Try.prog 140 #[.pointer (some ⟨b, 0, none⟩)] I [keyBox b r, [(r, ob)]] (σ := List Int) [] (fun s xs s' => ∃ n, xs = [.int .i64 n] ∧ n ∉ s ∧ n ∈ l.map Prod.fst ∧ s' = s ++ [n])
      (fun s _ R => s.Nodup ∧ (∀ n, n ∈ s ↔ n ∈ l.map Prod.fst) ∧ R = [[(r, ob)]]) (fun _ R => R = [[(r, ob)]]) := by
  intro lp inv stp J c hJ hY h0
  refine Tri.drop ?_ (fun _ _ _ _ h => h)
  refine Tri.of (args := [.func (.yield lp) #[] #[], .pointer (some ⟨b, 0, none⟩)]) tabOk Try.func140 rfl (by kernel_rfl) (by kernel_rfl) ?_
  refine LoadD.own 1 rfl [.map (some r)] rfl rfl ?_
  refine rangeMapD tabOk rfl rfl rfl 2 rfl hM ?_
  intro bi it0 hI0
  refine CodeF.loopD [0, 5] (fun vs J' S' => ∃ (s : List Int) (c' : List Blk) (it : Obj), s.Nodup ∧ (∀ n ∈ s, n ∈ l.map Prod.fst) ∧ IterR r ob it s ∧ inv s J' c' ∧ J.le J' ∧ vs = [.func (.yield lp) #[] #[], .pointer (some ⟨bi, 0, none⟩)] ∧ S' = [c', keyBox b r, [(r, ob)], [(bi, it)]])
    (fun _ _ S' => match S' with | [_, _, _, [(_, .mapIter _ _ sb _)]] => l.length + 1 - sb.size | _ => 0) ?_ ?_
  · exact ⟨_, Drop.refl _, [], c, it0, by simp, by simp, hI0, h0, J.le_refl, rfl, rfl⟩
  rintro vs g J' S' hJ' ⟨s, c', it, hnd, hsub, hI, hinv, hJJ, rfl, rfl⟩
  have hsz : ∀ it s, IterR r ob it s → ∃ a q sb t, it = .mapIter a q sb t ∧ sb.size = s.length := by
    rintro it s ⟨es, clk, sb, c0, ms, _, rfl, _, _, h1, _, h2⟩
    refine ⟨_, _, _, _, rfl, ?_⟩
    have h3 := congrArg List.length h1
    have h4 := congrArg List.length h2
    simp only [List.length_map, Array.length_toList] at h3 h4
    omega
  refine nextMapD rfl rfl 2 3 rfl rfl hM hI ?_ ?_
  · intro hall
    refine Done.mk ⟨[c', [(r, ob)]], Drop.pick [0, 2] _ rfl, c', _, rfl, .inl ⟨s, ⟨hnd, fun n => ⟨hsub n, fun hn => ?_⟩, rfl⟩, hinv⟩⟩
    obtain ⟨p, hp, rfl⟩ := List.mem_map.1 hn
    exact hall p hp
  · intro n v it' hmem hns hI'
    refine entryMapD rfl rfl 2 3 rfl rfl hM hI' ?_
    intro v' hv'
    have hnk : n ∈ l.map Prod.fst := List.mem_map.2 ⟨(n, v), hmem, rfl⟩
    refine yieldD rfl rfl rfl (args := #[.int .i64 n]) rfl 0 rfl (hY s [.int .i64 n] (s ++ [n]) J' c' hJJ ⟨n, rfl, hns, hnk, rfl⟩ hinv) ?_
    have hnd2 : (s ++ [n]).Nodup := by
      rw [List.nodup_append]
      refine ⟨hnd, by simp, ?_⟩
      intro a ha b' hb' hab
      simp only [List.mem_singleton] at hb'
      subst hb'; subst hab; exact hns ha
    have hsub2 : ∀ m ∈ s ++ [n], m ∈ l.map Prod.fst := by
      intro m hm
      rcases List.mem_append.1 hm with hm | hm
      · exact hsub m hm
      · simp only [List.mem_singleton] at hm; subst hm; exact hnk
    rintro bb J2 c2 hle (⟨rfl, hi2⟩ | ⟨rfl, hs2⟩)
    · refine ⟨_, Drop.refl _, ⟨s ++ [n], c2, it', hnd2, hsub2, hI', hi2, Imm.le_trans hJJ hle, rfl, rfl⟩, ?_⟩
      obtain ⟨a1, q1, sb1, t1, rfl, e1⟩ := hsz _ _ hI
      obtain ⟨a2, q2, sb2, t2, rfl, e2⟩ := hsz _ _ hI'
      show l.length + 1 - sb2.size < l.length + 1 - sb1.size
      have h5 : (s ++ [n]).length ≤ (l.map Prod.fst).length := nodup_len _ _ hnd2 hsub2
      rw [List.length_append, List.length_map, List.length_singleton] at h5
      rw [List.length_append, List.length_singleton] at e2
      omega
    · exact Done.mk ⟨[c2, [(r, ob)]], Drop.pick [0, 2] _ rfl, c2, _, rfl, .inr ⟨hs2, rfl⟩⟩
/-- the keys, collected -/
theorem appendSeq_keys (b r : Nat) (ob : Obj) (l : List (Int × Value)) (hM : MapR ob l) (hl : l.length ≤ 1000000) (I : Imm) :
    Tri Try.prog 161 #[.slice none 0 0, .func (.func 140) #[] #[.pointer (some ⟨b, 0, none⟩)]] I [keyBox b r, [(r, ob)]] fun v J S' =>
      ∃ a cap ch s, v = .slice a s.length cap ∧ OwnC ch 1 a s.length cap (ints s) ∧ s.Nodup ∧ (∀ n, n ∈ s ↔ n ∈ l.map Prod.fst) ∧ I.le J ∧ S' = [[(r, ob)], ch] := by
  refine Tri.drop ?_ (fun _ _ _ _ h => h)
  refine Tri.of (args := [.slice none 0 0, .func (.func 140) #[] #[.pointer (some ⟨b, 0, none⟩)]]) tabOk Try.func161 rfl (by kernel_rfl) (by kernel_rfl) ?_
  conv => whnf
  intro b2
  refine CodeF.rangeG rfl [[(b2, row [.slice none 0 0] 40)], []] [keyBox b r, [(r, ob)]] ((Drop.pick [2, 0, 1] _ rfl).trans (Drop.flat (by simp [St.at]))) (keys_it b r ob l hM I) (by rintro s xs s' ⟨n, rfl, _⟩; rfl)
    (fun s J' S' => ∃ (a : Option Addr) (cap : Nat) (ch : List Blk), s.Nodup ∧ (∀ n ∈ s, n ∈ l.map Prod.fst) ∧ S' = [[(b2, row [.slice a s.length cap] 40)], ch] ∧ OwnC ch 1 a s.length cap (ints s) ∧ I.le J')
    (fun _ _ _ => False) ⟨none, 0, [], by simp, by simp, rfl, OwnC.nil _ _, I.le_refl⟩ ?round ?done ?stop
  case round =>
    rintro s xs s' J' S' hJ' ⟨n, rfl, hns, hnk, rfl⟩ ⟨a, cap, ch, hnd, hsub, rfl, hown, hle⟩
    have hnd2 : (s ++ [n]).Nodup := by
      rw [List.nodup_append]
      refine ⟨hnd, by simp, ?_⟩
      intro a ha b' hb' hab
      simp only [List.mem_singleton] at hb'
      subst hb'; subst hab; exact hns ha
    have hsub2 : ∀ m ∈ s ++ [n], m ∈ l.map Prod.fst := by
      intro m hm
      rcases List.mem_append.1 hm with hm | hm
      · exact hsub m hm
      · simp only [List.mem_singleton] at hm; subst hm; exact hnk
    have h5 : (s ++ [n]).length ≤ (l.map Prod.fst).length := nodup_len _ _ hnd2 hsub2
    rw [List.length_append, List.length_map, List.length_singleton] at h5
    repeat (first
      | refine LoadD.own 0 rfl _ rfl rfl ?_
      | refine LoadD.own 1 rfl _ rfl rfl ?_
      | refine LoadP.at 0 rfl _ rfl rfl ?_
      | refine LoadP.at 1 rfl _ rfl rfl ?_
      | refine StoreD.st 0 rfl rfl rfl ?_
      | refine StoreD.st 1 rfl rfl rfl ?_
      | refine CmpD.yes rfl ?_
      | refine CmpD.yes (by decide) ?_
      | refine CmpD.no (by decide) ?_
      | refine Chk.mk ⟨rfl, trivial⟩ ?_
      | refine Chk.mk ⟨rfl, rfl, trivial⟩ ?_
      | refine Chk.mk ⟨rfl, rfl, rfl, trivial⟩ ?_
      | refine Chk.mk ⟨rfl, rfl, rfl, rfl, trivial⟩ ?_
      | refine Chk.mk ⟨rfl, rfl, rfl, rfl, rfl, trivial⟩ ?_
      | refine Chk.mk ⟨rfl, rfl, rfl, rfl, rfl, rfl, trivial⟩ ?_)
    conv => whnf
    intro bN
    refine appendD tabOk rfl rfl rfl rfl rfl rfl rfl 1 rfl hown (SrcOk.slice (n := 1) (news := ints [n]) tabOk rfl ((OwnC.whole (len := 1) (size := 1) rfl).slC 2 rfl) (ints_plain _)) rfl (by show (s.length + 1) * 8 ≤ _; omega) (by omega) ?_
    intro a2 cap2 ch2 hown2
    repeat (first
      | refine LoadD.own 0 rfl _ rfl rfl ?_
      | refine LoadD.own 1 rfl _ rfl rfl ?_
      | refine LoadP.at 0 rfl _ rfl rfl ?_
      | refine LoadP.at 1 rfl _ rfl rfl ?_
      | refine StoreD.st 0 rfl rfl rfl ?_
      | refine StoreD.st 1 rfl rfl rfl ?_
      | refine CmpD.yes rfl ?_
      | refine CmpD.yes (by decide) ?_
      | refine CmpD.no (by decide) ?_
      | refine Chk.mk ⟨rfl, trivial⟩ ?_
      | refine Chk.mk ⟨rfl, rfl, trivial⟩ ?_
      | refine Chk.mk ⟨rfl, rfl, rfl, trivial⟩ ?_
      | refine Chk.mk ⟨rfl, rfl, rfl, rfl, trivial⟩ ?_
      | refine Chk.mk ⟨rfl, rfl, rfl, rfl, rfl, trivial⟩ ?_
      | refine Chk.mk ⟨rfl, rfl, rfl, rfl, rfl, rfl, trivial⟩ ?_)
    refine ⟨_, Drop.pick [0, 1] _ rfl, a2, cap2, ch2, hnd2, hsub2, ?_, ?_, hle⟩
    · rw [List.length_append]; rfl
    · rw [List.length_append]; unfold ints at *; rw [List.map_append]; exact hown2
  case done =>
    rintro s J' S' R hJ' ⟨hnd, hall, rfl⟩ ⟨a, cap, ch, _, _, rfl, hown, hle⟩
    repeat (first
      | refine LoadD.own 0 rfl _ rfl rfl ?_
      | refine LoadD.own 1 rfl _ rfl rfl ?_
      | refine LoadD.own 2 rfl _ rfl rfl ?_
      | refine LoadP.at 0 rfl _ rfl rfl ?_
      | refine LoadP.at 1 rfl _ rfl rfl ?_
      | refine LoadP.at 2 rfl _ rfl rfl ?_
      | refine StoreD.st 0 rfl rfl rfl ?_
      | refine StoreD.st 1 rfl rfl rfl ?_
      | refine StoreD.st 2 rfl rfl rfl ?_
      | refine CmpD.yes rfl ?_
      | refine CmpD.yes (by decide) ?_
      | refine CmpD.no (by decide) ?_
      | refine Chk.mk ⟨rfl, trivial⟩ ?_
      | refine Chk.mk ⟨rfl, rfl, trivial⟩ ?_
      | refine Chk.mk ⟨rfl, rfl, rfl, trivial⟩ ?_
      | refine Chk.mk ⟨rfl, rfl, rfl, rfl, trivial⟩ ?_
      | refine Chk.mk ⟨rfl, rfl, rfl, rfl, rfl, trivial⟩ ?_
      | refine Chk.mk ⟨rfl, rfl, rfl, rfl, rfl, rfl, trivial⟩ ?_)
    exact Done.mk ⟨[[(r, ob)], ch], Drop.pick [2, 1] _ rfl, a, cap, ch, s, rfl, hown, hnd, hall, hle, rfl⟩
  case stop =>
    rintro e J' S' R hJ' hs _
    exact hs.elim
theorem collect_keys (b r : Nat) (ob : Obj) (l : List (Int × Value)) (hM : MapR ob l) (hl : l.length ≤ 1000000) (I : Imm) :
    Tri Try.prog 138 #[.func (.func 140) #[] #[.pointer (some ⟨b, 0, none⟩)]] I [keyBox b r, [(r, ob)]] fun v J S' =>
      ∃ a cap ch s, v = .slice a s.length cap ∧ OwnC ch 1 a s.length cap (ints s) ∧ s.Nodup ∧ (∀ n, n ∈ s ↔ n ∈ l.map Prod.fst) ∧ I.le J ∧ S' = [[(r, ob)], ch] := by
  refine Tri.of (args := [.func (.func 140) #[] #[.pointer (some ⟨b, 0, none⟩)]]) tabOk Try.func138 rfl (by kernel_rfl) (by kernel_rfl) ?_
  refine Tri.mono (appendSeq_keys b r ob l hM hl I) ?_
  rintro v J S' hJ ⟨a, cap, ch, s, rfl, h1, h2, h3, h4, rfl⟩
  exact Done.mk ⟨a, cap, ch, s, rfl, h1, h2, h3, h4, rfl⟩
end Go.Proofs.Ytbpdbgcndfcilaa
namespace Go.Proofs.Ytbpdbgcndfcilaa
open Go.RowKit Go.Sl
set_option maxRecDepth 20000

def sortI (l : List Int) : List Int := l.mergeSort fun x y => decide (x ≤ y)
theorem sortI_perm (l : List Int) : (sortI l).Perm l := List.mergeSort_perm _ _
theorem putCells_mid (pre post : List Value) (zs : List Int) (cs : List Value) (hc : cs.length = zs.length) :
    (Go.Sort.putCells (Value.int .i64) pre.length zs.toArray (pre ++ cs ++ post).toArray).toList = pre ++ ints zs ++ post := by
  apply List.ext_getElem?
  intro j
  simp only [Go.Sort.putCells, Array.toList_mapIdx, List.getElem?_mapIdx, List.size_toArray]
  have hil : (ints zs).length = zs.length := by simp [ints]
  have e : ∀ ds : List Value, ds.length = zs.length → ∀ i, (pre ++ ds ++ post)[i]? = if i < pre.length then pre[i]? else if i - pre.length < zs.length then ds[i - pre.length]? else post[i - pre.length - zs.length]? := by
    intro ds hd i
    rw [List.append_assoc]
    split
    · rename_i h; rw [List.getElem?_append_left h]
    · rename_i h
      rw [List.getElem?_append_right (by omega)]
      split
      · rename_i h2; rw [List.getElem?_append_left (by omega)]
      · rename_i h2; rw [List.getElem?_append_right (by omega), hd]
  rw [e cs hc, e (ints zs) hil]
  by_cases h1 : j < pre.length
  · rw [if_pos h1, if_pos h1, List.getElem?_eq_getElem h1]
    simp only [Option.map_some]
    rw [if_neg (by omega)]
  · rw [if_neg h1, if_neg h1]
    by_cases h2 : j - pre.length < zs.length
    · rw [if_pos h2, if_pos h2, List.getElem?_eq_getElem (by omega), List.getElem?_eq_getElem (by omega)]
      simp only [Option.map_some]
      rw [if_pos (by omega)]
      simp [ints, h2]
    · rw [if_neg h2, if_neg h2]
      cases hp : post[j - pre.length - zs.length]? with
      | none => rfl
      | some v =>
        simp only [Option.map_some]
        rw [if_neg (by omega)]
theorem Has_grow {w : World} {I : Imm} {L : List Blk} (os : Array Obj) (h : Has w I L) : Has (Go.Sort.grow w os) I L := by
  have old : ∀ (b : Nat) (x : Obj), w.heap[b]? = some x → (Go.Sort.grow w os).heap[b]? = some x := fun b x hb => by
    show (w.heap ++ os)[b]? = _
    rw [Array.getElem?_append_left (lt_of_some hb)]; exact hb
  exact ⟨fun b o hb => old _ _ (h.imm b o hb), fun x hx => old _ _ (h.mem x hx), h.nodup, h.disj⟩
theorem sort_ints {I : Imm} {S : St} (k : Nat) {ch : List Blk} (hk : S[k]? = some ch) {a : Option Addr} {len cap : Nat} {zs : List Int} (hown : OwnC ch 1 a len cap (ints zs)) (hlen : len ≤ 1000000000) :
    Tri Try.prog 139 #[.slice a len cap] I S fun v J S' => I = J ∧ v = .tuple #[] ∧ ∃ ch', OwnC ch' 1 a len cap (ints (sortI zs)) ∧ S' = S.set k ch' := by
  have hzl : zs.length = len := by have := hown.len1; simpa [ints] using this
  have hlt : k < S.length := by
    rcases Nat.lt_or_ge k S.length with g | g
    · exact g
    · rw [List.getElem?_eq_none g] at hk; cases hk
  have same : S.set k ch = S := by
    apply List.ext_getElem?
    intro j
    by_cases hj : k = j
    · subst hj; rw [List.getElem?_set_self hlt, hk]
    · rw [List.getElem?_set_ne hj]
  refine ⟨fun w F hw => ?_, fun w F hw => ?_⟩
  · simp [callFunc, Try.func139]
    kernel_rfl
  · rcases Nat.eq_zero_or_pos len with h0 | h0
    · subst h0
      refine (Try.slices_Sort_int_none a cap w).mono ?_
      rintro e w' ⟨rfl, rfl⟩
      have hz : zs = [] := List.length_eq_zero_iff.1 hzl
      subst hz
      exact ⟨_, I, S, rfl, I.le_refl, ⟨rfl, rfl, ch, by simpa [sortI] using hown, same.symm⟩, hw, Ext.refl _⟩
    · rcases hown.at' with q0 | ⟨b, pre, post, T, rfl, rfl, hpost⟩
      · have := hown.le; omega
      have hb : w.heap[b]? = some (row (pre ++ ints zs ++ post) T) := by
        refine In.heap (S := S) (I := I) (.own k ?_) hw
        rw [List.getD_eq_getElem?_getD, hk]; simp
      have hil : (ints zs).length = zs.length := by simp [ints]
      have hholds : Go.Sort.Holds (Value.int .i64) w b pre.length zs.toArray := by
        intro j hj
        have hj : j < zs.length := by simpa using hj
        refine ⟨?_, ?_⟩
        · rw [Go.Sl.cell_of_row hb, List.append_assoc, List.getElem?_append_right (by omega), Nat.add_sub_cancel_left, List.getElem?_append_left (by omega)]
          simp [ints, hj]
        · rw [Go.Sl.frozen_of_row hb]; simp
      have hcall := Try.slices_Sort_int b pre.length cap zs w hholds (lt_of_some hb) (by omega)
      rw [hzl] at hcall
      refine hcall.mono ?_
      rintro e w' ⟨rfl, n, os, rfl⟩
      have hblt := lt_of_some hb
      have hsz : ∀ d : Array Int, (Go.Sort.putRow (Value.int .i64) (Go.Sort.ahead w n) b pre.length d).heap.size = w.heap.size := by
        intro d; simp [Go.Sort.putRow, Go.Sort.mapBlock, Go.Sort.ahead]
      refine ⟨_, I, _, rfl, I.le_refl, ⟨rfl, rfl, [(b, row (pre ++ ints (sortI zs) ++ post) T)], ⟨?_, hown.le, .inr ⟨b, pre, post, T, rfl, rfl, hpost⟩⟩, rfl⟩, ?_, ⟨rfl, rfl, rfl, ?_⟩⟩
      · have := (sortI_perm zs).length_eq
        simp [ints, this, hzl]
      · refine Has_grow os (Has.turnAt (A := []) (B := []) hw hk ?_ ?_)
        · have hp := putCells_mid pre post (zs.mergeSort fun x y => decide (x ≤ y)) (ints zs) (by rw [hil, List.length_mergeSort])
          have : (Go.Sort.putCells (Value.int .i64) pre.length (zs.mergeSort fun x y => decide (x ≤ y)).toArray (pre ++ ints zs ++ post).toArray) = (pre ++ ints (sortI zs) ++ post).toArray := Array.ext' hp
          simp only [Go.Sort.putRow, Go.Sort.mapBlock, Go.Sort.ahead, Array.getElem?_modify, hb, if_true, Option.map_some, row, Go.Sort.onCells, this]
        · intro j hj
          simp only [Go.Sort.putRow, Go.Sort.mapBlock, Go.Sort.ahead, Array.getElem?_modify]
          rw [if_neg (Ne.symm hj)]
      · show w.heap.size ≤ (_ ++ os).size
        rw [Array.size_append, hsz]; omega
end Go.Proofs.Ytbpdbgcndfcilaa
namespace Go.Proofs.Ytbpdbgcndfcilaa
open Go.RowKit Go.Sl
set_option maxRecDepth 20000

theorem sortI_le (l : List Int) : (sortI l).Pairwise (fun a b => a ≤ b) := by
  have := List.pairwise_mergeSort (le := fun x y : Int => decide (x ≤ y)) (by intro a b c h1 h2; simp only [decide_eq_true_eq] at *; omega) (by intro a b; simp only [Bool.or_eq_true, decide_eq_true_eq]; omega) l
  exact this.imp (by intro _ _ h; simpa using h)
theorem sortI_eq {l m : List Int} (h : l.Perm m) : sortI l = sortI m :=
  List.Perm.eq_of_pairwise (le := fun a b => a ≤ b) (fun _ _ _ _ h1 h2 => Int.le_antisymm h1 h2) (sortI_le l) (sortI_le m) ((sortI_perm l).trans (h.trans (sortI_perm m).symm))
/-- the keys, in order -/
def keysOf (l : List (Int × Value)) : List Int := sortI (l.map Prod.fst)
theorem keysOf_length (l : List (Int × Value)) : (keysOf l).length = l.length := by unfold keysOf; rw [(sortI_perm _).length_eq, List.length_map]
theorem sorted_keys (b r : Nat) (ob : Obj) (l : List (Int × Value)) (hM : MapR ob l) (hl : l.length ≤ 1000000) (I : Imm) :
    Tri Try.prog 104 #[.func (.func 140) #[] #[.pointer (some ⟨b, 0, none⟩)]] I [keyBox b r, [(r, ob)]] fun v J S' =>
      ∃ a cap ch, v = .slice a l.length cap ∧ OwnC ch 1 a l.length cap (ints (keysOf l)) ∧ I.le J ∧ S' = [[(r, ob)], ch] := by
  have hnd : (l.map Prod.fst).Nodup := by obtain ⟨es, clk, _, h⟩ := hM; exact h.nodup
  refine Tri.of (args := [.func (.func 140) #[] #[.pointer (some ⟨b, 0, none⟩)]]) tabOk Try.func104 rfl (by kernel_rfl) (by kernel_rfl) ?_
  refine Tri.nf (collect_keys b r ob l hM hl I) ?_
  rintro v J S' hJ ⟨a, cap, ch, s, rfl, hown, h1, h2, h3, rfl⟩
  have hp : s.Perm (l.map Prod.fst) := (List.perm_ext_iff_of_nodup h1 hnd).2 h2
  have hsl : s.length = l.length := by rw [hp.length_eq, List.length_map]
  rw [hsl] at hown ⊢
  refine Tri.nf (sort_ints 1 rfl hown (by omega)) ?_
  rintro v J2 S' hJ2 ⟨rfl, rfl, ch', hown', rfl⟩
  exact Done.mk ⟨a, cap, ch', rfl, by unfold keysOf; rw [← sortI_eq hp]; exact hown', h3, rfl⟩
end Go.Proofs.Ytbpdbgcndfcilaa
namespace Go.Proofs.Ytbpdbgcndfcilaa
open Go.RowKit Go.Sl

/-- a ring as a value -/
@[reducible] def rg (s t u h : Int) : Value := .agg #[.int .i64 s, .int .i64 t, .int .i64 u, .int .i64 h]
/-- may a ring be -/
def Ok (s t u h : Int) : Prop := 1 ≤ s ∧ s ≤ 512 ∧ 0 ≤ t ∧ t < s ∧ 0 ≤ u ∧ 0 ≤ h ∧ u + h ≤ s
instance (s t u h : Int) : Decidable (Ok s t u h) := by unfold Ok; infer_instance

theorem ring_within (n h : Int) (I : Imm) (S : St) : Tri Try.prog 155 #[.int .i64 n, .int .i64 h] I S fun v J S' => ∃ b, v = .bool b ∧ (b = true ↔ 0 ≤ n ∧ n ≤ h) ∧ I = J ∧ S' = S := by
  refine Tri.of (args := [.int .i64 n, .int .i64 h]) tabOk Try.func155 rfl (by kernel_rfl) (by kernel_rfl) ?_
  refine CmpD.split (fun h0 => ?_) (fun h0 => ?_)
  · refine CmpD.keep ?_
    refine Done.mk ⟨_, rfl, ?_, rfl, rfl⟩
    simp [h0]
  · refine Done.mk ⟨_, rfl, ?_, rfl, rfl⟩
    simp [h0]

theorem ring_Right (s t u h : Int) (I : Imm) (hs : In64 s) (ht : In64 t) (hu : In64 u) (hh : In64 h) : Tri Try.prog 126 #[rg s t u h] I [] fun v J _ => ∃ b, v = .bool b ∧ (b = true ↔ Ok s t u h) ∧ I = J := by
  unfold In64 at *
  by_cases hmin : s = -9223372036854775808
  · subst hmin
    refine Tri.of (args := [rg _ t u h]) tabOk Try.func126 rfl (by kernel_rfl) (by kernel_rfl) ?_
    conv => whnf
    intro b
    refine LoadD.own 0 rfl _ rfl rfl ?_
    refine ToD.to 9223372036854775807 (by decide) ?_
    refine (ring_within _ _ I _).mono ?_
    rintro v J S' hJ ⟨b1, rfl, h1, rfl, rfl⟩
    cases b1
    · refine Done.mk ⟨_, rfl, by simp [Ok], rfl⟩
    · have := h1.1 rfl; omega
  refine Tri.of (args := [rg s t u h]) tabOk Try.func126 rfl (by kernel_rfl) (by kernel_rfl) ?_
  conv => whnf
  intro b
  refine LoadD.own 0 rfl _ rfl rfl ?_
  refine ToD.i64 (by omega) (by omega) ?_
  refine (ring_within _ _ I _).mono ?_
  rintro v J S' hJ ⟨b1, rfl, h1, rfl, rfl⟩
  cases b1
  · refine Done.mk ⟨_, rfl, ?_, rfl⟩
    simp [Ok]; simp at h1; omega
  replace h1 := h1.1 rfl
  refine LoadD.own 0 rfl _ rfl rfl ?_
  refine LoadD.own 0 rfl _ rfl rfl ?_
  refine ToD.i64 (by omega) (by omega) ?_
  refine (ring_within _ _ _ _).mono ?_
  rintro v J S' hJ2 ⟨b2, rfl, h2, rfl, rfl⟩
  cases b2
  · refine Done.mk ⟨_, rfl, ?_, rfl⟩
    simp [Ok]; simp at h2; omega
  replace h2 := h2.1 rfl
  refine LoadD.own 0 rfl _ rfl rfl ?_
  refine LoadD.own 0 rfl _ rfl rfl ?_
  refine (ring_within _ _ _ _).mono ?_
  rintro v J S' hJ3 ⟨b3, rfl, h3, rfl, rfl⟩
  cases b3
  · refine Done.mk ⟨_, rfl, ?_, rfl⟩
    simp [Ok]; simp at h3; omega
  replace h3 := h3.1 rfl
  refine LoadD.own 0 rfl _ rfl rfl ?_
  refine LoadD.own 0 rfl _ rfl rfl ?_
  refine LoadD.own 0 rfl _ rfl rfl ?_
  refine ToD.i64 (by omega) (by omega) ?_
  refine (ring_within _ _ _ _).mono ?_
  rintro v J S' hJ4 ⟨b4, rfl, h4, rfl, rfl⟩
  refine Done.mk ⟨_, rfl, ?_, rfl⟩
  rw [h4]; unfold Ok; omega

theorem ring_Free (s t u h : Int) (I : Imm) (hs : In64 s) (ht : In64 t) (hu : In64 u) (hh : In64 h) : Tri Try.prog 127 #[rg s t u h] I [] fun v J _ => v = .int .i64 (if Ok s t u h then s - u - h else 0) ∧ I = J := by
  have hR := ring_Right s t u h I hs ht hu hh
  unfold In64 at *
  refine Tri.of (args := [rg s t u h]) tabOk Try.func127 rfl (by kernel_rfl) (by kernel_rfl) ?_
  conv => whnf
  intro b
  refine LoadD.own 0 rfl _ rfl rfl ?_
  refine Tri.free hR ?_
  rintro v J _ hJ ⟨b1, rfl, h1, rfl⟩
  cases b1
  · refine Done.mk ⟨?_, rfl⟩
    rw [if_neg (by simpa using h1)]; rfl
  replace h1 := h1.1 rfl
  have h1' := h1
  unfold Ok at h1'
  repeat (first | refine LoadD.own 0 rfl _ rfl rfl ?_ | refine ToD.i64 (by omega) (by omega) ?_)
  refine Done.mk ⟨?_, rfl⟩
  rw [if_pos h1]; rfl

abbrev R5 := Int × Int × Int × Int × Int
def atS (s t u h i : Int) : Int × Int := if ¬ Ok s t u h ∨ i < 0 ∨ s ≤ i then (0, 2) else ((t + i) % s, 0)
def reserveS (s t u h n : Int) : R5 := if ¬ Ok s t u h ∨ n < 0 then (0, 0, 0, 0, 2) else if s - u - h < n then (0, 0, 0, 0, 5) else (s, t, u, h + n, 0)
def releaseS (s t u h n : Int) : R5 := if ¬ Ok s t u h ∨ n < 0 ∨ h < n then (0, 0, 0, 0, 2) else (s, t, u, h - n, 0)
def dropS (s t u h n : Int) : R5 := if ¬ Ok s t u h ∨ n < 0 ∨ u < n then (0, 0, 0, 0, 2) else (s, (t + n) % s, u - n, h, 0)
def putS (s t u h n k : Int) : R5 × Int := if ¬ Ok s t u h ∨ n < 0 ∨ k < 0 ∨ n < k ∨ h < k then ((0, 0, 0, 0, 2), 0) else if s - u - h < n - k then ((0, 0, 0, 0, 5), 0) else ((s, t, u + n, h - k, 0), (t + u) % s)
/-- a result: a ring and an error -/
def Is5 (v : Value) (r : R5) : Prop := ∃ a b c d e, v = .tuple #[rg a b c d, .int .i64 e] ∧ r = (a, b, c, d, e)
theorem Is5.mk (a b c d e : Int) {r : R5} (h : r = (a, b, c, d, e)) : Is5 (.tuple #[rg a b c d, .int .i64 e]) r := ⟨a, b, c, d, e, rfl, h⟩

section
variable (s t u h n : Int) (I : Imm) (hs : In64 s) (ht : In64 t) (hu : In64 u) (hh : In64 h) (hn : In64 n)
include hs ht hu hh hn
theorem ring_Reserve : Tri Try.prog 81 #[rg s t u h, .int .i64 n] I [] fun v J _ => Is5 v (reserveS s t u h n) ∧ I = J := by
  have hR := ring_Right s t u h I hs ht hu hh
  have hF := ring_Free s t u h I hs ht hu hh
  unfold In64 at *
  refine Tri.of (args := [rg s t u h, .int .i64 n]) tabOk Try.func81 rfl (by kernel_rfl) (by kernel_rfl) ?_
  conv => whnf
  intro b
  conv => whnf
  intro b2
  refine LoadD.own 0 rfl _ rfl rfl ?_
  refine Tri.free hR ?_
  rintro v J _ hJ ⟨b1, rfl, h1, rfl⟩
  cases b1
  · refine StoreD.st 1 rfl rfl rfl ?_
    refine LoadD.own 1 rfl _ rfl rfl ?_
    refine Done.mk ⟨Is5.mk 0 0 0 0 2 ?_, rfl⟩
    rw [reserveS, if_pos (.inl (by simpa using h1))]
  replace h1 := h1.1 rfl
  have h1' := h1
  unfold Ok at h1'
  refine CmpD.split (fun c => ?_) (fun c => ?_)
  · refine StoreD.st 1 rfl rfl rfl ?_
    refine LoadD.own 1 rfl _ rfl rfl ?_
    refine Done.mk ⟨Is5.mk 0 0 0 0 2 ?_, rfl⟩
    rw [reserveS, if_pos (.inr c)]
  refine LoadD.own 0 rfl _ rfl rfl ?_
  refine Tri.free hF ?_
  rintro v J _ hJ ⟨rfl, rfl⟩
  rw [if_pos h1]
  refine CmpD.split (fun c2 => ?_) (fun c2 => ?_)
  · refine StoreD.st 1 rfl rfl rfl ?_
    refine LoadD.own 1 rfl _ rfl rfl ?_
    refine Done.mk ⟨Is5.mk 0 0 0 0 5 ?_, rfl⟩
    rw [reserveS, if_neg (by unfold Ok; omega), if_pos c2]
  refine LoadD.own 0 rfl _ rfl rfl ?_
  refine ToD.i64 (by omega) (by omega) ?_
  refine StoreD.st 0 rfl rfl rfl ?_
  refine LoadD.own 0 rfl _ rfl rfl ?_
  refine StoreD.st 1 rfl rfl rfl ?_
  refine LoadD.own 1 rfl _ rfl rfl ?_
  refine Done.mk ⟨Is5.mk s t u (h + n) 0 ?_, rfl⟩
  rw [reserveS, if_neg (by unfold Ok; omega), if_neg (by omega)]

theorem ring_Release : Tri Try.prog 83 #[rg s t u h, .int .i64 n] I [] fun v J _ => Is5 v (releaseS s t u h n) ∧ I = J := by
  have hR := ring_Right s t u h I hs ht hu hh
  unfold In64 at *
  refine Tri.of (args := [rg s t u h, .int .i64 n]) tabOk Try.func83 rfl (by kernel_rfl) (by kernel_rfl) ?_
  conv => whnf
  intro b
  conv => whnf
  intro b2
  refine LoadD.own 0 rfl _ rfl rfl ?_
  refine Tri.free hR ?_
  rintro v J _ hJ ⟨b1, rfl, h1, rfl⟩
  cases b1
  · refine StoreD.st 1 rfl rfl rfl ?_
    refine LoadD.own 1 rfl _ rfl rfl ?_
    refine Done.mk ⟨Is5.mk 0 0 0 0 2 ?_, rfl⟩
    rw [releaseS, if_pos (.inl (by simpa using h1))]
  replace h1 := h1.1 rfl
  have h1' := h1
  unfold Ok at h1'
  refine CmpD.split (fun c => ?_) (fun c => ?_)
  · refine StoreD.st 1 rfl rfl rfl ?_
    refine LoadD.own 1 rfl _ rfl rfl ?_
    refine Done.mk ⟨Is5.mk 0 0 0 0 2 ?_, rfl⟩
    rw [releaseS, if_pos (.inr (.inl c))]
  refine LoadD.own 0 rfl _ rfl rfl ?_
  refine CmpD.split (fun c2 => ?_) (fun c2 => ?_)
  · refine StoreD.st 1 rfl rfl rfl ?_
    refine LoadD.own 1 rfl _ rfl rfl ?_
    refine Done.mk ⟨Is5.mk 0 0 0 0 2 ?_, rfl⟩
    rw [releaseS, if_pos (.inr (.inr c2))]
  refine LoadD.own 0 rfl _ rfl rfl ?_
  refine ToD.i64 (by omega) (by omega) ?_
  refine StoreD.st 0 rfl rfl rfl ?_
  refine LoadD.own 0 rfl _ rfl rfl ?_
  refine StoreD.st 1 rfl rfl rfl ?_
  refine LoadD.own 1 rfl _ rfl rfl ?_
  refine Done.mk ⟨Is5.mk s t u (h - n) 0 ?_, rfl⟩
  rw [releaseS, if_neg (by unfold Ok; omega)]

theorem ring_Drop : Tri Try.prog 86 #[rg s t u h, .int .i64 n] I [] fun v J _ => Is5 v (dropS s t u h n) ∧ I = J := by
  have hR := ring_Right s t u h I hs ht hu hh
  unfold In64 at *
  refine Tri.of (args := [rg s t u h, .int .i64 n]) tabOk Try.func86 rfl (by kernel_rfl) (by kernel_rfl) ?_
  conv => whnf
  intro b
  conv => whnf
  intro b2
  refine LoadD.own 0 rfl _ rfl rfl ?_
  refine Tri.free hR ?_
  rintro v J _ hJ ⟨b1, rfl, h1, rfl⟩
  cases b1
  · refine StoreD.st 1 rfl rfl rfl ?_
    refine LoadD.own 1 rfl _ rfl rfl ?_
    refine Done.mk ⟨Is5.mk 0 0 0 0 2 ?_, rfl⟩
    rw [dropS, if_pos (.inl (by simpa using h1))]
  replace h1 := h1.1 rfl
  have h1' := h1
  unfold Ok at h1'
  refine CmpD.split (fun c => ?_) (fun c => ?_)
  · refine StoreD.st 1 rfl rfl rfl ?_
    refine LoadD.own 1 rfl _ rfl rfl ?_
    refine Done.mk ⟨Is5.mk 0 0 0 0 2 ?_, rfl⟩
    rw [dropS, if_pos (.inr (.inl c))]
  refine LoadD.own 0 rfl _ rfl rfl ?_
  refine CmpD.split (fun c2 => ?_) (fun c2 => ?_)
  · refine StoreD.st 1 rfl rfl rfl ?_
    refine LoadD.own 1 rfl _ rfl rfl ?_
    refine Done.mk ⟨Is5.mk 0 0 0 0 2 ?_, rfl⟩
    rw [dropS, if_pos (.inr (.inr c2))]
  refine LoadD.own 0 rfl _ rfl rfl ?_
  refine ToD.i64 (by omega) (by omega) ?_
  refine LoadD.own 0 rfl _ rfl rfl ?_
  refine Chk.mk (by omega) ?_
  refine ToD.rem (by omega) ?_
  refine StoreD.st 0 rfl rfl rfl ?_
  refine LoadD.own 0 rfl _ rfl rfl ?_
  refine ToD.i64 (by omega) (by omega) ?_
  refine StoreD.st 0 rfl rfl rfl ?_
  refine LoadD.own 0 rfl _ rfl rfl ?_
  refine StoreD.st 1 rfl rfl rfl ?_
  refine LoadD.own 1 rfl _ rfl rfl ?_
  refine Done.mk ⟨Is5.mk s ((t + n) % s) (u - n) h 0 ?_, rfl⟩
  rw [dropS, if_neg (by unfold Ok; omega)]

theorem ring_Put (k : Int) (hk : In64 k) : Tri Try.prog 75 #[rg s t u h, .int .i64 n, .int .i64 k] I [] fun v J _ =>
    (∃ a b c d x e, v = .tuple #[rg a b c d, .int .i64 x, .int .i64 e] ∧ putS s t u h n k = ((a, b, c, d, e), x)) ∧ I = J := by
  have hR := ring_Right s t u h I hs ht hu hh
  have hF := ring_Free s t u h I hs ht hu hh
  unfold In64 at *
  refine Tri.of (args := [rg s t u h, .int .i64 n, .int .i64 k]) tabOk Try.func75 rfl (by kernel_rfl) (by kernel_rfl) ?_
  conv => whnf
  intro b
  conv => whnf
  intro b2
  refine LoadD.own 0 rfl _ rfl rfl ?_
  refine Tri.free hR ?_
  rintro v J _ hJ ⟨b1, rfl, h1, rfl⟩
  cases b1
  · refine StoreD.st 1 rfl rfl rfl ?_
    refine LoadD.own 1 rfl _ rfl rfl ?_
    refine Done.mk ⟨⟨_, _, _, _, _, _, rfl, ?_⟩, rfl⟩
    rw [putS, if_pos (.inl (by simpa using h1))]
  replace h1 := h1.1 rfl
  have h1' := h1
  unfold Ok at h1'
  refine CmpD.split (fun c => ?_) (fun c => ?_)
  · refine StoreD.st 1 rfl rfl rfl ?_
    refine LoadD.own 1 rfl _ rfl rfl ?_
    refine Done.mk ⟨⟨_, _, _, _, _, _, rfl, ?_⟩, rfl⟩
    rw [putS, if_pos (.inr (.inl c))]
  refine CmpD.split (fun c1 => ?_) (fun c1 => ?_)
  · refine StoreD.st 1 rfl rfl rfl ?_
    refine LoadD.own 1 rfl _ rfl rfl ?_
    refine Done.mk ⟨⟨_, _, _, _, _, _, rfl, ?_⟩, rfl⟩
    rw [putS, if_pos (.inr (.inr (.inl c1)))]
  refine LoadD.own 0 rfl _ rfl rfl ?_
  refine ToD.to (min n h) (by omega) ?_
  refine CmpD.split (fun c2 => ?_) (fun c2 => ?_)
  · refine StoreD.st 1 rfl rfl rfl ?_
    refine LoadD.own 1 rfl _ rfl rfl ?_
    refine Done.mk ⟨⟨_, _, _, _, _, _, rfl, ?_⟩, rfl⟩
    rw [putS, if_pos (by omega)]
  refine ToD.i64 (by omega) (by omega) ?_
  refine LoadD.own 0 rfl _ rfl rfl ?_
  refine Tri.free hF ?_
  rintro v J _ hJ ⟨rfl, rfl⟩
  rw [if_pos h1]
  refine CmpD.split (fun c3 => ?_) (fun c3 => ?_)
  · refine StoreD.st 1 rfl rfl rfl ?_
    refine LoadD.own 1 rfl _ rfl rfl ?_
    refine Done.mk ⟨⟨_, _, _, _, _, _, rfl, ?_⟩, rfl⟩
    rw [putS, if_neg (by unfold Ok; omega), if_pos c3]
  refine LoadD.own 0 rfl _ rfl rfl ?_
  refine LoadD.own 0 rfl _ rfl rfl ?_
  refine ToD.i64 (by omega) (by omega) ?_
  refine LoadD.own 0 rfl _ rfl rfl ?_
  refine Chk.mk (by omega) ?_
  refine ToD.rem (by omega) ?_
  refine LoadD.own 0 rfl _ rfl rfl ?_
  refine ToD.i64 (by omega) (by omega) ?_
  refine StoreD.st 0 rfl rfl rfl ?_
  refine LoadD.own 0 rfl _ rfl rfl ?_
  refine ToD.i64 (by omega) (by omega) ?_
  refine StoreD.st 0 rfl rfl rfl ?_
  refine LoadD.own 0 rfl _ rfl rfl ?_
  refine StoreD.st 1 rfl rfl rfl ?_
  refine LoadD.own 1 rfl _ rfl rfl ?_
  refine Done.mk ⟨⟨_, _, _, _, _, _, rfl, ?_⟩, rfl⟩
  rw [putS, if_neg (by unfold Ok; omega), if_neg (by omega)]
end
end Go.Proofs.Ytbpdbgcndfcilaa
namespace Go.Proofs.Ytbpdbgcndfcilaa
open Go.RowKit Go.Sl
set_option maxRecDepth 20000

/-- a layout's numbers -/
structure Lay where
  b : Int
  l : Int
  lb : Int
  bi : Int
  i : Int
  ib : Int
  d : Int
@[reducible] def Lay.vals (x : Lay) : List Value := [.int .i64 x.b, .int .i64 x.l, .int .i64 x.lb, .int .i64 x.bi, .int .i64 x.i, .int .i64 x.ib, .int .i64 x.d]
@[reducible] def Lay.v (x : Lay) : Value := layV x.b x.l x.lb x.bi x.i x.ib x.d
def layOf (n : Int) : Lay := ⟨n, 2, layL n, 2 + layL n, 3 + layL n, n / 16, 3 + layL n + n / 16⟩
/-- a journal's record -/
structure JRec where
  disk : Nat
  lay : Lay
  s : Int
  t : Int
  u : Int
  h : Int
  epoch : Int
  next : Int
  synced : Int
  groups : Hd
  broken : Bool
@[reducible] def JRec.cells (j : JRec) : List Value := .pointer (some ⟨j.disk, 0, none⟩) :: j.lay.vals ++ [.int .i64 j.s, .int .i64 j.t, .int .i64 j.u, .int .i64 j.h, .int .i64 j.epoch, .int .i64 j.next, .int .i64 j.synced, j.groups.v, .bool j.broken]
@[reducible] def jChunk (b : Nat) (j : JRec) : List Blk := [(b, row j.cells 30)]

theorem jr_turned (b : Nat) (j : JRec) (s t u h e : Int) (I : Imm) : Tri Try.prog 76 #[.pointer (some ⟨b, 0, none⟩), rg s t u h, .int .i64 e] I [jChunk b j] fun v J S' =>
    v = .int .i64 e ∧ I = J ∧ S' = [jChunk b (if e = 0 then { j with s := s, t := t, u := u, h := h } else j)] := by
  refine Tri.drop ?_ (fun _ _ _ _ h => h)
  obtain ⟨disk, ⟨l1, l2, l3, l4, l5, l6, l7⟩, rs, rt, ru, rh, ep, nx, sy, ⟨ga, gl, gc⟩, br⟩ := j
  refine Tri.of (args := [.pointer (some ⟨b, 0, none⟩), rg s t u h, .int .i64 e]) tabOk Try.func76 rfl (by kernel_rfl) (by kernel_rfl) ?_
  conv => whnf
  intro b4
  refine CmpD.split (fun c => ?_) (fun c => ?_)
  · refine LoadD.own 1 rfl _ rfl rfl ?_
    refine StoreD.st 0 rfl rfl rfl ?_
    refine Done.mk ⟨_, Drop.pick [0] _ rfl, rfl, rfl, ?_⟩
    rw [if_pos c]; rfl
  · refine Done.mk ⟨_, Drop.pick [0] _ rfl, rfl, rfl, ?_⟩
    rw [if_neg c]; rfl
theorem jr_did (b : Nat) (j : JRec) (e : Int) (I : Imm) : Tri Try.prog 77 #[.pointer (some ⟨b, 0, none⟩), .int .i64 e] I [jChunk b j] fun v J S' =>
    v = .int .i64 e ∧ I = J ∧ S' = [jChunk b { j with broken := j.broken || !decide (e = 0) }] := by
  obtain ⟨disk, ⟨l1, l2, l3, l4, l5, l6, l7⟩, rs, rt, ru, rh, ep, nx, sy, ⟨ga, gl, gc⟩, br⟩ := j
  refine Tri.of (args := [.pointer (some ⟨b, 0, none⟩), .int .i64 e]) tabOk Try.func77 rfl (by kernel_rfl) (by kernel_rfl) ?_
  cases br
  · refine LoadD.own 0 rfl [.bool false] rfl rfl ?_
    refine CmpD.split (fun c => ?_) (fun c => ?_)
    · refine StoreD.st 0 rfl rfl rfl ?_
      refine Done.mk ⟨rfl, rfl, ?_⟩
      rw [decide_eq_true c]; rfl
    · refine StoreD.st 0 rfl rfl rfl ?_
      refine Done.mk ⟨rfl, rfl, ?_⟩
      rw [decide_eq_false c]; rfl
  · refine LoadD.own 0 rfl [.bool true] rfl rfl ?_
    refine StoreD.st 0 rfl rfl rfl ?_
    exact Done.mk ⟨rfl, rfl, rfl⟩
theorem lay_cmp {o : Oper} {ρ : Env} {op : BinOp} {yt : TypeId} {x y : Operand} {K : Value → Prop} (p q : Lay) (ho : o.op = .binOp op 25 x y yt) (hop : op = .eql ∨ op = .neq)
    (hx : ρ.ev x = p.v) (hy : ρ.ev y = q.v) (h : CmpD ([p.b, p.l, p.lb, p.bi, p.i, p.ib, p.d] = [q.b, q.l, q.lb, q.bi, q.i, q.ib, q.d]) fun t => boolF (xor (op == .neq) t) fun t => K (.bool t)) : PureD Try.prog o ρ K :=
  eq_ints (k := .i64) tabOk [p.b, p.l, p.lb, p.bi, p.i, p.ib, p.d] [q.b, q.l, q.lb, q.bi, q.i, q.ib, q.d] ho hop rfl hx hy (by kernel_rfl) (by kernel_rfl) (by kernel_rfl) rfl rfl h
set_option maxHeartbeats 2000000 in
theorem jr_Open (bD : Nat) (d : DRec) (n : Nat) (hn : 64 ≤ n ∧ n ≤ 512) (hd : d.now.len = n) (x : Lay) (epoch seq tail : Int) (_hseq : In64 seq) (I : Imm) :
    Tri Try.prog 30 #[.pointer (some ⟨bD, 0, none⟩), x.v, .int .i64 epoch, .int .i64 seq, .int .i64 tail] I [dChunk bD d] fun v J S' =>
      (¬ (x = layOf n ∧ 1 ≤ epoch ∧ epoch ≤ 8388608 ∧ 1 ≤ seq ∧ seq ≤ 549755813888 ∧ 0 ≤ tail ∧ tail < layL n) ∧ v = .tuple #[.pointer none, .int .i64 2] ∧ I = J ∧ S' = [dChunk bD d]) ∨
      (x = layOf n ∧ 1 ≤ epoch ∧ epoch ≤ 8388608 ∧ 1 ≤ seq ∧ seq ≤ 549755813888 ∧ 0 ≤ tail ∧ tail < layL n ∧ I = J ∧ ∃ b, v = .tuple #[.pointer (some ⟨b, 0, none⟩), .int .i64 0] ∧ S' = [dChunk bD d, jChunk b ⟨bD, x, layL n, tail, 0, 0, epoch, seq, seq - 1, ⟨none, 0, 0⟩, false⟩]) := by
  refine Tri.drop ?_ (fun _ _ _ _ h => h)
  obtain ⟨x1, x2, x3, x4, x5, x6, x7⟩ := x
  refine Tri.of (args := [.pointer (some ⟨bD, 0, none⟩), layV x1 x2 x3 x4 x5 x6 x7, .int .i64 epoch, .int .i64 seq, .int .i64 tail]) tabOk Try.func30 rfl (by kernel_rfl) (by kernel_rfl) ?_
  conv => whnf
  intro b6
  refine Tri.frame1 0 rfl (disk_Size bD d I) ?_
  rintro v J S' hJ ⟨rfl, rfl, rfl⟩
  refine ⟨_, rfl, ?_⟩
  rw [hd]
  refine CmpD.no (by omega) ?_
  refine Tri.frame1 0 rfl (disk_Size bD d I) ?_
  rintro v J S' hJ ⟨rfl, rfl, rfl⟩
  refine ⟨_, rfl, ?_⟩
  rw [hd]
  refine Tri.free (layout_Of n I) ?_
  rintro v J _ hJ ⟨rfl, rfl⟩
  rw [layA, if_neg (by omega)]
  have hL := layL_range (n := (n : Int)) (by omega)
  have hlay : ∀ {p : Prop}, ¬ p → ¬ (((⟨x1, x2, x3, x4, x5, x6, x7⟩ : Lay) = layOf n) ∧ p) := fun h h' => h h'.2
  conv => whnf
  intro b12
  refine StoreD.st 2 rfl rfl rfl ?_
  refine CmpD.yes rfl ?_
  refine LoadD.own 2 rfl _ rfl rfl ?_
  refine LoadD.own 1 rfl _ rfl rfl ?_
  refine lay_cmp (layOf n) ⟨x1, x2, x3, x4, x5, x6, x7⟩ rfl (.inr rfl) rfl rfl ?_
  refine CmpD.split (fun c1 => ?_) (fun c1 => ?_)
  rotate_left
  · refine Done.mk ⟨_, Drop.pick [0] _ rfl, .inl ⟨fun h => c1 ?_, rfl, rfl, rfl⟩⟩
    have := h.1
    unfold layOf at this
    injection this with q1 q2 q3 q4 q5 q6 q7
    subst q1 q2 q3 q4 q5 q6 q7
    rfl
  have hx : (⟨x1, x2, x3, x4, x5, x6, x7⟩ : Lay) = layOf n := by
    simp only [List.cons.injEq, and_true] at c1
    obtain ⟨q1, q2, q3, q4, q5, q6, q7⟩ := c1
    rw [← q1, ← q2, ← q3, ← q4, ← q5, ← q6, ← q7]
  have hx3 : x3 = layL n := by
    unfold layOf at hx
    injection hx
  refine CmpD.split (fun c2 => ?_) (fun c2 => ?_)
  · exact Done.mk ⟨_, Drop.pick [0] _ rfl, .inl ⟨hlay (by omega), rfl, rfl, rfl⟩⟩
  refine CmpD.split (fun c3 => ?_) (fun c3 => ?_)
  · exact Done.mk ⟨_, Drop.pick [0] _ rfl, .inl ⟨hlay (by omega), rfl, rfl, rfl⟩⟩
  refine CmpD.split (fun c4 => ?_) (fun c4 => ?_)
  · exact Done.mk ⟨_, Drop.pick [0] _ rfl, .inl ⟨hlay (by omega), rfl, rfl, rfl⟩⟩
  refine CmpD.split (fun c5 => ?_) (fun c5 => ?_)
  · exact Done.mk ⟨_, Drop.pick [0] _ rfl, .inl ⟨hlay (by omega), rfl, rfl, rfl⟩⟩
  refine CmpD.split (fun c6 => ?_) (fun c6 => ?_)
  · exact Done.mk ⟨_, Drop.pick [0] _ rfl, .inl ⟨hlay (by omega), rfl, rfl, rfl⟩⟩
  refine LoadD.own 1 rfl [.int .i64 x3] rfl rfl ?_
  refine CmpD.split (fun c7 => ?_) (fun c7 => ?_)
  · exact Done.mk ⟨_, Drop.pick [0] _ rfl, .inl ⟨hlay (by omega), rfl, rfl, rfl⟩⟩
  refine LoadD.own 1 rfl _ rfl rfl ?_
  refine LoadD.own 1 rfl [.int .i64 x3] rfl rfl ?_
  refine ToD.i64 (by omega) (by omega) ?_
  conv => whnf
  intro bJ
  refine Done.mk ⟨_, Drop.pick [0, 3] _ rfl, .inr ⟨hx, by omega, by omega, by omega, by omega, by omega, by omega, rfl, bJ, rfl, ?_⟩⟩
  rw [← hx3]; rfl
end Go.Proofs.Ytbpdbgcndfcilaa
namespace Go.Proofs.Ytbpdbgcndfcilaa
open Go.RowKit Go.Sl
set_option maxRecDepth 20000

/-- images and groups, read in what is owned or fixed -/
structure ImgR (I : Imm) (S : St) (g : Img) : Prop where
  rd : SlC I S g.a g.len (bts g.data)
structure ImgsR (I : Imm) (S : St) (a : Option Addr) (gs : List Img) : Prop where
  sl : SlC I S a (gs.length * 2) (imgCells gs)
  each : ∀ g ∈ gs, ImgR I S g
theorem ImgR.mores {I : Imm} {S : St} {g : Img} (h : ImgR I S g) (L : St) : ImgR I (S ++ L) g := ⟨h.rd.mores L⟩
/-- a group, as it lies -/
structure Grp where
  e : Int
  s : Int
  a : Option Addr
  cap : Nat
  gs : List Img
def grpCells (l : List Grp) : List Value := l.flatMap fun g => [.int .i64 g.e, .int .i64 g.s, .slice g.a g.gs.length g.cap]
theorem grpCells_length (l : List Grp) : (grpCells l).length = l.length * 3 := by
  unfold grpCells
  induction l with
  | nil => rfl
  | cons g l ih => rw [List.flatMap_cons, List.length_append, ih]; simp; omega
theorem grpCells_at {ws : List Grp} {i : Nat} (h : i < ws.length) : ((grpCells ws).drop (i * 3)).take 3 = [.int .i64 ws[i].e, .int .i64 ws[i].s, .slice ws[i].a ws[i].gs.length ws[i].cap] := by
  induction ws generalizing i with
  | nil => simp at h
  | cons g ws ih =>
    cases i with
    | zero => rfl
    | succ i =>
      have := ih (i := i) (by simpa using h)
      have e : grpCells (g :: ws) = [.int .i64 g.e, .int .i64 g.s, .slice g.a g.gs.length g.cap] ++ grpCells ws := by simp [grpCells]
      rw [e, show (i + 1) * 3 = [Value.int .i64 g.e, .int .i64 g.s, .slice g.a g.gs.length g.cap].length + i * 3 by simp; omega, ← List.drop_drop, List.drop_left]
      simpa using this
structure GrpsR (I : Imm) (S : St) (a : Option Addr) (l : List Grp) : Prop where
  sl : SlC I S a (l.length * 3) (grpCells l)
  each : ∀ g ∈ l, ImgsR I S g.a g.gs ∧ g.gs.length ≤ 1000000
/-- the last image of each block, as a map holds it -/
def hdr (g : Img) : Int × Value := (g.blk, .slice g.a g.len g.cap)
def iput (ms : List Img) (g : Img) : List Img := if g.blk ∈ ms.map Img.blk then ms.map (fun x => if x.blk = g.blk then g else x) else ms ++ [g]
theorem iput_hdr (ms : List Img) (g : Img) : (iput ms g).map hdr = mput (ms.map hdr) g.blk (.slice g.a g.len g.cap) := by
  unfold iput mput
  have e : (ms.map hdr).map Prod.fst = ms.map Img.blk := by rw [List.map_map]; rfl
  rw [e]
  split
  · rw [List.map_map, List.map_map]
    apply List.map_congr_left
    intro x _
    show hdr (if x.blk = g.blk then g else x) = if (hdr x).1 = g.blk then (g.blk, _) else hdr x
    show hdr (if x.blk = g.blk then g else x) = if x.blk = g.blk then (g.blk, _) else hdr x
    split <;> rfl
  · rw [List.map_append]; rfl
theorem iput_mem {ms : List Img} {g x : Img} (h : x ∈ iput ms g) : x = g ∨ x ∈ ms := by
  unfold iput at h
  split at h
  · obtain ⟨y, hy, rfl⟩ := List.mem_map.1 h
    split
    · exact .inl rfl
    · exact .inr hy
  · rcases List.mem_append.1 h with h | h
    · exact .inr h
    · exact .inl (by simpa using h)
theorem iput_len (ms : List Img) (g : Img) : (iput ms g).length ≤ ms.length + 1 := by
  unfold iput; split <;> simp
/-- as values -/
def pput (ms : List PImg) (g : PImg) : List PImg := if g.1 ∈ ms.map Prod.fst then ms.map (fun x => if x.1 = g.1 then g else x) else ms ++ [g]
theorem iput_pr (ms : List Img) (g : Img) : (iput ms g).map Img.pr = pput (ms.map Img.pr) g.pr := by
  unfold iput pput
  have e : (ms.map Img.pr).map Prod.fst = ms.map Img.blk := by rw [List.map_map]; rfl
  rw [e]
  show List.map Img.pr (if g.blk ∈ ms.map Img.blk then _ else _) = if g.blk ∈ ms.map Img.blk then _ else _
  split
  · rw [List.map_map, List.map_map]
    apply List.map_congr_left
    intro x _
    show Img.pr (if x.blk = g.blk then g else x) = if x.blk = g.blk then g.pr else x.pr
    split <;> rfl
  · rw [List.map_append]; rfl
/-- images to their homes: the last of each block, in the blocks' order -/
def lastP (l : List PImg) : List PImg := l.foldl pput []
def homeP (l : List PImg) : List PImg := (sortI ((lastP l).map Prod.fst)).map fun n => (n, ((lastP l).lookup n).getD [])
def HomeOk (lay : Lay) (l : List PImg) : Prop := ∀ g ∈ l, lay.bi ≤ g.1 ∧ g.1 < lay.b
instance (lay : Lay) (l : List PImg) : Decidable (HomeOk lay l) := by unfold HomeOk; infer_instance
end Go.Proofs.Ytbpdbgcndfcilaa
namespace Go.Proofs.Ytbpdbgcndfcilaa
open Go.RowKit Go.Sl
set_option maxRecDepth 20000

def OwnImgs : List (List Blk) → List Img → Prop
  | [], [] => True
  | c :: cs, g :: gs => OwnB c g.a g.len g.cap g.data ∧ OwnImgs cs gs
  | _, _ => False
theorem OwnImgs.snoc : ∀ {cs : List (List Blk)} {gs : List Img} {c : List Blk} {g : Img}, OwnImgs cs gs → OwnB c g.a g.len g.cap g.data → OwnImgs (cs ++ [c]) (gs ++ [g])
  | [], [], _, _, _, h => ⟨h, trivial⟩
  | _ :: _, _ :: _, _, _, h, k => ⟨h.1, OwnImgs.snoc h.2 k⟩
  | [], _ :: _, _, _, h, _ => h.elim
  | _ :: _, [], _, _, h, _ => h.elim
theorem lookup_both : ∀ (ms : List Img) (n : Int), n ∈ ms.map Img.blk → ∃ g ∈ ms, g.blk = n ∧ mget (ms.map hdr) n = some (.slice g.a g.len g.cap) ∧ (ms.map Img.pr).lookup n = some g.data
  | [], n, h => by simp at h
  | x :: ms, n, h => by
    by_cases hx : n = x.blk
    · refine ⟨x, by simp, hx.symm, ?_, ?_⟩
      · unfold mget
        rw [List.map_cons, hdr, List.lookup_cons, show (n == x.blk) = true by simpa using hx]
      · rw [List.map_cons, Img.pr, List.lookup_cons, show (n == x.blk) = true by simpa using hx]
    · have hn : n ∈ ms.map Img.blk := by
        rw [List.map_cons] at h
        rcases List.mem_cons.1 h with h | h
        · exact absurd h hx
        · exact h
      obtain ⟨g, hg, h1, h2, h3⟩ := lookup_both ms n hn
      have hb : (n == x.blk) = false := by simpa using hx
      refine ⟨g, by simp [hg], h1, ?_, ?_⟩
      · unfold mget at h2 ⊢
        rw [List.map_cons, hdr, List.lookup_cons, hb]; exact h2
      · rw [List.map_cons, Img.pr, List.lookup_cons, hb]; exact h3
def allI (l : List Grp) : List Img := l.flatMap Grp.gs
def allP (l : List Grp) : List PImg := l.flatMap fun g => g.gs.map Img.pr
theorem allP_eq (l : List Grp) : allP l = (allI l).map Img.pr := by unfold allP allI; rw [List.map_flatMap]
theorem foldl_pr (l : List Img) : ∀ ms : List Img, (l.foldl iput ms).map Img.pr = (l.map Img.pr).foldl pput (ms.map Img.pr) := by
  induction l with
  | nil => intro ms; rfl
  | cons g l ih => intro ms; rw [List.foldl_cons, ih, iput_pr, List.map_cons, List.foldl_cons]
theorem fold_mem : ∀ (l ms : List Img), ∀ x ∈ l.foldl iput ms, x ∈ l ∨ x ∈ ms
  | [], ms, x, h => .inr h
  | g :: l, ms, x, h => by
    rcases fold_mem l (iput ms g) x h with h | h
    · exact .inl (by simp [h])
    · rcases iput_mem h with rfl | h
      · exact .inl (by simp)
      · exact .inr h
theorem fold_len : ∀ (l ms : List Img), (l.foldl iput ms).length ≤ ms.length + l.length
  | [], ms => by simp
  | g :: l, ms => by
    have h1 := fold_len l (iput ms g)
    have h2 := iput_len ms g
    rw [List.foldl_cons, List.length_cons]; omega
@[reducible] def layBox (b : Nat) (x : Lay) : List Blk := [(b, row x.vals 25)]
set_option maxHeartbeats 8000000 in
theorem home_one (c0 : List Blk) {I : Imm} {aG : Option Addr} {capG : Nat} {l : List Grp} (hG : GrpsR I [c0] aG l) (hl : l.length ≤ 1000000) (hall : (allI l).length ≤ 1000000) (hfew : ∀ g ∈ allI l, g.len ≤ 100000000) (x : Lay) :
    Tri Try.prog 50 #[x.v, .slice aG l.length capG] I [c0] fun v _ S' =>
      ((¬ (64 ≤ x.b ∧ x.b ≤ 512 ∧ x = layOf x.b.toNat) ∧ v = .tuple #[.slice none 0 0, .int .i64 2] ∧ S' = [c0]) ∨
       ((64 ≤ x.b ∧ x.b ≤ 512 ∧ x = layOf x.b.toNat) ∧ ¬ HomeOk x (allP l) ∧ v = .tuple #[.slice none 0 0, .int .i64 90] ∧ S' = [c0]) ∨
       ((64 ≤ x.b ∧ x.b ≤ 512 ∧ x = layOf x.b.toNat) ∧ HomeOk x (allP l) ∧ ∃ (aO : Option Addr) (capO : Nat) (chO : List Blk) (chs : List (List Blk)) (outs : List Img), v = .tuple #[.slice aO outs.length capO, .int .i64 0] ∧ OwnC chO 2 aO outs.length capO (imgCells outs) ∧ OwnImgs chs outs ∧ outs.map Img.pr = homeP (allP l) ∧ S' = c0 :: chO :: chs)) := by
  refine Tri.drop ?_ (fun _ _ _ _ h => h)
  refine Tri.of (args := [x.v, .slice aG l.length capG]) tabOk Try.func50 rfl (by kernel_rfl) (by kernel_rfl) ?_
  conv => whnf
  intro bl
  repeat (first
    | refine LoadD.own 0 rfl _ rfl rfl ?_
    | refine LoadD.own 1 rfl _ rfl rfl ?_
    | refine LoadP.at 0 rfl _ rfl rfl ?_
    | refine LoadP.at 1 rfl _ rfl rfl ?_
    | refine StoreD.st 0 rfl rfl rfl ?_
    | refine StoreD.st 1 rfl rfl rfl ?_
    | refine CmpD.yes rfl ?_
    | refine CmpD.yes (by decide) ?_
    | refine CmpD.no (by decide) ?_
    | refine Chk.mk ⟨rfl, trivial⟩ ?_
    | refine Chk.mk ⟨rfl, rfl, trivial⟩ ?_
    | refine Chk.mk ⟨rfl, rfl, rfl, trivial⟩ ?_
    | refine Chk.mk ⟨rfl, rfl, rfl, rfl, trivial⟩ ?_
    | refine Chk.mk ⟨rfl, rfl, rfl, rfl, rfl, trivial⟩ ?_
    | refine Chk.mk ⟨rfl, rfl, rfl, rfl, rfl, rfl, trivial⟩ ?_)
  refine Tri.free (layout_Of x.b I) ?_
  rintro v J _ hJ ⟨rfl, rfl⟩
  by_cases hb : x.b < 64 ∨ 512 < x.b
  · rw [layA, if_pos hb]
    conv => whnf
    intro b6
    repeat (first
      | refine LoadD.own 0 rfl _ rfl rfl ?_
      | refine LoadD.own 1 rfl _ rfl rfl ?_
      | refine LoadD.own 2 rfl _ rfl rfl ?_
      | refine LoadP.at 0 rfl _ rfl rfl ?_
      | refine LoadP.at 1 rfl _ rfl rfl ?_
      | refine LoadP.at 2 rfl _ rfl rfl ?_
      | refine StoreD.st 0 rfl rfl rfl ?_
      | refine StoreD.st 1 rfl rfl rfl ?_
      | refine StoreD.st 2 rfl rfl rfl ?_
      | refine CmpD.yes rfl ?_
      | refine CmpD.yes (by decide) ?_
      | refine CmpD.no (by decide) ?_
      | refine Chk.mk ⟨rfl, trivial⟩ ?_
      | refine Chk.mk ⟨rfl, rfl, trivial⟩ ?_
      | refine Chk.mk ⟨rfl, rfl, rfl, trivial⟩ ?_
      | refine Chk.mk ⟨rfl, rfl, rfl, rfl, trivial⟩ ?_
      | refine Chk.mk ⟨rfl, rfl, rfl, rfl, rfl, trivial⟩ ?_
      | refine Chk.mk ⟨rfl, rfl, rfl, rfl, rfl, rfl, trivial⟩ ?_)
    exact Done.mk ⟨[c0], Drop.pick [0] _ rfl, .inl ⟨by omega, rfl, rfl⟩⟩
  rw [layA, if_neg hb]
  conv => whnf
  intro b6
  repeat (first
    | refine LoadD.own 0 rfl _ rfl rfl ?_
    | refine LoadD.own 1 rfl _ rfl rfl ?_
    | refine LoadD.own 2 rfl _ rfl rfl ?_
    | refine LoadP.at 0 rfl _ rfl rfl ?_
    | refine LoadP.at 1 rfl _ rfl rfl ?_
    | refine LoadP.at 2 rfl _ rfl rfl ?_
    | refine StoreD.st 0 rfl rfl rfl ?_
    | refine StoreD.st 1 rfl rfl rfl ?_
    | refine StoreD.st 2 rfl rfl rfl ?_
    | refine CmpD.yes rfl ?_
    | refine CmpD.yes (by decide) ?_
    | refine CmpD.no (by decide) ?_
    | refine Chk.mk ⟨rfl, trivial⟩ ?_
    | refine Chk.mk ⟨rfl, rfl, trivial⟩ ?_
    | refine Chk.mk ⟨rfl, rfl, rfl, trivial⟩ ?_
    | refine Chk.mk ⟨rfl, rfl, rfl, rfl, trivial⟩ ?_
    | refine Chk.mk ⟨rfl, rfl, rfl, rfl, rfl, trivial⟩ ?_
    | refine Chk.mk ⟨rfl, rfl, rfl, rfl, rfl, rfl, trivial⟩ ?_)
  refine lay_cmp (layOf x.b.toNat) x rfl (.inr rfl) ?_ ?_ ?_
  · show Value.agg _ = _
    have hx : ((x.b.toNat : Nat) : Int) = x.b := by omega
    unfold layOf
    rw [hx]; rfl
  · rfl
  refine CmpD.split (fun c1 => ?_) (fun c1 => ?_)
  rotate_left
  · repeat (first
      | refine LoadD.own 0 rfl _ rfl rfl ?_
      | refine LoadD.own 1 rfl _ rfl rfl ?_
      | refine LoadD.own 2 rfl _ rfl rfl ?_
      | refine LoadP.at 0 rfl _ rfl rfl ?_
      | refine LoadP.at 1 rfl _ rfl rfl ?_
      | refine LoadP.at 2 rfl _ rfl rfl ?_
      | refine StoreD.st 0 rfl rfl rfl ?_
      | refine StoreD.st 1 rfl rfl rfl ?_
      | refine StoreD.st 2 rfl rfl rfl ?_
      | refine CmpD.yes rfl ?_
      | refine CmpD.yes (by decide) ?_
      | refine CmpD.no (by decide) ?_
      | refine Chk.mk ⟨rfl, trivial⟩ ?_
      | refine Chk.mk ⟨rfl, rfl, trivial⟩ ?_
      | refine Chk.mk ⟨rfl, rfl, rfl, trivial⟩ ?_
      | refine Chk.mk ⟨rfl, rfl, rfl, rfl, trivial⟩ ?_
      | refine Chk.mk ⟨rfl, rfl, rfl, rfl, rfl, trivial⟩ ?_
      | refine Chk.mk ⟨rfl, rfl, rfl, rfl, rfl, rfl, trivial⟩ ?_)
    refine Done.mk ⟨[c0], Drop.pick [0] _ rfl, .inl ⟨fun h => c1 ?_, rfl, rfl⟩⟩
    rw [← h.2.2]
  have hx : x = layOf x.b.toNat := by
    simp only [List.cons.injEq, and_true] at c1
    obtain ⟨q1, q2, q3, q4, q5, q6, q7⟩ := c1
    obtain ⟨x1, x2, x3, x4, x5, x6, x7⟩ := x
    dsimp only at q1 q2 q3 q4 q5 q6 q7 ⊢
    rw [Lay.mk.injEq]
    exact ⟨q1.symm, q2.symm, q3.symm, q4.symm, q5.symm, q6.symm, q7.symm⟩
  have hX : 64 ≤ x.b ∧ x.b ≤ 512 ∧ x = layOf x.b.toNat := ⟨by omega, by omega, hx⟩
  repeat (first
    | refine LoadD.own 0 rfl _ rfl rfl ?_
    | refine LoadD.own 1 rfl _ rfl rfl ?_
    | refine LoadD.own 2 rfl _ rfl rfl ?_
    | refine LoadP.at 0 rfl _ rfl rfl ?_
    | refine LoadP.at 1 rfl _ rfl rfl ?_
    | refine LoadP.at 2 rfl _ rfl rfl ?_
    | refine StoreD.st 0 rfl rfl rfl ?_
    | refine StoreD.st 1 rfl rfl rfl ?_
    | refine StoreD.st 2 rfl rfl rfl ?_
    | refine CmpD.yes rfl ?_
    | refine CmpD.yes (by decide) ?_
    | refine CmpD.no (by decide) ?_
    | refine Chk.mk ⟨rfl, trivial⟩ ?_
    | refine Chk.mk ⟨rfl, rfl, trivial⟩ ?_
    | refine Chk.mk ⟨rfl, rfl, rfl, trivial⟩ ?_
    | refine Chk.mk ⟨rfl, rfl, rfl, rfl, trivial⟩ ?_
    | refine Chk.mk ⟨rfl, rfl, rfl, rfl, rfl, trivial⟩ ?_
    | refine Chk.mk ⟨rfl, rfl, rfl, rfl, rfl, rfl, trivial⟩ ?_)
  refine makeMapD rfl ?_
  intro r
  repeat (first
    | refine LoadD.own 0 rfl _ rfl rfl ?_
    | refine LoadD.own 1 rfl _ rfl rfl ?_
    | refine LoadD.own 2 rfl _ rfl rfl ?_
    | refine LoadP.at 0 rfl _ rfl rfl ?_
    | refine LoadP.at 1 rfl _ rfl rfl ?_
    | refine LoadP.at 2 rfl _ rfl rfl ?_
    | refine StoreD.st 0 rfl rfl rfl ?_
    | refine StoreD.st 1 rfl rfl rfl ?_
    | refine StoreD.st 2 rfl rfl rfl ?_
    | refine CmpD.yes rfl ?_
    | refine CmpD.yes (by decide) ?_
    | refine CmpD.no (by decide) ?_
    | refine Chk.mk ⟨rfl, trivial⟩ ?_
    | refine Chk.mk ⟨rfl, rfl, trivial⟩ ?_
    | refine Chk.mk ⟨rfl, rfl, rfl, trivial⟩ ?_
    | refine Chk.mk ⟨rfl, rfl, rfl, rfl, trivial⟩ ?_
    | refine Chk.mk ⟨rfl, rfl, rfl, rfl, rfl, trivial⟩ ?_
    | refine Chk.mk ⟨rfl, rfl, rfl, rfl, rfl, rfl, trivial⟩ ?_)
  refine CodeF.loopD [2, 8, 30, 31, 32] (fun vs J' S' => ∃ (i : Nat) (ob : Obj), i ≤ l.length ∧ HomeOk x (allP (l.take i)) ∧ MapR ob (((allI (l.take i)).foldl iput []).map hdr) ∧ vs = [.pointer (some ⟨bl, 0, none⟩), .map (some r), .slice aG l.length capG, .int .i64 l.length, .int .i64 i] ∧ I = J' ∧ S' = [c0, layBox bl x, [(r, ob)]])
    (fun vs _ _ => match vs with | [_, _, _, _, .int _ i] => ((l.length : Int) - i).toNat | _ => 0) ?_ ?_
  · exact ⟨_, Drop.pick [0, 1, 3] _ rfl, 0, _, by omega, by intro g hg; simp [allP] at hg, MapR.nil, rfl, rfl, rfl⟩
  rintro vs gE J' S' hJ' ⟨i, ob, hi, hok, hM, rfl, rfl, rfl⟩
  refine CmpD.split (fun c2 => ?_) (fun c2 => ?_)
  · have hil : i < l.length := by omega
    have hg := hG.each _ (List.getElem_mem hil)
    have htk : l.take (i + 1) = l.take i ++ [l[i]] := by rw [List.take_add_one, List.getElem?_eq_getElem hil]; rfl
    rcases (hG.sl.mores [layBox bl x, [(r, ob)]]).mem with h0 | ⟨bg, off, rfl, hc⟩
    · omega
    have hcell := hc.part (i := i * 3) (m := 3) (by omega)
    rw [grpCells_at hil] at hcell
    generalize hgi : l[i] = gi at *
    obtain ⟨hgR, hgl⟩ := hg
    refine Chk.mk (by omega) ?_
    refine LoadD.mk _ hcell ?_
    conv => whnf
    intro b10
    repeat (first
      | refine LoadD.own 0 rfl _ rfl rfl ?_
      | refine LoadD.own 1 rfl _ rfl rfl ?_
      | refine LoadD.own 2 rfl _ rfl rfl ?_
      | refine LoadD.own 3 rfl _ rfl rfl ?_
      | refine LoadP.at 0 rfl _ rfl rfl ?_
      | refine LoadP.at 1 rfl _ rfl rfl ?_
      | refine LoadP.at 2 rfl _ rfl rfl ?_
      | refine LoadP.at 3 rfl _ rfl rfl ?_
      | refine StoreD.st 0 rfl rfl rfl ?_
      | refine StoreD.st 1 rfl rfl rfl ?_
      | refine StoreD.st 2 rfl rfl rfl ?_
      | refine StoreD.st 3 rfl rfl rfl ?_
      | refine CmpD.yes rfl ?_
      | refine CmpD.yes (by decide) ?_
      | refine CmpD.no (by decide) ?_
      | refine Chk.mk ⟨rfl, trivial⟩ ?_
      | refine Chk.mk ⟨rfl, rfl, trivial⟩ ?_
      | refine Chk.mk ⟨rfl, rfl, rfl, trivial⟩ ?_
      | refine Chk.mk ⟨rfl, rfl, rfl, rfl, trivial⟩ ?_
      | refine Chk.mk ⟨rfl, rfl, rfl, rfl, rfl, trivial⟩ ?_
      | refine Chk.mk ⟨rfl, rfl, rfl, rfl, rfl, rfl, trivial⟩ ?_)
    refine CodeF.loopD [2, 8, 30, 31, 32, 37, 38, 39] (fun vs J' S' => ∃ (k : Nat) (ob : Obj), k ≤ gi.gs.length ∧ HomeOk x (allP (l.take i) ++ (gi.gs.take k).map Img.pr) ∧ MapR ob (((allI (l.take i) ++ gi.gs.take k).foldl iput []).map hdr) ∧ vs = [.pointer (some ⟨bl, 0, none⟩), .map (some r), .slice (some ⟨bg, off, none⟩) l.length capG, .int .i64 l.length, .int .i64 i, .slice gi.a gi.gs.length gi.cap, .int .i64 gi.gs.length, .int .i64 k] ∧ I = J' ∧ S' = [c0, layBox bl x, [(r, ob)]])
      (fun vs _ _ => match vs with | [_, _, _, _, _, _, _, .int _ k] => ((gi.gs.length : Int) - k).toNat | _ => 0) ?_ ?_
    · exact ⟨_, Drop.pick [0, 1, 2] _ rfl, 0, ob, by omega, by simpa using hok, by simpa using hM, rfl, rfl, rfl⟩
    rintro vs gE2 J2 S2 hJ2 ⟨k, ob2, hk, hok2, hM2, rfl, rfl, rfl⟩
    refine CmpD.split (fun c3 => ?_) (fun c3 => ?_)
    · have hkl : k < gi.gs.length := by omega
      have him := hgR.each _ (List.getElem_mem hkl)
      have htk2 : gi.gs.take (k + 1) = gi.gs.take k ++ [gi.gs[k]] := by rw [List.take_add_one, List.getElem?_eq_getElem hkl]; rfl
      have hmem : gi.gs[k].pr ∈ allP l := by
        unfold allP
        exact List.mem_flatMap.2 ⟨gi, by rw [← hgi]; exact List.getElem_mem hil, List.mem_map_of_mem (List.getElem_mem hkl)⟩
      rcases (hgR.sl.mores [layBox bl x, [(r, ob2)]]).mem with h0 | ⟨bi, offi, hgia, hci⟩
      · omega
      have hcelli := hci.part (i := k * 2) (m := 2) (by omega)
      rw [imgCells_at hkl] at hcelli
      generalize hgk : gi.gs[k] = g at *
      rw [hgia]
      refine Chk.mk (by omega) ?_
      refine LoadD.mk _ hcelli ?_
      conv => whnf
      intro b12
      repeat (first
        | refine LoadD.own 0 rfl _ rfl rfl ?_
        | refine LoadD.own 1 rfl _ rfl rfl ?_
        | refine LoadD.own 2 rfl _ rfl rfl ?_
        | refine LoadD.own 3 rfl _ rfl rfl ?_
        | refine LoadP.at 0 rfl _ rfl rfl ?_
        | refine LoadP.at 1 rfl _ rfl rfl ?_
        | refine LoadP.at 2 rfl _ rfl rfl ?_
        | refine LoadP.at 3 rfl _ rfl rfl ?_
        | refine StoreD.st 0 rfl rfl rfl ?_
        | refine StoreD.st 1 rfl rfl rfl ?_
        | refine StoreD.st 2 rfl rfl rfl ?_
        | refine StoreD.st 3 rfl rfl rfl ?_
        | refine CmpD.yes rfl ?_
        | refine CmpD.yes (by decide) ?_
        | refine CmpD.no (by decide) ?_
        | refine Chk.mk ⟨rfl, trivial⟩ ?_
        | refine Chk.mk ⟨rfl, rfl, trivial⟩ ?_
        | refine Chk.mk ⟨rfl, rfl, rfl, trivial⟩ ?_
        | refine Chk.mk ⟨rfl, rfl, rfl, rfl, trivial⟩ ?_
        | refine Chk.mk ⟨rfl, rfl, rfl, rfl, rfl, trivial⟩ ?_
        | refine Chk.mk ⟨rfl, rfl, rfl, rfl, rfl, rfl, trivial⟩ ?_)
      refine CmpD.split (fun c4 => ?_) (fun c4 => ?_)
      · repeat (first
          | refine LoadD.own 0 rfl _ rfl rfl ?_
          | refine LoadD.own 1 rfl _ rfl rfl ?_
          | refine LoadD.own 2 rfl _ rfl rfl ?_
          | refine LoadD.own 3 rfl _ rfl rfl ?_
          | refine LoadP.at 0 rfl _ rfl rfl ?_
          | refine LoadP.at 1 rfl _ rfl rfl ?_
          | refine LoadP.at 2 rfl _ rfl rfl ?_
          | refine LoadP.at 3 rfl _ rfl rfl ?_
          | refine StoreD.st 0 rfl rfl rfl ?_
          | refine StoreD.st 1 rfl rfl rfl ?_
          | refine StoreD.st 2 rfl rfl rfl ?_
          | refine StoreD.st 3 rfl rfl rfl ?_
          | refine CmpD.yes rfl ?_
          | refine CmpD.yes (by decide) ?_
          | refine CmpD.no (by decide) ?_
          | refine Chk.mk ⟨rfl, trivial⟩ ?_
          | refine Chk.mk ⟨rfl, rfl, trivial⟩ ?_
          | refine Chk.mk ⟨rfl, rfl, rfl, trivial⟩ ?_
          | refine Chk.mk ⟨rfl, rfl, rfl, rfl, trivial⟩ ?_
          | refine Chk.mk ⟨rfl, rfl, rfl, rfl, rfl, trivial⟩ ?_
          | refine Chk.mk ⟨rfl, rfl, rfl, rfl, rfl, rfl, trivial⟩ ?_)
        refine Done.mk ⟨[c0], Drop.pick [0] _ rfl, .inr (.inl ⟨hX, fun h => ?_, rfl, rfl⟩)⟩
        have := (h _ hmem).1
        exact absurd c4 (by show ¬ g.blk < x.bi; exact Int.not_lt.2 this)
      repeat (first
        | refine LoadD.own 0 rfl _ rfl rfl ?_
        | refine LoadD.own 1 rfl _ rfl rfl ?_
        | refine LoadD.own 2 rfl _ rfl rfl ?_
        | refine LoadD.own 3 rfl _ rfl rfl ?_
        | refine LoadP.at 0 rfl _ rfl rfl ?_
        | refine LoadP.at 1 rfl _ rfl rfl ?_
        | refine LoadP.at 2 rfl _ rfl rfl ?_
        | refine LoadP.at 3 rfl _ rfl rfl ?_
        | refine StoreD.st 0 rfl rfl rfl ?_
        | refine StoreD.st 1 rfl rfl rfl ?_
        | refine StoreD.st 2 rfl rfl rfl ?_
        | refine StoreD.st 3 rfl rfl rfl ?_
        | refine CmpD.yes rfl ?_
        | refine CmpD.yes (by decide) ?_
        | refine CmpD.no (by decide) ?_
        | refine Chk.mk ⟨rfl, trivial⟩ ?_
        | refine Chk.mk ⟨rfl, rfl, trivial⟩ ?_
        | refine Chk.mk ⟨rfl, rfl, rfl, trivial⟩ ?_
        | refine Chk.mk ⟨rfl, rfl, rfl, rfl, trivial⟩ ?_
        | refine Chk.mk ⟨rfl, rfl, rfl, rfl, rfl, trivial⟩ ?_
        | refine Chk.mk ⟨rfl, rfl, rfl, rfl, rfl, rfl, trivial⟩ ?_)
      refine CmpD.split (fun c5 => ?_) (fun c5 => ?_)
      · repeat (first
          | refine LoadD.own 0 rfl _ rfl rfl ?_
          | refine LoadD.own 1 rfl _ rfl rfl ?_
          | refine LoadD.own 2 rfl _ rfl rfl ?_
          | refine LoadD.own 3 rfl _ rfl rfl ?_
          | refine LoadP.at 0 rfl _ rfl rfl ?_
          | refine LoadP.at 1 rfl _ rfl rfl ?_
          | refine LoadP.at 2 rfl _ rfl rfl ?_
          | refine LoadP.at 3 rfl _ rfl rfl ?_
          | refine StoreD.st 0 rfl rfl rfl ?_
          | refine StoreD.st 1 rfl rfl rfl ?_
          | refine StoreD.st 2 rfl rfl rfl ?_
          | refine StoreD.st 3 rfl rfl rfl ?_
          | refine CmpD.yes rfl ?_
          | refine CmpD.yes (by decide) ?_
          | refine CmpD.no (by decide) ?_
          | refine Chk.mk ⟨rfl, trivial⟩ ?_
          | refine Chk.mk ⟨rfl, rfl, trivial⟩ ?_
          | refine Chk.mk ⟨rfl, rfl, rfl, trivial⟩ ?_
          | refine Chk.mk ⟨rfl, rfl, rfl, rfl, trivial⟩ ?_
          | refine Chk.mk ⟨rfl, rfl, rfl, rfl, rfl, trivial⟩ ?_
          | refine Chk.mk ⟨rfl, rfl, rfl, rfl, rfl, rfl, trivial⟩ ?_)
        refine Done.mk ⟨[c0], Drop.pick [0] _ rfl, .inr (.inl ⟨hX, fun h => ?_, rfl, rfl⟩)⟩
        have := (h _ hmem).2
        exact absurd c5 (by show ¬ x.b ≤ g.blk; exact Int.not_le.2 this)
      repeat (first
        | refine LoadD.own 0 rfl _ rfl rfl ?_
        | refine LoadD.own 1 rfl _ rfl rfl ?_
        | refine LoadD.own 2 rfl _ rfl rfl ?_
        | refine LoadD.own 3 rfl _ rfl rfl ?_
        | refine LoadP.at 0 rfl _ rfl rfl ?_
        | refine LoadP.at 1 rfl _ rfl rfl ?_
        | refine LoadP.at 2 rfl _ rfl rfl ?_
        | refine LoadP.at 3 rfl _ rfl rfl ?_
        | refine StoreD.st 0 rfl rfl rfl ?_
        | refine StoreD.st 1 rfl rfl rfl ?_
        | refine StoreD.st 2 rfl rfl rfl ?_
        | refine StoreD.st 3 rfl rfl rfl ?_
        | refine CmpD.yes rfl ?_
        | refine CmpD.yes (by decide) ?_
        | refine CmpD.no (by decide) ?_
        | refine Chk.mk ⟨rfl, trivial⟩ ?_
        | refine Chk.mk ⟨rfl, rfl, trivial⟩ ?_
        | refine Chk.mk ⟨rfl, rfl, rfl, trivial⟩ ?_
        | refine Chk.mk ⟨rfl, rfl, rfl, rfl, trivial⟩ ?_
        | refine Chk.mk ⟨rfl, rfl, rfl, rfl, rfl, trivial⟩ ?_
        | refine Chk.mk ⟨rfl, rfl, rfl, rfl, rfl, rfl, trivial⟩ ?_)
      refine mapUpdateD tabOk rfl rfl rfl rfl rfl 2 rfl hM2 ?_
      intro ob3 hM3
      repeat (first
        | refine LoadD.own 0 rfl _ rfl rfl ?_
        | refine LoadD.own 1 rfl _ rfl rfl ?_
        | refine LoadD.own 2 rfl _ rfl rfl ?_
        | refine LoadD.own 3 rfl _ rfl rfl ?_
        | refine LoadP.at 0 rfl _ rfl rfl ?_
        | refine LoadP.at 1 rfl _ rfl rfl ?_
        | refine LoadP.at 2 rfl _ rfl rfl ?_
        | refine LoadP.at 3 rfl _ rfl rfl ?_
        | refine StoreD.st 0 rfl rfl rfl ?_
        | refine StoreD.st 1 rfl rfl rfl ?_
        | refine StoreD.st 2 rfl rfl rfl ?_
        | refine StoreD.st 3 rfl rfl rfl ?_
        | refine CmpD.yes rfl ?_
        | refine CmpD.yes (by decide) ?_
        | refine CmpD.no (by decide) ?_
        | refine Chk.mk ⟨rfl, trivial⟩ ?_
        | refine Chk.mk ⟨rfl, rfl, trivial⟩ ?_
        | refine Chk.mk ⟨rfl, rfl, rfl, trivial⟩ ?_
        | refine Chk.mk ⟨rfl, rfl, rfl, rfl, trivial⟩ ?_
        | refine Chk.mk ⟨rfl, rfl, rfl, rfl, rfl, trivial⟩ ?_
        | refine Chk.mk ⟨rfl, rfl, rfl, rfl, rfl, rfl, trivial⟩ ?_)
      refine ToD.i64 (by omega) (by omega) ?_
      refine ⟨_, Drop.pick [0, 1, 2] _ rfl, ⟨k + 1, ob3, by omega, ?_, ?_, by rw [← hgia]; rfl, rfl, rfl⟩, ?_⟩
      · rw [htk2, List.map_append, ← List.append_assoc]
        intro q hq
        rcases List.mem_append.1 hq with hq | hq
        · exact hok2 q hq
        · simp only [List.map_cons, List.map_nil, List.mem_singleton] at hq
          subst hq
          exact ⟨Int.not_lt.1 c4, Int.not_le.1 c5⟩
      · rw [htk2, ← List.append_assoc, List.foldl_append, List.foldl_cons, List.foldl_nil, iput_hdr]
        exact hM3
      · show ((gi.gs.length : Int) - ((k : Int) + 1)).toNat < ((gi.gs.length : Int) - (k : Int)).toNat
        omega
    · obtain rfl : k = gi.gs.length := by omega
      rw [List.take_length] at hok2 hM2
      refine ToD.i64 (by omega) (by omega) ?_
      refine ⟨_, Drop.refl _, ⟨i + 1, ob2, by omega, ?_, ?_, rfl, rfl, rfl⟩, ?_⟩
      · rw [htk]; unfold allP at hok2 ⊢; rw [List.flatMap_append]; simpa using hok2
      · rw [htk]; unfold allI at hM2 ⊢; rw [List.flatMap_append]; simpa using hM2
      · show ((l.length : Int) - ((i : Int) + 1)).toNat < ((l.length : Int) - (i : Int)).toNat
        omega
  · obtain rfl : i = l.length := by omega
    rw [List.take_length] at hok hM
    obtain ⟨ms, hms⟩ : ∃ ms, ms = (allI l).foldl iput [] := ⟨_, rfl⟩
    rw [← hms] at hM
    have hmsl : ms.length ≤ 1000000 := by rw [hms]; have := fold_len (allI l) []; simp at this; omega
    have hmspr : ms.map Img.pr = lastP (allP l) := by rw [hms, foldl_pr, allP_eq]; rfl
    have hmsR : ∀ g ∈ ms, ImgR I [c0] g := by
      intro g hg
      rw [hms] at hg
      rcases fold_mem _ _ g hg with h | h
      · unfold allI at h
        obtain ⟨gr, hgr, hgg⟩ := List.mem_flatMap.1 h
        exact (hG.each gr hgr).1.each g hgg
      · simp at h
    have hmsF : ∀ g ∈ ms, g.len ≤ 100000000 := by
      intro g hg
      rw [hms] at hg
      rcases fold_mem _ _ g hg with h | h
      · exact hfew g h
      · simp at h
    have hkeys : keysOf (ms.map hdr) = sortI ((lastP (allP l)).map Prod.fst) := by
      unfold keysOf
      rw [← hmspr, List.map_map, List.map_map]; rfl
    have hkl := keysOf_length (ms.map hdr)
    rw [List.length_map] at hkl
    have hkm : ∀ n ∈ keysOf (ms.map hdr), n ∈ ms.map Img.blk := by
      intro n hn
      unfold keysOf at hn
      have := (sortI_perm _).mem_iff.1 hn
      rw [List.map_map] at this; exact this
    refine Tri.nf (keys_of r I _) ?_
    rintro v J S' hJ ⟨bk, rfl, rfl, rfl⟩
    refine Tri.frameX (sorted_keys bk r ob (ms.map hdr) hM (by rw [List.length_map]; exact hmsl) I) [3, 2] rfl rfl ?_
    rintro v J S' hJK ⟨aK, capK, chK, rfl, hK, hle, rfl⟩
    rw [List.length_map] at hK ⊢
    obtain ⟨KS, hKS⟩ : ∃ KS, KS = keysOf (ms.map hdr) := ⟨_, rfl⟩
    rw [← hKS] at hK hkeys hkl hkm
    refine CodeF.loopD [8, 13, 64, 65, 66] (fun vs J' S' => ∃ (k : Nat) (aO : Option Addr) (capO : Nat) (chO : List Blk) (chs : List (List Blk)) (outs : List Img), k ≤ ms.length ∧ outs.length = k ∧ OwnC chO 2 aO k capO (imgCells outs) ∧ OwnImgs chs outs ∧ outs.map Img.pr = (KS.take k).map (fun n => (n, ((lastP (allP l)).lookup n).getD [])) ∧
        vs = [.map (some r), .slice aO k capO, .slice aK ms.length capK, .int .i64 ms.length, .int .i64 k] ∧ J = J' ∧ S' = c0 :: [(r, ob)] :: chK :: chO :: chs)
      (fun vs _ _ => match vs with | [_, _, _, _, .int _ k] => ((ms.length : Int) - k).toNat | _ => 0) ?_ ?_
    · exact ⟨_, Drop.and (Drop.pick [0, 4, 5] _ rfl), 0, none, 0, [], [], [], by omega, rfl, OwnC.nil _ _, trivial, rfl, rfl, rfl, rfl⟩
    rintro vs gE J' S' hJ' ⟨k, aO, capO, chO, chs, outs, hk, hol, hO, hcs, hpr, rfl, rfl, rfl⟩
    refine CmpD.split (fun c3 => ?_) (fun c3 => ?_)
    · have hkK : k < KS.length := by omega
      have htk : KS.take (k + 1) = KS.take k ++ [KS[k]] := by rw [List.take_add_one, List.getElem?_eq_getElem hkK]; rfl
      obtain ⟨g, hgm, hgb, hget, hlk⟩ := lookup_both ms KS[k] (hkm _ (List.getElem_mem hkK))
      rw [hmspr] at hlk
      have hgR := hmsR g hgm
      have hcell : (ints KS)[k]? = some (.int .i64 KS[k]) := ints_get (List.getElem?_eq_getElem hkK)
      generalize hn : KS[k] = n at *
      rcases hK.at' with q0 | ⟨bK, pre, post, TK, rfl, rfl, hpost⟩
      · have := hK.le; omega
      refine Chk.mk (by omega) ?_
      refine LoadD.own 2 rfl _ (take_get (own_take pre (ints KS) post) hcell) rfl ?_
      refine lookupD tabOk rfl rfl rfl rfl rfl rfl 1 rfl hM ?_
      rw [hget]
      refine Tri.mono (clone_bytes J _ g.a g.len g.cap (bts g.data) (by rw [Nat.mul_one]; exact (hgR.rd.mores ([(r, ob)] :: _ :: chO :: chs)).imm hJK) (bts_plain _) (by have := hmsF g hgm; omega)) ?_
      rintro v J3 S3 hJ3 ⟨a', cap', ch', rfl, hown', rfl, rfl⟩
      conv => whnf
      intro bN
      refine appendD tabOk rfl rfl rfl rfl rfl rfl rfl 3 rfl hO (SrcOk.slice (n := 1) (news := imgCells [⟨n, a', g.len, cap', g.data⟩]) tabOk rfl ((OwnC.whole (len := 1) (size := 2) rfl).slC _ (two_get1 (c0 :: [(r, ob)] :: _ :: chO :: chs) ch' _)) (by intro v hv; simp [imgCells] at hv; rcases hv with rfl | rfl <;> rfl)) rfl (by show (k + 1) * 32 ≤ _; omega) (by omega) ?_
      intro a2 cap2 ch2 hO2
      refine ToD.i64 (by omega) (by omega) ?_
      refine ⟨c0 :: [(r, ob)] :: _ :: ch2 :: (chs ++ [ch']), Drop.init (c0 :: [(r, ob)] :: _ :: ch2 :: (chs ++ [ch'])) _, ⟨k + 1, a2, cap2, ch2, chs ++ [ch'], outs ++ [⟨n, a', g.len, cap', g.data⟩], by omega, by simp [hol], by rw [imgCells_snoc]; exact hO2, hcs.snoc hown', ?_, rfl, rfl, rfl⟩, ?_⟩
      · rw [htk, List.map_append, List.map_append, hpr]
        simp [hlk]
      · show ((ms.length : Int) - ((k : Int) + 1)).toNat < ((ms.length : Int) - (k : Int)).toNat
        omega
    · obtain rfl : k = ms.length := by omega
      repeat (first
        | refine LoadD.own 0 rfl _ rfl rfl ?_
        | refine LoadD.own 1 rfl _ rfl rfl ?_
        | refine LoadD.own 2 rfl _ rfl rfl ?_
        | refine LoadP.at 0 rfl _ rfl rfl ?_
        | refine LoadP.at 1 rfl _ rfl rfl ?_
        | refine LoadP.at 2 rfl _ rfl rfl ?_
        | refine StoreD.st 0 rfl rfl rfl ?_
        | refine StoreD.st 1 rfl rfl rfl ?_
        | refine StoreD.st 2 rfl rfl rfl ?_
        | refine CmpD.yes rfl ?_
        | refine CmpD.yes (by decide) ?_
        | refine CmpD.no (by decide) ?_
        | refine Chk.mk ⟨rfl, trivial⟩ ?_
        | refine Chk.mk ⟨rfl, rfl, trivial⟩ ?_
        | refine Chk.mk ⟨rfl, rfl, rfl, trivial⟩ ?_
        | refine Chk.mk ⟨rfl, rfl, rfl, rfl, trivial⟩ ?_
        | refine Chk.mk ⟨rfl, rfl, rfl, rfl, rfl, trivial⟩ ?_
        | refine Chk.mk ⟨rfl, rfl, rfl, rfl, rfl, rfl, trivial⟩ ?_)
      refine Done.mk ⟨c0 :: chO :: chs, ?_, .inr (.inr ⟨hX, hok, aO, capO, chO, chs, outs, by rw [hol]; rfl, by rw [hol]; exact hO, hcs, ?_, rfl⟩)⟩
      · exact ⟨[(r, ob)] ++ chK, by
          classical
          refine List.perm_iff_count.2 fun y => ?_
          simp only [List.flatten_cons, List.count_append]
          omega⟩
      · rw [hpr, List.take_of_length_le (by omega), hkeys]; rfl
theorem ImgsR.pack {I : Imm} {S : St} {a : Option Addr} {gs : List Img} (h : ImgsR I S a gs) : ImgsR I [S.flatten] a gs := ⟨h.sl.pack, fun g hg => ⟨(h.each g hg).rd.pack⟩⟩
theorem home_any {I : Imm} {S : St} {aG : Option Addr} {capG : Nat} {l : List Grp} (hG : GrpsR I S aG l) (hl : l.length ≤ 1000000) (hall : (allI l).length ≤ 1000000) (hfew : ∀ g ∈ allI l, g.len ≤ 100000000) (x : Lay) :
    Tri Try.prog 50 #[x.v, .slice aG l.length capG] I S fun v _ S' =>
      ((¬ (64 ≤ x.b ∧ x.b ≤ 512 ∧ x = layOf x.b.toNat) ∧ v = .tuple #[.slice none 0 0, .int .i64 2] ∧ S' = S) ∨
       ((64 ≤ x.b ∧ x.b ≤ 512 ∧ x = layOf x.b.toNat) ∧ ¬ HomeOk x (allP l) ∧ v = .tuple #[.slice none 0 0, .int .i64 90] ∧ S' = S) ∨
       ((64 ≤ x.b ∧ x.b ≤ 512 ∧ x = layOf x.b.toNat) ∧ HomeOk x (allP l) ∧ ∃ (aO : Option Addr) (capO : Nat) (chO : List Blk) (chs : List (List Blk)) (outs : List Img), v = .tuple #[.slice aO outs.length capO, .int .i64 0] ∧ OwnC chO 2 aO outs.length capO (imgCells outs) ∧ OwnImgs chs outs ∧ outs.map Img.pr = homeP (allP l) ∧ S' = S ++ (chO :: chs))) := by
  refine Tri.pack ((home_one S.flatten ⟨hG.sl.pack, fun g hg => ⟨(hG.each g hg).1.pack, (hG.each g hg).2⟩⟩ hl hall hfew x).mono ?_)
  rintro v J S' hJ (⟨h1, rfl, rfl⟩ | ⟨h1, h2, rfl, rfl⟩ | ⟨h1, h2, aO, capO, chO, chs, outs, rfl, h3, h4, h5, rfl⟩)
  · exact ⟨[], rfl, .inl ⟨h1, rfl, by simp⟩⟩
  · exact ⟨[], rfl, .inr (.inl ⟨h1, h2, rfl, by simp⟩)⟩
  · exact ⟨chO :: chs, rfl, .inr (.inr ⟨h1, h2, aO, capO, chO, chs, outs, rfl, h3, h4, h5, rfl⟩)⟩
theorem OwnImgs.at' : ∀ {cs : List (List Blk)} {gs : List Img}, OwnImgs cs gs → ∀ g ∈ gs, ∃ (i : Nat) (c : List Blk), cs[i]? = some c ∧ OwnB c g.a g.len g.cap g.data
  | [], [], _, g, hg => by simp at hg
  | c :: cs, x :: gs, h, g, hg => by
    rcases List.mem_cons.1 hg with rfl | hg
    · exact ⟨0, c, rfl, h.1⟩
    · obtain ⟨i, c', hi, ho⟩ := OwnImgs.at' h.2 g hg
      exact ⟨i + 1, c', hi, ho⟩
  | [], _ :: _, h, _, _ => h.elim
  | _ :: _, [], h, _, _ => h.elim
theorem imgsR_own {I : Imm} (S : St) {aO : Option Addr} {capO : Nat} {chO : List Blk} {chs : List (List Blk)} {outs : List Img} (h : OwnC chO 2 aO outs.length capO (imgCells outs)) (k : OwnImgs chs outs) (R : St) : ImgsR I (S ++ ((chO :: chs) ++ R)) aO outs := by
  refine ⟨h.slC S.length (by rw [List.getElem?_append_right (Nat.le_refl _), Nat.sub_self]; rfl), fun g hg => ?_⟩
  obtain ⟨i, c, hi, ho⟩ := k.at' g hg
  refine ⟨ho.slC1 (S.length + (i + 1)) ?_⟩
  rw [List.getElem?_append_right (by omega), Nat.add_sub_cancel_left, List.cons_append, List.getElem?_cons_succ]
  have hl : i < chs.length := by
    rcases Nat.lt_or_ge i chs.length with g | g
    · exact g
    · rw [List.getElem?_eq_none g] at hi; cases hi
  rw [List.getElem?_append_left hl]; exact hi
end Go.Proofs.Ytbpdbgcndfcilaa
namespace Go.Proofs.Ytbpdbgcndfcilaa
open Go.RowKit Go.Sl
set_option maxRecDepth 20000

theorem imgCells_0 {gs : List Img} {i : Nat} (h : i < gs.length) : (imgCells gs)[i * 2]? = some (.int .i64 gs[i].blk) := by
  have := imgCells_at h
  have e := congrArg (·[0]?) this
  simpa using e
theorem imgCells_1 {gs : List Img} {i : Nat} (h : i < gs.length) : (imgCells gs)[i * 2 + 1]? = some (.slice gs[i].a gs[i].len gs[i].cap) := by
  have := imgCells_at h
  have e := congrArg (·[1]?) this
  simpa using e
theorem take_pr_eq {g1 g2 : List Img} {i : Nat} (h1 : i < g1.length) (h2 : i < g2.length) (ht : (g1.take i).map Img.pr = (g2.take i).map Img.pr) :
    ((g1.take (i + 1)).map Img.pr = (g2.take (i + 1)).map Img.pr) ↔ (g1[i].blk = g2[i].blk ∧ g1[i].data = g2[i].data) := by
  rw [List.take_add_one, List.take_add_one, List.getElem?_eq_getElem h1, List.getElem?_eq_getElem h2, List.map_append, List.map_append, ht]
  simp
theorem SlC.split {I : Imm} {S : St} {a : Option Addr} {n : Nat} {vs : List Value} (h : SlC I S a n vs) (hn : n ≠ 0) : ∃ b off, a = some ⟨b, off, none⟩ ∧ Cells I S b off n vs := by
  rcases h.mem with h0 | h
  · exact absurd h0 hn
  · exact h
theorem LoadP_any {I : Imm} {c0 : List Blk} {b off n : Nat} {K : List Value → List Nat → Prop} (vs : List Value) (h : Cells I [c0] b off n vs) (k : K vs [0]) : LoadP I [c0] b off n K := .own 0 vs h k
set_option maxHeartbeats 4000000 in
theorem same_imgs1 (c0 : List Blk) {I : Imm} {a1 a2 : Option Addr} {c1 c2 : Nat} {g1 g2 : List Img} (h1 : ImgsR I [c0] a1 g1) (h2 : ImgsR I [c0] a2 g2) (hl1 : g1.length ≤ 1000000000) :
    Tri Try.prog 52 #[.slice a1 g1.length c1, .slice a2 g2.length c2] I [c0] fun v J S' => v = .bool (decide (g1.map Img.pr = g2.map Img.pr)) ∧ I = J ∧ S' = [c0] := by
  refine Tri.of (args := [.slice a1 g1.length c1, .slice a2 g2.length c2]) tabOk Try.func52 rfl (by kernel_rfl) (by kernel_rfl) ?_
  refine CmpD.split (fun c => ?_) (fun c => ?_)
  rotate_left
  · refine Done.mk ⟨?_, rfl, rfl⟩
    show Value.bool _ = Value.bool _
    rw [decide_eq_false (fun h => c (by have := congrArg List.length h; simp at this; omega))]
  have hl : g1.length = g2.length := by omega
  refine CodeF.loopD [0, 1, 5] (fun vs J' S' => ∃ (i : Nat), i ≤ g1.length ∧ (g1.take i).map Img.pr = (g2.take i).map Img.pr ∧ vs = [.slice a1 g1.length c1, .slice a2 g2.length c2, .int .i64 i] ∧ I = J' ∧ S' = [c0])
    (fun vs _ _ => match vs with | [_, _, .int _ i] => ((g1.length : Int) - i).toNat | _ => 0) ?_ ?_
  · exact ⟨_, Drop.refl _, 0, by omega, rfl, rfl, rfl, rfl⟩
  rintro vs gE J' S' hJ' ⟨i, hi, hpre, rfl, rfl, rfl⟩
  refine CmpD.split (fun c1' => ?_) (fun c1' => ?_)
  · have i1 : i < g1.length := by omega
    have i2 : i < g2.length := by omega
    have hiff := take_pr_eq i1 i2 hpre
    have no : ¬ (g1[i].blk = g2[i].blk ∧ g1[i].data = g2[i].data) → decide (g1.map Img.pr = g2.map Img.pr) = false := by
      intro h
      refine decide_eq_false fun h' => h (hiff.1 ?_)
      rw [List.map_take, List.map_take, h']
    obtain ⟨b1, o1, rfl, hc1⟩ := SlC.split h1.sl (by omega)
    obtain ⟨b2, o2, rfl, hc2⟩ := SlC.split h2.sl (by omega)
    have r1 := h1.each _ (List.getElem_mem i1)
    have r2 := h2.each _ (List.getElem_mem i2)
    refine CodeF.sched [[], [], [0, 1], [0, 1, 2], [0, 1, 2, 3], [], [], [5, 6], [5, 6, 7], [5, 6, 7, 8], [0, 1, 2, 3, 4, 5, 6, 7, 8, 9], [0, 1, 2, 3, 4, 5, 6, 7, 8, 9, 10], [0, 1, 2, 3, 4, 5, 6, 7, 8, 9, 10, 11], [0, 1, 2, 3, 4, 5, 6, 7, 8, 9, 10, 11], [0, 1, 2, 3, 4, 5, 6, 7, 8, 9, 10, 11, 12, 13], [0, 1, 2, 3, 4, 5, 6, 7, 8, 9, 10, 11, 12, 13, 14], [0, 1, 2, 3, 4, 5, 6, 7, 8, 9, 10, 11, 12, 13, 14, 15], [0, 1, 2, 3, 4, 5, 6, 7, 8, 9, 10, 11], [0, 1, 2, 3, 4, 5, 6, 7, 8, 9, 10, 11], [0, 1, 2, 3, 4, 5, 6, 7, 8, 9, 10, 11, 17, 18], [0, 1, 2, 3, 4, 5, 6, 7, 8, 9, 10, 11, 17, 18, 19], [0, 1, 2, 3, 4, 5, 6, 7, 8, 9, 10, 11, 17, 18, 19, 20], [0, 1, 2, 3, 4, 5, 6, 7, 8, 9, 10, 11, 12, 13, 14, 15, 16, 17, 18, 19, 20, 21], [0, 1, 2, 3, 4, 5, 6, 7, 8, 9, 10, 11, 12, 13, 14, 15, 16, 17, 18, 19, 20, 21, 22], [0, 1, 2, 3, 4, 5, 6, 7, 8, 9, 10, 11, 12, 13, 14, 15, 16, 17, 18, 19, 20, 21, 22, 23]] [0, 1, 2, 3, 4, 5, 6, 7, 8, 9, 10, 11, 12, 13, 14, 15, 16, 17, 18, 19, 20, 21, 22, 23, 24] (by kernel_rfl) ?_
    refine Chk.mk (by omega) ?_
    refine LoadP_any _ (hc1.at (imgCells_0 i1)) ?_
    refine Chk.mk (by omega) ?_
    refine LoadP_any _ (hc2.at (imgCells_0 i2)) ?_
    refine CmpD.split (fun c2' => ?_) (fun c2' => ?_)
    · refine Chk.mk (by omega) ?_
      refine LoadP_any _ (hc1.at (imgCells_1 i1)) ?_
      refine Chk.mk (by omega) ?_
      refine LoadP_any _ (hc2.at (imgCells_1 i2)) ?_
      refine Tri.nf (same_bytes r1.rd r2.rd) ?_
      rintro v J S' hJ ⟨rfl, rfl, rfl⟩
      by_cases hd : g1[i].data = g2[i].data
      · rw [decide_eq_true hd]
        refine ToD.i64 (by omega) (by omega) ?_
        refine ⟨_, Drop.refl _, ⟨i + 1, by omega, hiff.2 ⟨c2', hd⟩, rfl, rfl, rfl⟩, ?_⟩
        show ((g1.length : Int) - ((i : Int) + 1)).toNat < ((g1.length : Int) - (i : Int)).toNat
        omega
      · rw [decide_eq_false hd]
        refine Done.mk ⟨?_, rfl, rfl⟩
        show Value.bool _ = Value.bool _
        rw [no (fun h => hd h.2)]
    · refine Done.mk ⟨?_, rfl, rfl⟩
      show Value.bool _ = Value.bool _
      rw [no (fun h => c2' h.1)]
  · obtain rfl : i = g1.length := by omega
    refine Done.mk ⟨?_, rfl, rfl⟩
    show Value.bool _ = Value.bool _
    rw [List.take_length, hl, List.take_length] at hpre
    rw [decide_eq_true hpre]
theorem same_imgs {I : Imm} {S : St} {a1 a2 : Option Addr} {c1 c2 : Nat} {g1 g2 : List Img} (h1 : ImgsR I S a1 g1) (h2 : ImgsR I S a2 g2) (hl1 : g1.length ≤ 1000000000) :
    Tri Try.prog 52 #[.slice a1 g1.length c1, .slice a2 g2.length c2] I S fun v J S' => v = .bool (decide (g1.map Img.pr = g2.map Img.pr)) ∧ I = J ∧ S' = S := by
  refine Tri.pack ((same_imgs1 _ h1.pack h2.pack hl1).mono ?_)
  rintro v J S' hJ ⟨rfl, rfl, rfl⟩
  exact ⟨[], rfl, rfl, rfl, by simp⟩
end Go.Proofs.Ytbpdbgcndfcilaa
namespace Go.Proofs.Ytbpdbgcndfcilaa
open Go.RowKit Go.Sl
set_option maxRecDepth 20000

/-- a copy of bytes, its own -/
theorem copy_own (I : Imm) (a : Option Addr) (len cap : Nat) (l : Dat) (h : Rds I a len (bts l)) (hlen : len ≤ 1000000000) :
    Tri Try.prog 33 #[.slice a len cap] I [] fun v J S' => ∃ a' cap' ch, v = .slice a' len cap' ∧ OwnB ch a' len cap' l ∧ I = J ∧ S' = [ch] := by
  refine Tri.lay (S2 := [[]]) (by simp) ?_
  refine Tri.of (args := [.slice a len cap]) tabOk Try.func33 rfl (by kernel_rfl) (by kernel_rfl) ?_
  refine appendD tabOk rfl rfl rfl rfl rfl rfl rfl 0 rfl (OwnC.nil 1 none) (SrcOk.slice (n := len) (news := bts l) tabOk rfl (by show SlC _ _ _ (len * 1) _; rw [Nat.mul_one]; exact h.slC) (bts_plain _)) rfl (by show (0 + len) * 1 ≤ _; omega) (by omega) ?_
  intro a2 cap2 ch2 hO
  rw [Nat.zero_add] at hO ⊢
  exact Done.mk ⟨a2, cap2, ch2, rfl, hO, rfl, rfl⟩
/-- a copy of bytes, fixed -/
theorem copy_fix (I : Imm) (a : Option Addr) (len cap : Nat) (l : Dat) (h : Rds I a len (bts l)) (hlen : len ≤ 1000000000) :
    Tri Try.prog 33 #[.slice a len cap] I [] fun v J _ => ∃ a' cap', v = .slice a' len cap' ∧ Rds J a' len (bts l) := by
  refine Tri.fixed (copy_own I a len cap l h hlen) ?_
  rintro v J S' hJ ⟨a', cap', ch, rfl, hO, rfl, rfl⟩
  refine ⟨0, ch, rfl, fun J' hJ' hm => ⟨a', cap', rfl, ?_⟩⟩
  exact Rds.of_own hO hm
def gv (g : Gate) : Int := if g.on then g.left else -1
@[reducible] def rV (s w : Hd) (count : Int) (down : Bool) (arm fault : Int) : Value := .agg #[s.v, w.v, .int .i64 count, .bool down, .int .i64 arm, .int .i64 fault]
def dec (x : Int) : Int := if 0 ≤ x then x - 1 else x
def opE (down : Bool) (arm fault : Int) : Int := if down then 6 else if arm = 0 then 6 else if fault = 0 then 4 else 0
theorem r4_operation (s w : Hd) (count : Int) (down : Bool) (arm fault : Int) (hA : In64 arm) (hF : In64 fault) (I : Imm) :
    Tri Try.prog 152 #[rV s w count down arm fault] I [] fun v J _ => I = J ∧ v = .tuple #[rV s w count (down || decide (arm = 0)) (if down then arm else dec arm) (if down then fault else dec fault), .int .i64 (opE down arm fault)] := by
  obtain ⟨sa, sl, sc⟩ := s
  obtain ⟨wa, wl, wc⟩ := w
  unfold In64 at hA hF
  refine Tri.of (args := [rV ⟨sa, sl, sc⟩ ⟨wa, wl, wc⟩ count down arm fault]) tabOk Try.func152 rfl (by kernel_rfl) (by kernel_rfl) ?_
  conv => whnf
  intro b1
  conv => whnf
  intro b2
  cases down with
  | true =>
    repeat (first
      | refine LoadD.own 0 rfl _ rfl rfl ?_
      | refine LoadD.own 1 rfl _ rfl rfl ?_
      | refine LoadP.at 0 rfl _ rfl rfl ?_
      | refine LoadP.at 1 rfl _ rfl rfl ?_
      | refine StoreD.st 0 rfl rfl rfl ?_
      | refine StoreD.st 1 rfl rfl rfl ?_
      | refine CmpD.yes rfl ?_
      | refine CmpD.yes (by decide) ?_
      | refine CmpD.no (by decide) ?_
      | refine Chk.mk ⟨rfl, trivial⟩ ?_
      | refine Chk.mk ⟨rfl, rfl, trivial⟩ ?_
      | refine Chk.mk ⟨rfl, rfl, rfl, trivial⟩ ?_
      | refine Chk.mk ⟨rfl, rfl, rfl, rfl, trivial⟩ ?_
      | refine Chk.mk ⟨rfl, rfl, rfl, rfl, rfl, trivial⟩ ?_
      | refine Chk.mk ⟨rfl, rfl, rfl, rfl, rfl, rfl, trivial⟩ ?_)
    exact Done.mk ⟨rfl, rfl⟩
  | false =>
    refine LoadD.own 0 rfl _ rfl rfl ?_
    refine CodeF.sched [[], [0], [0, 1], [], [3], [3, 4], [0, 1, 2], [0, 1, 2, 3, 4, 5, 6]] [0, 1, 2, 3, 4, 5, 6, 7] (by kernel_rfl) ?_
    rcases Int.lt_trichotomy arm 0 with ha | rfl | ha <;> rcases Int.lt_trichotomy fault 0 with hf | rfl | hf
    · repeat (first
        | refine LoadD.own 0 rfl _ rfl rfl ?_
        | refine LoadD.own 1 rfl _ rfl rfl ?_
        | refine LoadP.at 0 rfl _ rfl rfl ?_
        | refine LoadP.at 1 rfl _ rfl rfl ?_
        | refine StoreD.st 0 rfl rfl rfl ?_
        | refine StoreD.st 1 rfl rfl rfl ?_
        | refine CmpD.yes rfl ?_
        | refine CmpD.yes (by decide) ?_
        | refine CmpD.no (by decide) ?_
        | refine Chk.mk ⟨rfl, trivial⟩ ?_
        | refine Chk.mk ⟨rfl, rfl, trivial⟩ ?_
        | refine Chk.mk ⟨rfl, rfl, rfl, trivial⟩ ?_
        | refine Chk.mk ⟨rfl, rfl, rfl, rfl, trivial⟩ ?_
        | refine Chk.mk ⟨rfl, rfl, rfl, rfl, rfl, trivial⟩ ?_
        | refine Chk.mk ⟨rfl, rfl, rfl, rfl, rfl, rfl, trivial⟩ ?_
        | refine ToD.i64 (by omega) (by omega) ?_
        | refine Chk.mk (by omega) ?_
        | refine CmpD.yes (by omega) ?_
        | refine CmpD.no (by omega) ?_)
      have eA : dec arm = arm := by unfold dec; rw [if_neg (by omega)]
      have eF : dec fault = fault := by unfold dec; rw [if_neg (by omega)]
      have eD : decide (arm = (0 : Int)) = false := decide_eq_false (by omega)
      have eE : opE false arm fault = 0 := by unfold opE; rw [if_neg (by simp), if_neg (by omega), if_neg (by omega)]
      refine Done.mk ⟨rfl, Eq.trans (b := .tuple #[rV ⟨sa, sl, sc⟩ ⟨wa, wl, wc⟩ count false arm fault, .int .i64 0]) rfl ?_⟩
      rw [eE, eA, eF, eD]; rfl
    · repeat (first
        | refine LoadD.own 0 rfl _ rfl rfl ?_
        | refine LoadD.own 1 rfl _ rfl rfl ?_
        | refine LoadP.at 0 rfl _ rfl rfl ?_
        | refine LoadP.at 1 rfl _ rfl rfl ?_
        | refine StoreD.st 0 rfl rfl rfl ?_
        | refine StoreD.st 1 rfl rfl rfl ?_
        | refine CmpD.yes rfl ?_
        | refine CmpD.yes (by decide) ?_
        | refine CmpD.no (by decide) ?_
        | refine Chk.mk ⟨rfl, trivial⟩ ?_
        | refine Chk.mk ⟨rfl, rfl, trivial⟩ ?_
        | refine Chk.mk ⟨rfl, rfl, rfl, trivial⟩ ?_
        | refine Chk.mk ⟨rfl, rfl, rfl, rfl, trivial⟩ ?_
        | refine Chk.mk ⟨rfl, rfl, rfl, rfl, rfl, trivial⟩ ?_
        | refine Chk.mk ⟨rfl, rfl, rfl, rfl, rfl, rfl, trivial⟩ ?_
        | refine ToD.i64 (by omega) (by omega) ?_
        | refine Chk.mk (by omega) ?_
        | refine CmpD.yes (by omega) ?_
        | refine CmpD.no (by omega) ?_)
      have eA : dec arm = arm := by unfold dec; rw [if_neg (by omega)]
      have eF : dec 0 = (0 - 1) := by rfl
      have eD : decide (arm = (0 : Int)) = false := decide_eq_false (by omega)
      have eE : opE false arm 0 = 4 := by unfold opE; rw [if_neg (by simp), if_neg (by omega), if_pos rfl]
      refine Done.mk ⟨rfl, Eq.trans (b := .tuple #[rV ⟨sa, sl, sc⟩ ⟨wa, wl, wc⟩ count false arm (0 - 1), .int .i64 4]) rfl ?_⟩
      rw [eE, eA, eF, eD]; rfl
    · repeat (first
        | refine LoadD.own 0 rfl _ rfl rfl ?_
        | refine LoadD.own 1 rfl _ rfl rfl ?_
        | refine LoadP.at 0 rfl _ rfl rfl ?_
        | refine LoadP.at 1 rfl _ rfl rfl ?_
        | refine StoreD.st 0 rfl rfl rfl ?_
        | refine StoreD.st 1 rfl rfl rfl ?_
        | refine CmpD.yes rfl ?_
        | refine CmpD.yes (by decide) ?_
        | refine CmpD.no (by decide) ?_
        | refine Chk.mk ⟨rfl, trivial⟩ ?_
        | refine Chk.mk ⟨rfl, rfl, trivial⟩ ?_
        | refine Chk.mk ⟨rfl, rfl, rfl, trivial⟩ ?_
        | refine Chk.mk ⟨rfl, rfl, rfl, rfl, trivial⟩ ?_
        | refine Chk.mk ⟨rfl, rfl, rfl, rfl, rfl, trivial⟩ ?_
        | refine Chk.mk ⟨rfl, rfl, rfl, rfl, rfl, rfl, trivial⟩ ?_
        | refine ToD.i64 (by omega) (by omega) ?_
        | refine Chk.mk (by omega) ?_
        | refine CmpD.yes (by omega) ?_
        | refine CmpD.no (by omega) ?_)
      have eA : dec arm = arm := by unfold dec; rw [if_neg (by omega)]
      have eF : dec fault = (fault - 1) := by unfold dec; rw [if_pos (by omega)]
      have eD : decide (arm = (0 : Int)) = false := decide_eq_false (by omega)
      have eE : opE false arm fault = 0 := by unfold opE; rw [if_neg (by simp), if_neg (by omega), if_neg (by omega)]
      refine Done.mk ⟨rfl, Eq.trans (b := .tuple #[rV ⟨sa, sl, sc⟩ ⟨wa, wl, wc⟩ count false arm (fault - 1), .int .i64 0]) rfl ?_⟩
      rw [eE, eA, eF, eD]; rfl
    · repeat (first
        | refine LoadD.own 0 rfl _ rfl rfl ?_
        | refine LoadD.own 1 rfl _ rfl rfl ?_
        | refine LoadP.at 0 rfl _ rfl rfl ?_
        | refine LoadP.at 1 rfl _ rfl rfl ?_
        | refine StoreD.st 0 rfl rfl rfl ?_
        | refine StoreD.st 1 rfl rfl rfl ?_
        | refine CmpD.yes rfl ?_
        | refine CmpD.yes (by decide) ?_
        | refine CmpD.no (by decide) ?_
        | refine Chk.mk ⟨rfl, trivial⟩ ?_
        | refine Chk.mk ⟨rfl, rfl, trivial⟩ ?_
        | refine Chk.mk ⟨rfl, rfl, rfl, trivial⟩ ?_
        | refine Chk.mk ⟨rfl, rfl, rfl, rfl, trivial⟩ ?_
        | refine Chk.mk ⟨rfl, rfl, rfl, rfl, rfl, trivial⟩ ?_
        | refine Chk.mk ⟨rfl, rfl, rfl, rfl, rfl, rfl, trivial⟩ ?_
        | refine ToD.i64 (by omega) (by omega) ?_
        | refine Chk.mk (by omega) ?_
        | refine CmpD.yes (by omega) ?_
        | refine CmpD.no (by omega) ?_)
      have eA : dec 0 = (0 - 1) := by rfl
      have eF : dec fault = fault := by unfold dec; rw [if_neg (by omega)]
      have eD : decide (0 = (0 : Int)) = true := rfl
      have eE : opE false 0 fault = 6 := by unfold opE; rw [if_neg (by simp), if_pos rfl]
      refine Done.mk ⟨rfl, Eq.trans (b := .tuple #[rV ⟨sa, sl, sc⟩ ⟨wa, wl, wc⟩ count true (0 - 1) fault, .int .i64 6]) rfl ?_⟩
      rw [eE, eA, eF, eD]; rfl
    · repeat (first
        | refine LoadD.own 0 rfl _ rfl rfl ?_
        | refine LoadD.own 1 rfl _ rfl rfl ?_
        | refine LoadP.at 0 rfl _ rfl rfl ?_
        | refine LoadP.at 1 rfl _ rfl rfl ?_
        | refine StoreD.st 0 rfl rfl rfl ?_
        | refine StoreD.st 1 rfl rfl rfl ?_
        | refine CmpD.yes rfl ?_
        | refine CmpD.yes (by decide) ?_
        | refine CmpD.no (by decide) ?_
        | refine Chk.mk ⟨rfl, trivial⟩ ?_
        | refine Chk.mk ⟨rfl, rfl, trivial⟩ ?_
        | refine Chk.mk ⟨rfl, rfl, rfl, trivial⟩ ?_
        | refine Chk.mk ⟨rfl, rfl, rfl, rfl, trivial⟩ ?_
        | refine Chk.mk ⟨rfl, rfl, rfl, rfl, rfl, trivial⟩ ?_
        | refine Chk.mk ⟨rfl, rfl, rfl, rfl, rfl, rfl, trivial⟩ ?_
        | refine ToD.i64 (by omega) (by omega) ?_
        | refine Chk.mk (by omega) ?_
        | refine CmpD.yes (by omega) ?_
        | refine CmpD.no (by omega) ?_)
      have eA : dec 0 = (0 - 1) := by rfl
      have eD : decide (0 = (0 : Int)) = true := rfl
      have eE : opE false 0 0 = 6 := by unfold opE; rw [if_neg (by simp), if_pos rfl]
      refine Done.mk ⟨rfl, Eq.trans (b := .tuple #[rV ⟨sa, sl, sc⟩ ⟨wa, wl, wc⟩ count true (0 - 1) (0 - 1), .int .i64 6]) rfl ?_⟩
      rw [eE, eA, eD]; rfl
    · repeat (first
        | refine LoadD.own 0 rfl _ rfl rfl ?_
        | refine LoadD.own 1 rfl _ rfl rfl ?_
        | refine LoadP.at 0 rfl _ rfl rfl ?_
        | refine LoadP.at 1 rfl _ rfl rfl ?_
        | refine StoreD.st 0 rfl rfl rfl ?_
        | refine StoreD.st 1 rfl rfl rfl ?_
        | refine CmpD.yes rfl ?_
        | refine CmpD.yes (by decide) ?_
        | refine CmpD.no (by decide) ?_
        | refine Chk.mk ⟨rfl, trivial⟩ ?_
        | refine Chk.mk ⟨rfl, rfl, trivial⟩ ?_
        | refine Chk.mk ⟨rfl, rfl, rfl, trivial⟩ ?_
        | refine Chk.mk ⟨rfl, rfl, rfl, rfl, trivial⟩ ?_
        | refine Chk.mk ⟨rfl, rfl, rfl, rfl, rfl, trivial⟩ ?_
        | refine Chk.mk ⟨rfl, rfl, rfl, rfl, rfl, rfl, trivial⟩ ?_
        | refine ToD.i64 (by omega) (by omega) ?_
        | refine Chk.mk (by omega) ?_
        | refine CmpD.yes (by omega) ?_
        | refine CmpD.no (by omega) ?_)
      have eA : dec 0 = (0 - 1) := by rfl
      have eF : dec fault = (fault - 1) := by unfold dec; rw [if_pos (by omega)]
      have eD : decide (0 = (0 : Int)) = true := rfl
      have eE : opE false 0 fault = 6 := by unfold opE; rw [if_neg (by simp), if_pos rfl]
      refine Done.mk ⟨rfl, Eq.trans (b := .tuple #[rV ⟨sa, sl, sc⟩ ⟨wa, wl, wc⟩ count true (0 - 1) (fault - 1), .int .i64 6]) rfl ?_⟩
      rw [eE, eA, eF, eD]; rfl
    · repeat (first
        | refine LoadD.own 0 rfl _ rfl rfl ?_
        | refine LoadD.own 1 rfl _ rfl rfl ?_
        | refine LoadP.at 0 rfl _ rfl rfl ?_
        | refine LoadP.at 1 rfl _ rfl rfl ?_
        | refine StoreD.st 0 rfl rfl rfl ?_
        | refine StoreD.st 1 rfl rfl rfl ?_
        | refine CmpD.yes rfl ?_
        | refine CmpD.yes (by decide) ?_
        | refine CmpD.no (by decide) ?_
        | refine Chk.mk ⟨rfl, trivial⟩ ?_
        | refine Chk.mk ⟨rfl, rfl, trivial⟩ ?_
        | refine Chk.mk ⟨rfl, rfl, rfl, trivial⟩ ?_
        | refine Chk.mk ⟨rfl, rfl, rfl, rfl, trivial⟩ ?_
        | refine Chk.mk ⟨rfl, rfl, rfl, rfl, rfl, trivial⟩ ?_
        | refine Chk.mk ⟨rfl, rfl, rfl, rfl, rfl, rfl, trivial⟩ ?_
        | refine ToD.i64 (by omega) (by omega) ?_
        | refine Chk.mk (by omega) ?_
        | refine CmpD.yes (by omega) ?_
        | refine CmpD.no (by omega) ?_)
      have eA : dec arm = (arm - 1) := by unfold dec; rw [if_pos (by omega)]
      have eF : dec fault = fault := by unfold dec; rw [if_neg (by omega)]
      have eD : decide (arm = (0 : Int)) = false := decide_eq_false (by omega)
      have eE : opE false arm fault = 0 := by unfold opE; rw [if_neg (by simp), if_neg (by omega), if_neg (by omega)]
      refine Done.mk ⟨rfl, Eq.trans (b := .tuple #[rV ⟨sa, sl, sc⟩ ⟨wa, wl, wc⟩ count false (arm - 1) fault, .int .i64 0]) rfl ?_⟩
      rw [eE, eA, eF, eD]; rfl
    · repeat (first
        | refine LoadD.own 0 rfl _ rfl rfl ?_
        | refine LoadD.own 1 rfl _ rfl rfl ?_
        | refine LoadP.at 0 rfl _ rfl rfl ?_
        | refine LoadP.at 1 rfl _ rfl rfl ?_
        | refine StoreD.st 0 rfl rfl rfl ?_
        | refine StoreD.st 1 rfl rfl rfl ?_
        | refine CmpD.yes rfl ?_
        | refine CmpD.yes (by decide) ?_
        | refine CmpD.no (by decide) ?_
        | refine Chk.mk ⟨rfl, trivial⟩ ?_
        | refine Chk.mk ⟨rfl, rfl, trivial⟩ ?_
        | refine Chk.mk ⟨rfl, rfl, rfl, trivial⟩ ?_
        | refine Chk.mk ⟨rfl, rfl, rfl, rfl, trivial⟩ ?_
        | refine Chk.mk ⟨rfl, rfl, rfl, rfl, rfl, trivial⟩ ?_
        | refine Chk.mk ⟨rfl, rfl, rfl, rfl, rfl, rfl, trivial⟩ ?_
        | refine ToD.i64 (by omega) (by omega) ?_
        | refine Chk.mk (by omega) ?_
        | refine CmpD.yes (by omega) ?_
        | refine CmpD.no (by omega) ?_)
      have eA : dec arm = (arm - 1) := by unfold dec; rw [if_pos (by omega)]
      have eF : dec 0 = (0 - 1) := by rfl
      have eD : decide (arm = (0 : Int)) = false := decide_eq_false (by omega)
      have eE : opE false arm 0 = 4 := by unfold opE; rw [if_neg (by simp), if_neg (by omega), if_pos rfl]
      refine Done.mk ⟨rfl, Eq.trans (b := .tuple #[rV ⟨sa, sl, sc⟩ ⟨wa, wl, wc⟩ count false (arm - 1) (0 - 1), .int .i64 4]) rfl ?_⟩
      rw [eE, eA, eF, eD]; rfl
    · repeat (first
        | refine LoadD.own 0 rfl _ rfl rfl ?_
        | refine LoadD.own 1 rfl _ rfl rfl ?_
        | refine LoadP.at 0 rfl _ rfl rfl ?_
        | refine LoadP.at 1 rfl _ rfl rfl ?_
        | refine StoreD.st 0 rfl rfl rfl ?_
        | refine StoreD.st 1 rfl rfl rfl ?_
        | refine CmpD.yes rfl ?_
        | refine CmpD.yes (by decide) ?_
        | refine CmpD.no (by decide) ?_
        | refine Chk.mk ⟨rfl, trivial⟩ ?_
        | refine Chk.mk ⟨rfl, rfl, trivial⟩ ?_
        | refine Chk.mk ⟨rfl, rfl, rfl, trivial⟩ ?_
        | refine Chk.mk ⟨rfl, rfl, rfl, rfl, trivial⟩ ?_
        | refine Chk.mk ⟨rfl, rfl, rfl, rfl, rfl, trivial⟩ ?_
        | refine Chk.mk ⟨rfl, rfl, rfl, rfl, rfl, rfl, trivial⟩ ?_
        | refine ToD.i64 (by omega) (by omega) ?_
        | refine Chk.mk (by omega) ?_
        | refine CmpD.yes (by omega) ?_
        | refine CmpD.no (by omega) ?_)
      have eA : dec arm = (arm - 1) := by unfold dec; rw [if_pos (by omega)]
      have eF : dec fault = (fault - 1) := by unfold dec; rw [if_pos (by omega)]
      have eD : decide (arm = (0 : Int)) = false := decide_eq_false (by omega)
      have eE : opE false arm fault = 0 := by unfold opE; rw [if_neg (by simp), if_neg (by omega), if_neg (by omega)]
      refine Done.mk ⟨rfl, Eq.trans (b := .tuple #[rV ⟨sa, sl, sc⟩ ⟨wa, wl, wc⟩ count false (arm - 1) (fault - 1), .int .i64 0]) rfl ?_⟩
      rw [eE, eA, eF, eD]; rfl
end Go.Proofs.Ytbpdbgcndfcilaa
namespace Go.Proofs.Ytbpdbgcndfcilaa
open Go.RowKit Go.Sl
set_option maxRecDepth 20000

def atP (b : Dat) (l : List PImg) (n : Int) : Dat := l.foldl (fun x g => if g.1 = n then g.2 else x) b
theorem atP_snoc (b : Dat) (l : List PImg) (g : PImg) (n : Int) : atP b (l ++ [g]) n = if g.1 = n then g.2 else atP b l n := by simp [atP]
theorem pair_fst {c : List Value} {o : Nat} {x y : Value} (h : (c.drop o).take 2 = [x, y]) : (c.drop o).take 1 = [x] := by
  have := congrArg (List.take 1) h
  simpa [List.take_take] using this
theorem pair_snd {c : List Value} {o : Nat} {x y : Value} (h : (c.drop o).take 2 = [x, y]) : (c.drop (o + 1)).take 1 = [y] := take_part h (i := 1) (m := 1) (by omega)
theorem r4_At (s w : Hd) (count : Int) (down : Bool) (arm fault : Int) (bS : List Bk) (gs : List Img) (I : Imm) (hS : Rds I s.a s.len (bS.map Bk.cell)) (hsl : s.len ≤ 1000000) (hW : ImgsOk I w.a gs) (hwl : w.len = gs.length) (hwm : gs.length ≤ 1000000) (i : Nat) {bk : Bk} (hi : bS[i]? = some bk) (hok : BkOk I bk) :
    Tri Try.prog 101 #[rV s w count down arm fault, .int .i64 i] I [] fun v J _ => I = J ∧ ∃ a len cap, v = .slice a len cap ∧ Rds I a len (bts (atP bk.data (gs.map Img.pr) i)) := by
  obtain ⟨sa, sl, sc⟩ := s
  obtain ⟨wa, wl, wc⟩ := w
  dsimp only at hS hsl hW hwl
  subst hwl
  have hcell : (bS.map Bk.cell)[i]? = some bk.cell := by rw [List.getElem?_map, hi]; rfl
  have hil : i < sl := by
    have h1 := hS.len
    have h2 := (List.getElem?_eq_some_iff.1 hi).1
    rw [List.length_map] at h1; omega
  refine Tri.of (args := [rV ⟨sa, sl, sc⟩ ⟨wa, gs.length, wc⟩ count down arm fault, .int .i64 i]) tabOk Try.func101 rfl (by kernel_rfl) (by kernel_rfl) ?_
  conv => whnf
  intro b1
  refine LoadD.own 0 rfl _ rfl rfl ?_
  rcases hS.mem with q0 | ⟨bB, oB, cB, TB, fB, rfl, hIB, hcB⟩
  · omega
  refine Chk.mk (by dsimp only; omega) ?_
  refine LoadD.imm hIB [bk.cell] (take_get hcB hcell) rfl ?_
  refine CodeF.loopD [1, 2, 5, 6] (fun vs J' S' => ∃ (j : Nat) (a : Option Addr) (len cap : Nat), j ≤ gs.length ∧ Rds I a len (bts (atP bk.data ((gs.take j).map Img.pr) i)) ∧ vs = [.int .i64 i, .pointer (some ⟨b1, 0, none⟩), .slice a len cap, .int .i64 j] ∧ I = J' ∧ S' = [[(b1, row [.slice (some ⟨bB, oB, none⟩) sl sc, .slice wa gs.length wc, .int .i64 count, .bool down, .int .i64 arm, .int .i64 fault] 79)]])
    (fun vs _ _ => match vs with | [_, _, _, .int _ j] => ((gs.length : Int) - j).toNat | _ => 0) ?_ ?_
  · exact ⟨_, Drop.pick [0] _ rfl, 0, bk.a, 4096, bk.cap, by omega, hok, rfl, rfl, rfl⟩
  rintro vs gE J' S' hJ' ⟨j, a, len, cap, hjl, hR, rfl, rfl, rfl⟩
  refine LoadD.own 0 rfl _ rfl rfl ?_
  refine CmpD.split (fun c1 => ?_) (fun c1 => ?_)
  · have hlt : j < gs.length := by omega
    rcases hW.1.mem with q0 | ⟨bA, oA, cA, TA, fA, rfl, hIA, hcA⟩
    · omega
    have hpair := take_part hcA (i := j * 2) (m := 2) (by omega)
    rw [imgCells_at hlt] at hpair
    have htk : gs.take (j + 1) = gs.take j ++ [gs[j]] := by rw [List.take_add_one, List.getElem?_eq_getElem hlt]; rfl
    have hmem : gs[j] ∈ gs := List.getElem_mem hlt
    have hgd := (hW.2 gs[j] hmem).2
    generalize gs[j] = g at *
    refine LoadD.own 0 rfl _ rfl rfl ?_
    refine Chk.mk (by omega) ?_
    refine LoadD.imm hIA [.int .i64 g.blk] (pair_fst hpair) rfl ?_
    refine CmpD.split (fun c2 => ?_) (fun c2 => ?_)
    · refine LoadD.own 0 rfl _ rfl rfl ?_
      refine Chk.mk (by omega) ?_
      refine LoadD.imm hIA [.slice g.a g.len g.cap] (pair_snd hpair) rfl ?_
      refine ToD.i64 (by omega) (by omega) ?_
      refine ⟨_, Drop.pick [0] _ rfl, ⟨j + 1, g.a, g.len, g.cap, by omega, ?_, rfl, rfl, rfl⟩, ?_⟩
      · rw [htk, List.map_append, List.map_singleton, atP_snoc, if_pos c2]; exact hgd
      · show ((gs.length : Int) - ((j : Int) + 1)).toNat < ((gs.length : Int) - j).toNat; omega
    · refine ToD.i64 (by omega) (by omega) ?_
      refine ⟨_, Drop.pick [0] _ rfl, ⟨j + 1, a, len, cap, by omega, ?_, rfl, rfl, rfl⟩, ?_⟩
      · rw [htk, List.map_append, List.map_singleton, atP_snoc, if_neg c2]; exact hR
      · show ((gs.length : Int) - ((j : Int) + 1)).toNat < ((gs.length : Int) - j).toNat; omega
  · obtain rfl : j = gs.length := by omega
    rw [List.take_length] at hR
    exact Done.mk ⟨rfl, a, len, cap, rfl, hR⟩
end Go.Proofs.Ytbpdbgcndfcilaa
namespace Go.Proofs.Ytbpdbgcndfcilaa
open Go.RowKit Go.Sl

theorem jr_may1 (b : Nat) (j : JRec) (g : FuncId) (p0 : Nat) (I : Imm) (S : St) (k : Nat) (hk : S[k]? = some (jChunk b j)) {Q : Value → Imm → St → Prop} (hg : j.broken = false → Tri Try.prog g #[.pointer (some ⟨p0, 0, none⟩)] I S Q) :
    Tri Try.prog 72 #[.pointer (some ⟨b, 0, none⟩), .func (.func g) #[] #[.pointer (some ⟨p0, 0, none⟩)]] I S fun v J S' => (j.broken = true ∧ v = .int .i64 4 ∧ I = J ∧ S' = S) ∨ (j.broken = false ∧ Q v J S') := by
  obtain ⟨disk, ⟨l1, l2, l3, l4, l5, l6, l7⟩, rs, rt, ru, rh, ep, nx, sy, ⟨ga, gl, gc⟩, br⟩ := j
  refine Tri.of (args := [.pointer (some ⟨b, 0, none⟩), .func (.func g) #[] #[.pointer (some ⟨p0, 0, none⟩)]]) tabOk Try.func72 rfl (by kernel_rfl) (by kernel_rfl) ?_
  refine LoadD.own k hk [.pointer (some ⟨disk, 0, none⟩)] rfl rfl ?_
  refine LoadD.own k hk [.bool br] rfl rfl ?_
  cases br
  · refine (hg rfl).mono ?_
    intro v J S' hJ hq
    cases v <;> exact Done.mk (.inr ⟨rfl, hq⟩)
  · exact Done.mk (.inl ⟨rfl, rfl, rfl, rfl⟩)

theorem jr_may2 (b : Nat) (j : JRec) (g : FuncId) (p0 p1 : Nat) (I : Imm) (S : St) (k : Nat) (hk : S[k]? = some (jChunk b j)) {Q : Value → Imm → St → Prop} (hg : j.broken = false → Tri Try.prog g #[.pointer (some ⟨p0, 0, none⟩), .pointer (some ⟨p1, 0, none⟩)] I S Q) :
    Tri Try.prog 72 #[.pointer (some ⟨b, 0, none⟩), .func (.func g) #[] #[.pointer (some ⟨p0, 0, none⟩), .pointer (some ⟨p1, 0, none⟩)]] I S fun v J S' => (j.broken = true ∧ v = .int .i64 4 ∧ I = J ∧ S' = S) ∨ (j.broken = false ∧ Q v J S') := by
  obtain ⟨disk, ⟨l1, l2, l3, l4, l5, l6, l7⟩, rs, rt, ru, rh, ep, nx, sy, ⟨ga, gl, gc⟩, br⟩ := j
  refine Tri.of (args := [.pointer (some ⟨b, 0, none⟩), .func (.func g) #[] #[.pointer (some ⟨p0, 0, none⟩), .pointer (some ⟨p1, 0, none⟩)]]) tabOk Try.func72 rfl (by kernel_rfl) (by kernel_rfl) ?_
  refine LoadD.own k hk [.pointer (some ⟨disk, 0, none⟩)] rfl rfl ?_
  refine LoadD.own k hk [.bool br] rfl rfl ?_
  cases br
  · refine (hg rfl).mono ?_
    intro v J S' hJ hq
    cases v <;> exact Done.mk (.inr ⟨rfl, hq⟩)
  · exact Done.mk (.inl ⟨rfl, rfl, rfl, rfl⟩)

theorem jr_may4 (b : Nat) (j : JRec) (g : FuncId) (p0 p1 p2 p3 : Nat) (I : Imm) (S : St) (k : Nat) (hk : S[k]? = some (jChunk b j)) {Q : Value → Imm → St → Prop} (hg : j.broken = false → Tri Try.prog g #[.pointer (some ⟨p0, 0, none⟩), .pointer (some ⟨p1, 0, none⟩), .pointer (some ⟨p2, 0, none⟩), .pointer (some ⟨p3, 0, none⟩)] I S Q) :
    Tri Try.prog 72 #[.pointer (some ⟨b, 0, none⟩), .func (.func g) #[] #[.pointer (some ⟨p0, 0, none⟩), .pointer (some ⟨p1, 0, none⟩), .pointer (some ⟨p2, 0, none⟩), .pointer (some ⟨p3, 0, none⟩)]] I S fun v J S' => (j.broken = true ∧ v = .int .i64 4 ∧ I = J ∧ S' = S) ∨ (j.broken = false ∧ Q v J S') := by
  obtain ⟨disk, ⟨l1, l2, l3, l4, l5, l6, l7⟩, rs, rt, ru, rh, ep, nx, sy, ⟨ga, gl, gc⟩, br⟩ := j
  refine Tri.of (args := [.pointer (some ⟨b, 0, none⟩), .func (.func g) #[] #[.pointer (some ⟨p0, 0, none⟩), .pointer (some ⟨p1, 0, none⟩), .pointer (some ⟨p2, 0, none⟩), .pointer (some ⟨p3, 0, none⟩)]]) tabOk Try.func72 rfl (by kernel_rfl) (by kernel_rfl) ?_
  refine LoadD.own k hk [.pointer (some ⟨disk, 0, none⟩)] rfl rfl ?_
  refine LoadD.own k hk [.bool br] rfl rfl ?_
  cases br
  · refine (hg rfl).mono ?_
    intro v J S' hJ hq
    cases v <;> exact Done.mk (.inr ⟨rfl, hq⟩)
  · exact Done.mk (.inl ⟨rfl, rfl, rfl, rfl⟩)

end Go.Proofs.Ytbpdbgcndfcilaa
namespace Go.Proofs.Ytbpdbgcndfcilaa
open Go.RowKit Go.Sl
set_option maxRecDepth 20000

/-- groups, as they lie -/
def gCells (gs : List (Int × Int)) : List Value := gs.flatMap fun g => [.int .i64 g.1, .int .i64 g.2]
theorem gCells_length (gs : List (Int × Int)) : (gCells gs).length = gs.length * 2 := by
  unfold gCells
  induction gs with
  | nil => rfl
  | cons g l ih => rw [List.flatMap_cons, List.length_append, ih]; simp; omega
theorem gCells_snoc (gs : List (Int × Int)) (g : Int × Int) : gCells (gs ++ [g]) = gCells gs ++ [.int .i64 g.1, .int .i64 g.2] := by simp [gCells]
theorem jr_none (bJ : Nat) (j : JRec) (I : Imm) : Tri Try.prog 78 #[.pointer (some ⟨bJ, 0, none⟩)] I [jChunk bJ j] fun v J S' => v = .bool false ∧ I = J ∧ S' = [jChunk bJ j] := by
  refine Tri.of (args := [.pointer (some ⟨bJ, 0, none⟩)]) tabOk Try.func78 rfl (by kernel_rfl) (by kernel_rfl) ?_
  refine LoadD.own 0 rfl [.pointer (some ⟨j.disk, 0, none⟩)] rfl rfl ?_
  exact Done.mk ⟨rfl, rfl, rfl⟩
theorem jr_Tail (bJ : Nat) (j : JRec) (chG : List Blk) (gs : List (Int × Int)) (hG : OwnC chG 2 j.groups.a j.groups.len j.groups.cap (gCells gs)) (I : Imm) :
    Tri Try.prog 15 #[.pointer (some ⟨bJ, 0, none⟩)] I [jChunk bJ j, chG] fun v J S' => v = .tuple #[.int .i64 j.t, .int .i64 (match gs with | [] => j.next | g :: _ => g.1)] ∧ I = J ∧ S' = [jChunk bJ j, chG] := by
  have hn := jr_none bJ j I
  obtain ⟨disk, ⟨l1, l2, l3, l4, l5, l6, l7⟩, rs, rt, ru, rh, ep, nx, sy, ⟨ga, gl, gc⟩, br⟩ := j
  dsimp only at hG
  have hgl : gs.length = gl := by have := hG.n; rw [gCells_length] at this; omega
  refine Tri.of (args := [.pointer (some ⟨bJ, 0, none⟩)]) tabOk Try.func15 rfl (by kernel_rfl) (by kernel_rfl) ?_
  refine Tri.frame1 0 rfl hn ?_
  rintro v J S' hJ ⟨rfl, rfl, rfl⟩
  refine ⟨_, rfl, ?_⟩
  refine LoadD.own 0 rfl [.slice ga gl gc] rfl rfl ?_
  refine CmpD.split (fun c => ?_) (fun c => ?_)
  · refine CodeF.sched [[], [0], [0, 1], [0, 1, 2], [0, 1, 2, 3], [], [5], [5, 6], [5, 6, 7], [0, 1, 2, 3, 4], [0, 1, 2, 3, 4, 5, 6, 7, 8, 9]] [0, 1, 2, 3, 4, 5, 6, 7, 8, 9, 10] (by kernel_rfl) ?_
    refine LoadP.at 0 rfl [.int .i64 rt] rfl rfl ?_
    refine LoadP.at 0 rfl [.int .i64 nx] rfl rfl ?_
    refine Done.mk ⟨?_, rfl, rfl⟩
    have : gs = [] := List.length_eq_zero_iff.1 (by omega)
    subst this; rfl
  · match gs, hgl, hG with
    | [], hgl, _ => simp at hgl; omega
    | g :: gs, hgl, hG =>
      rcases hG.at' with q0 | ⟨bG, pre, post, TG, rfl, rfl, hpost⟩
      · have := hG.le; simp at hgl; omega
      refine CodeF.sched [[], [0], [0, 1], [0, 1, 2], [0, 1, 2, 3], [], [5], [5, 6], [5, 6, 7], [5, 6, 7, 8], [5, 6, 7, 8, 9], [5, 6, 7, 8, 9, 10], [0, 1, 2, 3, 4], [0, 1, 2, 3, 4, 5, 6, 7, 8, 9, 10, 11, 12]] [0, 1, 2, 3, 4, 5, 6, 7, 8, 9, 10, 11, 12, 13] (by kernel_rfl) ?_
      refine LoadP.at 0 rfl [.int .i64 rt] rfl rfl ?_
      refine LoadP.at 0 rfl [.slice (some ⟨bG, pre.length, none⟩) gl gc] rfl rfl ?_
      refine Chk.mk (by omega) ?_
      have ht : ((pre ++ gCells (g :: gs) ++ post).drop pre.length).take 1 = [.int .i64 g.1] := by
        rw [List.append_assoc, List.drop_left]
        simp [gCells]
      refine LoadP.at 1 rfl [.int .i64 g.1] ht rfl ?_
      exact Done.mk ⟨rfl, rfl, rfl⟩
theorem gCells_at {ws : List (Int × Int)} {i : Nat} (h : i < ws.length) : ((gCells ws).drop (i * 2)).take 2 = [.int .i64 ws[i].1, .int .i64 ws[i].2] := by
  induction ws generalizing i with
  | nil => simp at h
  | cons g ws ih =>
    cases i with
    | zero => rfl
    | succ i =>
      have := ih (i := i) (by simpa using h)
      have e : gCells (g :: ws) = [.int .i64 g.1, .int .i64 g.2] ++ gCells ws := by simp [gCells]
      rw [e, show (i + 1) * 2 = [Value.int .i64 g.1, .int .i64 g.2].length + i * 2 by simp; omega, ← List.drop_drop, List.drop_left]
      simpa using this
set_option maxHeartbeats 2000000 in
theorem jr_Groups (bJ : Nat) (j : JRec) (chG : List Blk) (gs : List (Int × Int)) (hgl2 : j.groups.len ≤ 1000000) (hG : OwnC chG 2 j.groups.a j.groups.len j.groups.cap (gCells gs)) (I : Imm) :
    Tri Try.prog 22 #[.pointer (some ⟨bJ, 0, none⟩)] I [jChunk bJ j, chG] fun v J S' => ∃ a cap ch, v = .slice a j.groups.len cap ∧ OwnC ch 1 a j.groups.len cap (ints (gs.map Prod.fst)) ∧ I = J ∧ S' = [jChunk bJ j, chG, ch] := by
  have hn := jr_none bJ j I
  obtain ⟨disk, ⟨l1, l2, l3, l4, l5, l6, l7⟩, rs, rt, ru, rh, ep, nx, sy, ⟨ga, gl, gc⟩, br⟩ := j
  dsimp only at hG hgl2 ⊢
  have hgl : gs.length = gl := by have := hG.n; rw [gCells_length] at this; omega
  refine Tri.of (args := [.pointer (some ⟨bJ, 0, none⟩)]) tabOk Try.func22 rfl (by kernel_rfl) (by kernel_rfl) ?_
  refine Tri.frame1 0 rfl hn ?_
  rintro v J S' hJ ⟨rfl, rfl, rfl⟩
  refine ⟨_, rfl, ?_⟩
  refine LoadD.own 0 rfl [.slice ga gl gc] rfl rfl ?_
  refine CodeF.loopD [3, 11, 12, 13] (fun vs J S' => ∃ (i : Nat) (a : Option Addr) (cap : Nat) (ch : List Blk), i ≤ gl ∧ OwnC ch 1 a i cap (ints ((gs.take i).map Prod.fst)) ∧ vs = [.slice a i cap, .slice ga gl gc, .int .i64 gl, .int .i64 i] ∧ I = J ∧ S' = [jChunk bJ ⟨disk, ⟨l1, l2, l3, l4, l5, l6, l7⟩, rs, rt, ru, rh, ep, nx, sy, ⟨ga, gl, gc⟩, br⟩, chG, ch])
    (fun vs _ _ => match vs with | [_, _, _, .int _ i] => ((gl : Int) - i).toNat | _ => 0) ?_ ?_
  · exact ⟨_, Drop.and (Drop.refl _), 0, none, 0, [], by omega, OwnC.nil _ _, rfl, rfl, rfl⟩
  rintro vs g J S' hJ ⟨i, a, cap, ch, hi, hown, rfl, rfl, rfl⟩
  refine CmpD.split (fun c1 => ?_) (fun c1 => ?_)
  · rcases hG.at' with q0 | ⟨bW, pre, post, TW, rfl, rfl, hpost⟩
    · have := hG.le; omega
    have hil : i < gs.length := by omega
    have ht := take_part (own_take pre (gCells gs) post) (i := i * 2) (m := 2) (by rw [gCells_length]; omega)
    rw [gCells_at hil] at ht
    have htake : gs.take (i + 1) = gs.take i ++ [gs[i]] := by rw [List.take_add_one, List.getElem?_eq_getElem hil]; rfl
    obtain ⟨⟨wn, wb⟩, hw⟩ : ∃ w, w = gs[i] := ⟨_, rfl⟩
    rw [← hw] at ht htake
    refine Chk.mk (by omega) ?_
    refine LoadD.own 1 rfl _ ht rfl ?_
    conv => whnf
    intro b5
    refine StoreD.st 3 rfl rfl rfl ?_
    refine LoadD.own 3 rfl _ rfl rfl ?_
    conv => whnf
    intro bN
    refine appendD tabOk rfl rfl rfl rfl rfl rfl rfl 2 rfl hown (SrcOk.slice (n := 1) (news := ints [wn]) tabOk rfl ((OwnC.whole (len := 1) (size := 1) rfl).slC 4 rfl) (ints_plain _)) rfl (by show (i + 1) * 8 ≤ _; omega) (by omega) ?_
    intro a2 cap2 ch2 hown2
    refine ToD.i64 (by omega) (by omega) ?_
    refine ⟨_, Drop.pick [0, 1, 2] _ rfl, ⟨i + 1, a2, cap2, ch2, by omega, by rw [htake, List.map_append, ints_append']; exact hown2, rfl, rfl, rfl⟩, ?_⟩
    show ((gl : Int) - ((i : Int) + 1)).toNat < ((gl : Int) - (i : Int)).toNat
    omega
  · obtain rfl : i = gl := by omega
    refine Done.mk ⟨a, cap, ch, rfl, ?_, rfl, rfl⟩
    rw [List.take_of_length_le (by omega)] at hown
    exact hown
end Go.Proofs.Ytbpdbgcndfcilaa
namespace Go.Proofs.Ytbpdbgcndfcilaa
open Go.RowKit Go.Sl
set_option maxRecDepth 20000

structure JSt where
  lay : Lay
  s : Int
  t : Int
  u : Int
  h : Int
  epoch : Int
  next : Int
  synced : Int
  groups : List (Int × Int)
  broken : Bool
/-- numbers in range -/
structure JSt.Wf (j : JSt) : Prop where
  log : j.lay.l = 2
  ring : Ok j.s j.t j.u j.h
  epoch : In64 j.epoch
  next : 1 ≤ j.next ∧ j.next ≤ 549755813889
  synced : 0 ≤ j.synced ∧ j.synced < j.next
  few : j.groups.length ≤ 1000000
  groups : ∀ g ∈ j.groups, In64 g.1 ∧ In64 g.2
@[reducible] def JSt.at (j : JSt) (bD : Nat) (g : Hd) : JRec := ⟨bD, j.lay, j.s, j.t, j.u, j.h, j.epoch, j.next, j.synced, g, j.broken⟩
def Jk (bJ bD : Nat) (j : JSt) (ch : List Blk) : Prop := ∃ (g : Hd) (chG : List Blk), ch = jChunk bJ (j.at bD g) ++ chG ∧ OwnC chG 2 g.a g.len g.cap (gCells j.groups)
/-- writes one by one, until one errs -/
def wrAll (f : Nat → Int) : List Dat → Nat → DSt → DSt × Int
  | [], _, d => (d, 0)
  | b :: bs, i, d => if (d.write (f i) b).2 ≠ 0 then d.write (f i) b else wrAll f bs (i + 1) (d.write (f i) b).1
def JSt.append (j : JSt) (d : DSt) (l : List PImg) (held : Bool) : JSt × DSt × Int × Int :=
  if ¬ RightP j.epoch j.next l then (j, d, 0, 80) else
  if j.s < l.length + 1 then (j, d, 0, 232) else
  match putS j.s j.t j.u j.h (l.length + 1) (if held then l.length + 1 else 0) with
  | ((s, t, u, h, e), at_) => if e ≠ 0 then (j, d, 0, e) else
    match wrAll (fun i => j.lay.l + (at_ + i) % s) (putP j.epoch.toNat j.next.toNat l) 0 d with
    | (d', e') => if e' ≠ 0 then ({ j with s := s, t := t, u := u, h := h, broken := true }, d', 0, e') else
      ({ j with s := s, t := t, u := u, h := h, groups := j.groups ++ [(j.next, (l.length + 1 : Int))], next := j.next + 1 }, d', j.next, 0)
theorem putS_mid {s t u h n k : Int} (hr : Ok s t u h) {s' t' u' h' e a : Int} (hp : putS s t u h n k = ((s', t', u', h', e), a)) (he : e = 0) : s' = s ∧ t' = t ∧ Ok s' t' u' h' ∧ 0 ≤ a ∧ a < s := by
  unfold putS at hp
  subst he
  split at hp
  · simp at hp
  · split at hp
    · simp at hp
    · rename_i h1 h2
      simp only [Prod.mk.injEq] at hp
      obtain ⟨⟨rfl, rfl, rfl, rfl, _⟩, rfl⟩ := hp
      unfold Ok at hr h1 ⊢
      have := Int.emod_nonneg (t + u) (b := s) (by omega)
      have := Int.emod_lt_of_pos (t + u) (b := s) (by omega)
      refine ⟨rfl, rfl, ?_, by omega, by omega⟩
      omega
@[reducible] def pBox (b : Nat) (v : Value) (T : TypeId) : List Blk := [(b, row [v] T)]
set_option maxHeartbeats 4000000 in
theorem jk_Append1 (bj bl br bs bJ bD : Nat) (j : JSt) (hj : j.Wf) (hb : j.broken = false) (g : Hd) (chG : List Blk) (hG : OwnC chG 2 g.a g.len g.cap (gCells j.groups)) (d : DSt) (chD : List Blk) (I : Imm) (hD : Dk I bD d chD) (k : Nat) (hd : d.Few k) (hk : k ≤ 900000)
    (aL : Option Addr) (capL : Nat) (gs : List Img) (hi : ImgsOk I aL gs) (hgl : gs.length ≤ 9223372036854775806) (hg6 : j.groups.length ≤ 900000) (held : Bool) :
    Tri Try.prog 73 #[.pointer (some ⟨bj, 0, none⟩), .pointer (some ⟨bl, 0, none⟩), .pointer (some ⟨br, 0, none⟩), .pointer (some ⟨bs, 0, none⟩)] I
      [pBox bj (.pointer (some ⟨bJ, 0, none⟩)) 22, pBox bl (.slice aL gs.length capL) 47, pBox br (.bool held) 4, pBox bs (.int .i64 0) 3, jChunk bJ (j.at bD g), chG, chD] fun v J S' =>
      v = .int .i64 (j.append d (gs.map Img.pr) held).2.2.2 ∧ ∃ chJ chD', Jk bJ bD (j.append d (gs.map Img.pr) held).1 chJ ∧ Dk J bD (j.append d (gs.map Img.pr) held).2.1 chD' ∧ S' = [pBox bs (.int .i64 (j.append d (gs.map Img.pr) held).2.2.1) 3, chJ, chD'] := by
  have hrg := hj.ring
  unfold Ok at hrg
  refine Tri.drop ?_ (fun _ _ _ _ h => h)
  refine Tri.of (args := [.pointer (some ⟨bj, 0, none⟩), .pointer (some ⟨bl, 0, none⟩), .pointer (some ⟨br, 0, none⟩), .pointer (some ⟨bs, 0, none⟩)]) tabOk Try.func73 rfl (by kernel_rfl) (by kernel_rfl) ?_
  refine CodeF.sched [[], [0], [0, 1], [0, 1, 2], [], [4], [4, 5], [4, 5, 6], [], [0, 1, 2, 3, 4, 5, 6, 7, 8], [0, 1, 2, 3, 4, 5, 6, 7, 8, 9], [0, 1, 2, 3, 4, 5, 6, 7, 8, 9, 10], [0, 1, 2, 3, 4, 5, 6, 7, 8, 9, 10, 11], [0, 1, 2, 3, 4, 5, 6, 7, 8, 9, 10, 11], [0, 1, 2, 3, 4, 5, 6, 7, 8, 9, 10, 11, 12], [0, 1, 2, 3, 4, 5, 6, 7, 8, 9, 10, 11, 12, 13, 14]] [0, 1, 2, 3, 4, 5, 6, 7, 8, 9, 10, 11, 12, 13, 14, 15] (by kernel_rfl) ?_
  repeat (first
    | refine LoadD.own 0 rfl _ rfl rfl ?_
    | refine LoadD.own 1 rfl _ rfl rfl ?_
    | refine LoadD.own 2 rfl _ rfl rfl ?_
    | refine LoadD.own 3 rfl _ rfl rfl ?_
    | refine LoadD.own 4 rfl _ rfl rfl ?_
    | refine LoadD.own 5 rfl _ rfl rfl ?_
    | refine LoadP.at 0 rfl _ rfl rfl ?_
    | refine LoadP.at 1 rfl _ rfl rfl ?_
    | refine LoadP.at 2 rfl _ rfl rfl ?_
    | refine LoadP.at 3 rfl _ rfl rfl ?_
    | refine LoadP.at 4 rfl _ rfl rfl ?_
    | refine LoadP.at 5 rfl _ rfl rfl ?_
    | refine StoreD.st 0 rfl rfl rfl ?_
    | refine StoreD.st 1 rfl rfl rfl ?_
    | refine StoreD.st 2 rfl rfl rfl ?_
    | refine StoreD.st 3 rfl rfl rfl ?_
    | refine StoreD.st 4 rfl rfl rfl ?_
    | refine StoreD.st 5 rfl rfl rfl ?_
    | refine CmpD.yes rfl ?_
    | refine CmpD.yes (by decide) ?_
    | refine CmpD.no (by decide) ?_
    | refine Chk.mk ⟨rfl, trivial⟩ ?_
    | refine Chk.mk ⟨rfl, rfl, trivial⟩ ?_
    | refine Chk.mk ⟨rfl, rfl, rfl, trivial⟩ ?_
    | refine Chk.mk ⟨rfl, rfl, rfl, rfl, trivial⟩ ?_
    | refine Chk.mk ⟨rfl, rfl, rfl, rfl, rfl, trivial⟩ ?_
    | refine Chk.mk ⟨rfl, rfl, rfl, rfl, rfl, rfl, trivial⟩ ?_)
  refine Tri.free (put_of j.epoch j.next ⟨hj.epoch, by have := hj.next; unfold In64; omega⟩ aL capL gs I hi hgl) ?_
  unfold JSt.append
  rw [List.length_map]
  rintro v J _ hJ (⟨c1, rfl⟩ | ⟨c1, aO, capO, bs2, rfl, hO, hbd, hbk⟩)
  · repeat (first
      | refine LoadD.own 0 rfl _ rfl rfl ?_
      | refine LoadD.own 1 rfl _ rfl rfl ?_
      | refine LoadD.own 2 rfl _ rfl rfl ?_
      | refine LoadD.own 3 rfl _ rfl rfl ?_
      | refine LoadD.own 4 rfl _ rfl rfl ?_
      | refine LoadD.own 5 rfl _ rfl rfl ?_
      | refine LoadP.at 0 rfl _ rfl rfl ?_
      | refine LoadP.at 1 rfl _ rfl rfl ?_
      | refine LoadP.at 2 rfl _ rfl rfl ?_
      | refine LoadP.at 3 rfl _ rfl rfl ?_
      | refine LoadP.at 4 rfl _ rfl rfl ?_
      | refine LoadP.at 5 rfl _ rfl rfl ?_
      | refine StoreD.st 0 rfl rfl rfl ?_
      | refine StoreD.st 1 rfl rfl rfl ?_
      | refine StoreD.st 2 rfl rfl rfl ?_
      | refine StoreD.st 3 rfl rfl rfl ?_
      | refine StoreD.st 4 rfl rfl rfl ?_
      | refine StoreD.st 5 rfl rfl rfl ?_
      | refine CmpD.yes rfl ?_
      | refine CmpD.yes (by decide) ?_
      | refine CmpD.no (by decide) ?_
      | refine Chk.mk ⟨rfl, trivial⟩ ?_
      | refine Chk.mk ⟨rfl, rfl, trivial⟩ ?_
      | refine Chk.mk ⟨rfl, rfl, rfl, trivial⟩ ?_
      | refine Chk.mk ⟨rfl, rfl, rfl, rfl, trivial⟩ ?_
      | refine Chk.mk ⟨rfl, rfl, rfl, rfl, rfl, trivial⟩ ?_
      | refine Chk.mk ⟨rfl, rfl, rfl, rfl, rfl, rfl, trivial⟩ ?_)
    refine Done.mk ?_
    rw [if_pos c1]
    exact ⟨[pBox bs (.int .i64 0) 3, jChunk bJ (j.at bD g) ++ chG, chD], (Drop.pick [3, 4, 5, 6] _ rfl).trans (Drop.flat (by simp [St.at])), rfl, _, _, ⟨g, chG, rfl, hG⟩, hD.mono hJ, rfl⟩
  rw [if_neg (by simpa using c1)]
  have hbl : bs2.length = gs.length + 1 := by have := congrArg List.length hbd; rw [putP_length, List.length_map, List.length_map] at this; exact this
  have hgl2 : gs.length ≤ 32 := by have := c1.2.2.2.2.2.1; rwa [List.length_map] at this
  have hnx : j.next ≤ 549755813888 := c1.2.2.2.1
  have hDJ := hD.mono hJ
  repeat (first
    | refine LoadD.own 0 rfl _ rfl rfl ?_
    | refine LoadD.own 1 rfl _ rfl rfl ?_
    | refine LoadD.own 2 rfl _ rfl rfl ?_
    | refine LoadD.own 3 rfl _ rfl rfl ?_
    | refine LoadD.own 4 rfl _ rfl rfl ?_
    | refine LoadD.own 5 rfl _ rfl rfl ?_
    | refine LoadP.at 0 rfl _ rfl rfl ?_
    | refine LoadP.at 1 rfl _ rfl rfl ?_
    | refine LoadP.at 2 rfl _ rfl rfl ?_
    | refine LoadP.at 3 rfl _ rfl rfl ?_
    | refine LoadP.at 4 rfl _ rfl rfl ?_
    | refine LoadP.at 5 rfl _ rfl rfl ?_
    | refine StoreD.st 0 rfl rfl rfl ?_
    | refine StoreD.st 1 rfl rfl rfl ?_
    | refine StoreD.st 2 rfl rfl rfl ?_
    | refine StoreD.st 3 rfl rfl rfl ?_
    | refine StoreD.st 4 rfl rfl rfl ?_
    | refine StoreD.st 5 rfl rfl rfl ?_
    | refine CmpD.yes rfl ?_
    | refine CmpD.yes (by decide) ?_
    | refine CmpD.no (by decide) ?_
    | refine Chk.mk ⟨rfl, trivial⟩ ?_
    | refine Chk.mk ⟨rfl, rfl, trivial⟩ ?_
    | refine Chk.mk ⟨rfl, rfl, rfl, trivial⟩ ?_
    | refine Chk.mk ⟨rfl, rfl, rfl, rfl, trivial⟩ ?_
    | refine Chk.mk ⟨rfl, rfl, rfl, rfl, rfl, trivial⟩ ?_
    | refine Chk.mk ⟨rfl, rfl, rfl, rfl, rfl, rfl, trivial⟩ ?_)
  refine CmpD.split (fun c2 => ?_) (fun c2 => ?_) <;> replace c2 := id (α := _) c2 <;> dsimp only [JSt.at] at c2
  · repeat (first
      | refine LoadD.own 0 rfl _ rfl rfl ?_
      | refine LoadD.own 1 rfl _ rfl rfl ?_
      | refine LoadD.own 2 rfl _ rfl rfl ?_
      | refine LoadD.own 3 rfl _ rfl rfl ?_
      | refine LoadD.own 4 rfl _ rfl rfl ?_
      | refine LoadD.own 5 rfl _ rfl rfl ?_
      | refine LoadP.at 0 rfl _ rfl rfl ?_
      | refine LoadP.at 1 rfl _ rfl rfl ?_
      | refine LoadP.at 2 rfl _ rfl rfl ?_
      | refine LoadP.at 3 rfl _ rfl rfl ?_
      | refine LoadP.at 4 rfl _ rfl rfl ?_
      | refine LoadP.at 5 rfl _ rfl rfl ?_
      | refine StoreD.st 0 rfl rfl rfl ?_
      | refine StoreD.st 1 rfl rfl rfl ?_
      | refine StoreD.st 2 rfl rfl rfl ?_
      | refine StoreD.st 3 rfl rfl rfl ?_
      | refine StoreD.st 4 rfl rfl rfl ?_
      | refine StoreD.st 5 rfl rfl rfl ?_
      | refine CmpD.yes rfl ?_
      | refine CmpD.yes (by decide) ?_
      | refine CmpD.no (by decide) ?_
      | refine Chk.mk ⟨rfl, trivial⟩ ?_
      | refine Chk.mk ⟨rfl, rfl, trivial⟩ ?_
      | refine Chk.mk ⟨rfl, rfl, rfl, trivial⟩ ?_
      | refine Chk.mk ⟨rfl, rfl, rfl, rfl, trivial⟩ ?_
      | refine Chk.mk ⟨rfl, rfl, rfl, rfl, rfl, trivial⟩ ?_
      | refine Chk.mk ⟨rfl, rfl, rfl, rfl, rfl, rfl, trivial⟩ ?_)
    refine Done.mk ?_
    rw [if_pos (by omega)]
    exact ⟨[pBox bs (.int .i64 0) 3, jChunk bJ (j.at bD g) ++ chG, chD], (Drop.pick [3, 4, 5, 6] _ rfl).trans (Drop.flat (by simp [St.at])), rfl, _, _, ⟨g, chG, rfl, hG⟩, hDJ, rfl⟩
  rw [if_neg (by omega)]
  repeat (first
    | refine LoadD.own 0 rfl _ rfl rfl ?_
    | refine LoadD.own 1 rfl _ rfl rfl ?_
    | refine LoadD.own 2 rfl _ rfl rfl ?_
    | refine LoadD.own 3 rfl _ rfl rfl ?_
    | refine LoadD.own 4 rfl _ rfl rfl ?_
    | refine LoadD.own 5 rfl _ rfl rfl ?_
    | refine LoadP.at 0 rfl _ rfl rfl ?_
    | refine LoadP.at 1 rfl _ rfl rfl ?_
    | refine LoadP.at 2 rfl _ rfl rfl ?_
    | refine LoadP.at 3 rfl _ rfl rfl ?_
    | refine LoadP.at 4 rfl _ rfl rfl ?_
    | refine LoadP.at 5 rfl _ rfl rfl ?_
    | refine StoreD.st 0 rfl rfl rfl ?_
    | refine StoreD.st 1 rfl rfl rfl ?_
    | refine StoreD.st 2 rfl rfl rfl ?_
    | refine StoreD.st 3 rfl rfl rfl ?_
    | refine StoreD.st 4 rfl rfl rfl ?_
    | refine StoreD.st 5 rfl rfl rfl ?_
    | refine CmpD.yes rfl ?_
    | refine CmpD.yes (by decide) ?_
    | refine CmpD.no (by decide) ?_
    | refine Chk.mk ⟨rfl, trivial⟩ ?_
    | refine Chk.mk ⟨rfl, rfl, trivial⟩ ?_
    | refine Chk.mk ⟨rfl, rfl, rfl, trivial⟩ ?_
    | refine Chk.mk ⟨rfl, rfl, rfl, rfl, trivial⟩ ?_
    | refine Chk.mk ⟨rfl, rfl, rfl, rfl, rfl, trivial⟩ ?_
    | refine Chk.mk ⟨rfl, rfl, rfl, rfl, rfl, rfl, trivial⟩ ?_)
  have hrgk := hj.ring
  cases held
  all_goals
    repeat (first
      | refine LoadD.own 0 rfl _ rfl rfl ?_
      | refine LoadD.own 1 rfl _ rfl rfl ?_
      | refine LoadD.own 2 rfl _ rfl rfl ?_
      | refine LoadD.own 3 rfl _ rfl rfl ?_
      | refine LoadD.own 4 rfl _ rfl rfl ?_
      | refine LoadD.own 5 rfl _ rfl rfl ?_
      | refine LoadP.at 0 rfl _ rfl rfl ?_
      | refine LoadP.at 1 rfl _ rfl rfl ?_
      | refine LoadP.at 2 rfl _ rfl rfl ?_
      | refine LoadP.at 3 rfl _ rfl rfl ?_
      | refine LoadP.at 4 rfl _ rfl rfl ?_
      | refine LoadP.at 5 rfl _ rfl rfl ?_
      | refine StoreD.st 0 rfl rfl rfl ?_
      | refine StoreD.st 1 rfl rfl rfl ?_
      | refine StoreD.st 2 rfl rfl rfl ?_
      | refine StoreD.st 3 rfl rfl rfl ?_
      | refine StoreD.st 4 rfl rfl rfl ?_
      | refine StoreD.st 5 rfl rfl rfl ?_
      | refine CmpD.yes rfl ?_
      | refine CmpD.yes (by decide) ?_
      | refine CmpD.no (by decide) ?_
      | refine Chk.mk ⟨rfl, trivial⟩ ?_
      | refine Chk.mk ⟨rfl, rfl, trivial⟩ ?_
      | refine Chk.mk ⟨rfl, rfl, rfl, trivial⟩ ?_
      | refine Chk.mk ⟨rfl, rfl, rfl, rfl, trivial⟩ ?_
      | refine Chk.mk ⟨rfl, rfl, rfl, rfl, rfl, trivial⟩ ?_
      | refine Chk.mk ⟨rfl, rfl, rfl, rfl, rfl, rfl, trivial⟩ ?_)
    refine Tri.free (ring_Put _ _ _ _ _ _ ?_ ?_ ?_ ?_ ?_ _ ?_) ?_
    iterate 6 (unfold In64; (try dsimp only [JSt.at]); omega)
    rintro v J2 _ hJ2 ⟨⟨s', t', u', h', at_, e', rfl, hput⟩, rfl⟩
    first | rw [if_pos rfl] | rw [if_neg Bool.false_ne_true]
    first | rw [show putS j.s j.t j.u j.h ((gs.length : Int) + 1) 0 = _ from hput] | rw [show putS j.s j.t j.u j.h ((gs.length : Int) + 1) ((gs.length : Int) + 1) = _ from hput]
    dsimp only
    conv => whnf
    intro b8
    repeat (first
      | refine LoadD.own 0 rfl _ rfl rfl ?_
      | refine LoadD.own 1 rfl _ rfl rfl ?_
      | refine LoadD.own 2 rfl _ rfl rfl ?_
      | refine LoadD.own 3 rfl _ rfl rfl ?_
      | refine LoadD.own 4 rfl _ rfl rfl ?_
      | refine LoadD.own 5 rfl _ rfl rfl ?_
      | refine LoadD.own 6 rfl _ rfl rfl ?_
      | refine LoadD.own 7 rfl _ rfl rfl ?_
      | refine LoadP.at 0 rfl _ rfl rfl ?_
      | refine LoadP.at 1 rfl _ rfl rfl ?_
      | refine LoadP.at 2 rfl _ rfl rfl ?_
      | refine LoadP.at 3 rfl _ rfl rfl ?_
      | refine LoadP.at 4 rfl _ rfl rfl ?_
      | refine LoadP.at 5 rfl _ rfl rfl ?_
      | refine LoadP.at 6 rfl _ rfl rfl ?_
      | refine LoadP.at 7 rfl _ rfl rfl ?_
      | refine StoreD.st 0 rfl rfl rfl ?_
      | refine StoreD.st 1 rfl rfl rfl ?_
      | refine StoreD.st 2 rfl rfl rfl ?_
      | refine StoreD.st 3 rfl rfl rfl ?_
      | refine StoreD.st 4 rfl rfl rfl ?_
      | refine StoreD.st 5 rfl rfl rfl ?_
      | refine StoreD.st 6 rfl rfl rfl ?_
      | refine StoreD.st 7 rfl rfl rfl ?_
      | refine CmpD.yes rfl ?_
      | refine CmpD.yes (by decide) ?_
      | refine CmpD.no (by decide) ?_
      | refine Chk.mk ⟨rfl, trivial⟩ ?_
      | refine Chk.mk ⟨rfl, rfl, trivial⟩ ?_
      | refine Chk.mk ⟨rfl, rfl, rfl, trivial⟩ ?_
      | refine Chk.mk ⟨rfl, rfl, rfl, rfl, trivial⟩ ?_
      | refine Chk.mk ⟨rfl, rfl, rfl, rfl, rfl, trivial⟩ ?_
      | refine Chk.mk ⟨rfl, rfl, rfl, rfl, rfl, rfl, trivial⟩ ?_)
    refine Tri.frame1 4 rfl (jr_turned bJ (j.at bD g) s' t' u' h' e' J) ?_
    rintro v J3 S' hJ3 ⟨rfl, rfl, rfl⟩
    refine ⟨_, rfl, ?_⟩
    refine CmpD.split (fun c3 => ?_) (fun c3 => ?_)
    rotate_left
    · repeat (first
        | refine LoadD.own 0 rfl _ rfl rfl ?_
        | refine LoadD.own 1 rfl _ rfl rfl ?_
        | refine LoadD.own 2 rfl _ rfl rfl ?_
        | refine LoadD.own 3 rfl _ rfl rfl ?_
        | refine LoadD.own 4 rfl _ rfl rfl ?_
        | refine LoadD.own 5 rfl _ rfl rfl ?_
        | refine LoadP.at 0 rfl _ rfl rfl ?_
        | refine LoadP.at 1 rfl _ rfl rfl ?_
        | refine LoadP.at 2 rfl _ rfl rfl ?_
        | refine LoadP.at 3 rfl _ rfl rfl ?_
        | refine LoadP.at 4 rfl _ rfl rfl ?_
        | refine LoadP.at 5 rfl _ rfl rfl ?_
        | refine StoreD.st 0 rfl rfl rfl ?_
        | refine StoreD.st 1 rfl rfl rfl ?_
        | refine StoreD.st 2 rfl rfl rfl ?_
        | refine StoreD.st 3 rfl rfl rfl ?_
        | refine StoreD.st 4 rfl rfl rfl ?_
        | refine StoreD.st 5 rfl rfl rfl ?_
        | refine CmpD.yes rfl ?_
        | refine CmpD.yes (by decide) ?_
        | refine CmpD.no (by decide) ?_
        | refine Chk.mk ⟨rfl, trivial⟩ ?_
        | refine Chk.mk ⟨rfl, rfl, trivial⟩ ?_
        | refine Chk.mk ⟨rfl, rfl, rfl, trivial⟩ ?_
        | refine Chk.mk ⟨rfl, rfl, rfl, rfl, trivial⟩ ?_
        | refine Chk.mk ⟨rfl, rfl, rfl, rfl, rfl, trivial⟩ ?_
        | refine Chk.mk ⟨rfl, rfl, rfl, rfl, rfl, rfl, trivial⟩ ?_)
      refine Done.mk ?_
      rw [if_pos c3, if_neg c3]
      exact ⟨[pBox bs (.int .i64 0) 3, jChunk bJ (j.at bD g) ++ chG, chD], (Drop.pick [3, 4, 5, 6] _ rfl).trans (Drop.flat (by simp [St.at])), rfl, _, _, ⟨g, chG, rfl, hG⟩, hDJ, rfl⟩
    rw [if_neg (by simpa using c3), if_pos c3]
    subst c3
    obtain ⟨es, et, hr', ha1, ha2⟩ := putS_mid hrgk hput rfl
    have hr2 := hr'
    unfold Ok at hr2
    repeat (first
      | refine LoadD.own 0 rfl _ rfl rfl ?_
      | refine LoadD.own 1 rfl _ rfl rfl ?_
      | refine LoadD.own 2 rfl _ rfl rfl ?_
      | refine LoadD.own 3 rfl _ rfl rfl ?_
      | refine LoadD.own 4 rfl _ rfl rfl ?_
      | refine LoadD.own 5 rfl _ rfl rfl ?_
      | refine LoadP.at 0 rfl _ rfl rfl ?_
      | refine LoadP.at 1 rfl _ rfl rfl ?_
      | refine LoadP.at 2 rfl _ rfl rfl ?_
      | refine LoadP.at 3 rfl _ rfl rfl ?_
      | refine LoadP.at 4 rfl _ rfl rfl ?_
      | refine LoadP.at 5 rfl _ rfl rfl ?_
      | refine StoreD.st 0 rfl rfl rfl ?_
      | refine StoreD.st 1 rfl rfl rfl ?_
      | refine StoreD.st 2 rfl rfl rfl ?_
      | refine StoreD.st 3 rfl rfl rfl ?_
      | refine StoreD.st 4 rfl rfl rfl ?_
      | refine StoreD.st 5 rfl rfl rfl ?_
      | refine CmpD.yes rfl ?_
      | refine CmpD.yes (by decide) ?_
      | refine CmpD.no (by decide) ?_
      | refine Chk.mk ⟨rfl, trivial⟩ ?_
      | refine Chk.mk ⟨rfl, rfl, trivial⟩ ?_
      | refine Chk.mk ⟨rfl, rfl, rfl, trivial⟩ ?_
      | refine Chk.mk ⟨rfl, rfl, rfl, rfl, trivial⟩ ?_
      | refine Chk.mk ⟨rfl, rfl, rfl, rfl, rfl, trivial⟩ ?_
      | refine Chk.mk ⟨rfl, rfl, rfl, rfl, rfl, rfl, trivial⟩ ?_)
    have hP := putP_length j.epoch.toNat j.next.toNat (gs.map Img.pr)
    obtain ⟨B, hB⟩ : ∃ B, B = putP j.epoch.toNat j.next.toNat (gs.map Img.pr) := ⟨_, rfl⟩
    rw [List.length_map, ← hB] at hP
    rw [← hB] at hbd ⊢
    obtain ⟨W, hW⟩ : ∃ W, W = wrAll (fun i => j.lay.l + (at_ + i) % s') B 0 d := ⟨_, rfl⟩
    rw [← hW]
    rcases hO.mem with q0 | ⟨bO, oO, cO, TO, fO, rfl, hIO, ht1⟩
    · omega
    refine CodeF.loopD [0, 3, 5, 9, 61, 62, 63] (fun vs J' S' => ∃ (i : Nat) (d' : DSt) (chD' chR : List Blk), i ≤ gs.length + 1 ∧ W = wrAll (fun i => j.lay.l + (at_ + i) % s') (B.drop i) i d' ∧ d'.Few (k + i) ∧ Dk J' bD d' chD' ∧ J.le J' ∧
        vs = [.pointer (some ⟨bj, 0, none⟩), .pointer (some ⟨bs, 0, none⟩), .slice (some ⟨bO, oO, none⟩) (gs.length + 1) capO, .int .i64 at_, .slice (some ⟨bO, oO, none⟩) (gs.length + 1) capO, .int .i64 (gs.length + 1 : Nat), .int .i64 i] ∧
        S' = [pBox bj (.pointer (some ⟨bJ, 0, none⟩)) 22, pBox bl (.slice aL gs.length capL) 47, chR, pBox bs (.int .i64 0) 3, jChunk bJ ({ j with s := s', t := t', u := u', h := h' }.at bD g), chG, chD'])
      (fun vs _ _ => match vs with | [_, _, _, _, _, _, .int _ i] => ((gs.length + 1 : Int) - i).toNat | _ => 0) ?_ ?_
    · exact ⟨_, (Drop.pick [0, 1, 2, 3, 4, 5, 6] _ rfl), 0, d, chD, _, by omega, by rw [hW]; rfl, hd, hDJ, J.le_refl, rfl, rfl⟩
    rintro vs gE J' S' hJ' ⟨i, d', chD', chR, hi1, hWi, hdi, hDi, hle, rfl, rfl⟩
    refine CmpD.split (fun c4 => ?_) (fun c4 => ?_)
    · have hib : i < bs2.length := by omega
      have hcell : (bs2.map Bk.cell)[i]? = some bs2[i].cell := by rw [List.getElem?_map, List.getElem?_eq_getElem hib]; rfl
      have hbki := hbk _ (List.getElem_mem hib)
      have hBi : B.drop i = bs2[i].data :: B.drop (i + 1) := by
        have hiB : i < B.length := by omega
        rw [List.drop_eq_getElem_cons hiB]
        congr 1
        simp only [← hbd, List.getElem_map]
      obtain ⟨bk, hbke⟩ : ∃ bk, bk = bs2[i] := ⟨_, rfl⟩
      rw [← hbke] at hcell hbki hBi
      refine Chk.mk (by omega) ?_
      refine LoadD.imm (hle _ _ hIO) _ (take_get ht1 hcell) rfl ?_
      refine CodeF.sched [[], [], [1], [1, 2], [1, 2, 3], [], [5], [5, 6], [5, 6, 7], [5, 6, 7, 8], [], [], [10, 11], [], [13], [13, 14], [13, 14, 15], [13, 14, 15, 16], [10, 11, 12, 13, 14, 15, 16, 17], [5, 6, 7, 8, 9, 10, 11, 12, 13, 14, 15, 16, 17, 18], [], [1, 2, 3, 4, 5, 6, 7, 8, 9, 10, 11, 12, 13, 14, 15, 16, 17, 18, 19, 20], [0, 1, 2, 3, 4, 5, 6, 7, 8, 9, 10, 11, 12, 13, 14, 15, 16, 17, 18, 19, 20, 21], [0, 1, 2, 3, 4, 5, 6, 7, 8, 9, 10, 11, 12, 13, 14, 15, 16, 17, 18, 19, 20, 21, 22]] [0, 1, 2, 3, 4, 5, 6, 7, 8, 9, 10, 11, 12, 13, 14, 15, 16, 17, 18, 19, 20, 21, 22, 23] (by kernel_rfl) ?_
      have hm1 := Int.emod_nonneg (at_ + i) (b := s') (by omega)
      have hm2 := Int.emod_lt_of_pos (at_ + i) (b := s') (by omega)
      have hlog := hj.log
      repeat (first
        | refine LoadD.own 0 rfl _ rfl rfl ?_
        | refine LoadD.own 1 rfl _ rfl rfl ?_
        | refine LoadD.own 2 rfl _ rfl rfl ?_
        | refine LoadD.own 3 rfl _ rfl rfl ?_
        | refine LoadD.own 4 rfl _ rfl rfl ?_
        | refine LoadD.own 5 rfl _ rfl rfl ?_
        | refine LoadP.at 0 rfl _ rfl rfl ?_
        | refine LoadP.at 1 rfl _ rfl rfl ?_
        | refine LoadP.at 2 rfl _ rfl rfl ?_
        | refine LoadP.at 3 rfl _ rfl rfl ?_
        | refine LoadP.at 4 rfl _ rfl rfl ?_
        | refine LoadP.at 5 rfl _ rfl rfl ?_
        | refine StoreD.st 0 rfl rfl rfl ?_
        | refine StoreD.st 1 rfl rfl rfl ?_
        | refine StoreD.st 2 rfl rfl rfl ?_
        | refine StoreD.st 3 rfl rfl rfl ?_
        | refine StoreD.st 4 rfl rfl rfl ?_
        | refine StoreD.st 5 rfl rfl rfl ?_
        | refine CmpD.yes rfl ?_
        | refine CmpD.yes (by decide) ?_
        | refine CmpD.no (by decide) ?_
        | refine Chk.mk ⟨rfl, trivial⟩ ?_
        | refine Chk.mk ⟨rfl, rfl, trivial⟩ ?_
        | refine Chk.mk ⟨rfl, rfl, rfl, trivial⟩ ?_
        | refine Chk.mk ⟨rfl, rfl, rfl, rfl, trivial⟩ ?_
        | refine Chk.mk ⟨rfl, rfl, rfl, rfl, rfl, trivial⟩ ?_
        | refine Chk.mk ⟨rfl, rfl, rfl, rfl, rfl, rfl, trivial⟩ ?_)
      refine ToD.i64 (by omega) (by omega) ?_
      repeat (first
        | refine LoadD.own 0 rfl _ rfl rfl ?_
        | refine LoadD.own 1 rfl _ rfl rfl ?_
        | refine LoadD.own 2 rfl _ rfl rfl ?_
        | refine LoadD.own 3 rfl _ rfl rfl ?_
        | refine LoadD.own 4 rfl _ rfl rfl ?_
        | refine LoadD.own 5 rfl _ rfl rfl ?_
        | refine LoadP.at 0 rfl _ rfl rfl ?_
        | refine LoadP.at 1 rfl _ rfl rfl ?_
        | refine LoadP.at 2 rfl _ rfl rfl ?_
        | refine LoadP.at 3 rfl _ rfl rfl ?_
        | refine LoadP.at 4 rfl _ rfl rfl ?_
        | refine LoadP.at 5 rfl _ rfl rfl ?_
        | refine StoreD.st 0 rfl rfl rfl ?_
        | refine StoreD.st 1 rfl rfl rfl ?_
        | refine StoreD.st 2 rfl rfl rfl ?_
        | refine StoreD.st 3 rfl rfl rfl ?_
        | refine StoreD.st 4 rfl rfl rfl ?_
        | refine StoreD.st 5 rfl rfl rfl ?_
        | refine CmpD.yes rfl ?_
        | refine CmpD.yes (by decide) ?_
        | refine CmpD.no (by decide) ?_
        | refine Chk.mk ⟨rfl, trivial⟩ ?_
        | refine Chk.mk ⟨rfl, rfl, trivial⟩ ?_
        | refine Chk.mk ⟨rfl, rfl, rfl, trivial⟩ ?_
        | refine Chk.mk ⟨rfl, rfl, rfl, rfl, trivial⟩ ?_
        | refine Chk.mk ⟨rfl, rfl, rfl, rfl, rfl, trivial⟩ ?_
        | refine Chk.mk ⟨rfl, rfl, rfl, rfl, rfl, rfl, trivial⟩ ?_)
      refine Chk.mk (show s' ≠ 0 by omega) ?_
      refine ToD.rem (by omega) ?_
      refine ToD.i64 (show -9223372036854775808 ≤ j.lay.l + (at_ + i) % s' by omega) (show j.lay.l + (at_ + i) % s' ≤ 9223372036854775807 by omega) ?_
      refine Tri.frame1 6 rfl (dk_Write hDi (hdi.mono (by omega)) (j.lay.l + (at_ + i) % s') bk.a 4096 bk.cap bk.data (BkOk.mono hbki hle)) ?_
      rintro v J4 S4 hJ4 ⟨rfl, chD2, hD2, rfl⟩
      refine ⟨_, rfl, ?_⟩
      repeat (first
        | refine LoadD.own 0 rfl _ rfl rfl ?_
        | refine LoadD.own 1 rfl _ rfl rfl ?_
        | refine LoadD.own 2 rfl _ rfl rfl ?_
        | refine LoadD.own 3 rfl _ rfl rfl ?_
        | refine LoadD.own 4 rfl _ rfl rfl ?_
        | refine LoadD.own 5 rfl _ rfl rfl ?_
        | refine LoadP.at 0 rfl _ rfl rfl ?_
        | refine LoadP.at 1 rfl _ rfl rfl ?_
        | refine LoadP.at 2 rfl _ rfl rfl ?_
        | refine LoadP.at 3 rfl _ rfl rfl ?_
        | refine LoadP.at 4 rfl _ rfl rfl ?_
        | refine LoadP.at 5 rfl _ rfl rfl ?_
        | refine StoreD.st 0 rfl rfl rfl ?_
        | refine StoreD.st 1 rfl rfl rfl ?_
        | refine StoreD.st 2 rfl rfl rfl ?_
        | refine StoreD.st 3 rfl rfl rfl ?_
        | refine StoreD.st 4 rfl rfl rfl ?_
        | refine StoreD.st 5 rfl rfl rfl ?_
        | refine CmpD.yes rfl ?_
        | refine CmpD.yes (by decide) ?_
        | refine CmpD.no (by decide) ?_
        | refine Chk.mk ⟨rfl, trivial⟩ ?_
        | refine Chk.mk ⟨rfl, rfl, trivial⟩ ?_
        | refine Chk.mk ⟨rfl, rfl, rfl, trivial⟩ ?_
        | refine Chk.mk ⟨rfl, rfl, rfl, rfl, trivial⟩ ?_
        | refine Chk.mk ⟨rfl, rfl, rfl, rfl, rfl, trivial⟩ ?_
        | refine Chk.mk ⟨rfl, rfl, rfl, rfl, rfl, rfl, trivial⟩ ?_)
      refine Tri.frame1 4 rfl (jr_did bJ ({ j with s := s', t := t', u := u', h := h' }.at bD g) _ J4) ?_
      rintro v J5 S5 hJ5 ⟨rfl, rfl, rfl⟩
      refine ⟨_, rfl, ?_⟩
      rw [hBi, wrAll] at hWi
      refine CmpD.split (fun c5 => ?_) (fun c5 => ?_)
      · rw [if_neg (by simpa using c5)] at hWi
        repeat (first
          | refine LoadD.own 0 rfl _ rfl rfl ?_
          | refine LoadD.own 1 rfl _ rfl rfl ?_
          | refine LoadD.own 2 rfl _ rfl rfl ?_
          | refine LoadD.own 3 rfl _ rfl rfl ?_
          | refine LoadD.own 4 rfl _ rfl rfl ?_
          | refine LoadD.own 5 rfl _ rfl rfl ?_
          | refine LoadP.at 0 rfl _ rfl rfl ?_
          | refine LoadP.at 1 rfl _ rfl rfl ?_
          | refine LoadP.at 2 rfl _ rfl rfl ?_
          | refine LoadP.at 3 rfl _ rfl rfl ?_
          | refine LoadP.at 4 rfl _ rfl rfl ?_
          | refine LoadP.at 5 rfl _ rfl rfl ?_
          | refine StoreD.st 0 rfl rfl rfl ?_
          | refine StoreD.st 1 rfl rfl rfl ?_
          | refine StoreD.st 2 rfl rfl rfl ?_
          | refine StoreD.st 3 rfl rfl rfl ?_
          | refine StoreD.st 4 rfl rfl rfl ?_
          | refine StoreD.st 5 rfl rfl rfl ?_
          | refine CmpD.yes rfl ?_
          | refine CmpD.yes (by decide) ?_
          | refine CmpD.no (by decide) ?_
          | refine Chk.mk ⟨rfl, trivial⟩ ?_
          | refine Chk.mk ⟨rfl, rfl, trivial⟩ ?_
          | refine Chk.mk ⟨rfl, rfl, rfl, trivial⟩ ?_
          | refine Chk.mk ⟨rfl, rfl, rfl, rfl, trivial⟩ ?_
          | refine Chk.mk ⟨rfl, rfl, rfl, rfl, rfl, trivial⟩ ?_
          | refine Chk.mk ⟨rfl, rfl, rfl, rfl, rfl, rfl, trivial⟩ ?_)
        refine ToD.i64 (by omega) (by omega) ?_
        refine ⟨_, Drop.pick [0, 1, 2, 3, 4, 5, 6] _ rfl, ⟨i + 1, _, chD2, chR, by omega, hWi, hdi.write _ _, hD2, Imm.le_trans hle hJ4, rfl, ?_⟩, ?_⟩
        · rw [decide_eq_true c5]
          show [_, _, _, _, jChunk bJ { ({ j with s := s', t := t', u := u', h := h' } : JSt).at bD g with broken := j.broken || !true }, _, _] = _
          rw [hb]; rfl
        · show ((gs.length + 1 : Int) - ((i : Int) + 1)).toNat < ((gs.length + 1 : Int) - (i : Int)).toNat
          omega
      · rw [if_pos c5] at hWi
        repeat (first
          | refine LoadD.own 0 rfl _ rfl rfl ?_
          | refine LoadD.own 1 rfl _ rfl rfl ?_
          | refine LoadD.own 2 rfl _ rfl rfl ?_
          | refine LoadD.own 3 rfl _ rfl rfl ?_
          | refine LoadD.own 4 rfl _ rfl rfl ?_
          | refine LoadD.own 5 rfl _ rfl rfl ?_
          | refine LoadP.at 0 rfl _ rfl rfl ?_
          | refine LoadP.at 1 rfl _ rfl rfl ?_
          | refine LoadP.at 2 rfl _ rfl rfl ?_
          | refine LoadP.at 3 rfl _ rfl rfl ?_
          | refine LoadP.at 4 rfl _ rfl rfl ?_
          | refine LoadP.at 5 rfl _ rfl rfl ?_
          | refine StoreD.st 0 rfl rfl rfl ?_
          | refine StoreD.st 1 rfl rfl rfl ?_
          | refine StoreD.st 2 rfl rfl rfl ?_
          | refine StoreD.st 3 rfl rfl rfl ?_
          | refine StoreD.st 4 rfl rfl rfl ?_
          | refine StoreD.st 5 rfl rfl rfl ?_
          | refine CmpD.yes rfl ?_
          | refine CmpD.yes (by decide) ?_
          | refine CmpD.no (by decide) ?_
          | refine Chk.mk ⟨rfl, trivial⟩ ?_
          | refine Chk.mk ⟨rfl, rfl, trivial⟩ ?_
          | refine Chk.mk ⟨rfl, rfl, rfl, trivial⟩ ?_
          | refine Chk.mk ⟨rfl, rfl, rfl, rfl, trivial⟩ ?_
          | refine Chk.mk ⟨rfl, rfl, rfl, rfl, rfl, trivial⟩ ?_
          | refine Chk.mk ⟨rfl, rfl, rfl, rfl, rfl, rfl, trivial⟩ ?_)
        refine Done.mk ?_
        rw [hWi, if_pos c5]
        refine ⟨[pBox bs (.int .i64 0) 3, jChunk bJ ({ j with s := s', t := t', u := u', h := h', broken := true }.at bD g) ++ chG, chD2], ?_, rfl, _, _, ⟨g, chG, rfl, hG⟩, hD2, rfl⟩
        rw [decide_eq_false c5]
        refine (Drop.pick [3, 4, 5, 6] _ rfl).trans (Drop.flat ?_)
        show List.flatten [_, jChunk bJ { ({ j with s := s', t := t', u := u', h := h' } : JSt).at bD g with broken := j.broken || !false }, _, _] = _
        rw [hb]; simp
    · obtain rfl : i = gs.length + 1 := by omega
      rw [List.drop_of_length_le (by omega), wrAll] at hWi
      rw [hWi, if_neg (by simp)]
      repeat (first
        | refine LoadD.own 0 rfl _ rfl rfl ?_
        | refine LoadD.own 1 rfl _ rfl rfl ?_
        | refine LoadD.own 2 rfl _ rfl rfl ?_
        | refine LoadD.own 3 rfl _ rfl rfl ?_
        | refine LoadD.own 4 rfl _ rfl rfl ?_
        | refine LoadD.own 5 rfl _ rfl rfl ?_
        | refine LoadP.at 0 rfl _ rfl rfl ?_
        | refine LoadP.at 1 rfl _ rfl rfl ?_
        | refine LoadP.at 2 rfl _ rfl rfl ?_
        | refine LoadP.at 3 rfl _ rfl rfl ?_
        | refine LoadP.at 4 rfl _ rfl rfl ?_
        | refine LoadP.at 5 rfl _ rfl rfl ?_
        | refine StoreD.st 0 rfl rfl rfl ?_
        | refine StoreD.st 1 rfl rfl rfl ?_
        | refine StoreD.st 2 rfl rfl rfl ?_
        | refine StoreD.st 3 rfl rfl rfl ?_
        | refine StoreD.st 4 rfl rfl rfl ?_
        | refine StoreD.st 5 rfl rfl rfl ?_
        | refine CmpD.yes rfl ?_
        | refine CmpD.yes (by decide) ?_
        | refine CmpD.no (by decide) ?_
        | refine Chk.mk ⟨rfl, trivial⟩ ?_
        | refine Chk.mk ⟨rfl, rfl, trivial⟩ ?_
        | refine Chk.mk ⟨rfl, rfl, rfl, trivial⟩ ?_
        | refine Chk.mk ⟨rfl, rfl, rfl, rfl, trivial⟩ ?_
        | refine Chk.mk ⟨rfl, rfl, rfl, rfl, rfl, trivial⟩ ?_
        | refine Chk.mk ⟨rfl, rfl, rfl, rfl, rfl, rfl, trivial⟩ ?_)
      refine CodeF.sched [[], [], [1], [1, 2], [1, 2, 3], [], [], [6], [5, 6, 7], [5, 6, 7, 8], [1, 2, 3, 4, 5, 6, 7, 8, 9], [0, 1, 2, 3, 4, 5, 6, 7, 8, 9, 10], [0, 1, 2, 3, 4, 5, 6, 7, 8, 9, 10, 11], [0, 1, 2, 3, 4, 5, 6, 7, 8, 9, 10, 11, 12]] [0, 1, 2, 3, 4, 5, 6, 7, 8, 9, 10, 11, 12, 13] (by kernel_rfl) ?_
      repeat (first
        | refine LoadD.own 0 rfl _ rfl rfl ?_
        | refine LoadD.own 1 rfl _ rfl rfl ?_
        | refine LoadD.own 2 rfl _ rfl rfl ?_
        | refine LoadD.own 3 rfl _ rfl rfl ?_
        | refine LoadD.own 4 rfl _ rfl rfl ?_
        | refine LoadD.own 5 rfl _ rfl rfl ?_
        | refine LoadP.at 0 rfl _ rfl rfl ?_
        | refine LoadP.at 1 rfl _ rfl rfl ?_
        | refine LoadP.at 2 rfl _ rfl rfl ?_
        | refine LoadP.at 3 rfl _ rfl rfl ?_
        | refine LoadP.at 4 rfl _ rfl rfl ?_
        | refine LoadP.at 5 rfl _ rfl rfl ?_
        | refine StoreD.st 0 rfl rfl rfl ?_
        | refine StoreD.st 1 rfl rfl rfl ?_
        | refine StoreD.st 2 rfl rfl rfl ?_
        | refine StoreD.st 3 rfl rfl rfl ?_
        | refine StoreD.st 4 rfl rfl rfl ?_
        | refine StoreD.st 5 rfl rfl rfl ?_
        | refine CmpD.yes rfl ?_
        | refine CmpD.yes (by decide) ?_
        | refine CmpD.no (by decide) ?_
        | refine Chk.mk ⟨rfl, trivial⟩ ?_
        | refine Chk.mk ⟨rfl, rfl, trivial⟩ ?_
        | refine Chk.mk ⟨rfl, rfl, rfl, trivial⟩ ?_
        | refine Chk.mk ⟨rfl, rfl, rfl, rfl, trivial⟩ ?_
        | refine Chk.mk ⟨rfl, rfl, rfl, rfl, rfl, trivial⟩ ?_
        | refine Chk.mk ⟨rfl, rfl, rfl, rfl, rfl, rfl, trivial⟩ ?_)
      conv => whnf
      intro bN
      repeat (first
        | refine LoadD.own 0 rfl _ rfl rfl ?_
        | refine LoadD.own 1 rfl _ rfl rfl ?_
        | refine LoadD.own 2 rfl _ rfl rfl ?_
        | refine LoadD.own 3 rfl _ rfl rfl ?_
        | refine LoadD.own 4 rfl _ rfl rfl ?_
        | refine LoadD.own 5 rfl _ rfl rfl ?_
        | refine LoadP.at 0 rfl _ rfl rfl ?_
        | refine LoadP.at 1 rfl _ rfl rfl ?_
        | refine LoadP.at 2 rfl _ rfl rfl ?_
        | refine LoadP.at 3 rfl _ rfl rfl ?_
        | refine LoadP.at 4 rfl _ rfl rfl ?_
        | refine LoadP.at 5 rfl _ rfl rfl ?_
        | refine StoreD.st 0 rfl rfl rfl ?_
        | refine StoreD.st 1 rfl rfl rfl ?_
        | refine StoreD.st 2 rfl rfl rfl ?_
        | refine StoreD.st 3 rfl rfl rfl ?_
        | refine StoreD.st 4 rfl rfl rfl ?_
        | refine StoreD.st 5 rfl rfl rfl ?_
        | refine CmpD.yes rfl ?_
        | refine CmpD.yes (by decide) ?_
        | refine CmpD.no (by decide) ?_
        | refine Chk.mk ⟨rfl, trivial⟩ ?_
        | refine Chk.mk ⟨rfl, rfl, trivial⟩ ?_
        | refine Chk.mk ⟨rfl, rfl, rfl, trivial⟩ ?_
        | refine Chk.mk ⟨rfl, rfl, rfl, rfl, trivial⟩ ?_
        | refine Chk.mk ⟨rfl, rfl, rfl, rfl, rfl, trivial⟩ ?_
        | refine Chk.mk ⟨rfl, rfl, rfl, rfl, rfl, rfl, trivial⟩ ?_)
      refine appendD tabOk rfl rfl rfl rfl rfl rfl rfl 5 rfl hG (SrcOk.slice (n := 1) (news := [.int .i64 j.next, .int .i64 (gs.length + 1 : Nat)]) tabOk rfl ((OwnC.whole (len := 1) (size := 2) rfl).slC 7 rfl) (by intro v hv; simp only [List.mem_cons, List.not_mem_nil, or_false] at hv; rcases hv with rfl | rfl <;> rfl)) rfl ?_ ?_ ?_
      · have := hG.n; rw [gCells_length] at this
        show (g.len + 1) * 16 ≤ _
        omega
      · have := hG.n; rw [gCells_length] at this
        show g.len + 1 ≤ _
        omega
      have hn0 := hj.next
      intro a2 cap2 ch2 hG2
      repeat (first
        | refine LoadD.own 0 rfl _ rfl rfl ?_
        | refine LoadD.own 1 rfl _ rfl rfl ?_
        | refine LoadD.own 2 rfl _ rfl rfl ?_
        | refine LoadD.own 3 rfl _ rfl rfl ?_
        | refine LoadD.own 4 rfl _ rfl rfl ?_
        | refine LoadD.own 5 rfl _ rfl rfl ?_
        | refine LoadD.own 6 rfl _ rfl rfl ?_
        | refine LoadD.own 7 rfl _ rfl rfl ?_
        | refine LoadP.at 0 rfl _ rfl rfl ?_
        | refine LoadP.at 1 rfl _ rfl rfl ?_
        | refine LoadP.at 2 rfl _ rfl rfl ?_
        | refine LoadP.at 3 rfl _ rfl rfl ?_
        | refine LoadP.at 4 rfl _ rfl rfl ?_
        | refine LoadP.at 5 rfl _ rfl rfl ?_
        | refine LoadP.at 6 rfl _ rfl rfl ?_
        | refine LoadP.at 7 rfl _ rfl rfl ?_
        | refine StoreD.st 0 rfl rfl rfl ?_
        | refine StoreD.st 1 rfl rfl rfl ?_
        | refine StoreD.st 2 rfl rfl rfl ?_
        | refine StoreD.st 3 rfl rfl rfl ?_
        | refine StoreD.st 4 rfl rfl rfl ?_
        | refine StoreD.st 5 rfl rfl rfl ?_
        | refine StoreD.st 6 rfl rfl rfl ?_
        | refine StoreD.st 7 rfl rfl rfl ?_
        | refine CmpD.yes rfl ?_
        | refine CmpD.yes (by decide) ?_
        | refine CmpD.no (by decide) ?_
        | refine Chk.mk ⟨rfl, trivial⟩ ?_
        | refine Chk.mk ⟨rfl, rfl, trivial⟩ ?_
        | refine Chk.mk ⟨rfl, rfl, rfl, trivial⟩ ?_
        | refine Chk.mk ⟨rfl, rfl, rfl, rfl, trivial⟩ ?_
        | refine Chk.mk ⟨rfl, rfl, rfl, rfl, rfl, trivial⟩ ?_
        | refine Chk.mk ⟨rfl, rfl, rfl, rfl, rfl, rfl, trivial⟩ ?_)
      refine ToD.i64 (show -9223372036854775808 ≤ j.next + 1 by omega) (show j.next + 1 ≤ _ by omega) ?_
      repeat (first
        | refine LoadD.own 0 rfl _ rfl rfl ?_
        | refine LoadD.own 1 rfl _ rfl rfl ?_
        | refine LoadD.own 2 rfl _ rfl rfl ?_
        | refine LoadD.own 3 rfl _ rfl rfl ?_
        | refine LoadD.own 4 rfl _ rfl rfl ?_
        | refine LoadD.own 5 rfl _ rfl rfl ?_
        | refine LoadD.own 6 rfl _ rfl rfl ?_
        | refine LoadD.own 7 rfl _ rfl rfl ?_
        | refine LoadP.at 0 rfl _ rfl rfl ?_
        | refine LoadP.at 1 rfl _ rfl rfl ?_
        | refine LoadP.at 2 rfl _ rfl rfl ?_
        | refine LoadP.at 3 rfl _ rfl rfl ?_
        | refine LoadP.at 4 rfl _ rfl rfl ?_
        | refine LoadP.at 5 rfl _ rfl rfl ?_
        | refine LoadP.at 6 rfl _ rfl rfl ?_
        | refine LoadP.at 7 rfl _ rfl rfl ?_
        | refine StoreD.st 0 rfl rfl rfl ?_
        | refine StoreD.st 1 rfl rfl rfl ?_
        | refine StoreD.st 2 rfl rfl rfl ?_
        | refine StoreD.st 3 rfl rfl rfl ?_
        | refine StoreD.st 4 rfl rfl rfl ?_
        | refine StoreD.st 5 rfl rfl rfl ?_
        | refine StoreD.st 6 rfl rfl rfl ?_
        | refine StoreD.st 7 rfl rfl rfl ?_
        | refine CmpD.yes rfl ?_
        | refine CmpD.yes (by decide) ?_
        | refine CmpD.no (by decide) ?_
        | refine Chk.mk ⟨rfl, trivial⟩ ?_
        | refine Chk.mk ⟨rfl, rfl, trivial⟩ ?_
        | refine Chk.mk ⟨rfl, rfl, rfl, trivial⟩ ?_
        | refine Chk.mk ⟨rfl, rfl, rfl, rfl, trivial⟩ ?_
        | refine Chk.mk ⟨rfl, rfl, rfl, rfl, rfl, trivial⟩ ?_
        | refine Chk.mk ⟨rfl, rfl, rfl, rfl, rfl, rfl, trivial⟩ ?_)
      refine Done.mk ?_
      refine ⟨[pBox bs (.int .i64 j.next) 3, jChunk bJ ({ j with s := s', t := t', u := u', h := h', groups := j.groups ++ [(j.next, (gs.length + 1 : Int))], next := j.next + 1 }.at bD ⟨a2, g.len + 1, cap2⟩) ++ ch2, chD'], ?_, rfl, _, _, ⟨⟨a2, g.len + 1, cap2⟩, ch2, rfl, ?_⟩, hDi, rfl⟩
      · refine (Drop.pick [3, 4, 5, 6] _ rfl).trans (Drop.flat ?_)
        simp [St.at]
        exact ⟨rfl, rfl⟩
      · rw [gCells_snoc]; exact hG2
end Go.Proofs.Ytbpdbgcndfcilaa
namespace Go.Proofs.Ytbpdbgcndfcilaa
open Go.RowKit Go.Sl
set_option maxRecDepth 20000

def JSt.appendB (j : JSt) (d : DSt) (l : List PImg) (held : Bool) : JSt × DSt × Int × Int := if j.broken then (j, d, 0, 4) else j.append d l held
set_option maxHeartbeats 1000000 in
theorem jk_Append {bJ bD : Nat} {j : JSt} {ch : List Blk} (hJ0 : Jk bJ bD j ch) (hj : j.Wf) {I : Imm} {d : DSt} {chD : List Blk} (hD : Dk I bD d chD) (hd : d.Few 900000) (hg6 : j.groups.length ≤ 900000)
    (aL : Option Addr) (capL : Nat) (gs : List Img) (hi : ImgsOk I aL gs) (hgl : gs.length ≤ 9223372036854775806) (held : Bool) :
    Tri Try.prog 14 #[.pointer (some ⟨bJ, 0, none⟩), .slice aL gs.length capL, .bool held] I [ch, chD] fun v J S' =>
      v = .tuple #[.int .i64 (j.appendB d (gs.map Img.pr) held).2.2.1, .int .i64 (j.appendB d (gs.map Img.pr) held).2.2.2] ∧ ∃ chJ chD', Jk bJ bD (j.appendB d (gs.map Img.pr) held).1 chJ ∧ Dk J bD (j.appendB d (gs.map Img.pr) held).2.1 chD' ∧ S' = [chJ, chD'] := by
  obtain ⟨g, chG, rfl, hG⟩ := hJ0
  have hm := fun bj bl br bs => jr_may4 bJ (j.at bD g) 73 bj bl br bs I [pBox bj (.pointer (some ⟨bJ, 0, none⟩)) 22, pBox bl (.slice aL gs.length capL) 47, pBox br (.bool held) 4, pBox bs (.int .i64 0) 3, jChunk bJ (j.at bD g), chG, chD] 4 rfl
    (fun hb => jk_Append1 bj bl br bs bJ bD j hj hb g chG hG d chD I hD 900000 hd (Nat.le_refl _) aL capL gs hi hgl hg6 held)
  refine Tri.lay (S2 := [jChunk bJ (j.at bD g), chG, chD]) (by simp) ?_
  refine Tri.drop ?_ (fun _ _ _ _ h => h)
  refine Tri.of (args := [.pointer (some ⟨bJ, 0, none⟩), .slice aL gs.length capL, .bool held]) tabOk Try.func14 rfl (by kernel_rfl) (by kernel_rfl) ?_
  conv => whnf
  intro b3
  conv => whnf
  intro b4
  conv => whnf
  intro b5
  conv => whnf
  intro b8
  repeat (first
    | refine LoadD.own 0 rfl _ rfl rfl ?_
    | refine LoadD.own 1 rfl _ rfl rfl ?_
    | refine LoadD.own 2 rfl _ rfl rfl ?_
    | refine LoadD.own 3 rfl _ rfl rfl ?_
    | refine LoadD.own 4 rfl _ rfl rfl ?_
    | refine LoadD.own 5 rfl _ rfl rfl ?_
    | refine LoadD.own 6 rfl _ rfl rfl ?_
    | refine LoadD.own 7 rfl _ rfl rfl ?_
    | refine LoadP.at 0 rfl _ rfl rfl ?_
    | refine LoadP.at 1 rfl _ rfl rfl ?_
    | refine LoadP.at 2 rfl _ rfl rfl ?_
    | refine LoadP.at 3 rfl _ rfl rfl ?_
    | refine LoadP.at 4 rfl _ rfl rfl ?_
    | refine LoadP.at 5 rfl _ rfl rfl ?_
    | refine LoadP.at 6 rfl _ rfl rfl ?_
    | refine LoadP.at 7 rfl _ rfl rfl ?_
    | refine StoreD.st 0 rfl rfl rfl ?_
    | refine StoreD.st 1 rfl rfl rfl ?_
    | refine StoreD.st 2 rfl rfl rfl ?_
    | refine StoreD.st 3 rfl rfl rfl ?_
    | refine StoreD.st 4 rfl rfl rfl ?_
    | refine StoreD.st 5 rfl rfl rfl ?_
    | refine StoreD.st 6 rfl rfl rfl ?_
    | refine StoreD.st 7 rfl rfl rfl ?_
    | refine CmpD.yes rfl ?_
    | refine CmpD.yes (by decide) ?_
    | refine CmpD.no (by decide) ?_
    | refine Chk.mk ⟨rfl, trivial⟩ ?_
    | refine Chk.mk ⟨rfl, rfl, trivial⟩ ?_
    | refine Chk.mk ⟨rfl, rfl, rfl, trivial⟩ ?_
    | refine Chk.mk ⟨rfl, rfl, rfl, rfl, trivial⟩ ?_
    | refine Chk.mk ⟨rfl, rfl, rfl, rfl, rfl, trivial⟩ ?_
    | refine Chk.mk ⟨rfl, rfl, rfl, rfl, rfl, rfl, trivial⟩ ?_)
  refine Tri.frameX (hm b3 b4 b5 b8) [3, 4, 5, 6, 0, 1, 2] rfl rfl ?_
  unfold JSt.appendB
  rintro v J A' hJ (⟨hb, rfl, rfl, rfl⟩ | ⟨hb, rfl, chJ, chD', h1, h2, rfl⟩)
  · refine LoadD.own 10 rfl [.int .i64 0] rfl rfl ?_
    rw [if_pos hb]
    exact Done.mk ⟨[jChunk bJ (j.at bD g) ++ chG, chD], (Drop.pick [11, 12, 13] _ rfl).trans (Drop.flat (by simp [St.at])), rfl, _, _, ⟨g, chG, rfl, hG⟩, hD, rfl⟩
  · rw [if_neg (by have hb : j.broken = false := hb; rw [hb]; simp)]
    refine LoadD.own 7 rfl [.int .i64 _] rfl rfl ?_
    exact Done.mk ⟨[chJ, chD'], (Drop.pick [8, 9] _ rfl).trans (Drop.flat (by simp [St.at])), rfl, _, _, h1, h2, rfl⟩
end Go.Proofs.Ytbpdbgcndfcilaa
namespace Go.Proofs.Ytbpdbgcndfcilaa
open Go.RowKit Go.Sl
set_option maxRecDepth 20000

def JSt.flush (j : JSt) (d : DSt) : JSt × DSt × Int := if j.broken then (j, d, 4) else if d.flush.2 ≠ 0 then ({ j with broken := true }, d.flush.1, d.flush.2) else ({ j with synced := j.next - 1 }, d.flush.1, 0)
theorem jk_Flush1 (bx bJ bD : Nat) (j : JSt) (hj : j.Wf) (hb : j.broken = false) (g : Hd) (chG : List Blk) (hG : OwnC chG 2 g.a g.len g.cap (gCells j.groups)) (d : DSt) (chD : List Blk) (I : Imm) (hD : Dk I bD d chD) :
    Tri Try.prog 84 #[.pointer (some ⟨bx, 0, none⟩)] I [pBox bx (.pointer (some ⟨bJ, 0, none⟩)) 22, jChunk bJ (j.at bD g), chG, chD] fun v J S' =>
      v = .int .i64 (j.flush d).2.2 ∧ ∃ chJ chD', Jk bJ bD (j.flush d).1 chJ ∧ Dk J bD (j.flush d).2.1 chD' ∧ S' = [chJ, chD'] := by
  have hn := hj.next
  unfold JSt.flush
  rw [if_neg (by rw [hb]; simp)]
  refine Tri.drop ?_ (fun _ _ _ _ h => h)
  refine Tri.of (args := [.pointer (some ⟨bx, 0, none⟩)]) tabOk Try.func84 rfl (by kernel_rfl) (by kernel_rfl) ?_
  refine CodeF.sched [[], [], [1], [1, 2], [1, 2, 3], [1, 2, 3, 4], [0, 1, 2, 3, 4, 5], [0, 1, 2, 3, 4, 5, 6]] [0, 1, 2, 3, 4, 5, 6, 7] (by kernel_rfl) ?_
  repeat (first
    | refine LoadD.own 0 rfl _ rfl rfl ?_
    | refine LoadD.own 1 rfl _ rfl rfl ?_
    | refine LoadD.own 2 rfl _ rfl rfl ?_
    | refine LoadD.own 3 rfl _ rfl rfl ?_
    | refine LoadP.at 0 rfl _ rfl rfl ?_
    | refine LoadP.at 1 rfl _ rfl rfl ?_
    | refine LoadP.at 2 rfl _ rfl rfl ?_
    | refine LoadP.at 3 rfl _ rfl rfl ?_
    | refine StoreD.st 0 rfl rfl rfl ?_
    | refine StoreD.st 1 rfl rfl rfl ?_
    | refine StoreD.st 2 rfl rfl rfl ?_
    | refine StoreD.st 3 rfl rfl rfl ?_
    | refine CmpD.yes rfl ?_
    | refine CmpD.yes (by decide) ?_
    | refine CmpD.no (by decide) ?_
    | refine Chk.mk ⟨rfl, trivial⟩ ?_
    | refine Chk.mk ⟨rfl, rfl, trivial⟩ ?_
    | refine Chk.mk ⟨rfl, rfl, rfl, trivial⟩ ?_
    | refine Chk.mk ⟨rfl, rfl, rfl, rfl, trivial⟩ ?_
    | refine Chk.mk ⟨rfl, rfl, rfl, rfl, rfl, trivial⟩ ?_
    | refine Chk.mk ⟨rfl, rfl, rfl, rfl, rfl, rfl, trivial⟩ ?_)
  refine Tri.frame1 3 rfl (dk_Flush hD) ?_
  rintro v J S' hJ ⟨rfl, chD', hD', rfl⟩
  refine ⟨_, rfl, ?_⟩
  repeat (first
    | refine LoadD.own 0 rfl _ rfl rfl ?_
    | refine LoadD.own 1 rfl _ rfl rfl ?_
    | refine LoadD.own 2 rfl _ rfl rfl ?_
    | refine LoadD.own 3 rfl _ rfl rfl ?_
    | refine LoadP.at 0 rfl _ rfl rfl ?_
    | refine LoadP.at 1 rfl _ rfl rfl ?_
    | refine LoadP.at 2 rfl _ rfl rfl ?_
    | refine LoadP.at 3 rfl _ rfl rfl ?_
    | refine StoreD.st 0 rfl rfl rfl ?_
    | refine StoreD.st 1 rfl rfl rfl ?_
    | refine StoreD.st 2 rfl rfl rfl ?_
    | refine StoreD.st 3 rfl rfl rfl ?_
    | refine CmpD.yes rfl ?_
    | refine CmpD.yes (by decide) ?_
    | refine CmpD.no (by decide) ?_
    | refine Chk.mk ⟨rfl, trivial⟩ ?_
    | refine Chk.mk ⟨rfl, rfl, trivial⟩ ?_
    | refine Chk.mk ⟨rfl, rfl, rfl, trivial⟩ ?_
    | refine Chk.mk ⟨rfl, rfl, rfl, rfl, trivial⟩ ?_
    | refine Chk.mk ⟨rfl, rfl, rfl, rfl, rfl, trivial⟩ ?_
    | refine Chk.mk ⟨rfl, rfl, rfl, rfl, rfl, rfl, trivial⟩ ?_)
  refine Tri.frame1 1 rfl (jr_did bJ (j.at bD g) _ J) ?_
  rintro v J S' hJ2 ⟨rfl, rfl, rfl⟩
  refine ⟨_, rfl, ?_⟩
  refine CmpD.split (fun c1 => ?_) (fun c1 => ?_)
  · rw [if_neg (by simpa using c1)]
    refine CodeF.sched [[], [], [1], [1, 2], [1, 2, 3], [1, 2, 3, 4], [0, 1, 2, 3, 4, 5], [0, 1, 2, 3, 4, 5, 6], [0, 1, 2, 3, 4, 5, 6, 7]] [0, 1, 2, 3, 4, 5, 6, 7, 8] (by kernel_rfl) ?_
    repeat (first
      | refine LoadD.own 0 rfl _ rfl rfl ?_
      | refine LoadD.own 1 rfl _ rfl rfl ?_
      | refine LoadD.own 2 rfl _ rfl rfl ?_
      | refine LoadD.own 3 rfl _ rfl rfl ?_
      | refine LoadP.at 0 rfl _ rfl rfl ?_
      | refine LoadP.at 1 rfl _ rfl rfl ?_
      | refine LoadP.at 2 rfl _ rfl rfl ?_
      | refine LoadP.at 3 rfl _ rfl rfl ?_
      | refine StoreD.st 0 rfl rfl rfl ?_
      | refine StoreD.st 1 rfl rfl rfl ?_
      | refine StoreD.st 2 rfl rfl rfl ?_
      | refine StoreD.st 3 rfl rfl rfl ?_
      | refine CmpD.yes rfl ?_
      | refine CmpD.yes (by decide) ?_
      | refine CmpD.no (by decide) ?_
      | refine Chk.mk ⟨rfl, trivial⟩ ?_
      | refine Chk.mk ⟨rfl, rfl, trivial⟩ ?_
      | refine Chk.mk ⟨rfl, rfl, rfl, trivial⟩ ?_
      | refine Chk.mk ⟨rfl, rfl, rfl, rfl, trivial⟩ ?_
      | refine Chk.mk ⟨rfl, rfl, rfl, rfl, rfl, trivial⟩ ?_
      | refine Chk.mk ⟨rfl, rfl, rfl, rfl, rfl, rfl, trivial⟩ ?_)
    refine ToD.i64 (show -9223372036854775808 ≤ j.next - 1 by omega) (show j.next - 1 ≤ _ by omega) ?_
    repeat (first
      | refine LoadD.own 0 rfl _ rfl rfl ?_
      | refine LoadD.own 1 rfl _ rfl rfl ?_
      | refine LoadD.own 2 rfl _ rfl rfl ?_
      | refine LoadD.own 3 rfl _ rfl rfl ?_
      | refine LoadP.at 0 rfl _ rfl rfl ?_
      | refine LoadP.at 1 rfl _ rfl rfl ?_
      | refine LoadP.at 2 rfl _ rfl rfl ?_
      | refine LoadP.at 3 rfl _ rfl rfl ?_
      | refine StoreD.st 0 rfl rfl rfl ?_
      | refine StoreD.st 1 rfl rfl rfl ?_
      | refine StoreD.st 2 rfl rfl rfl ?_
      | refine StoreD.st 3 rfl rfl rfl ?_
      | refine CmpD.yes rfl ?_
      | refine CmpD.yes (by decide) ?_
      | refine CmpD.no (by decide) ?_
      | refine Chk.mk ⟨rfl, trivial⟩ ?_
      | refine Chk.mk ⟨rfl, rfl, trivial⟩ ?_
      | refine Chk.mk ⟨rfl, rfl, rfl, trivial⟩ ?_
      | refine Chk.mk ⟨rfl, rfl, rfl, rfl, trivial⟩ ?_
      | refine Chk.mk ⟨rfl, rfl, rfl, rfl, rfl, trivial⟩ ?_
      | refine Chk.mk ⟨rfl, rfl, rfl, rfl, rfl, rfl, trivial⟩ ?_)
    refine Done.mk ⟨[jChunk bJ ({ j with synced := j.next - 1 }.at bD g) ++ chG, chD'], (Drop.pick [1, 2, 3] _ rfl).trans (Drop.flat ?_), rfl, _, _, ⟨g, chG, rfl, hG⟩, hD', rfl⟩
    rw [decide_eq_true c1]
    simp [St.at, hb]
    rfl
  · rw [if_pos c1]
    repeat (first
      | refine LoadD.own 0 rfl _ rfl rfl ?_
      | refine LoadD.own 1 rfl _ rfl rfl ?_
      | refine LoadD.own 2 rfl _ rfl rfl ?_
      | refine LoadD.own 3 rfl _ rfl rfl ?_
      | refine LoadP.at 0 rfl _ rfl rfl ?_
      | refine LoadP.at 1 rfl _ rfl rfl ?_
      | refine LoadP.at 2 rfl _ rfl rfl ?_
      | refine LoadP.at 3 rfl _ rfl rfl ?_
      | refine StoreD.st 0 rfl rfl rfl ?_
      | refine StoreD.st 1 rfl rfl rfl ?_
      | refine StoreD.st 2 rfl rfl rfl ?_
      | refine StoreD.st 3 rfl rfl rfl ?_
      | refine CmpD.yes rfl ?_
      | refine CmpD.yes (by decide) ?_
      | refine CmpD.no (by decide) ?_
      | refine Chk.mk ⟨rfl, trivial⟩ ?_
      | refine Chk.mk ⟨rfl, rfl, trivial⟩ ?_
      | refine Chk.mk ⟨rfl, rfl, rfl, trivial⟩ ?_
      | refine Chk.mk ⟨rfl, rfl, rfl, rfl, trivial⟩ ?_
      | refine Chk.mk ⟨rfl, rfl, rfl, rfl, rfl, trivial⟩ ?_
      | refine Chk.mk ⟨rfl, rfl, rfl, rfl, rfl, rfl, trivial⟩ ?_)
    refine Done.mk ⟨[jChunk bJ ({ j with broken := true }.at bD g) ++ chG, chD'], (Drop.pick [1, 2, 3] _ rfl).trans (Drop.flat ?_), rfl, _, _, ⟨g, chG, rfl, hG⟩, hD', rfl⟩
    rw [decide_eq_false c1]
    simp [St.at, hb]
theorem jk_Flush {bJ bD : Nat} {j : JSt} {ch : List Blk} (hJ0 : Jk bJ bD j ch) (hj : j.Wf) {I : Imm} {d : DSt} {chD : List Blk} (hD : Dk I bD d chD) :
    Tri Try.prog 18 #[.pointer (some ⟨bJ, 0, none⟩)] I [ch, chD] fun v J S' =>
      v = .int .i64 (j.flush d).2.2 ∧ ∃ chJ chD', Jk bJ bD (j.flush d).1 chJ ∧ Dk J bD (j.flush d).2.1 chD' ∧ S' = [chJ, chD'] := by
  obtain ⟨g, chG, rfl, hG⟩ := hJ0
  have hm := fun bx => jr_may1 bJ (j.at bD g) 84 bx I [pBox bx (.pointer (some ⟨bJ, 0, none⟩)) 22, jChunk bJ (j.at bD g), chG, chD] 1 rfl (fun hb => jk_Flush1 bx bJ bD j hj hb g chG hG d chD I hD)
  refine Tri.lay (S2 := [jChunk bJ (j.at bD g), chG, chD]) (by simp) ?_
  refine Tri.drop ?_ (fun _ _ _ _ h => h)
  refine Tri.of (args := [.pointer (some ⟨bJ, 0, none⟩)]) tabOk Try.func18 rfl (by kernel_rfl) (by kernel_rfl) ?_
  conv => whnf
  intro b3
  repeat (first
    | refine LoadD.own 0 rfl _ rfl rfl ?_
    | refine LoadD.own 1 rfl _ rfl rfl ?_
    | refine LoadD.own 2 rfl _ rfl rfl ?_
    | refine LoadD.own 3 rfl _ rfl rfl ?_
    | refine LoadP.at 0 rfl _ rfl rfl ?_
    | refine LoadP.at 1 rfl _ rfl rfl ?_
    | refine LoadP.at 2 rfl _ rfl rfl ?_
    | refine LoadP.at 3 rfl _ rfl rfl ?_
    | refine StoreD.st 0 rfl rfl rfl ?_
    | refine StoreD.st 1 rfl rfl rfl ?_
    | refine StoreD.st 2 rfl rfl rfl ?_
    | refine StoreD.st 3 rfl rfl rfl ?_
    | refine CmpD.yes rfl ?_
    | refine CmpD.yes (by decide) ?_
    | refine CmpD.no (by decide) ?_
    | refine Chk.mk ⟨rfl, trivial⟩ ?_
    | refine Chk.mk ⟨rfl, rfl, trivial⟩ ?_
    | refine Chk.mk ⟨rfl, rfl, rfl, trivial⟩ ?_
    | refine Chk.mk ⟨rfl, rfl, rfl, rfl, trivial⟩ ?_
    | refine Chk.mk ⟨rfl, rfl, rfl, rfl, rfl, trivial⟩ ?_
    | refine Chk.mk ⟨rfl, rfl, rfl, rfl, rfl, rfl, trivial⟩ ?_)
  refine Tri.frameX (hm b3) [3, 0, 1, 2] rfl rfl ?_
  rintro v J A' hJ (⟨hb, rfl, rfl, rfl⟩ | ⟨hb, rfl, chJ, chD', h1, h2, rfl⟩)
  · unfold JSt.flush
    rw [if_pos hb]
    exact Done.mk ⟨[jChunk bJ (j.at bD g) ++ chG, chD], (Drop.pick [5, 6, 7] _ rfl).trans (Drop.flat (by simp [St.at])), rfl, _, _, ⟨g, chG, rfl, hG⟩, hD, rfl⟩
  · exact Done.mk ⟨[chJ, chD'], (Drop.pick [4, 5] _ rfl).trans (Drop.flat (by simp [St.at])), rfl, _, _, h1, h2, rfl⟩
/-- groups let go, one by one -/
def relAll (seq : Int) : List (Int × Int) → Int → Int → Int → Int → List (Int × Int) × R5
  | [], s, t, u, h => ([], (s, t, u, h, 0))
  | g :: gs, s, t, u, h => if g.1 ≤ seq then (match dropS s t u h g.2 with
    | (s', t', u', h', e) => if e = 0 then relAll seq gs s' t' u' h' else (g :: gs, (s, t, u, h, e))) else (g :: gs, (s, t, u, h, 0))
def JSt.release (j : JSt) (seq : Int) : JSt × Int := if j.broken then (j, 4) else if j.synced < seq then (j, 2) else match relAll seq j.groups j.s j.t j.u j.h with
  | (gs, (s, t, u, h, e)) => ({ j with s := s, t := t, u := u, h := h, groups := gs }, e)
theorem dropS_mid {s t u h n : Int} (hr : Ok s t u h) {s' t' u' h' e : Int} (hp : dropS s t u h n = (s', t', u', h', e)) (he : e = 0) : Ok s' t' u' h' := by
  unfold dropS at hp
  subst he
  split at hp
  · simp at hp
  · rename_i h1
    simp only [Prod.mk.injEq] at hp
    obtain ⟨rfl, rfl, rfl, rfl, _⟩ := hp
    unfold Ok at hr h1 ⊢
    have := Int.emod_nonneg (t + n) (b := s) (by omega)
    have := Int.emod_lt_of_pos (t + n) (b := s) (by omega)
    omega
set_option maxHeartbeats 2000000 in
theorem jk_Release1 (bn bx bJ bD : Nat) (seq : Int) (j : JSt) (hj : j.Wf) (hb : j.broken = false) (g : Hd) (chG : List Blk) (hG : OwnC chG 2 g.a g.len g.cap (gCells j.groups)) (I : Imm) :
    Tri Try.prog 85 #[.pointer (some ⟨bn, 0, none⟩), .pointer (some ⟨bx, 0, none⟩)] I [pBox bn (.int .i64 seq) 3, pBox bx (.pointer (some ⟨bJ, 0, none⟩)) 22, jChunk bJ (j.at bD g), chG] fun v J S' =>
      I = J ∧ v = .int .i64 (j.release seq).2 ∧ ∃ chJ, Jk bJ bD (j.release seq).1 chJ ∧ S' = [chJ] := by
  unfold JSt.release
  rw [if_neg (by rw [hb]; simp)]
  refine Tri.drop ?_ (fun _ _ _ _ h => h)
  refine Tri.of (args := [.pointer (some ⟨bn, 0, none⟩), .pointer (some ⟨bx, 0, none⟩)]) tabOk Try.func85 rfl (by kernel_rfl) (by kernel_rfl) ?_
  refine CodeF.sched [[], [], [1], [1, 2], [1, 2, 3], [0, 1, 2, 3, 4]] [0, 1, 2, 3, 4, 5] (by kernel_rfl) ?_
  repeat (first
    | refine LoadD.own 0 rfl _ rfl rfl ?_
    | refine LoadD.own 1 rfl _ rfl rfl ?_
    | refine LoadD.own 2 rfl _ rfl rfl ?_
    | refine LoadD.own 3 rfl _ rfl rfl ?_
    | refine LoadP.at 0 rfl _ rfl rfl ?_
    | refine LoadP.at 1 rfl _ rfl rfl ?_
    | refine LoadP.at 2 rfl _ rfl rfl ?_
    | refine LoadP.at 3 rfl _ rfl rfl ?_
    | refine StoreD.st 0 rfl rfl rfl ?_
    | refine StoreD.st 1 rfl rfl rfl ?_
    | refine StoreD.st 2 rfl rfl rfl ?_
    | refine StoreD.st 3 rfl rfl rfl ?_
    | refine CmpD.yes rfl ?_
    | refine CmpD.yes (by decide) ?_
    | refine CmpD.no (by decide) ?_
    | refine Chk.mk ⟨rfl, trivial⟩ ?_
    | refine Chk.mk ⟨rfl, rfl, trivial⟩ ?_
    | refine Chk.mk ⟨rfl, rfl, rfl, trivial⟩ ?_
    | refine Chk.mk ⟨rfl, rfl, rfl, rfl, trivial⟩ ?_
    | refine Chk.mk ⟨rfl, rfl, rfl, rfl, rfl, trivial⟩ ?_
    | refine Chk.mk ⟨rfl, rfl, rfl, rfl, rfl, rfl, trivial⟩ ?_)
  refine CmpD.split (fun c1 => ?_) (fun c1 => ?_)
  · replace c1 : j.synced < seq := c1
    rw [if_pos c1]
    exact Done.mk ⟨[jChunk bJ (j.at bD g) ++ chG], (Drop.pick [2, 3] _ rfl).trans (Drop.flat (by simp [St.at])), rfl, rfl, _, ⟨g, chG, rfl, hG⟩, rfl⟩
  replace c1 : ¬ j.synced < seq := c1
  rw [if_neg c1]
  obtain ⟨W, hW⟩ : ∃ W, W = relAll seq j.groups j.s j.t j.u j.h := ⟨_, rfl⟩
  rw [← hW]
  refine CodeF.loopD [0, 1] (fun vs J' S' => ∃ (gs : List (Int × Int)) (g' : Hd) (chG' : List Blk) (s t u h : Int), gs.length ≤ 1000000 ∧ (∀ x ∈ gs, In64 x.1 ∧ In64 x.2) ∧ W = relAll seq gs s t u h ∧ Ok s t u h ∧ OwnC chG' 2 g'.a g'.len g'.cap (gCells gs) ∧ J' = I ∧
      vs = [.pointer (some ⟨bn, 0, none⟩), .pointer (some ⟨bx, 0, none⟩)] ∧
      S' = [pBox bn (.int .i64 seq) 3, pBox bx (.pointer (some ⟨bJ, 0, none⟩)) 22, jChunk bJ ({ j with s := s, t := t, u := u, h := h, groups := gs }.at bD g'), chG'])
    (fun _ _ S' => match S' with | [_, _, [(_, .cells c _ _)], _] => (match c[15]? with | some (Value.slice _ l _) => l | _ => 0) | _ => 0) ?_ ?_
  · exact ⟨_, Drop.refl _, j.groups, g, chG, j.s, j.t, j.u, j.h, hj.few, hj.groups, hW, hj.ring, hG, rfl, rfl, rfl⟩
  rintro vs gE J' S' hJ' ⟨gs, ⟨ga, gl, gc⟩, chG', s, t, u, h, hfew, hin, hWi, hr, hG', rfl, rfl, rfl⟩
  dsimp only at hG'
  have hr2 := hr
  unfold Ok at hr2
  have hgl : gs.length = gl := by have := hG'.n; rw [gCells_length] at this; omega
  refine CodeF.sched [[], [0], [0, 1], [0, 1, 2], [0, 1, 2, 3], [0, 1, 2, 3, 4], [0, 1, 2, 3, 4, 5], [0, 1, 2, 3, 4, 5, 6], [0, 1, 2, 3, 4, 5, 6, 7], [0, 1, 2, 3, 4, 5, 6, 7, 8], [0, 1, 2, 3, 4, 5, 6, 7, 8, 9], [0, 1, 2, 3, 4, 5, 6, 7, 8, 9, 10], [0, 1, 2, 3, 4, 5, 6, 7, 8, 9, 10, 11], [0, 1, 2, 3, 4, 5, 6, 7, 8, 9, 10, 11, 12], [0, 1, 2, 3, 4, 5, 6], [0, 1, 2, 3, 4, 5, 6, 7, 8, 9, 10, 11, 12, 13, 14], [0, 1, 2, 3, 4, 5, 6, 7, 8, 9, 10, 11, 12, 13, 14, 15]] [0, 1, 2, 3, 4, 5, 6, 7, 8, 9, 10, 11, 12, 13, 14, 15, 16] (by kernel_rfl) ?_
  repeat (first
    | refine LoadD.own 0 rfl _ rfl rfl ?_
    | refine LoadD.own 1 rfl _ rfl rfl ?_
    | refine LoadD.own 2 rfl _ rfl rfl ?_
    | refine LoadD.own 3 rfl _ rfl rfl ?_
    | refine LoadP.at 0 rfl _ rfl rfl ?_
    | refine LoadP.at 1 rfl _ rfl rfl ?_
    | refine LoadP.at 2 rfl _ rfl rfl ?_
    | refine LoadP.at 3 rfl _ rfl rfl ?_
    | refine StoreD.st 0 rfl rfl rfl ?_
    | refine StoreD.st 1 rfl rfl rfl ?_
    | refine StoreD.st 2 rfl rfl rfl ?_
    | refine StoreD.st 3 rfl rfl rfl ?_
    | refine CmpD.yes rfl ?_
    | refine CmpD.yes (by decide) ?_
    | refine CmpD.no (by decide) ?_
    | refine Chk.mk ⟨rfl, trivial⟩ ?_
    | refine Chk.mk ⟨rfl, rfl, trivial⟩ ?_
    | refine Chk.mk ⟨rfl, rfl, rfl, trivial⟩ ?_
    | refine Chk.mk ⟨rfl, rfl, rfl, rfl, trivial⟩ ?_
    | refine Chk.mk ⟨rfl, rfl, rfl, rfl, rfl, trivial⟩ ?_
    | refine Chk.mk ⟨rfl, rfl, rfl, rfl, rfl, rfl, trivial⟩ ?_)
  match gs, hgl, hG', hWi, hin, hfew with
  | [], hgl, hG', hWi, _, _ =>
    obtain rfl : gl = 0 := by simpa using hgl.symm
    refine CmpD.no (by show ¬ (0 : Int) < ((0 : Nat) : Int); decide) ?_
    refine Done.mk ?_
    rw [hWi, relAll]
    exact ⟨[jChunk bJ ({ j with s := s, t := t, u := u, h := h, groups := [] }.at bD ⟨ga, 0, gc⟩) ++ chG'], (Drop.pick [2, 3] _ rfl).trans (Drop.flat (by simp [St.at])), rfl, rfl, _, ⟨⟨ga, 0, gc⟩, chG', rfl, hG'⟩, rfl⟩
  | (gq, gb) :: gs, hgl, hG', hWi, hin, hfew =>
    simp only [List.length_cons] at hgl hfew
    have hi := hin (gq, gb) (by simp)
    rcases hG'.at' with q0 | ⟨bG, pre, post, TG, rfl, rfl, hpost⟩
    · have := hG'.le; omega
    have ht : ((pre ++ gCells ((gq, gb) :: gs) ++ post).drop pre.length).take 1 = [.int .i64 gq] := by
      rw [List.append_assoc, List.drop_left]; simp [gCells]
    have ht2 : ((pre ++ gCells ((gq, gb) :: gs) ++ post).drop (pre.length + 1)).take 1 = [.int .i64 gb] := by
      rw [List.append_assoc, ← List.drop_drop, List.drop_left]; simp [gCells]
    refine CmpD.yes (by show (0 : Int) < (gl : Int); omega) ?_
    repeat (first
      | refine LoadD.own 0 rfl _ rfl rfl ?_
      | refine LoadD.own 1 rfl _ rfl rfl ?_
      | refine LoadD.own 2 rfl _ rfl rfl ?_
      | refine LoadP.at 0 rfl _ rfl rfl ?_
      | refine LoadP.at 1 rfl _ rfl rfl ?_
      | refine LoadP.at 2 rfl _ rfl rfl ?_
      | refine StoreD.st 0 rfl rfl rfl ?_
      | refine StoreD.st 1 rfl rfl rfl ?_
      | refine StoreD.st 2 rfl rfl rfl ?_
      | refine CmpD.yes rfl ?_
      | refine CmpD.yes (by decide) ?_
      | refine CmpD.no (by decide) ?_
      | refine Chk.mk ⟨rfl, trivial⟩ ?_
      | refine Chk.mk ⟨rfl, rfl, trivial⟩ ?_
      | refine Chk.mk ⟨rfl, rfl, rfl, trivial⟩ ?_
      | refine Chk.mk ⟨rfl, rfl, rfl, rfl, trivial⟩ ?_
      | refine Chk.mk ⟨rfl, rfl, rfl, rfl, rfl, trivial⟩ ?_
      | refine Chk.mk ⟨rfl, rfl, rfl, rfl, rfl, rfl, trivial⟩ ?_)
    refine Chk.mk (by show (0 : Int) ≤ 0 ∧ (0 : Int) < (gl : Int); omega) ?_
    refine LoadP.at 3 rfl [.int .i64 gq] ht rfl ?_
    repeat (first
      | refine LoadD.own 0 rfl _ rfl rfl ?_
      | refine LoadD.own 1 rfl _ rfl rfl ?_
      | refine LoadD.own 2 rfl _ rfl rfl ?_
      | refine LoadP.at 0 rfl _ rfl rfl ?_
      | refine LoadP.at 1 rfl _ rfl rfl ?_
      | refine LoadP.at 2 rfl _ rfl rfl ?_
      | refine StoreD.st 0 rfl rfl rfl ?_
      | refine StoreD.st 1 rfl rfl rfl ?_
      | refine StoreD.st 2 rfl rfl rfl ?_
      | refine CmpD.yes rfl ?_
      | refine CmpD.yes (by decide) ?_
      | refine CmpD.no (by decide) ?_
      | refine Chk.mk ⟨rfl, trivial⟩ ?_
      | refine Chk.mk ⟨rfl, rfl, trivial⟩ ?_
      | refine Chk.mk ⟨rfl, rfl, rfl, trivial⟩ ?_
      | refine Chk.mk ⟨rfl, rfl, rfl, rfl, trivial⟩ ?_
      | refine Chk.mk ⟨rfl, rfl, rfl, rfl, rfl, trivial⟩ ?_
      | refine Chk.mk ⟨rfl, rfl, rfl, rfl, rfl, rfl, trivial⟩ ?_)
    refine CmpD.split (fun c2 => ?_) (fun c2 => ?_)
    rotate_left
    · refine Done.mk ?_
      rw [hWi, relAll, if_neg (by exact c2)]
      exact ⟨[jChunk bJ ({ j with s := s, t := t, u := u, h := h, groups := (gq, gb) :: gs }.at bD ⟨_, gl, gc⟩) ++ _], (Drop.pick [2, 3] _ rfl).trans (Drop.flat (by simp [St.at])), rfl, rfl, _, ⟨⟨_, gl, gc⟩, _, rfl, hG'⟩, rfl⟩
    refine CodeF.sched [[], [], [1], [1, 2], [1, 2, 3], [], [5], [5, 6], [5, 6, 7], [5, 6, 7, 8], [5, 6, 7, 8, 9], [5, 6, 7, 8, 9, 10], [1, 2, 3, 4, 5, 6, 7, 8, 9, 10, 11], [1, 2, 3, 4, 5, 6, 7, 8, 9, 10, 11, 12], [1, 2, 3, 4, 5, 6, 7, 8, 9, 10, 11, 12], [0, 1, 2, 3, 4, 5, 6, 7, 8, 9, 10, 11, 12, 13, 14], [0, 1, 2, 3, 4, 5, 6, 7, 8, 9, 10, 11, 12, 13, 14, 15]] [0, 1, 2, 3, 4, 5, 6, 7, 8, 9, 10, 11, 12, 13, 14, 15, 16] (by kernel_rfl) ?_
    repeat (first
      | refine LoadD.own 0 rfl _ rfl rfl ?_
      | refine LoadD.own 1 rfl _ rfl rfl ?_
      | refine LoadD.own 2 rfl _ rfl rfl ?_
      | refine LoadP.at 0 rfl _ rfl rfl ?_
      | refine LoadP.at 1 rfl _ rfl rfl ?_
      | refine LoadP.at 2 rfl _ rfl rfl ?_
      | refine StoreD.st 0 rfl rfl rfl ?_
      | refine StoreD.st 1 rfl rfl rfl ?_
      | refine StoreD.st 2 rfl rfl rfl ?_
      | refine CmpD.yes rfl ?_
      | refine CmpD.yes (by decide) ?_
      | refine CmpD.no (by decide) ?_
      | refine Chk.mk ⟨rfl, trivial⟩ ?_
      | refine Chk.mk ⟨rfl, rfl, trivial⟩ ?_
      | refine Chk.mk ⟨rfl, rfl, rfl, trivial⟩ ?_
      | refine Chk.mk ⟨rfl, rfl, rfl, rfl, trivial⟩ ?_
      | refine Chk.mk ⟨rfl, rfl, rfl, rfl, rfl, trivial⟩ ?_
      | refine Chk.mk ⟨rfl, rfl, rfl, rfl, rfl, rfl, trivial⟩ ?_)
    refine Chk.mk (by show (0 : Int) ≤ 0 ∧ (0 : Int) < (gl : Int); omega) ?_
    refine LoadP.at 3 rfl [.int .i64 gb] ht2 rfl ?_
    refine Tri.free (ring_Drop s t u h gb J' (by unfold In64; omega) (by unfold In64; omega) (by unfold In64; omega) (by unfold In64; omega) hi.2) ?_
    rintro v J2 _ hJ2 ⟨⟨s', t', u', h', e', rfl, hd⟩, rfl⟩
    repeat (first
      | refine LoadD.own 0 rfl _ rfl rfl ?_
      | refine LoadD.own 1 rfl _ rfl rfl ?_
      | refine LoadD.own 2 rfl _ rfl rfl ?_
      | refine LoadP.at 0 rfl _ rfl rfl ?_
      | refine LoadP.at 1 rfl _ rfl rfl ?_
      | refine LoadP.at 2 rfl _ rfl rfl ?_
      | refine StoreD.st 0 rfl rfl rfl ?_
      | refine StoreD.st 1 rfl rfl rfl ?_
      | refine StoreD.st 2 rfl rfl rfl ?_
      | refine CmpD.yes rfl ?_
      | refine CmpD.yes (by decide) ?_
      | refine CmpD.no (by decide) ?_
      | refine Chk.mk ⟨rfl, trivial⟩ ?_
      | refine Chk.mk ⟨rfl, rfl, trivial⟩ ?_
      | refine Chk.mk ⟨rfl, rfl, rfl, trivial⟩ ?_
      | refine Chk.mk ⟨rfl, rfl, rfl, rfl, trivial⟩ ?_
      | refine Chk.mk ⟨rfl, rfl, rfl, rfl, rfl, trivial⟩ ?_
      | refine Chk.mk ⟨rfl, rfl, rfl, rfl, rfl, rfl, trivial⟩ ?_)
    refine Tri.frame1 2 rfl (jr_turned bJ ({ j with s := s, t := t, u := u, h := h, groups := (gq, gb) :: gs }.at bD ⟨some ⟨bG, pre.length, none⟩, gl, gc⟩) s' t' u' h' e' J') ?_
    rintro v J3 S' hJ3 ⟨rfl, rfl, rfl⟩
    refine ⟨_, rfl, ?_⟩
    rw [relAll, if_pos (by exact c2), hd] at hWi
    dsimp only at hWi
    refine CmpD.split (fun c3 => ?_) (fun c3 => ?_)
    rotate_left
    · repeat (first
        | refine LoadD.own 0 rfl _ rfl rfl ?_
        | refine LoadD.own 1 rfl _ rfl rfl ?_
        | refine LoadD.own 2 rfl _ rfl rfl ?_
        | refine LoadP.at 0 rfl _ rfl rfl ?_
        | refine LoadP.at 1 rfl _ rfl rfl ?_
        | refine LoadP.at 2 rfl _ rfl rfl ?_
        | refine StoreD.st 0 rfl rfl rfl ?_
        | refine StoreD.st 1 rfl rfl rfl ?_
        | refine StoreD.st 2 rfl rfl rfl ?_
        | refine CmpD.yes rfl ?_
        | refine CmpD.yes (by decide) ?_
        | refine CmpD.no (by decide) ?_
        | refine Chk.mk ⟨rfl, trivial⟩ ?_
        | refine Chk.mk ⟨rfl, rfl, trivial⟩ ?_
        | refine Chk.mk ⟨rfl, rfl, rfl, trivial⟩ ?_
        | refine Chk.mk ⟨rfl, rfl, rfl, rfl, trivial⟩ ?_
        | refine Chk.mk ⟨rfl, rfl, rfl, rfl, rfl, trivial⟩ ?_
        | refine Chk.mk ⟨rfl, rfl, rfl, rfl, rfl, rfl, trivial⟩ ?_)
      refine Done.mk ?_
      rw [hWi, if_neg c3, if_neg c3]
      exact ⟨[jChunk bJ ({ j with s := s, t := t, u := u, h := h, groups := (gq, gb) :: gs }.at bD ⟨_, gl, gc⟩) ++ _], (Drop.pick [2, 3] _ rfl).trans (Drop.flat (by simp [St.at])), rfl, rfl, _, ⟨⟨_, gl, gc⟩, _, rfl, hG'⟩, rfl⟩
    rw [if_pos c3] at hWi ⊢
    have hr3 := dropS_mid hr hd c3
    refine CodeF.sched [[], [], [1], [1, 2], [1, 2, 3], [1, 2, 3, 4], [0, 1, 2, 3, 4, 5], [0, 1, 2, 3, 4, 5, 6], [0, 1, 2, 3, 4, 5, 6, 7]] [0, 1, 2, 3, 4, 5, 6, 7, 8] (by kernel_rfl) ?_
    repeat (first
      | refine LoadD.own 0 rfl _ rfl rfl ?_
      | refine LoadD.own 1 rfl _ rfl rfl ?_
      | refine LoadD.own 2 rfl _ rfl rfl ?_
      | refine LoadP.at 0 rfl _ rfl rfl ?_
      | refine LoadP.at 1 rfl _ rfl rfl ?_
      | refine LoadP.at 2 rfl _ rfl rfl ?_
      | refine StoreD.st 0 rfl rfl rfl ?_
      | refine StoreD.st 1 rfl rfl rfl ?_
      | refine StoreD.st 2 rfl rfl rfl ?_
      | refine CmpD.yes rfl ?_
      | refine CmpD.yes (by decide) ?_
      | refine CmpD.no (by decide) ?_
      | refine Chk.mk ⟨rfl, trivial⟩ ?_
      | refine Chk.mk ⟨rfl, rfl, trivial⟩ ?_
      | refine Chk.mk ⟨rfl, rfl, rfl, trivial⟩ ?_
      | refine Chk.mk ⟨rfl, rfl, rfl, rfl, trivial⟩ ?_
      | refine Chk.mk ⟨rfl, rfl, rfl, rfl, rfl, trivial⟩ ?_
      | refine Chk.mk ⟨rfl, rfl, rfl, rfl, rfl, rfl, trivial⟩ ?_)
    refine sliceD tabOk rfl rfl rfl rfl 1 gl gc ⟨_, rfl⟩ rfl rfl (.inl rfl) ⟨by omega, hG'.le, Nat.le_refl _⟩ ?_
    have hp := hG'.part 1 gl (by omega) (Nat.le_refl _)
    have e2 : ((gCells ((gq, gb) :: gs)).drop (1 * 2)).take ((gl - 1) * 2) = gCells gs := by
      have e : gCells ((gq, gb) :: gs) = [.int .i64 gq, .int .i64 gb] ++ gCells gs := by simp [gCells]
      rw [e]
      show (gCells gs).take _ = _
      exact List.take_of_length_le (by rw [gCells_length]; omega)
    rw [e2] at hp
    repeat (first
      | refine LoadD.own 0 rfl _ rfl rfl ?_
      | refine LoadD.own 1 rfl _ rfl rfl ?_
      | refine LoadD.own 2 rfl _ rfl rfl ?_
      | refine LoadP.at 0 rfl _ rfl rfl ?_
      | refine LoadP.at 1 rfl _ rfl rfl ?_
      | refine LoadP.at 2 rfl _ rfl rfl ?_
      | refine StoreD.st 0 rfl rfl rfl ?_
      | refine StoreD.st 1 rfl rfl rfl ?_
      | refine StoreD.st 2 rfl rfl rfl ?_
      | refine CmpD.yes rfl ?_
      | refine CmpD.yes (by decide) ?_
      | refine CmpD.no (by decide) ?_
      | refine Chk.mk ⟨rfl, trivial⟩ ?_
      | refine Chk.mk ⟨rfl, rfl, trivial⟩ ?_
      | refine Chk.mk ⟨rfl, rfl, rfl, trivial⟩ ?_
      | refine Chk.mk ⟨rfl, rfl, rfl, rfl, trivial⟩ ?_
      | refine Chk.mk ⟨rfl, rfl, rfl, rfl, rfl, trivial⟩ ?_
      | refine Chk.mk ⟨rfl, rfl, rfl, rfl, rfl, rfl, trivial⟩ ?_)
    refine ⟨[pBox bn (.int .i64 seq) 3, pBox bx (.pointer (some ⟨bJ, 0, none⟩)) 22, jChunk bJ ({ j with s := s', t := t', u := u', h := h', groups := gs }.at bD ⟨slAddr (some ⟨bG, pre.length, none⟩) 1 gc 2, gl - 1, gc - 1⟩), [(bG, row (pre ++ gCells ((gq, gb) :: gs) ++ post) TG)]], Drop.refl _, ⟨gs, ⟨_, _, _⟩, _, s', t', u', h', by omega, fun x hx => hin x (by simp [hx]), hWi, hr3, hp, rfl, rfl, rfl⟩, ?_⟩
    show gl - 1 < gl
    omega
theorem jk_Release {bJ bD : Nat} {j : JSt} {ch : List Blk} (hJ0 : Jk bJ bD j ch) (hj : j.Wf) (seq : Int) (I : Imm) :
    Tri Try.prog 19 #[.pointer (some ⟨bJ, 0, none⟩), .int .i64 seq] I [ch] fun v J S' =>
      I = J ∧ v = .int .i64 (j.release seq).2 ∧ ∃ chJ, Jk bJ bD (j.release seq).1 chJ ∧ S' = [chJ] := by
  obtain ⟨g, chG, rfl, hG⟩ := hJ0
  have hm := fun bn bx => jr_may2 bJ (j.at bD g) 85 bn bx I [pBox bn (.int .i64 seq) 3, pBox bx (.pointer (some ⟨bJ, 0, none⟩)) 22, jChunk bJ (j.at bD g), chG] 2 rfl (fun hb => jk_Release1 bn bx bJ bD seq j hj hb g chG hG I)
  refine Tri.lay (S2 := [jChunk bJ (j.at bD g), chG]) (by simp) ?_
  refine Tri.drop ?_ (fun _ _ _ _ h => h)
  refine Tri.of (args := [.pointer (some ⟨bJ, 0, none⟩), .int .i64 seq]) tabOk Try.func19 rfl (by kernel_rfl) (by kernel_rfl) ?_
  conv => whnf
  intro bx
  conv => whnf
  intro bn
  repeat (first
    | refine LoadD.own 0 rfl _ rfl rfl ?_
    | refine LoadD.own 1 rfl _ rfl rfl ?_
    | refine LoadD.own 2 rfl _ rfl rfl ?_
    | refine LoadD.own 3 rfl _ rfl rfl ?_
    | refine LoadP.at 0 rfl _ rfl rfl ?_
    | refine LoadP.at 1 rfl _ rfl rfl ?_
    | refine LoadP.at 2 rfl _ rfl rfl ?_
    | refine LoadP.at 3 rfl _ rfl rfl ?_
    | refine StoreD.st 0 rfl rfl rfl ?_
    | refine StoreD.st 1 rfl rfl rfl ?_
    | refine StoreD.st 2 rfl rfl rfl ?_
    | refine StoreD.st 3 rfl rfl rfl ?_
    | refine CmpD.yes rfl ?_
    | refine CmpD.yes (by decide) ?_
    | refine CmpD.no (by decide) ?_
    | refine Chk.mk ⟨rfl, trivial⟩ ?_
    | refine Chk.mk ⟨rfl, rfl, trivial⟩ ?_
    | refine Chk.mk ⟨rfl, rfl, rfl, trivial⟩ ?_
    | refine Chk.mk ⟨rfl, rfl, rfl, rfl, trivial⟩ ?_
    | refine Chk.mk ⟨rfl, rfl, rfl, rfl, rfl, trivial⟩ ?_
    | refine Chk.mk ⟨rfl, rfl, rfl, rfl, rfl, rfl, trivial⟩ ?_)
  refine Tri.frameX (hm bn bx) [3, 2, 0, 1] rfl rfl ?_
  rintro v J A' hJ (⟨hb, rfl, rfl, rfl⟩ | ⟨hb, rfl, rfl, chJ, h1, rfl⟩)
  · unfold JSt.release
    rw [if_pos hb]
    exact Done.mk ⟨[jChunk bJ (j.at bD g) ++ chG], (Drop.pick [6, 7] _ rfl).trans (Drop.flat (by simp [St.at])), rfl, rfl, _, ⟨g, chG, rfl, hG⟩, rfl⟩
  · exact Done.mk ⟨[chJ], (Drop.pick [4] _ rfl).trans (Drop.flat (by simp [St.at])), rfl, rfl, _, h1, rfl⟩
def firstOf (n : Int) : List (Int × Int) → Int
  | [] => n
  | g :: _ => g.1
theorem jk_Tail {bJ bD : Nat} {j : JSt} {ch : List Blk} (hJ0 : Jk bJ bD j ch) (I : Imm) :
    Tri Try.prog 15 #[.pointer (some ⟨bJ, 0, none⟩)] I [ch] fun v J S' => v = .tuple #[.int .i64 j.t, .int .i64 (firstOf j.next j.groups)] ∧ I = J ∧ S' = [ch] := by
  obtain ⟨g, chG, rfl, hG⟩ := hJ0
  refine Tri.abs (S2 := [jChunk bJ (j.at bD g), chG]) (by simp) (jr_Tail bJ (j.at bD g) chG j.groups hG I) ?_
  rintro v J S' hJ ⟨rfl, rfl, rfl⟩
  refine ⟨[jChunk bJ (j.at bD g) ++ chG], Drop.flat (by simp), ?_, rfl, rfl⟩
  obtain ⟨lay, s, t, u, h, ep, nx, sy, gs, br⟩ := j
  cases gs <;> rfl
theorem jk_Groups {bJ bD : Nat} {j : JSt} {ch : List Blk} (hJ0 : Jk bJ bD j ch) (hj : j.Wf) (I : Imm) :
    Tri Try.prog 22 #[.pointer (some ⟨bJ, 0, none⟩)] I [ch] fun v J S' => ∃ a cap chQ, v = .slice a j.groups.length cap ∧ OwnC chQ 1 a j.groups.length cap (ints (j.groups.map Prod.fst)) ∧ I = J ∧ S' = [ch, chQ] := by
  obtain ⟨g, chG, rfl, hG⟩ := hJ0
  have hgl : j.groups.length = g.len := by have := hG.n; rw [gCells_length] at this; omega
  refine Tri.abs (S2 := [jChunk bJ (j.at bD g), chG]) (by simp) (jr_Groups bJ (j.at bD g) chG j.groups (by show g.len ≤ _; have := hj.few; omega) hG I) ?_
  rintro v J S' hJ ⟨a, cap, chQ, rfl, h1, rfl, rfl⟩
  rw [hgl]
  exact ⟨[jChunk bJ (j.at bD g) ++ chG, chQ], Drop.flat (by simp), a, cap, chQ, rfl, h1, rfl, rfl⟩
end Go.Proofs.Ytbpdbgcndfcilaa
namespace Go.Proofs.Ytbpdbgcndfcilaa
open Go.RowKit Go.Sl
set_option maxRecDepth 20000

def openJ (n : Nat) (epoch seq tail : Int) : JSt := ⟨layOf n, layL n, tail, 0, 0, epoch, seq, seq - 1, [], false⟩
def OpenOk (n : Nat) (x : Lay) (epoch seq tail : Int) : Prop := x = layOf n ∧ 1 ≤ epoch ∧ epoch ≤ 8388608 ∧ 1 ≤ seq ∧ seq ≤ 549755813888 ∧ 0 ≤ tail ∧ tail < layL n
theorem jk_Open {I : Imm} {bD : Nat} {st : DSt} {ch : List Blk} (h : Dk I bD st ch) (n : Nat) (hn : st.now.length = n) (hn2 : 64 ≤ n) (x : Lay) (epoch seq tail : Int) (hseq : In64 seq) :
    Tri Try.prog 30 #[.pointer (some ⟨bD, 0, none⟩), x.v, .int .i64 epoch, .int .i64 seq, .int .i64 tail] I [ch] fun v J S' =>
      (¬ OpenOk n x epoch seq tail ∧ v = .tuple #[.pointer none, .int .i64 2] ∧ I = J ∧ S' = [ch]) ∨
      (OpenOk n x epoch seq tail ∧ I = J ∧ ∃ bJ chJ, v = .tuple #[.pointer (some ⟨bJ, 0, none⟩), .int .i64 0] ∧ Jk bJ bD (openJ n epoch seq tail) chJ ∧ S' = [ch, chJ]) := by
  obtain ⟨hw, d, chS, chN, chW, bS, bN, bW, rfl, hD, q1, q2, q3, q4, q5, q6, q7⟩ := h
  have hl := hD.hN.len1
  have hl' : st.now.length = d.now.len := by rw [← q2]; simpa using hl
  have hr := hw.range
  refine Tri.abs (S2 := [dChunk bD d, chS ++ (chN ++ chW)]) (by simp) (Tri.frameX (jr_Open bD d n (by omega) (by omega) x epoch seq tail hseq I) [0] rfl rfl (K := fun v J S' => (¬ OpenOk n x epoch seq tail ∧ v = .tuple #[.pointer none, .int .i64 2] ∧ I = J ∧ Drop S' [dChunk bD d ++ (chS ++ (chN ++ chW))]) ∨
      (OpenOk n x epoch seq tail ∧ I = J ∧ ∃ bJ chJ, v = .tuple #[.pointer (some ⟨bJ, 0, none⟩), .int .i64 0] ∧ Jk bJ bD (openJ n epoch seq tail) chJ ∧ Drop S' [dChunk bD d ++ (chS ++ (chN ++ chW)), chJ])) ?_) ?_
  · rintro v J S' hJ (⟨c, rfl, rfl, rfl⟩ | ⟨c1, c2, c3, c4, c5, c6, c7, rfl, bJ, rfl, rfl⟩)
    · exact .inl ⟨c, rfl, rfl, (Drop.pick [2, 1] _ rfl).trans (Drop.flat (by simp [St.at]))⟩
    · refine .inr ⟨⟨c1, c2, c3, c4, c5, c6, c7⟩, rfl, bJ, _, rfl, ⟨⟨none, 0, 0⟩, [], ?_, OwnC.nil _ _⟩, (Drop.pick [2, 1, 3] _ rfl).trans (Drop.flat (by simp [St.at]; rfl))⟩
      rw [List.append_nil, c1]; rfl
  · rintro v J S' hJ (⟨c, rfl, rfl, hd⟩ | ⟨c, rfl, bJ, chJ, rfl, hj, hd⟩)
    · exact ⟨_, hd, .inl ⟨c, rfl, rfl, rfl⟩⟩
    · exact ⟨_, hd, .inr ⟨c, rfl, bJ, chJ, rfl, hj, rfl⟩⟩
theorem layL_64' : layL ((64 : Nat) : Int) = 16 := by decide
theorem openJ_wf (n : Nat) (hn : 64 ≤ n ∧ n ≤ 512) {epoch seq tail : Int} (h : OpenOk n (layOf n) epoch seq tail) : (openJ n epoch seq tail).Wf := by
  obtain ⟨_, h1, h2, h3, h4, h5, h6⟩ := h
  have := layL_range (n := (n : Int)) (by omega)
  refine ⟨rfl, ?_, ?_, ?_, ?_, by simp [openJ], by simp [openJ]⟩
  · unfold Ok; show 1 ≤ layL n ∧ layL n ≤ 512 ∧ 0 ≤ tail ∧ tail < layL n ∧ (0 : Int) ≤ 0 ∧ (0 : Int) ≤ 0 ∧ (0 : Int) + 0 ≤ layL n; omega
  · show In64 epoch; unfold In64; omega
  · show 1 ≤ seq ∧ seq ≤ 549755813889; omega
  · show 0 ≤ seq - 1 ∧ seq - 1 < seq; omega
theorem law_open (tail : Int) (ht : 0 ≤ tail ∧ tail < 16) (I : Imm) :
    Tri Try.prog 26 #[.int .i64 tail] I [] fun v J S' => ∃ bD bJ chD chJ, v = .tuple #[.pointer (some ⟨bD, 0, none⟩), .pointer (some ⟨bJ, 0, none⟩), .bool true] ∧ Dk J bD (DSt.of (List.replicate 64 noughts)) chD ∧ Jk bJ bD (openJ 64 1 1 tail) chJ ∧ S' = [chD, chJ] := by
  refine Tri.drop ?_ (fun _ _ _ _ h => h)
  refine Tri.of (args := [.int .i64 tail]) tabOk Try.func26 rfl (by kernel_rfl) (by kernel_rfl) ?_
  refine Tri.frameX (dk_New I 64 (by omega)) [] rfl rfl ?_
  rintro v J A' hJ ⟨bD, chD, rfl, hD, rfl⟩
  refine Tri.free (ref_Of ((64 : Nat) : Int) J) ?_
  rintro v J2 _ hJ2 ⟨rfl, rfl⟩
  rw [layA, if_neg (by omega)]
  conv => whnf
  intro b7
  repeat (first
    | refine LoadD.own 0 rfl _ rfl rfl ?_
    | refine LoadD.own 1 rfl _ rfl rfl ?_
    | refine LoadD.own 2 rfl _ rfl rfl ?_
    | refine LoadP.at 0 rfl _ rfl rfl ?_
    | refine LoadP.at 1 rfl _ rfl rfl ?_
    | refine LoadP.at 2 rfl _ rfl rfl ?_
    | refine StoreD.st 0 rfl rfl rfl ?_
    | refine StoreD.st 1 rfl rfl rfl ?_
    | refine StoreD.st 2 rfl rfl rfl ?_
    | refine CmpD.yes rfl ?_
    | refine CmpD.yes (by decide) ?_
    | refine CmpD.no (by decide) ?_
    | refine Chk.mk ⟨rfl, trivial⟩ ?_
    | refine Chk.mk ⟨rfl, rfl, trivial⟩ ?_
    | refine Chk.mk ⟨rfl, rfl, rfl, trivial⟩ ?_
    | refine Chk.mk ⟨rfl, rfl, rfl, rfl, trivial⟩ ?_
    | refine Chk.mk ⟨rfl, rfl, rfl, rfl, rfl, trivial⟩ ?_
    | refine Chk.mk ⟨rfl, rfl, rfl, rfl, rfl, rfl, trivial⟩ ?_)
  refine Tri.frameX (jk_Open hD 64 (List.length_replicate ..) (by omega) (layOf ((64 : Nat) : Int)) 1 1 tail (by unfold In64; omega)) [0] rfl rfl ?_
  rintro v J3 A' hJ3 (⟨h, _⟩ | ⟨_, rfl, bJ, chJ, rfl, hj, rfl⟩)
  · exact absurd ⟨rfl, by omega, by omega, by omega, by omega, by omega, by rw [layL_64']; omega⟩ h
  repeat (first
    | refine LoadD.own 0 rfl _ rfl rfl ?_
    | refine LoadD.own 1 rfl _ rfl rfl ?_
    | refine LoadD.own 2 rfl _ rfl rfl ?_
    | refine LoadP.at 0 rfl _ rfl rfl ?_
    | refine LoadP.at 1 rfl _ rfl rfl ?_
    | refine LoadP.at 2 rfl _ rfl rfl ?_
    | refine StoreD.st 0 rfl rfl rfl ?_
    | refine StoreD.st 1 rfl rfl rfl ?_
    | refine StoreD.st 2 rfl rfl rfl ?_
    | refine CmpD.yes rfl ?_
    | refine CmpD.yes (by decide) ?_
    | refine CmpD.no (by decide) ?_
    | refine Chk.mk ⟨rfl, trivial⟩ ?_
    | refine Chk.mk ⟨rfl, rfl, trivial⟩ ?_
    | refine Chk.mk ⟨rfl, rfl, rfl, trivial⟩ ?_
    | refine Chk.mk ⟨rfl, rfl, rfl, rfl, trivial⟩ ?_
    | refine Chk.mk ⟨rfl, rfl, rfl, rfl, rfl, trivial⟩ ?_
    | refine Chk.mk ⟨rfl, rfl, rfl, rfl, rfl, rfl, trivial⟩ ?_)
  exact Done.mk ⟨[chD, chJ], Drop.pick [2, 3] _ rfl, bD, bJ, chD, chJ, rfl, hD, hj, rfl⟩

/-! ### where nothing fails -/
def DSt.Calm (d : DSt) : Prop := d.down = false ∧ d.arm.on = false ∧ d.fault.on = false
theorem DSt.stop_calm {d : DSt} (h : d.Calm) : d.stop = (d, 0) := by
  obtain ⟨safe, now, ws, c, dn, ⟨a1, a2⟩, ⟨f1, f2⟩⟩ := d
  obtain ⟨h1, h2, h3⟩ := h
  simp only at h1 h2 h3
  subst h1 h2 h3
  rfl
def DSt.put (d : DSt) (n : Int) (b : Dat) : DSt := { d with now := d.now.set n.toNat b, writes := d.writes ++ [(n, b)], count := d.count + 1 }
theorem DSt.write_calm {d : DSt} (h : d.Calm) {n : Int} {b : Dat} (hn : 0 ≤ n ∧ n < d.now.length) (hb : b.length = 4096) : d.write n b = (d.put n b, 0) := by
  unfold DSt.write
  have hw : wrongE d.now.length n = 0 := (wrongE_dec _ (by omega) n).2 hn
  rw [if_neg (by omega), if_neg (by omega), DSt.stop_calm h, if_neg (by simp)]
  rfl
theorem DSt.Calm.put {d : DSt} (h : d.Calm) (n : Int) (b : Dat) : (d.put n b).Calm := h
theorem DSt.put_len (d : DSt) (n : Int) (b : Dat) : (d.put n b).now.length = d.now.length := by simp [DSt.put]
def wrD (f : Nat → Int) : List Dat → Nat → DSt → DSt
  | [], _, d => d
  | b :: bs, i, d => wrD f bs (i + 1) (d.put (f i) b)
theorem wrAll_calm (f : Nat → Int) : ∀ (bs : List Dat) (i : Nat) (d : DSt), d.Calm → (∀ b ∈ bs, b.length = 4096) → (∀ k, 0 ≤ f k ∧ f k < d.now.length) → wrAll f bs i d = (wrD f bs i d, 0)
  | [], _, _, _, _, _ => rfl
  | b :: bs, i, d, hc, hb, hf => by
    rw [wrAll, DSt.write_calm hc (hf i) (hb b (by simp)), if_neg (by simp), wrD]
    exact wrAll_calm f bs (i + 1) _ (hc.put _ _) (fun x hx => hb x (by simp [hx])) (by rw [DSt.put_len]; exact hf)
theorem wrD_calm (f : Nat → Int) : ∀ (bs : List Dat) (i : Nat) (d : DSt), d.Calm → (wrD f bs i d).Calm
  | [], _, _, h => h
  | _ :: bs, i, _, h => wrD_calm f bs (i + 1) _ (h.put _ _)
theorem wrD_len (f : Nat → Int) : ∀ (bs : List Dat) (i : Nat) (d : DSt), (wrD f bs i d).now.length = d.now.length
  | [], _, _ => rfl
  | b :: bs, i, d => by rw [wrD, wrD_len f bs, DSt.put_len]
theorem wrD_writes (f : Nat → Int) : ∀ (bs : List Dat) (i : Nat) (d : DSt), (wrD f bs i d).writes.map Prod.fst = d.writes.map Prod.fst ++ (List.range bs.length).map fun k => f (i + k)
  | [], _, _ => by simp [wrD]
  | b :: bs, i, d => by
    rw [wrD, wrD_writes f bs]
    simp only [DSt.put, List.map_append, List.map_cons, List.map_nil, List.append_assoc, List.length_cons, List.range_succ_eq_map, List.map_map, List.singleton_append, Nat.add_zero]
    congr 2
    apply List.map_congr_left
    intro k _
    show f (i + 1 + k) = f (i + (k + 1))
    congr 1; omega
theorem wrD_few (f : Nat → Int) : ∀ (bs : List Dat) (i : Nat) (d : DSt) (k : Nat), d.Few k → (wrD f bs i d).Few (k + bs.length)
  | [], _, _, _, h => h
  | b :: bs, i, d, k, h => by
    have : (d.put (f i) b).Few (k + 1) := by
      obtain ⟨h1, h2, h3⟩ := h
      exact ⟨by show (d.writes ++ [_]).length ≤ _; simp; omega, by show 0 ≤ d.count + 1; omega, by show d.count + 1 ≤ _; omega⟩
    have := wrD_few f bs (i + 1) _ _ this
    rw [wrD, List.length_cons]
    exact this.mono (by omega)
theorem sprK_length {m l : List UInt8} (hm : m.length = 8) : ∀ k, k * 504 ≤ l.length → (sprK m l k).length = 512 * k
  | 0, _ => by rw [sprK_zero]; rfl
  | k + 1, h => by
    rw [sprK_succ, List.length_append, List.length_append, sprK_length hm k (by omega), List.length_take, List.length_drop, hm]
    omega
theorem hidP_length : ∀ (l : List PImg), (∀ g ∈ l, g.2.length = 4096) → (hidP l).length = 66 * l.length
  | [], _ => rfl
  | g :: l, h => by
    have e : hidP (g :: l) = be g.1.toNat 2 ++ hidK g.2 8 ++ hidP l := by simp [hidP]
    have := h g (by simp)
    rw [e, List.length_append, List.length_append, be_length, hidK_length _ _ (by omega) (by omega), hidP_length l (fun x hx => h x (by simp [hx])), List.length_cons]
    omega
theorem putP_len {e s : Nat} {l : List PImg} (hl : l.length ≤ 32) (h : ∀ g ∈ l, g.2.length = 4096) : ∀ b ∈ putP e s l, b.length = 4096 := by
  have hlist : (listP l).length = 4026 := by
    rw [listP, List.length_append, hidP_length l h, List.length_replicate]; omega
  have hhead : (headP l).length = 4032 := by rw [headP, List.length_append, List.length_append, be_length, be_length, hlist]
  intro b hb
  rcases List.mem_cons.1 hb with rfl | hb
  · rw [sprK_length (stampB_length _ _) 8 (by omega)]
  · obtain ⟨g, hg, rfl⟩ := List.mem_map.1 hb
    have := h g hg
    rw [markK_length (stampB_length _ _) 8 (by omega) (by omega)]; exact this
/-- a group that fits is appended -/
theorem JSt.append_calm {j : JSt} {d : DSt} {l : List PImg} {held : Bool} (hb : j.broken = false) (hR : RightP j.epoch j.next l) (hs : (l.length : Int) + 1 ≤ j.s) (hlog : j.lay.l = 2) (hd : d.Calm) (hlen : j.s + 2 ≤ d.now.length)
    {t u h at_ : Int} (hp : putS j.s j.t j.u j.h (l.length + 1) (if held then l.length + 1 else 0) = ((j.s, t, u, h, 0), at_)) :
    j.appendB d l held = ({ j with t := t, u := u, h := h, groups := j.groups ++ [(j.next, (l.length + 1 : Int))], next := j.next + 1 }, wrD (fun i => 2 + (at_ + i) % j.s) (putP j.epoch.toNat j.next.toNat l) 0 d, j.next, 0) := by
  unfold JSt.appendB JSt.append
  rw [if_neg (by simp [hb]), if_neg (by simpa using hR), if_neg (by omega), hp]
  dsimp only
  rw [if_neg (by simp), hlog, wrAll_calm _ _ _ _ hd (putP_len hR.2.2.2.2.2.1 fun g hg => (hR.2.2.2.2.2.2.1 g hg).2.2)]
  · dsimp only
    rw [if_neg (by simp)]
  · intro k
    have := Int.emod_nonneg (at_ + k) (b := j.s) (by omega)
    have := Int.emod_lt_of_pos (at_ + k) (b := j.s) (by omega)
    omega
theorem right_row {e s : Int} (h1 : 1 ≤ e ∧ e ≤ 8388608) (h2 : 1 ≤ s ∧ s ≤ 549755813888) (k : Nat) (hk : 1 ≤ k ∧ k ≤ 32) (n : Int) : RightP e s (imgsP (rowL k) n 0) := by
  have hl : (rowL k).length = k := by simp [rowL]
  refine ⟨h1.1, h1.2, h2.1, h2.2, by rw [imgsP_length, hl]; omega, by rw [imgsP_length, hl]; omega, ?_, ?_⟩
  · intro g hg
    have h3 := imgsP_snd _ _ _ g hg
    have h4 : g.1 ∈ rowL k := by rw [← imgsP_fst (rowL k) n 0]; exact List.mem_map_of_mem hg
    unfold rowL at h4
    obtain ⟨i, hi, he⟩ := List.mem_map.1 h4
    have := List.mem_range.1 hi
    exact ⟨by omega, by omega, h3⟩
  · rw [imgsP_fst]
    unfold rowL
    rw [List.nodup_iff_pairwise_ne, List.pairwise_map]
    refine List.Pairwise.imp ?_ List.nodup_range
    intro a b hab he
    exact hab (by omega)
/-! ### images, fixed -/
theorem Rds.of_ownS {ch : List Blk} {a : Option Addr} {len cap size : Nat} {vs : List Value} (h : OwnC ch size a len cap vs) {J : Imm} (hJ : ∀ x ∈ ch, J x.1 = some x.2) : Rds J a (len * size) vs := by
  refine ⟨h.n, ?_⟩
  rcases h.at' with h0 | ⟨b, pre, post, T, ha, hc, hp⟩
  · left; have := h.le; rw [show len = 0 by omega]; simp
  · right
    refine ⟨b, _, _, T, (0, 0), ha, hJ (b, _) (by rw [hc]; exact List.mem_singleton.2 rfl), ?_⟩
    have := own_take pre vs post
    rw [h.n] at this
    exact this
theorem images_fix (aL : Option Addr) (capL : Nat) (z : List Int) (hz : z.length ≤ 40) (hz2 : ∀ x ∈ z, In64 x) (k : Int) (hk : In64 k) (I : Imm) (hL : Rds I aL z.length (ints z)) :
    Tri Try.prog 27 #[.slice aL z.length capL, .int .i64 k] I [] fun v J _ => ∃ a cap gs, v = .slice a gs.length cap ∧ ImgsOk J a gs ∧ gs.map Img.pr = imgsP z k 0 := by
  refine Tri.fixed (images_of aL capL z hz hz2 k hk I hL) ?_
  rintro v J S' hJ ⟨a, cap, ch, gs, rfl, hown, hgs, hok, rfl⟩
  have hl : gs.length = z.length := by have := congrArg List.length hgs; rw [List.length_map, imgsP_length] at this; exact this
  refine ⟨0, ch, rfl, fun J' hJ' hm => ⟨a, cap, gs, by rw [hl], ⟨?_, fun g hg => (hok g hg).1.mono hJ'⟩, hgs⟩⟩
  rw [hl]
  exact Rds.of_ownS hown hm
theorem rowL_in (n : Nat) (hn : n ≤ 1000) : ∀ x ∈ rowL n, In64 x := by
  intro x hx
  unfold rowL at hx
  obtain ⟨i, hi, rfl⟩ := List.mem_map.1 hx
  have := List.mem_range.1 hi
  unfold In64; omega
theorem rowL_length (n : Nat) : (rowL n).length = n := by simp [rowL]
end Go.Proofs.Ytbpdbgcndfcilaa
namespace Go.Proofs.Ytbpdbgcndfcilaa
open Go.RowKit Go.Sl
set_option maxRecDepth 20000

theorem copy_imgs {I : Imm} (a : Option Addr) (cap : Nat) (gs : List Img) (hi : ImgsOk I a gs) (hl : gs.length ≤ 1000000) (hs : ∀ g ∈ gs, g.len ≤ 1000000000) :
    Tri Try.prog 69 #[.slice a gs.length cap] I [] fun v J _ => ∃ a' cap' gs', v = .slice a' gs'.length cap' ∧ ImgsOk J a' gs' ∧ gs'.map Img.pr = gs.map Img.pr := by
  refine Tri.fixed (Q := fun v J S' => ∃ a' cap' ch gs', v = .slice a' gs'.length cap' ∧ OwnC ch 2 a' gs'.length cap' (imgCells gs') ∧ (∀ g ∈ gs', ImgOk J g) ∧ gs'.map Img.pr = gs.map Img.pr ∧ S' = [ch]) ?_ ?_
  rotate_left
  · rintro v J S' hJ ⟨a', cap', ch, gs', rfl, hO, hok, hpr, rfl⟩
    refine ⟨0, ch, rfl, fun J' hJ' hm => ⟨a', cap', gs', rfl, ⟨Rds.of_ownS hO hm, fun g hg => (hok g hg).mono hJ'⟩, hpr⟩⟩
  refine Tri.lay (S2 := [[]]) (by simp) ?_
  refine Tri.drop ?_ (fun _ _ _ _ h => h)
  refine Tri.of (args := [.slice a gs.length cap]) tabOk Try.func69 rfl (by kernel_rfl) (by kernel_rfl) ?_
  refine CodeF.loopD [0, 3, 4] (fun vs J' S' => ∃ (i : Nat) (a' : Option Addr) (cap' : Nat) (ch : List Blk) (gs' : List Img), i ≤ gs.length ∧ gs'.length = i ∧ OwnC ch 2 a' i cap' (imgCells gs') ∧ (∀ g ∈ gs', ImgOk J' g) ∧ gs'.map Img.pr = (gs.take i).map Img.pr ∧ vs = [.slice a gs.length cap, .slice a' i cap', .int .i64 i] ∧ I.le J' ∧ S' = [ch])
    (fun vs _ _ => match vs with | [_, _, .int _ i] => ((gs.length : Int) - i).toNat | _ => 0) ?_ ?_
  · exact ⟨_, Drop.pick [0] _ rfl, 0, none, 0, [], [], by omega, rfl, OwnC.nil 2 none, by simp, by simp, rfl, Imm.le_refl _, rfl⟩
  rintro vs gE J' S' hJ' ⟨i, a', cap', ch, gs', hil, hgl, hO, hok, hpr, rfl, hle, rfl⟩
  refine CmpD.split (fun c1 => ?_) (fun c1 => ?_)
  · have hlt : i < gs.length := by omega
    rcases hi.1.mem with q0 | ⟨bA, oA, cA, TA, fA, rfl, hIA, hcA⟩
    · omega
    have hpair := take_part hcA (i := i * 2) (m := 2) (by omega)
    rw [imgCells_at hlt] at hpair
    have hmem : gs[i] ∈ gs := List.getElem_mem hlt
    have htk : gs.take (i + 1) = gs.take i ++ [gs[i]] := by rw [List.take_add_one, List.getElem?_eq_getElem hlt]; rfl
    have hg := hi.2 gs[i] hmem
    have hglen := hs gs[i] hmem
    generalize gs[i] = g at *
    refine CodeF.sched [[], [], [], [1, 2], [1, 2, 3], [1, 2, 3, 4], [], [], [6, 7], [6, 7, 8], [6, 7, 8, 9], [6, 7, 8, 9, 10], [1, 2, 3, 4, 5, 6, 7, 8, 9, 10, 11], [1, 2, 3, 4, 5, 6, 7, 8, 9, 10, 11, 12], [0, 1, 2, 3, 4, 5, 6, 7, 8, 9, 10, 11, 12, 13], [0, 1, 2, 3, 4, 5, 6, 7, 8, 9, 10, 11, 12, 13, 14]] [0, 1, 2, 3, 4, 5, 6, 7, 8, 9, 10, 11, 12, 13, 14, 15] (by kernel_rfl) ?_
    refine Chk.mk (by omega) ?_
    have hI' := hle _ _ hIA
    refine LoadP.imm [.int .i64 g.blk] ⟨cA, TA, fA, .imm hI', pair_fst hpair, rfl⟩ ?_
    refine Chk.mk (by omega) ?_
    refine LoadP.imm [.slice g.a g.len g.cap] ⟨cA, TA, fA, .imm hI', pair_snd hpair, rfl⟩ ?_
    refine Tri.free (copy_fix _ g.a g.len g.cap g.data (hg.2.mono hle) hglen) ?_
    rintro v J1 _ hJ1 ⟨aC, capC, rfl, hC⟩
    repeat (first
      | refine LoadD.own 0 rfl _ rfl rfl ?_
      | refine LoadP.at 0 rfl _ rfl rfl ?_
      | refine StoreD.st 0 rfl rfl rfl ?_
      | refine CmpD.yes rfl ?_
      | refine CmpD.yes (by decide) ?_
      | refine CmpD.no (by decide) ?_
      | refine Chk.mk ⟨rfl, trivial⟩ ?_
      | refine Chk.mk ⟨rfl, rfl, trivial⟩ ?_
      | refine Chk.mk ⟨rfl, rfl, rfl, trivial⟩ ?_
      | refine Chk.mk ⟨rfl, rfl, rfl, rfl, trivial⟩ ?_
      | refine Chk.mk ⟨rfl, rfl, rfl, rfl, rfl, trivial⟩ ?_
      | refine Chk.mk ⟨rfl, rfl, rfl, rfl, rfl, rfl, trivial⟩ ?_)
    conv => whnf
    intro b24
    repeat (first
      | refine LoadD.own 0 rfl _ rfl rfl ?_
      | refine LoadP.at 0 rfl _ rfl rfl ?_
      | refine StoreD.st 0 rfl rfl rfl ?_
      | refine CmpD.yes rfl ?_
      | refine CmpD.yes (by decide) ?_
      | refine CmpD.no (by decide) ?_
      | refine Chk.mk ⟨rfl, trivial⟩ ?_
      | refine Chk.mk ⟨rfl, rfl, trivial⟩ ?_
      | refine Chk.mk ⟨rfl, rfl, rfl, trivial⟩ ?_
      | refine Chk.mk ⟨rfl, rfl, rfl, rfl, trivial⟩ ?_
      | refine Chk.mk ⟨rfl, rfl, rfl, rfl, rfl, trivial⟩ ?_
      | refine Chk.mk ⟨rfl, rfl, rfl, rfl, rfl, rfl, trivial⟩ ?_)
    refine appendD tabOk rfl rfl rfl rfl rfl rfl rfl 0 rfl hO (SrcOk.slice (n := 1) (news := imgCells [⟨g.blk, aC, g.len, capC, g.data⟩]) tabOk rfl ((OwnC.whole (len := 1) (size := 2) rfl).slC 1 rfl) (by intro v hv; simp [imgCells] at hv; rcases hv with rfl | rfl <;> rfl)) rfl (by show (i + 1) * 32 ≤ _; omega) (by omega) ?_
    intro aM capM chM hM
    refine ToD.i64 (by omega) (by omega) ?_
    refine ⟨_, Drop.pick [0] _ rfl, ⟨i + 1, aM, capM, chM, gs' ++ [⟨g.blk, aC, g.len, capC, g.data⟩], by omega, by simp [hgl], by rw [imgCells_snoc]; exact hM, ?_, ?_, rfl, Imm.le_trans hle hJ1, rfl⟩, ?_⟩
    · intro x hx
      rcases List.mem_append.1 hx with hx | hx
      · exact (hok x hx).mono hJ1
      · simp only [List.mem_singleton] at hx
        subst hx
        exact ⟨hg.1, hC⟩
    · rw [htk, List.map_append, List.map_append, hpr]; rfl
    · show ((gs.length : Int) - ((i : Int) + 1)).toNat < ((gs.length : Int) - i).toNat; omega
  · obtain rfl : i = gs.length := by omega
    rw [List.take_length] at hpr
    exact Done.mk ⟨[ch], Drop.pick [0] _ rfl, a', cap', ch, gs', by rw [hgl]; rfl, by rw [hgl]; exact hO, hok, hpr, rfl⟩
end Go.Proofs.Ytbpdbgcndfcilaa

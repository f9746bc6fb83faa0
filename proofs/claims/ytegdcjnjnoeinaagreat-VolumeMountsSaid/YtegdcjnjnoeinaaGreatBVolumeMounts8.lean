/- Texts of this claim laid together: Ref03c, Rf10a, Image, JournalNumbers, ReplayNumbers, ReplayTells, R6a, R6b, R6g, R6c, R6d, R6e, R6f. -/
import Derived.Test.YtegdcjnjnoeinaaGreatBVolumeMounts7
import Derived.Test.YtegdcjnjnoeinaaGreatBVolumeMounts4
import Derived.Test.YtegdcjnjnoeinaaGreatBVolumeMounts1
import Derived.Test.YtegdcjnjnoeinaaGreatBVolumeMounts3
import Derived.Test.YtegdcjnjnoeinaaGreatBVolumeMounts2
import Derived.Test.YtegdcjnjnoeinaaGreatBVolumeMounts6
import Derived.Test.YtegdcjnjnoeinaaGreatBVolumeMounts5
namespace Go.Proofs.YtegdcjnjnoeinaaGreat
open Go.RowKit Go.Sl
set_option maxRecDepth 20000

theorem ref_GetSuper {I : Imm} {a : Option Addr} {len cap : Nat} {b : Dat} (h : Rds I a len (bts b)) (hlen : len ≤ 1000000000) : Tri Tryz.prog 173 #[.slice a len cap] I [] fun v J _ => I = J ∧ v = getV (getS b) := by
  refine Tri.of (args := [.slice a len cap]) tabOk Tryz.func173 rfl (by kernel_rfl) (by kernel_rfl) ?_
  conv => whnf
  intro b2
  refine Tri.free (ref_number3 h.slC hlen 8 (by unfold In64; omega) 8 (by omega)) ?_
  rintro v J1 _ hJ1 ⟨rfl, rfl, _⟩
  refine Tri.free (ref_number3 h.slC hlen 16 (by unfold In64; omega) 8 (by omega)) ?_
  rintro v J2 _ hJ2 ⟨rfl, rfl, _⟩
  refine Tri.free (ref_number3 h.slC hlen 24 (by unfold In64; omega) 8 (by omega)) ?_
  rintro v J3 _ hJ3 ⟨rfl, rfl, _⟩
  refine Tri.free (ref_number3 h.slC hlen 32 (by unfold In64; omega) 8 (by omega)) ?_
  rintro v J4 _ hJ4 ⟨rfl, rfl, _⟩
  conv => whnf
  intro b4
  repeat (first | refine LoadD.own 1 rfl _ rfl rfl ?_ | refine StoreD.st 1 rfl rfl rfl ?_)
  refine Tri.frameX (ref_PutSuper (decS b) I) [] rfl rfl ?_
  rintro v J5 A' hJ5 ⟨rfl, ⟨hR, rfl, rfl⟩ | ⟨hR, aP, capP, ch, rfl, hO, rfl⟩⟩
  · repeat (first | refine LoadD.own 0 rfl _ rfl rfl ?_ | refine StoreD.st 0 rfl rfl rfl ?_ | refine CmpD.no (by decide) ?_)
    rw [show getS b = none from by unfold getS; rw [if_neg (fun h' => hR h'.1)]]
    exact Done.mk ⟨rfl, rfl⟩
  repeat (first | refine CmpD.yes rfl ?_)
  refine Tri.mono (same_bytes (hO.slC1 2 rfl) h.slC) ?_
  rintro v J6 S' hJ6 ⟨rfl, rfl, rfl⟩
  by_cases e : supL (decS b) = b
  · rw [decide_eq_true e]
    repeat (first | refine LoadD.own 0 rfl _ rfl rfl ?_ | refine LoadD.own 1 rfl _ rfl rfl ?_ | refine StoreD.st 0 rfl rfl rfl ?_)
    rw [show getS b = some (decS b) from by unfold getS; rw [if_pos ⟨hR, e⟩]]
    exact Done.mk ⟨rfl, rfl⟩
  · rw [decide_eq_false e]
    repeat (first | refine LoadD.own 0 rfl _ rfl rfl ?_ | refine StoreD.st 0 rfl rfl rfl ?_)
    rw [show getS b = none from by unfold getS; rw [if_neg (fun h' => e h'.2)]]
    exact Done.mk ⟨rfl, rfl⟩
end Go.Proofs.YtegdcjnjnoeinaaGreat
namespace Go.Proofs.YtegdcjnjnoeinaaGreat
open Go.RowKit Go.Sl
set_option maxRecDepth 20000

theorem r10_Choose {I : Imm} {a1 a2 : Option Addr} {n1 n2 c1 c2 : Nat} {l1 l2 : Dat} (h1 : Rds I a1 n1 (bts l1)) (h2 : Rds I a2 n2 (bts l2)) (hn1 : n1 ≤ 1000000000) (hn2 : n2 ≤ 1000000000) :
    Tri Tryz.prog 115 #[.slice a1 n1 c1, .slice a2 n2 c2] I [] fun v J _ => I = J ∧ v = chooseV (chooseP (getS l1) (getS l2)) := by
  refine Tri.of (args := [.slice a1 n1 c1, .slice a2 n2 c2]) tabOk Tryz.func115 rfl (by kernel_rfl) (by kernel_rfl) ?_
  conv => whnf
  intro b4
  refine Tri.free (ref_GetSuper h1 hn1) ?_
  rintro v J _ hJ ⟨rfl, rfl⟩
  refine Go.Proofs.YtegdcjnjnoeinaaGreat.two_ways (getS l1) (fun s1 e1 => ?_) (fun e1 => ?_)
  all_goals
    rw [e1]
    conv => whnf
    intro b7
    repeat (first | refine StoreD.st 1 rfl rfl rfl ?_)
    refine Tri.free (ref_GetSuper h2 hn2) ?_
    rintro v J _ hJ ⟨rfl, rfl⟩
    refine Go.Proofs.YtegdcjnjnoeinaaGreat.two_ways (getS l2) (fun s2 e2 => ?_) (fun e2 => ?_)
  all_goals
    rw [e2]
    conv => whnf
    intro b9
    repeat (first | refine LoadD.own 0 rfl _ rfl rfl ?_ | refine LoadD.own 1 rfl _ rfl rfl ?_ | refine LoadD.own 2 rfl _ rfl rfl ?_ | refine StoreD.st 0 rfl rfl rfl ?_ | refine StoreD.st 2 rfl rfl rfl ?_ | refine CmpD.yes rfl ?_ | refine CmpD.no (by decide) ?_)
  · refine CmpD.split (fun c1 => ?_) (fun c1 => ?_)
    · repeat (first | refine LoadD.own 1 rfl _ rfl rfl ?_ | refine LoadD.own 2 rfl _ rfl rfl ?_)
      refine CmpD.split (fun c3 => ?_) (fun c3 => ?_)
      · repeat (first | refine LoadD.own 0 rfl _ rfl rfl ?_ | refine LoadD.own 1 rfl _ rfl rfl ?_ | refine StoreD.st 0 rfl rfl rfl ?_)
        refine Done.mk ⟨rfl, ?_⟩
        show _ = chooseV (chooseP (some s1) (some s2))
        rw [chooseP, if_pos (.inr ⟨c1.symm, c3⟩)]; rfl
      · repeat (first | refine LoadD.own 0 rfl _ rfl rfl ?_ | refine LoadD.own 2 rfl _ rfl rfl ?_ | refine StoreD.st 0 rfl rfl rfl ?_)
        refine Done.mk ⟨rfl, ?_⟩
        show _ = chooseV (chooseP (some s1) (some s2))
        rw [chooseP, if_neg (by rintro (h | h); omega; exact c3 h.2)]; rfl
    · repeat (first | refine LoadD.own 1 rfl _ rfl rfl ?_ | refine LoadD.own 2 rfl _ rfl rfl ?_)
      refine CmpD.split (fun c3 => ?_) (fun c3 => ?_)
      · repeat (first | refine LoadD.own 0 rfl _ rfl rfl ?_ | refine LoadD.own 1 rfl _ rfl rfl ?_ | refine StoreD.st 0 rfl rfl rfl ?_)
        refine Done.mk ⟨rfl, ?_⟩
        show _ = chooseV (chooseP (some s1) (some s2))
        rw [chooseP, if_pos (.inl c3)]; rfl
      · repeat (first | refine LoadD.own 0 rfl _ rfl rfl ?_ | refine LoadD.own 2 rfl _ rfl rfl ?_ | refine StoreD.st 0 rfl rfl rfl ?_)
        refine Done.mk ⟨rfl, ?_⟩
        show _ = chooseV (chooseP (some s1) (some s2))
        rw [chooseP, if_neg (by rintro (h | h); exact c3 h; omega)]; rfl
  all_goals
    exact Done.mk ⟨rfl, rfl⟩
end Go.Proofs.YtegdcjnjnoeinaaGreat
namespace Go.Proofs.YtegdcjnjnoeinaaGreat
open Go.RowKit Go.Sl
set_option maxRecDepth 20000

theorem grow_nil (I : Imm) (n : Nat) (hn : n ≤ 1000000000) :
    Tri Tryz.prog 177 #[.slice none 0 0, .int .i64 n] I [] fun v J S' => ∃ a cap ch, v = .slice a 0 cap ∧ OwnB ch a 0 cap [] ∧ I = J ∧ S' = [ch] := by
  refine Tri.lay (S2 := [[]]) (by simp) ?_
  refine Tri.of (args := [.slice none 0 0, .int .i64 n]) tabOk Tryz.func177 rfl (by kernel_rfl) (by kernel_rfl) ?_
  refine CmpD.no (by omega) ?_
  refine capD tabOk rfl rfl rfl rfl rfl rfl ?_
  refine ToD.i64 (by omega) (by omega) ?_
  refine ToD.to (n : Int) (by rw [wrap_i64 (by omega) (by omega)]; omega) ?_
  refine CmpD.split (fun c1 => ?_) (fun c1 => ?_)
  · refine capD tabOk rfl rfl rfl rfl rfl rfl ?_
    refine sliceD tabOk rfl rfl rfl rfl 0 0 0 rfl ⟨_, rfl⟩ rfl (.inl rfl) (by omega) ?_
    refine appendZD tabOk rfl rfl rfl rfl rfl rfl rfl rfl 0 rfl (OwnC.nil 1 none) n rfl rfl (by decide) (by intro v hv; have hv : v ∈ [Value.int .u8 0] := hv; simp at hv; subst hv; rfl) (by show (0 + n) * 1 ≤ _; omega) (by omega) ?_
    intro a1 cap1 ch1 hown1
    refine sliceD tabOk rfl rfl rfl rfl 0 0 cap1 rfl ⟨_, rfl⟩ rfl (.inl rfl) (by omega) ?_
    have := hown1.part 0 0 (Nat.le_refl _) (by omega)
    exact Done.mk ⟨_, cap1 - 0, ch1, rfl, this, rfl, rfl⟩
  · exact Done.mk ⟨none, 0, [], rfl, OwnC.nil 1 none, rfl, rfl⟩
theorem concat_one (c0 : List Blk) {I : Imm} (a : Option Addr) (n cap : Nat) (bks : List Bk) (hn : n ≤ 512) (h : SlC I [c0] a n (bks.map Bk.cell)) (hok : ∀ b ∈ bks, BkOk I b) :
    Tri Tryz.prog 121 #[.slice a n cap] I [c0] fun v J S' => ∃ a' cap' ch, v = .slice a' (n * 4096 : Nat) cap' ∧ OwnB ch a' (n * 4096) cap' (bks.map Bk.data).flatten ∧ I = J ∧ S' = [c0, ch] := by
  have hl : bks.length = n := by have := h.len; rwa [List.length_map] at this
  refine Tri.drop ?_ (fun _ _ _ _ h => h)
  refine Tri.of (args := [.slice a n cap]) tabOk Tryz.func121 rfl (by kernel_rfl) (by kernel_rfl) ?_
  refine CodeF.loopD [0, 3, 9, 10, 11] (fun vs J' S' => ∃ i : Nat, i ≤ n ∧ vs = [.slice a n cap, .int .i64 (i * 4096 : Nat), .slice a n cap, .int .i64 n, .int .i64 i] ∧ I = J' ∧ S' = [c0])
    (fun vs _ _ => match vs with | [_, _, _, _, .int _ i] => ((n : Int) - i).toNat | _ => 0) ?_ ?_
  · exact ⟨_, Drop.pick [0] _ rfl, 0, by omega, rfl, rfl, rfl⟩
  · rintro vs gE J' S' hJ' ⟨i, hi, rfl, rfl, rfl⟩
    refine CmpD.split (fun c1 => ?_) (fun c1 => ?_)
    · have hlt : i < bks.length := by omega
      have hcell : (bks.map Bk.cell)[i]? = some bks[i].cell := by rw [List.getElem?_map, List.getElem?_eq_getElem hlt]; rfl
      rcases h.mem with q0 | ⟨b, off, rfl, hc⟩
      · omega
      refine Chk.mk (by omega) ?_
      refine LoadD.mk [bks[i].cell] (hc.at (i := i) hcell) ?_
      refine ToD.to ((((i + 1) * 4096 : Nat)) : Int) (by rw [wrap_i64 (by omega) (by omega)]; omega) ?_
      refine CmpD.no (by omega) ?_
      refine ToD.i64 (by omega) (by omega) ?_
      refine ⟨_, Drop.pick [0] _ rfl, ⟨i + 1, by omega, rfl, rfl, rfl⟩, ?_⟩
      show ((n : Int) - ((i : Int) + 1)).toNat < ((n : Int) - i).toNat; omega
    · obtain rfl : i = n := by omega
      refine Tri.frame (grow_nil I (i * 4096) (by omega)) [] rfl rfl ?_
      rintro v J A' hJ ⟨aG, capG, chG, rfl, hG, rfl, rfl⟩
      refine ⟨by simp, ?_⟩
      refine CodeF.loopD [6, 25, 26, 27] (fun vs J' S' => ∃ (k : Nat) (aG : Option Addr) (capG : Nat) (chG : List Blk), k ≤ i ∧ OwnB chG aG (k * 4096) capG ((bks.map Bk.data).take k).flatten ∧ vs = [.slice aG (k * 4096 : Nat) capG, .slice a i cap, .int .i64 i, .int .i64 k] ∧ I = J' ∧ S' = [c0, chG])
        (fun vs _ _ => match vs with | [_, _, _, .int _ k] => ((i : Int) - k).toNat | _ => 0) ?_ ?_
      · exact ⟨_, Drop.pick [0, 1] _ rfl, 0, aG, capG, chG, by omega, by rw [Nat.zero_mul]; exact hG, by rw [Nat.zero_mul]; rfl, rfl, rfl⟩
      rintro vs gE2 J2 S2 hJ2 ⟨k, aK, capK, chK, hk, hK, rfl, rfl, rfl⟩
      refine CmpD.split (fun c2 => ?_) (fun c2 => ?_)
      · have hlt : k < bks.length := by omega
        have hcell : (bks.map Bk.cell)[k]? = some bks[k].cell := by rw [List.getElem?_map, List.getElem?_eq_getElem hlt]; rfl
        have hb := hok _ (List.getElem_mem hlt)
        have htk : ((bks.map Bk.data).take (k + 1)).flatten = ((bks.map Bk.data).take k).flatten ++ bks[k].data := by
          rw [List.take_add_one, List.getElem?_map, List.getElem?_eq_getElem hlt]; simp
        generalize bks[k] = bk at *
        rcases (h.more [] (I := I) : SlC I ([c0] ++ [[]]) a i (bks.map Bk.cell)).mem with q0 | ⟨b, off, rfl, _⟩
        · omega
        rcases (h.more chK).mem with q0 | ⟨b2, off2, e2, hc⟩
        · omega
        cases e2
        refine Chk.mk (by omega) ?_
        refine LoadD.mk [bk.cell] (hc.at (i := k) hcell) ?_
        refine appendD tabOk rfl rfl rfl rfl rfl rfl rfl 1 rfl hK (SrcOk.slice (n := 4096) (news := bts bk.data) tabOk rfl (by show SlC _ _ _ (4096 * 1) _; exact Rds.slC hb) (bts_plain _)) rfl (by show (k * 4096 + 4096) * 1 ≤ _; omega) (by omega) ?_
        intro a2 cap2 ch2 hO2
        refine ToD.i64 (by omega) (by omega) ?_
        have e : k * 4096 + 4096 = (k + 1) * 4096 := by omega
        refine ⟨_, Drop.pick [0, 1] _ rfl, ⟨k + 1, a2, cap2, ch2, by omega, ?_, by rw [← e]; rfl, rfl, rfl⟩, ?_⟩
        · rw [htk, ← e, OwnB, bts_append]; exact hO2
        · show ((i : Int) - ((k : Int) + 1)).toNat < ((i : Int) - k).toNat; omega
      · obtain rfl : k = i := by omega
        rw [List.take_of_length_le (by rw [List.length_map]; omega)] at hK
        exact Done.mk ⟨_, Drop.pick [0, 1] _ rfl, aK, capK, chK, rfl, hK, rfl, rfl⟩
theorem dk_Image {I : Imm} {bD : Nat} {st : DSt} {ch : List Blk} (h : Dk I bD st ch) :
    Tri Tryz.prog 50 #[.pointer (some ⟨bD, 0, none⟩)] I [ch] fun v J S' => ∃ a cap chB, v = .slice a (st.now.length * 4096 : Nat) cap ∧ OwnB chB a (st.now.length * 4096) cap st.now.flatten ∧ I = J ∧ S' = [ch, chB] := by
  obtain ⟨hw, d, chS, chN, chW, bS, bN, bW, rfl, hD, q1, q2, q3, q4, q5, q6, q7⟩ := h
  have hl := hD.hN.len1
  have hl' : st.now.length = d.now.len := by rw [← q2]; simpa using hl
  have hr := hw.range
  refine Tri.lay (S2 := [dChunk bD d, chS, chN, chW]) (by simp) ?_
  refine Tri.drop ?_ (fun _ _ _ _ h => h)
  refine Tri.of (args := [.pointer (some ⟨bD, 0, none⟩)]) tabOk Tryz.func50 rfl (by kernel_rfl) (by kernel_rfl) ?_
  refine Tri.frame1 0 rfl (disk_none bD d I) ?_
  rintro v J S' hJ ⟨rfl, rfl, rfl⟩
  refine ⟨_, rfl, ?_⟩
  rw [decide_eq_false (show ¬ d.now.len = 0 by omega)]
  have hslc := hD.hN.slC1 (I := I) (S := [chN]) 0 rfl
  have hc := concat_one chN d.now.a d.now.len d.now.cap bN (by omega) hslc hD.okN
  obtain ⟨⟨sa, sl, sc⟩, ⟨na, nl, nc⟩, ⟨wa, wl, wc⟩, count, down, ⟨ao, al⟩, ⟨fo, fl⟩⟩ := d
  dsimp only at hl hl' hc
  refine LoadD.own 0 rfl [.slice na nl nc] rfl rfl ?_
  refine Tri.frame hc [2] rfl rfl ?_
  rintro v J A' hJ ⟨a', cap', chB, rfl, hB, rfl, rfl⟩
  refine ⟨by simp, ?_⟩
  rw [q2] at hB
  rw [hl']
  exact Done.mk ⟨[_ ++ (chS ++ (chN ++ chW)), chB], Drop.flat (by simp), a', cap', chB, rfl, hB, rfl, rfl⟩
end Go.Proofs.YtegdcjnjnoeinaaGreat
namespace Go.Proofs.YtegdcjnjnoeinaaGreat
open Go.RowKit Go.Sl
set_option maxRecDepth 20000

end Go.Proofs.YtegdcjnjnoeinaaGreat
namespace Go.Proofs.YtegdcjnjnoeinaaGreat
open Go.RowKit Go.Sl
set_option maxRecDepth 20000

theorem flush_calm {d : DSt} (h : d.Calm) : d.flush = ({ d with safe := d.now, writes := [] }, 0) := by
  unfold DSt.flush; rw [DSt.stop_calm h]; simp
end Go.Proofs.YtegdcjnjnoeinaaGreat
namespace Go.Proofs.YtegdcjnjnoeinaaGreat
open Go.RowKit Go.Sl
set_option maxRecDepth 20000

theorem own_mem : ∀ {cs : List (List Blk)} {gs : List Img} {J : Imm}, OwnImgs cs gs → (∀ x ∈ cs.flatten, J x.1 = some x.2) → ∀ g ∈ gs, Rds J g.a g.len (bts g.data)
  | [], [], _, _, _, g, hg => by simp at hg
  | c :: cs, x :: gs, J, h, hm, g, hg => by
    rcases List.mem_cons.1 hg with rfl | hg
    · exact Rds.of_own h.1 fun y hy => hm y (by simp [hy])
    · exact own_mem h.2 (fun y hy => hm y (by rw [List.flatten_cons]; exact List.mem_append_right _ hy)) g hg
  | [], _ :: _, _, h, _, _, _ => h.elim
  | _ :: _, [], _, h, _, _, _ => h.elim
/-- Home's answer, fixed -/
theorem home_fix {I : Imm} {aG : Option Addr} {capG : Nat} {l : List Grp} (hG : GrpsR I [] aG l) (hl : l.length ≤ 1000000) (hall : (allI l).length ≤ 1000000) (hfew : ∀ g ∈ allI l, g.len ≤ 100000000) (x : Lay) :
    Tri Tryz.prog 108 #[x.v, .slice aG l.length capG] I [] fun v J _ =>
      ((¬ LayOk x ∧ v = .tuple #[.slice none 0 0, .int .i64 2]) ∨
       (LayOk x ∧ ¬ HomeOk x (allP l) ∧ v = .tuple #[.slice none 0 0, .int .i64 90]) ∨
       (LayOk x ∧ HomeOk x (allP l) ∧ ∃ (aO : Option Addr) (capO : Nat) (outs : List Img), v = .tuple #[.slice aO outs.length capO, .int .i64 0] ∧ ImgsR J [] aO outs ∧ outs.map Img.pr = homeP (allP l))) := by
  refine Tri.fixed (Q := fun v _ S' => ∃ ch, S' = [ch] ∧
      ((¬ LayOk x ∧ v = .tuple #[.slice none 0 0, .int .i64 2]) ∨
       (LayOk x ∧ ¬ HomeOk x (allP l) ∧ v = .tuple #[.slice none 0 0, .int .i64 90]) ∨
       (LayOk x ∧ HomeOk x (allP l) ∧ ∃ (aO : Option Addr) (capO : Nat) (chO : List Blk) (chs : List (List Blk)) (outs : List Img), v = .tuple #[.slice aO outs.length capO, .int .i64 0] ∧ OwnC chO 2 aO outs.length capO (imgCells outs) ∧ OwnImgs chs outs ∧ outs.map Img.pr = homeP (allP l) ∧ ch = chO ++ chs.flatten))) ?_ ?_
  · refine Tri.drop (home_any hG hl hall hfew x) ?_
    rintro v J S' hJ (⟨h, rfl, rfl⟩ | ⟨h1, h2, rfl, rfl⟩ | ⟨h1, h2, aO, capO, chO, chs, outs, rfl, hO, hcs, hpr, rfl⟩)
    · exact ⟨[[]], Drop.flat rfl, [], rfl, .inl ⟨h, rfl⟩⟩
    · exact ⟨[[]], Drop.flat rfl, [], rfl, .inr (.inl ⟨h1, h2, rfl⟩)⟩
    · exact ⟨[chO ++ chs.flatten], Drop.flat (by simp), _, rfl, .inr (.inr ⟨h1, h2, aO, capO, chO, chs, outs, rfl, hO, hcs, hpr, rfl⟩)⟩
  · rintro v J S' hJ ⟨ch, rfl, h⟩
    refine ⟨0, ch, rfl, fun J' hJ' hm => ?_⟩
    rcases h with ⟨h, rfl⟩ | ⟨h1, h2, rfl⟩ | ⟨h1, h2, aO, capO, chO, chs, outs, rfl, hO, hcs, hpr, rfl⟩
    · exact .inl ⟨h, rfl⟩
    · exact .inr (.inl ⟨h1, h2, rfl⟩)
    · refine .inr (.inr ⟨h1, h2, aO, capO, outs, rfl, ⟨(Rds.of_ownS hO fun y hy => hm y (List.mem_append_left _ hy)).slC, fun g hg => ⟨(own_mem hcs (fun y hy => hm y (List.mem_append_right _ hy)) g hg).slC⟩⟩, hpr⟩)
open Classical in
/-- what Home answers -/
noncomputable def homeA (x : Lay) (l : List PImg) : List PImg × Int := if ¬ LayOk x then ([], 2) else if ¬ HomeOk x l then ([], 90) else (homeP l, 0)
theorem homeA_1 {x : Lay} {l : List PImg} (h : ¬ LayOk x) : homeA x l = ([], 2) := by unfold homeA; rw [if_pos h]
theorem homeA_2 {x : Lay} {l : List PImg} (h : LayOk x) (h2 : ¬ HomeOk x l) : homeA x l = ([], 90) := by unfold homeA; rw [if_neg (by simpa using h), if_pos h2]
theorem homeA_3 {x : Lay} {l : List PImg} (h : LayOk x) (h2 : HomeOk x l) : homeA x l = (homeP l, 0) := by unfold homeA; rw [if_neg (by simpa using h), if_neg (by simpa using h2)]
theorem imgsR_nil {I : Imm} {S : St} : ImgsR I S none [] := ⟨⟨rfl, .inl rfl⟩, by simp⟩
theorem home_ref {I : Imm} {aG : Option Addr} {capG : Nat} {l : List Grp} (hG : GrpsR I [] aG l) (hl : l.length ≤ 1000000) (hall : (allI l).length ≤ 1000000) (hfew : ∀ g ∈ allI l, g.len ≤ 100000000) (x : Lay) :
    Tri Tryz.prog 118 #[x.v, .slice aG l.length capG] I [] fun v J _ => ∃ (aO : Option Addr) (capO : Nat) (outs : List Img), v = .tuple #[.slice aO outs.length capO, .int .i64 (homeA x (allP l)).2] ∧ ImgsR J [] aO outs ∧ outs.map Img.pr = (homeA x (allP l)).1 := by
  refine (r10_Home hG hl hall hfew x).mono ?_
  rintro v J S' hJ (⟨h, rfl⟩ | ⟨h1, h2, rfl⟩ | ⟨h1, h2, aO, capO, outs, rfl, hR, hpr⟩)
  · rw [homeA_1 h]; exact ⟨none, 0, [], rfl, imgsR_nil, rfl⟩
  · rw [homeA_2 h1 h2]; exact ⟨none, 0, [], rfl, imgsR_nil, rfl⟩
  · rw [homeA_3 h1 h2]; exact ⟨aO, capO, outs, rfl, ⟨hR.1.slC, fun g hg => ⟨(hR.2 g hg).2.slC⟩⟩, hpr⟩
theorem doP_few {d : DSt} {k : Nat} (h : d.Few k) (l : List PImg) (s : Sup) (slot : Int) : (doP d l s slot).1.Few (k + l.length + 1) := by
  have h1 := wrImgs_few l d k h
  unfold doP
  split
  · exact h.mono (by omega)
  split
  · exact h1.mono (by omega)
  split
  · exact h1.flush.mono (by omega)
  unfold lastWr
  split
  · exact h1.flush.write _ _
  · exact (h1.flush.write _ _).flush
end Go.Proofs.YtegdcjnjnoeinaaGreat
namespace Go.Proofs.YtegdcjnjnoeinaaGreat
open Go.RowKit Go.Sl
set_option maxRecDepth 20000

theorem stampB_eq {e s : Nat} (he : e ≤ 8388608) (hs : s ≤ 549755813888) : stampB e s = be (e * 1099511627776 + s) 8 := by
  unfold stampB
  have h1 : e * 2 ^ 40 % 2 ^ 64 = e * 2 ^ 40 := Nat.mod_eq_of_lt (by omega)
  rw [h1]
  have h2 : e * 2 ^ 40 ||| s = e * 2 ^ 40 + s := by
    rw [Nat.mul_comm, ← Nat.two_pow_add_eq_or_of_lt (by omega)]
  rw [h2]
theorem r6_stamp1 (c0 : List Blk) {I : Imm} (e s : Nat) (he : e ≤ 8388608) (hs : s ≤ 549755813888) (a : Option Addr) (n cap : Nat) :
    Tri Tryz.prog 233 #[.agg #[.int .i64 e, .int .i64 s, .slice a n cap]] I [c0] fun v J S' => ∃ a' cap' ch, v = .slice a' 8 cap' ∧ OwnB ch a' 8 cap' (stampB e s) ∧ I = J ∧ S' = [c0, ch] := by
  refine Tri.drop ?_ (fun _ _ _ _ h => h)
  refine Tri.of (args := [.agg #[.int .i64 e, .int .i64 s, .slice a n cap]]) tabOk Tryz.func233 rfl (by kernel_rfl) (by kernel_rfl) ?_
  conv => whnf
  intro b1
  repeat (first | refine LoadD.own 1 rfl _ rfl rfl ?_)
  refine ToD.to (e : Int) (wrap_u64 e (by omega)) ?_
  refine ToD.to ((e * 1099511627776 : Nat) : Int) (by rw [← wrap_u64 (e * 1099511627776) (by omega)]; congr 1) ?_
  repeat (first | refine LoadD.own 1 rfl _ rfl rfl ?_)
  refine ToD.to (s : Int) (wrap_u64 s (by omega)) ?_
  refine ToD.to ((e * 1099511627776 + s : Nat) : Int) (by rw [← wrap_u64 (e * 1099511627776 + s) (by omega)]; congr 1) ?_
  refine Tri.nf (ref_Add' (a := none) (len := 0) (cap := 0) (l := []) ⟨rfl, .inl rfl⟩ (by omega) (e * 1099511627776 + s) (by omega) 8 (by omega)) ?_
  rintro v J S' hJ ⟨a', cap', ch, rfl, hown, rfl, rfl⟩
  rw [List.nil_append, ← stampB_eq he hs, Nat.zero_add] at hown
  exact Done.mk ⟨[c0, ch], Drop.pick [0, 2] _ rfl, a', cap', ch, by show Value.slice _ _ _ = _; rw [Nat.zero_add], hown, rfl, rfl⟩
theorem r6_stamp {S : St} {I : Imm} (e s : Nat) (he : e ≤ 8388608) (hs : s ≤ 549755813888) (a : Option Addr) (n cap : Nat) :
    Tri Tryz.prog 233 #[.agg #[.int .i64 e, .int .i64 s, .slice a n cap]] I S fun v J S' => ∃ a' cap' ch, v = .slice a' 8 cap' ∧ OwnB ch a' 8 cap' (stampB e s) ∧ I = J ∧ S' = S ++ [ch] := by
  refine Tri.pack ((r6_stamp1 S.flatten e s he hs a n cap).mono ?_)
  rintro r J S' hJ ⟨a', cap', ch, rfl, hown, rfl, rfl⟩
  exact ⟨[ch], rfl, a', cap', ch, rfl, hown, rfl, rfl⟩

theorem right_no {e s : Int} {l : List PImg} {p : Prop} (h : RightP e s l → p) (hn : ¬ p) : Value.bool false = Value.bool (decide (RightP e s l)) := by
  rw [decide_eq_false fun h' => hn (h h')]
set_option maxHeartbeats 4000000 in
theorem r6_Right1 (c0 : List Blk) {I : Imm} (e s : Int) {a : Option Addr} {cap : Nat} {gs : List Img} (h : ImgsR I [c0] a gs) (hlen : gs.length ≤ 1000000000) :
    Tri Tryz.prog 231 #[.agg #[.int .i64 e, .int .i64 s, .slice a gs.length cap]] I [c0] fun v J S' => v = .bool (decide (RightP e s (gs.map Img.pr))) ∧ I = J ∧ S' = [c0] := by
  have hml : (gs.map Img.pr).length = gs.length := List.length_map ..
  refine Tri.drop ?_ (fun _ _ _ _ h => h)
  refine Tri.of (args := [.agg #[.int .i64 e, .int .i64 s, .slice a gs.length cap]]) tabOk Tryz.func231 rfl (by kernel_rfl) (by kernel_rfl) ?_
  conv => whnf
  intro b1
  have no : ∀ p : Prop, (RightP e s (gs.map Img.pr) → p) → ¬ p → ∃ S'', Drop [c0, [(b1, row [.int .i64 e, .int .i64 s, .slice a gs.length cap] 128)]] S'' ∧ Value.bool false = Value.bool (decide (RightP e s (gs.map Img.pr))) ∧ I = I ∧ S'' = [c0] :=
    fun p hp hn => ⟨[c0], Drop.pick [0] _ rfl, right_no hp hn, rfl, rfl⟩
  refine LoadD.own 1 rfl _ rfl rfl ?_
  refine CmpD.split (fun c1 => ?_) (fun c1 => ?_)
  · exact Done.mk (no (1 ≤ e) (fun h => h.1) (by omega))
  refine LoadD.own 1 rfl _ rfl rfl ?_
  refine CmpD.split (fun c2 => ?_) (fun c2 => ?_)
  · exact Done.mk (no (e ≤ 8388608) (fun h => h.2.1) (by omega))
  refine LoadD.own 1 rfl _ rfl rfl ?_
  refine CmpD.split (fun c3 => ?_) (fun c3 => ?_)
  · exact Done.mk (no (1 ≤ s) (fun h => h.2.2.1) (by omega))
  refine LoadD.own 1 rfl _ rfl rfl ?_
  refine CmpD.split (fun c4 => ?_) (fun c4 => ?_)
  · exact Done.mk (no (s ≤ 549755813888) (fun h => h.2.2.2.1) (by omega))
  refine LoadD.own 1 rfl _ rfl rfl ?_
  refine CmpD.split (fun c5 => ?_) (fun c5 => ?_)
  · exact Done.mk (no (1 ≤ gs.length) (fun h => by rw [← hml]; exact h.2.2.2.2.1) (by omega))
  refine LoadD.own 1 rfl _ rfl rfl ?_
  refine CmpD.split (fun c6 => ?_) (fun c6 => ?_)
  · exact Done.mk (no (gs.length ≤ 32) (fun h => by rw [← hml]; exact h.2.2.2.2.2.1) (by omega))
  have hnd : RightP e s (gs.map Img.pr) → (gs.map Img.blk).Nodup := fun h => by have := h.2.2.2.2.2.2.2; rwa [List.map_map] at this
  have hea : RightP e s (gs.map Img.pr) → ∀ g ∈ gs, 0 ≤ g.blk ∧ g.blk < 512 ∧ g.data.length = 4096 := fun h g hg => h.2.2.2.2.2.2.1 g.pr (List.mem_map_of_mem hg)
  refine CodeF.loopD [1, 3] (fun vs J' S' => ∃ (i : Nat), i ≤ gs.length ∧ (∀ g ∈ gs.take i, 0 ≤ g.blk ∧ g.blk < 512 ∧ g.data.length = 4096) ∧ ((gs.take i).map Img.blk).Nodup ∧ vs = [.pointer (some ⟨b1, 0, none⟩), .int .i64 i] ∧ I = J' ∧ S' = [c0, [(b1, row [.int .i64 e, .int .i64 s, .slice a gs.length cap] 128)]])
    (fun vs _ _ => match vs with | [_, .int _ i] => ((gs.length : Int) - i).toNat | _ => 0) ?_ ?_
  · exact ⟨_, Drop.refl _, 0, by omega, by simp, by simp, rfl, rfl, rfl⟩
  rintro vs gE J' S' hJ' ⟨i, hi, hall, hn, rfl, rfl, rfl⟩
  refine LoadD.own 1 rfl _ rfl rfl ?_
  refine CmpD.split (fun c7 => ?_) (fun c7 => ?_)
  · have i1 : i < gs.length := by omega
    obtain ⟨bA, oA, rfl, hcA⟩ := SlC.split h.sl (by omega)
    have hcA' : ∀ L : St, Cells I ([c0] ++ L) bA oA (gs.length * 2) (imgCells gs) := fun L => by
      have := h.sl.mores L
      rcases this.mem with q | ⟨b, o, e, hc⟩
      · omega
      · cases e; exact hc
    have hr := h.each _ (List.getElem_mem i1)
    have hdl : gs[i].data.length = gs[i].len := by have := hr.rd.len; rwa [bts_length] at this
    have hmem := List.getElem_mem i1
    have htake : gs.take (i + 1) = gs.take i ++ [gs[i]] := by rw [List.take_add_one, List.getElem?_eq_getElem i1]; rfl
    have h0 := imgCells_0 i1
    have h1 := imgCells_1 i1
    refine LoadD.own 1 rfl _ rfl rfl ?_
    refine Chk.mk (by omega) ?_
    refine LoadD.mk _ ((hcA' _).at h0) ?_
    refine CmpD.split (fun d1 => ?_) (fun d1 => ?_)
    · exact Done.mk (no (0 ≤ gs[i].blk) (fun h => (hea h _ hmem).1) (by omega))
    refine LoadD.own 1 rfl _ rfl rfl ?_
    refine Chk.mk (by omega) ?_
    refine LoadD.mk _ ((hcA' _).at h0) ?_
    refine CmpD.split (fun d2 => ?_) (fun d2 => ?_)
    · exact Done.mk (no (gs[i].blk < 512) (fun h => (hea h _ hmem).2.1) (by omega))
    refine LoadD.own 1 rfl _ rfl rfl ?_
    refine Chk.mk (by omega) ?_
    refine LoadD.mk _ ((hcA' _).at h1) ?_
    refine CmpD.split (fun (d3 : (gs[i].len : Int) = 4096) => ?_) (fun (d3 : ¬ ((gs[i].len : Int) = 4096)) => ?_)
    rotate_left
    · exact Done.mk (no (gs[i].data.length = 4096) (fun h => (hea h _ hmem).2.2) (by omega))
    refine CodeF.loopD [1, 3, 4] (fun vs J' S' => ∃ (j : Nat), j ≤ i ∧ (∀ g ∈ gs.take j, ¬ g.blk = gs[i].blk) ∧ vs = [.pointer (some ⟨b1, 0, none⟩), .int .i64 i, .int .i64 j] ∧ I = J' ∧ S' = [c0, [(b1, row [.int .i64 e, .int .i64 s, .slice (some ⟨bA, oA, none⟩) gs.length cap] 128)]])
      (fun vs _ _ => match vs with | [_, _, .int _ j] => ((i : Int) - j).toNat | _ => 0) ?_ ?_
    · exact ⟨_, Drop.refl _, 0, by omega, by simp, rfl, rfl, rfl⟩
    rintro vs gE2 J' S' hJ' ⟨j, hj, hne, rfl, rfl, rfl⟩
    refine CmpD.split (fun c8 => ?_) (fun c8 => ?_)
    · have j1 : j < gs.length := by omega
      have hj0 := imgCells_0 j1
      have htj : gs.take (j + 1) = gs.take j ++ [gs[j]] := by rw [List.take_add_one, List.getElem?_eq_getElem j1]; rfl
      refine CodeF.sched [[], [0], [], [0, 1, 2], [0, 1, 2, 3], [0, 1, 2, 3, 4], [], [6], [], [6, 7, 8], [6, 7, 8, 9], [6, 7, 8, 9, 10], [0, 1, 2, 3, 4, 5, 6, 7, 8, 9, 10, 11]] [0, 1, 2, 3, 4, 5, 6, 7, 8, 9, 10, 11, 12] (by kernel_rfl) ?_
      refine LoadP.at 1 rfl _ rfl rfl ?_
      refine Chk.mk (by omega) ?_
      refine LoadP.own 0 _ (hcA.at hj0) ?_
      refine LoadP.at 1 rfl _ rfl rfl ?_
      refine Chk.mk (by omega) ?_
      refine LoadP.own 0 _ (hcA.at h0) ?_
      refine CmpD.split (fun d4 => ?_) (fun d4 => ?_)
      · refine Done.mk (no ((gs.map Img.blk).Nodup) hnd ?_)
        intro hnn
        have := (List.pairwise_iff_getElem.1 hnn) j i (by simpa using j1) (by simpa using i1) (by omega)
        exact this (by simpa using d4)
      · refine ToD.i64 (by omega) (by omega) ?_
        refine ⟨_, Drop.refl _, ⟨j + 1, by omega, ?_, rfl, rfl, rfl⟩, ?_⟩
        · intro g hg
          rw [htj] at hg
          rcases List.mem_append.1 hg with hg | hg
          · exact hne g hg
          · simp only [List.mem_singleton] at hg
            subst hg; exact d4
        · show ((i : Int) - ((j : Int) + 1)).toNat < ((i : Int) - (j : Int)).toNat
          omega
    · obtain rfl : j = i := by omega
      refine ToD.i64 (by omega) (by omega) ?_
      refine ⟨_, Drop.refl _, ⟨j + 1, by omega, ?_, ?_, rfl, rfl, rfl⟩, ?_⟩
      · intro x hx
        rw [htake] at hx
        rcases List.mem_append.1 hx with hx | hx
        · exact hall x hx
        · simp only [List.mem_singleton] at hx
          subst hx
          exact ⟨by omega, by omega, by omega⟩
      · rw [htake, List.map_append, List.nodup_append]
        refine ⟨hn, by simp, ?_⟩
        rintro x hx y hy rfl
        simp only [List.map_cons, List.map_nil, List.mem_singleton] at hy
        subst hy
        obtain ⟨g, hg, hg2⟩ := List.mem_map.1 hx
        exact hne g hg hg2
      · show ((gs.length : Int) - ((j : Int) + 1)).toNat < ((gs.length : Int) - (j : Int)).toNat
        omega
  · obtain rfl : i = gs.length := by omega
    rw [List.take_length] at hall hn
    refine Done.mk ⟨[c0], Drop.pick [0] _ rfl, ?_, rfl, rfl⟩
    show Value.bool true = _
    rw [decide_eq_true]
    refine ⟨by omega, by omega, by omega, by omega, by omega, by omega, ?_, by rw [List.map_map]; exact hn⟩
    intro g hg
    obtain ⟨x, hx, rfl⟩ := List.mem_map.1 hg
    exact hall x hx
theorem r6_Right {S : St} {I : Imm} (e s : Int) {a : Option Addr} {cap : Nat} {gs : List Img} (h : ImgsR I S a gs) (hlen : gs.length ≤ 1000000000) :
    Tri Tryz.prog 231 #[.agg #[.int .i64 e, .int .i64 s, .slice a gs.length cap]] I S fun v J S' => v = .bool (decide (RightP e s (gs.map Img.pr))) ∧ I = J ∧ S' = S := by
  refine Tri.pack ((r6_Right1 _ e s h.pack hlen).mono ?_)
  rintro v J S' hJ ⟨rfl, rfl, rfl⟩
  exact ⟨[], rfl, rfl, rfl, by simp⟩
end Go.Proofs.YtegdcjnjnoeinaaGreat
namespace Go.Proofs.YtegdcjnjnoeinaaGreat
open Go.RowKit Go.Sl
set_option maxRecDepth 20000

theorem slC_part {I : Imm} {S : St} {a : Option Addr} {n cap : Nat} {vs : List Value} (h : SlC I S a n vs) (lo m : Nat) (hm : 0 < m) (hle : lo + m ≤ n) (hc : n ≤ cap) : SlC I S (slAddr a lo cap 1) m ((vs.drop lo).take m) := by
  have hl := h.len
  refine ⟨by rw [List.length_take, List.length_drop]; omega, ?_⟩
  rcases h.mem with q | ⟨b, off, rfl, hc'⟩
  · omega
  · refine .inr ⟨b, off + lo, ?_, hc'.part hle⟩
    unfold slAddr
    rw [if_neg (by omega)]
    simp [add_none]
theorem bts_part (l : Dat) (lo m : Nat) : ((bts l).drop lo).take m = bts ((l.drop lo).take m) := by simp [bts, List.map_take, List.map_drop]
theorem hidP_snoc (l : List PImg) (g : PImg) : hidP (l ++ [g]) = hidP l ++ (be g.1.toNat 2 ++ hidK g.2 8) := by simp [hidP]

set_option maxHeartbeats 4000000 in
theorem r6_head1 (c0 : List Blk) {I : Imm} (e s : Nat) {a : Option Addr} {cap : Nat} {gs : List Img} (h : ImgsR I [c0] a gs) (hcap : ∀ g ∈ gs, g.len ≤ g.cap) (hR : RightP e s (gs.map Img.pr)) :
    Tri Tryz.prog 232 #[.agg #[.int .i64 e, .int .i64 s, .slice a gs.length cap]] I [c0] fun v J S' => ∃ a' cap' ch, v = .slice a' 4096 cap' ∧ OwnB ch a' 4096 cap' (hblk e s (gs.map Img.pr)) ∧ I = J ∧ S' = [c0, ch] := by
  have hml : (gs.map Img.pr).length = gs.length := List.length_map ..
  have hea : ∀ g ∈ gs, 0 ≤ g.blk ∧ g.blk < 512 ∧ g.data.length = 4096 := fun g hg => hR.2.2.2.2.2.2.1 g.pr (List.mem_map_of_mem hg)
  have hlens : ∀ g ∈ gs.map Img.pr, g.2.length = 4096 := hR.lens
  have h32 : gs.length ≤ 32 := by rw [← hml]; exact hR.2.2.2.2.2.1
  have h1 : 1 ≤ gs.length := by rw [← hml]; exact hR.2.2.2.2.1
  have hE := hR.2.1
  have hS := hR.2.2.2.1
  refine Tri.drop ?_ (fun _ _ _ _ h => h)
  refine Tri.of (args := [.agg #[.int .i64 e, .int .i64 s, .slice a gs.length cap]]) tabOk Tryz.func232 rfl (by kernel_rfl) (by kernel_rfl) ?_
  conv => whnf
  intro b1
  obtain ⟨bA, oA, rfl, hcA⟩ := SlC.split h.sl (by omega)
  have hcA' : ∀ L : St, Cells I ([c0] ++ L) bA oA (gs.length * 2) (imgCells gs) := fun L => by
    have := h.sl.mores L
    rcases this.mem with q | ⟨b, o, e, hc⟩
    · omega
    · cases e; exact hc
  refine CodeF.loopD [1, 3, 4] (fun vs J' S' => ∃ (i : Nat) (a3 : Option Addr) (cap3 : Nat) (ch3 : List Blk), i ≤ gs.length ∧ OwnB ch3 a3 (66 * i) cap3 (hidP ((gs.take i).map Img.pr)) ∧ vs = [.pointer (some ⟨b1, 0, none⟩), .slice a3 (66 * i : Nat) cap3, .int .i64 i] ∧ I = J' ∧ S' = [c0, [(b1, row [.int .i64 e, .int .i64 s, .slice (some ⟨bA, oA, none⟩) gs.length cap] 128)], ch3])
    (fun vs _ _ => match vs with | [_, _, .int _ i] => ((gs.length : Int) - i).toNat | _ => 0) ?_ ?_
  · exact ⟨_, Drop.and (Drop.refl _), 0, none, 0, [], by omega, OwnC.nil _ _, rfl, rfl, rfl⟩
  rintro vs gE J' S' hJ' ⟨i, a3, cap3, ch3, hi, h3, rfl, rfl, rfl⟩
  refine LoadD.own 1 rfl _ rfl rfl ?_
  refine CmpD.split (fun c7 => ?_) (fun c7 => ?_)
  · have i1 : i < gs.length := by omega
    have hr := h.each _ (List.getElem_mem i1)
    obtain ⟨q1, q2, q3⟩ := hea _ (List.getElem_mem i1)
    have hcp := hcap _ (List.getElem_mem i1)
    have hdl : gs[i].data.length = gs[i].len := by have := hr.rd.len; rwa [bts_length] at this
    have htake : gs.take (i + 1) = gs.take i ++ [gs[i]] := by rw [List.take_add_one, List.getElem?_eq_getElem i1]; rfl
    have h0 := imgCells_0 i1
    have h1' := imgCells_1 i1
    generalize gs[i] = g at *
    obtain ⟨n, hn⟩ : ∃ n : Nat, g.blk = n := ⟨g.blk.toNat, by omega⟩
    refine LoadD.own 1 rfl _ rfl rfl ?_
    refine Chk.mk (by omega) ?_
    refine LoadD.mk _ ((hcA' _).at h0) ?_
    rw [hn]
    refine ToD.to (n : Int) (wrap_u64 n (by omega)) ?_
    refine Tri.nf (ref_Add' (h3.slC1 2 rfl) (by omega) n (by omega) 2 (by omega)) ?_
    rintro v J S' hJ ⟨a4, cap4, ch4, rfl, h4, rfl, rfl⟩
    refine CodeF.loopD [1, 3, 4, 5] (fun vs J' S' => ∃ (j : Nat) (a3 : Option Addr) (cap3 : Nat) (ch3 : List Blk), j ≤ 8 ∧ OwnB ch3 a3 (66 * i + 2 + 8 * j) cap3 (hidP ((gs.take i).map Img.pr) ++ be n 2 ++ hidK g.data j) ∧ vs = [.pointer (some ⟨b1, 0, none⟩), .slice a3 (66 * i + 2 + 8 * j : Nat) cap3, .int .i64 i, .int .i64 j] ∧ I = J' ∧ S' = [c0, [(b1, row [.int .i64 e, .int .i64 s, .slice (some ⟨bA, oA, none⟩) gs.length cap] 128)], ch3])
      (fun vs _ _ => match vs with | [_, _, _, .int _ j] => ((8 : Int) - j).toNat | _ => 0) ?_ ?_
    · exact ⟨_, Drop.pick [0, 1, 3] _ rfl, 0, a4, cap4, ch4, by omega, by rw [hidK_zero, List.append_nil]; exact h4, rfl, rfl, rfl⟩
    rintro vs gE2 J' S' hJ' ⟨j, a5, cap5, ch5, hj, h5, rfl, rfl, rfl⟩
    refine CmpD.split (fun c8 => ?_) (fun c8 => ?_)
    · refine LoadD.own 1 rfl _ rfl rfl ?_
      refine Chk.mk (by omega) ?_
      refine LoadD.mk _ ((hcA' _).at h1') ?_
      refine ToD.to ((j * 512 : Nat) : Int) (by rw [wrap_i64 (by omega) (by omega)]; omega) ?_
      refine ToD.to ((j * 512 : Nat) : Int) (by rw [wrap_i64 (by omega) (by omega)]; omega) ?_
      refine ToD.to ((j * 512 + 8 : Nat) : Int) (by rw [wrap_i64 (by omega) (by omega)]; omega) ?_
      refine sliceD tabOk rfl rfl rfl rfl (j * 512) (j * 512 + 8) g.cap ⟨_, rfl⟩ ⟨_, rfl⟩ rfl (.inl rfl) (by omega) ?_
      rw [show j * 512 + 8 - j * 512 = 8 by omega]
      refine appendD tabOk rfl rfl rfl rfl rfl rfl rfl 2 rfl h5 (SrcOk.slice (n := 8) (news := bts ((g.data.drop (j * 512)).take 8)) tabOk rfl (by rw [← bts_part]; exact SlC.mores (slC_part hr.rd (cap := g.cap) (j * 512) 8 (by omega) (by omega) hcp) [_, _]) (bts_plain _)) rfl (by show (66 * i + 2 + 8 * j + 8) * 1 ≤ _; omega) (by omega) ?_
      intro a6 cap6 ch6 h6
      refine ToD.i64 (by omega) (by omega) ?_
      refine ⟨_, Drop.refl _, ⟨j + 1, a6, cap6, ch6, by omega, ?_, rfl, rfl, rfl⟩, ?_⟩
      · rw [hidK_succ, OwnB, ← List.append_assoc, bts_append]
        exact h6
      · show ((8 : Int) - ((j : Int) + 1)).toNat < ((8 : Int) - (j : Int)).toNat
        omega
    · obtain rfl : j = 8 := by omega
      refine ToD.i64 (by omega) (by omega) ?_
      refine ⟨_, Drop.refl _, ⟨i + 1, a5, cap5, ch5, by omega, ?_, rfl, rfl, rfl⟩, ?_⟩
      · rw [htake, List.map_append, List.map_cons, List.map_nil, hidP_snoc]
        show OwnB _ _ _ _ (_ ++ (be g.blk.toNat 2 ++ hidK g.data 8))
        rw [hn, Int.toNat_natCast, ← List.append_assoc]
        exact h5
      · show ((gs.length : Int) - ((i : Int) + 1)).toNat < ((gs.length : Int) - (i : Int)).toNat
        omega
  · obtain rfl : i = gs.length := by omega
    rw [List.take_length] at h3
    refine CodeF.loopD [1, 3] (fun vs J' S' => ∃ (k : Nat) (a3 : Option Addr) (cap3 : Nat) (ch3 : List Blk), k ≤ 4026 - 66 * gs.length ∧ OwnB ch3 a3 (66 * gs.length + k) cap3 (hidP (gs.map Img.pr) ++ List.replicate k 0) ∧ vs = [.pointer (some ⟨b1, 0, none⟩), .slice a3 (66 * gs.length + k : Nat) cap3] ∧ I = J' ∧ S' = [c0, [(b1, row [.int .i64 e, .int .i64 s, .slice (some ⟨bA, oA, none⟩) gs.length cap] 128)], ch3])
      (fun vs _ _ => match vs with | [_, .slice _ n _] => 4026 - n | _ => 0) ?_ ?_
    · exact ⟨_, Drop.refl _, 0, a3, cap3, ch3, by omega, by rw [List.replicate_zero, List.append_nil]; exact h3, rfl, rfl, rfl⟩
    rintro vs gE2 J' S' hJ' ⟨k, a4, cap4, ch4, hk, h4, rfl, rfl, rfl⟩
    refine CmpD.split (fun c8 => ?_) (fun c8 => ?_)
    · conv => whnf
      intro bN
      refine appendD tabOk rfl rfl rfl rfl rfl rfl rfl 2 rfl h4 (SrcOk.slice (n := 1) (news := bts [0]) tabOk rfl ((OwnC.whole (len := 1) (size := 1) rfl).slC 3 rfl) (bts_plain _)) rfl (by show (66 * gs.length + k + 1) * 1 ≤ _; omega) (by omega) ?_
      intro a6 cap6 ch6 h6
      refine ⟨_, Drop.pick [0, 1, 2] _ rfl, ⟨k + 1, a6, cap6, ch6, by omega, ?_, rfl, rfl, rfl⟩, ?_⟩
      · rw [List.replicate_succ', ← List.append_assoc, OwnB, bts_append]
        exact h6
      · show 4026 - (66 * gs.length + k + 1) < 4026 - (66 * gs.length + k)
        omega
    · have hk2 : 66 * gs.length + k = 4026 := by omega
      have hlist : hidP (gs.map Img.pr) ++ List.replicate k 0 = listP (gs.map Img.pr) := by
        rw [listP, hml, show 4026 - 66 * gs.length = k by omega]
      rw [hk2, hlist] at h4
      rw [hk2]
      have hcrc : crcMore 0 (listP (gs.map Img.pr)) < 4294967296 := Nat.xor_lt_two_pow (n := 32) (crcReg_lt (by decide) _) (by decide)
      refine LoadD.own 1 rfl _ rfl rfl ?_
      refine ToD.to (gs.length : Int) (wrap_u64 gs.length (by omega)) ?_
      refine Tri.nf (ref_Add' (a := none) (len := 0) (cap := 0) (l := []) ⟨rfl, .inl rfl⟩ (by omega) gs.length (by omega) 2 (by omega)) ?_
      rintro v J S' hJ ⟨a5, cap5, ch5, rfl, h5, rfl, rfl⟩
      refine Tri.nf (ref_More 0 (by omega) (h4.slC1 2 rfl) (by omega)) ?_
      rintro v J S' hJ ⟨rfl, rfl, rfl⟩
      refine ToD.to ((crcMore 0 (listP (gs.map Img.pr)) : Nat) : Int) (wrap_u64 _ (by omega)) ?_
      refine Tri.nf (ref_Add' (h5.slC1 3 rfl) (by omega) _ (by omega) 4 (by omega)) ?_
      rintro v J S' hJ ⟨a6, cap6, ch6, rfl, h6, rfl, rfl⟩
      refine appendD tabOk rfl rfl rfl rfl rfl rfl rfl 4 rfl h6 (SrcOk.slice (n := 4026) tabOk rfl (h4.slC 2 rfl) (bts_plain _)) rfl (by show (0 + 2 + 4 + 4026) * 1 ≤ _; omega) (by omega) ?_
      intro a7 cap7 ch7 h7
      have h7 : OwnB ch7 a7 4032 cap7 (headP (gs.map Img.pr)) := by
        rw [headP, hml, OwnB, bts_append]
        exact h7
      have hc7 := h7.le
      refine CodeF.loopD [1, 6, 7, 8] (fun vs J' S' => ∃ (k : Nat) (a8 : Option Addr) (cap8 : Nat) (ch8 : List Blk), k ≤ 8 ∧ OwnB ch8 a8 (512 * k) cap8 (sprK (stampB e s) (headP (gs.map Img.pr)) k) ∧ vs = [.pointer (some ⟨b1, 0, none⟩), .slice a7 4032 cap7, .slice a8 (512 * k : Nat) cap8, .int .i64 k] ∧ I = J' ∧ S' = [c0, [(b1, row [.int .i64 e, .int .i64 s, .slice (some ⟨bA, oA, none⟩) gs.length cap] 128)], ch7, ch8])
        (fun vs _ _ => match vs with | [_, _, _, .int _ k] => ((8 : Int) - k).toNat | _ => 0) ?_ ?_
      · exact ⟨_, Drop.and (Drop.pick [0, 1, 4] _ rfl), 0, none, 0, [], by omega, by rw [sprK_zero]; exact OwnC.nil _ _, rfl, rfl, rfl⟩
      rintro vs gE3 J' S' hJ' ⟨k, a8, cap8, ch8, hk, h8, rfl, rfl, rfl⟩
      refine CmpD.split (fun c9 => ?_) (fun c9 => ?_)
      · refine LoadD.own 1 rfl _ rfl rfl ?_
        refine Tri.nf (r6_stamp e s (by omega) (by omega) _ _ _) ?_
        rintro v J S' hJ ⟨aM, capM, chM, rfl, hM, rfl, rfl⟩
        refine appendD tabOk rfl rfl rfl rfl rfl rfl rfl 3 rfl h8 (SrcOk.slice (n := 8) tabOk rfl (hM.slC 4 rfl) (bts_plain _)) rfl (by show (512 * k + 8) * 1 ≤ _; omega) (by omega) ?_
        intro a9 cap9 ch9 h9
        refine ToD.to ((k * 504 : Nat) : Int) (by rw [wrap_i64 (by omega) (by omega)]; omega) ?_
        refine ToD.to ((k + 1 : Nat) : Int) (by rw [wrap_i64 (by omega) (by omega)]; omega) ?_
        refine ToD.to ((k * 504 + 504 : Nat) : Int) (by rw [wrap_i64 (by omega) (by omega)]; omega) ?_
        refine sliceD tabOk rfl rfl rfl rfl (k * 504) (k * 504 + 504) cap7 ⟨_, rfl⟩ ⟨_, rfl⟩ rfl (.inl rfl) (by omega) ?_
        rw [show k * 504 + 504 - k * 504 = 504 by omega]
        refine appendD tabOk rfl rfl rfl rfl rfl rfl rfl 3 rfl h9 (SrcOk.slice (n := 504) (news := bts (((headP (gs.map Img.pr)).drop (k * 504)).take 504)) tabOk rfl (by rw [← bts_part]; exact (slC_part (h7.slC1 2 rfl) (cap := cap7) (k * 504) 504 (by omega) (by omega) hc7)) (bts_plain _)) rfl (by show (512 * k + 8 + 504) * 1 ≤ _; omega) (by omega) ?_
        intro a10 cap10 ch10 h10
        refine ToD.i64 (by omega) (by omega) ?_
        refine ⟨_, Drop.pick [0, 1, 2, 3] _ rfl, ⟨k + 1, a10, cap10, ch10, by omega, ?_, ?_, rfl, rfl⟩, ?_⟩
        · rw [sprK_succ, OwnB, bts_append, bts_append, show 512 * (k + 1) = 512 * k + 8 + 504 by omega]
          exact h10
        · rw [show 512 * (k + 1) = 512 * k + 8 + 504 by omega]; rfl
        · show ((8 : Int) - ((k : Int) + 1)).toNat < ((8 : Int) - (k : Int)).toNat
          omega
      · obtain rfl : k = 8 := by omega
        exact Done.mk ⟨[c0, ch8], Drop.pick [0, 3] _ rfl, a8, cap8, ch8, rfl, h8, rfl, rfl⟩
theorem r6_head {S : St} {I : Imm} (e s : Nat) {a : Option Addr} {cap : Nat} {gs : List Img} (h : ImgsR I S a gs) (hcap : ∀ g ∈ gs, g.len ≤ g.cap) (hR : RightP e s (gs.map Img.pr)) :
    Tri Tryz.prog 232 #[.agg #[.int .i64 e, .int .i64 s, .slice a gs.length cap]] I S fun v J S' => ∃ a' cap' ch, v = .slice a' 4096 cap' ∧ OwnB ch a' 4096 cap' (hblk e s (gs.map Img.pr)) ∧ I = J ∧ S' = S ++ [ch] := by
  refine Tri.pack ((r6_head1 S.flatten e s h.pack hcap hR).mono ?_)
  rintro r J S' hJ ⟨a', cap', ch, rfl, hown, rfl, rfl⟩
  exact ⟨[ch], rfl, a', cap', ch, rfl, hown, rfl, rfl⟩
end Go.Proofs.YtegdcjnjnoeinaaGreat
namespace Go.Proofs.YtegdcjnjnoeinaaGreat
open Go.RowKit Go.Sl
set_option maxRecDepth 20000

theorem bts_set {x y : Dat} {p : Nat} {v : UInt8} (hp : p < x.length) (h : y = x.set p v) : bts y = (bts x).take p ++ [byte v] ++ (bts x).drop (p + 1) := by
  subst h
  rw [List.set_eq_take_append_cons_drop, if_pos hp]
  simp [bts, List.map_take, List.map_drop]
def gen (f g : Nat → UInt8) (q : Nat) : Dat := (List.range 4096).map fun j => if j < q then f j else g j
theorem gen_length (f g : Nat → UInt8) (q : Nat) : (gen f g q).length = 4096 := by simp [gen]
theorem gen_get (f g : Nat → UInt8) (q : Nat) {j : Nat} (h : j < 4096) : (gen f g q)[j]? = some (if j < q then f j else g j) := by simp [gen, h]
theorem getD_get {l : Dat} {j : Nat} (h : j < l.length) : l[j]? = some (l.getD j 0) := by
  rw [List.getD_eq_getElem?_getD, List.getElem?_eq_getElem h]; rfl
theorem gen_zero (f : Nat → UInt8) {l : Dat} (hl : l.length = 4096) : gen f (fun j => l.getD j 0) 0 = l := by
  refine ext4096 (gen_length _ _ _) hl fun j hj => ?_
  rw [gen_get _ _ _ hj, if_neg (by omega), getD_get (by omega)]
theorem gen_skip (f g : Nat → UInt8) {q : Nat} (h : f q = g q) : gen f g (q + 1) = gen f g q := by
  refine ext4096 (gen_length _ _ _) (gen_length _ _ _) fun j hj => ?_
  rw [gen_get _ _ _ hj, gen_get _ _ _ hj]
  by_cases h1 : j < q
  · rw [if_pos h1, if_pos (by omega)]
  · rw [if_neg h1]
    by_cases h2 : j = q
    · subst h2; rw [if_pos (by omega), h]
    · rw [if_neg (by omega)]
theorem gen_step (f g : Nat → UInt8) {q : Nat} (hq : q < 4096) : gen f g (q + 1) = (gen f g q).set q (f q) := by
  apply List.ext_getElem?
  intro j
  rcases Nat.lt_or_ge j 4096 with hj | hj
  · rw [gen_get _ _ _ hj]
    by_cases h2 : q = j
    · subst h2; rw [List.getElem?_set_self (by rw [gen_length]; exact hq), if_pos (by omega)]
    · rw [List.getElem?_set_ne h2, gen_get _ _ _ hj]
      by_cases h1 : j < q
      · rw [if_pos h1, if_pos (by omega)]
      · rw [if_neg h1, if_neg (by omega)]
  · rw [List.getElem?_eq_none (by rw [gen_length]; exact hj), List.getElem?_eq_none (by rw [List.length_set, gen_length]; exact hj)]
/-- marked, byte by byte -/
def mrkF (m l : Dat) (j : Nat) : UInt8 := if j % 512 < 8 then m.getD (j % 512) 0 else l.getD j 0
theorem gen_mark {m l : Dat} (hm : m.length = 8) (hl : l.length = 4096) : gen (mrkF m l) (fun j => l.getD j 0) 4096 = markK m l 8 := by
  have hk := markK_length (l := l) hm 8 (by omega) (by omega)
  refine ext4096 (gen_length _ _ _) (by omega) fun j hj => ?_
  rw [gen_get _ _ _ hj, if_pos hj, markK_at hm hl 8 (by omega) j hj, mrkF]
  by_cases h : j % 512 < 8
  · rw [if_pos h, if_pos ⟨by omega, h⟩, getD_get (by omega)]
  · rw [if_neg h, if_neg (by omega), getD_get (by omega)]
/-- filled, byte by byte -/
def filF (l r : Dat) (j : Nat) : UInt8 := if 8 ≤ j % 512 then r.getD j 0 else l.getD j 0
theorem gen_fill {r hid : Dat} (hr : r.length = 4096) (hh : hid.length = 64) : gen (filF (shoK noughts hid 8) r) (fun j => (shoK noughts hid 8).getD j 0) 4096 = shoK r hid 8 := by
  have hz := shoK_length noughts_length hh 8 (by omega)
  have hk := shoK_length hr hh 8 (by omega)
  refine ext4096 (gen_length _ _ _) (by omega) fun j hj => ?_
  rw [gen_get _ _ _ hj, if_pos hj, shoK_at hr hh 8 (by omega) j hj, filF]
  by_cases h : 8 ≤ j % 512
  · rw [if_pos h, if_neg (by omega), getD_get (by omega)]
  · rw [if_neg h, if_pos (by omega), ← getD_get (by omega), shoK_at noughts_length hh 8 (by omega) j hj, if_pos (by omega)]
/-- the hidden bytes, one by one -/
def shw (hid : Dat) (n : Nat) : Dat := (List.range 4096).map fun j => if j % 512 < 8 ∧ 8 * (j / 512) + j % 512 < n then hid.getD (8 * (j / 512) + j % 512) 0 else 0
theorem shw_length (hid : Dat) (n : Nat) : (shw hid n).length = 4096 := by simp [shw]
theorem shw_get (hid : Dat) (n : Nat) {j : Nat} (h : j < 4096) : (shw hid n)[j]? = some (if j % 512 < 8 ∧ 8 * (j / 512) + j % 512 < n then hid.getD (8 * (j / 512) + j % 512) 0 else 0) := by simp [shw, h]
theorem noughts_get {j : Nat} (h : j < 4096) : noughts[j]? = some 0 := by
  unfold noughts
  rw [List.getElem?_replicate, if_pos h]
theorem shw_zero (hid : Dat) : shw hid 0 = noughts := by
  refine ext4096 (shw_length _ _) noughts_length fun j hj => ?_
  rw [shw_get _ _ hj, if_neg (by omega), noughts_get hj]
theorem shw_all {hid : Dat} (hh : hid.length = 64) : shw hid 64 = shoK noughts hid 8 := by
  have hz := shoK_length noughts_length hh 8 (by omega)
  refine ext4096 (shw_length _ _) hz fun j hj => ?_
  rw [shw_get _ _ hj, shoK_at noughts_length hh 8 (by omega) j hj]
  by_cases h : j % 512 < 8
  · rw [if_pos (by omega), if_pos (by omega), getD_get (by omega)]
  · rw [if_neg (by omega), if_neg (by omega), noughts_get hj]
theorem shw_step (hid : Dat) (n : Nat) : shw hid (n + 1) = (shw hid n).set (n / 8 * 512 + n % 8) (hid.getD n 0) := by
  apply List.ext_getElem?
  intro j
  rcases Nat.lt_or_ge j 4096 with hj | hj
  · rw [shw_get _ _ hj]
    by_cases h2 : n / 8 * 512 + n % 8 = j
    · rw [h2, List.getElem?_set_self (by rw [shw_length]; exact hj), if_pos (by omega), show 8 * (j / 512) + j % 512 = n by omega]
    · rw [List.getElem?_set_ne h2, shw_get _ _ hj]
      by_cases h1 : j % 512 < 8 ∧ 8 * (j / 512) + j % 512 < n
      · rw [if_pos h1, if_pos (by omega)]
      · rw [if_neg h1, if_neg (by omega)]
  · rw [List.getElem?_eq_none (by rw [shw_length]; exact hj), List.getElem?_eq_none (by rw [List.length_set, shw_length]; exact hj)]
/-- gathered, byte by byte -/
def cq (q : Nat) : Nat := q / 512 * 504 + (q % 512 - 8)
theorem gat_step {b : Dat} (hb : b.length = 4096) {q : Nat} (hq : q < 4096) (h8 : 8 ≤ q % 512) : (gatK b 8).take (cq (q + 1)) = (gatK b 8).take (cq q) ++ [b.getD q 0] ∧ cq (q + 1) = cq q + 1 := by
  have e : cq (q + 1) = cq q + 1 := by unfold cq; omega
  have hc : cq q < 4032 := by unfold cq; omega
  have hg := gatK_at hb 8 (by omega) (cq q) (by omega)
  have hi : cq q / 504 * 512 + 8 + cq q % 504 = q := by unfold cq; omega
  rw [hi, getD_get (l := b) (j := q) (by omega)] at hg
  exact ⟨by rw [e, List.take_add_one, hg]; rfl, e⟩
theorem cq_skip {q : Nat} (h8 : ¬ 8 ≤ q % 512) : cq (q + 1) = cq q := by unfold cq; omega
theorem cq_all {b : Dat} (hb : b.length = 4096) : (gatK b 8).take (cq 4096) = gatK b 8 := by
  have := gatK_length hb 8 (by omega)
  exact List.take_of_length_le (by unfold cq; omega)
theorem hidB_get {b : Dat} (hb : b.length = 4096) {i n : Nat} (hi : i < 32) (hn : n < 64) : (gatK b 8)[8 + 66 * i + n]? = some ((hidB b i).getD n 0) := by
  have hg := gatK_length hb 8 (by omega)
  have hl : (hidB b i).length = 64 := by unfold hidB; rw [List.length_take, List.length_drop]; omega
  rw [← getD_get (by omega), hidB, List.getElem?_take, if_pos hn, List.getElem?_drop]
theorem hidB_length {b : Dat} (hb : b.length = 4096) {i : Nat} (hi : i < 32) : (hidB b i).length = 64 := by
  have hg := gatK_length hb 8 (by omega)
  unfold hidB; rw [List.length_take, List.length_drop]; omega
end Go.Proofs.YtegdcjnjnoeinaaGreat
namespace Go.Proofs.YtegdcjnjnoeinaaGreat
open Go.RowKit Go.Sl
set_option maxRecDepth 20000

theorem copyS1 (c0 : List Blk) {I : Imm} {a : Option Addr} {len cap : Nat} {l : Dat} (h : SlC I [c0] a len (bts l)) (hlen : len ≤ 140737488355328) :
    Tri Tryz.prog 44 #[.slice a len cap] I [c0] fun v J S' => ∃ a' cap' ch, v = .slice a' len cap' ∧ OwnB ch a' len cap' l ∧ I = J ∧ S' = [c0, ch] := by
  refine Tri.lay (S2 := [c0, []]) (by simp) ?_
  refine Tri.of (args := [.slice a len cap]) tabOk Tryz.func44 rfl (by kernel_rfl) (by kernel_rfl) ?_
  refine appendD tabOk rfl rfl rfl rfl rfl rfl rfl 1 rfl (OwnC.nil 1 none) (SrcOk.slice (n := len) (news := bts l) tabOk rfl (by show SlC _ _ _ (len * 1) _; rw [Nat.mul_one]; exact h.mores [[]]) (bts_plain _)) rfl (by show (0 + len) * 1 ≤ _; omega) (by omega) ?_
  intro a2 cap2 ch2 hO
  rw [Nat.zero_add] at hO ⊢
  exact Done.mk ⟨a2, cap2, ch2, rfl, hO, rfl, rfl⟩
theorem copyS {S : St} {I : Imm} {a : Option Addr} {len cap : Nat} {l : Dat} (h : SlC I S a len (bts l)) (hlen : len ≤ 140737488355328) :
    Tri Tryz.prog 44 #[.slice a len cap] I S fun v J S' => ∃ a' cap' ch, v = .slice a' len cap' ∧ OwnB ch a' len cap' l ∧ I = J ∧ S' = S ++ [ch] := by
  refine Tri.pack ((copyS1 S.flatten h.pack hlen).mono ?_)
  rintro r J S' hJ ⟨a', cap', ch, rfl, hown, rfl, rfl⟩
  exact ⟨[ch], rfl, a', cap', ch, rfl, hown, rfl, rfl⟩
theorem ImgsR.imm {I J : Imm} {S : St} {a : Option Addr} {gs : List Img} (h : ImgsR I S a gs) (hJ : I.le J) : ImgsR J S a gs := ⟨h.sl.imm hJ, fun g hg => ⟨(h.each g hg).rd.imm hJ⟩⟩
theorem ImgsR.mores {I : Imm} {S : St} {a : Option Addr} {gs : List Img} (h : ImgsR I S a gs) (L : St) : ImgsR I (S ++ L) a gs := ⟨h.sl.mores L, fun g hg => ⟨(h.each g hg).rd.mores L⟩⟩
theorem slC_cells {I : Imm} {S : St} {b off n : Nat} {vs : List Value} (h : SlC I S (some ⟨b, off, none⟩) n vs) (hn : n ≠ 0) : Cells I S b off n vs := by
  rcases h.mem with q | ⟨b', o', e, hc⟩
  · exact absurd q hn
  · cases e; exact hc

def BkIn (ch : List Blk) (b : Bk) : Prop := ∃ bz pre post T, b.a = some ⟨bz, pre.length, none⟩ ∧ (bz, row (pre ++ bts b.data ++ post) T) ∈ ch ∧ b.data.length = 4096
theorem BkIn.ok {ch : List Blk} {b : Bk} (h : BkIn ch b) {J : Imm} (hm : ∀ x ∈ ch, J x.1 = some x.2) : BkOk J b := by
  obtain ⟨bz, pre, post, T, ha, hx, hl⟩ := h
  have hl' : (bts b.data).length = 4096 := by rw [bts_length, hl]
  refine ⟨hl', .inr ⟨bz, pre.length, _, T, (0, 0), ha, hm _ hx, ?_⟩⟩
  rw [List.append_assoc, List.drop_left, ← hl', List.take_left]
theorem BkIn.of {ch : List Blk} {a : Option Addr} {cap : Nat} {l : Dat} (h : OwnB ch a 4096 cap l) : BkIn ch ⟨a, cap, l⟩ := by
  have hl : l.length = 4096 := by have := h.n; rw [bts_length] at this; omega
  rcases h.at' with q0 | ⟨b6, pre, post, T6, h1, h2, _⟩
  · have := h.le; omega
  · exact ⟨b6, pre, post, T6, h1, by rw [h2]; simp, hl⟩
theorem BkIn.more {ch : List Blk} {b : Bk} (h : BkIn ch b) (c2 : List Blk) : BkIn (ch ++ c2) b := by
  obtain ⟨bz, pre, post, T, ha, hx, hl⟩ := h
  exact ⟨bz, pre, post, T, ha, List.mem_append_left _ hx, hl⟩
theorem BkIn.more' {ch : List Blk} {b : Bk} (h : BkIn ch b) (c2 : List Blk) : BkIn (c2 ++ ch) b := by
  obtain ⟨bz, pre, post, T, ha, hx, hl⟩ := h
  exact ⟨bz, pre, post, T, ha, List.mem_append_right _ hx, hl⟩
set_option maxHeartbeats 4000000 in
theorem r6_Put0 (c0 : List Blk) {I : Imm} (e s : Nat) {a : Option Addr} {cap : Nat} {gs : List Img} (h : ImgsR I [c0] a gs) (hcap : ∀ g ∈ gs, g.len ≤ g.cap) (hR : RightP e s (gs.map Img.pr)) :
    Tri Tryz.prog 203 #[.agg #[.int .i64 e, .int .i64 s, .slice a gs.length cap]] I [c0] fun v _ S' => ∃ aO capO chO chZ, ∃ bs : List Bk, v = .tuple #[.slice aO (gs.length + 1) capO, .int .i64 0] ∧ OwnC chO 1 aO (gs.length + 1) capO (bs.map Bk.cell) ∧ bs.map Bk.data = putP e s (gs.map Img.pr) ∧ (∀ b ∈ bs, BkIn chZ b) ∧ S' = [c0, chO, chZ] := by
  have hml : (gs.map Img.pr).length = gs.length := List.length_map ..
  have hea : ∀ g ∈ gs, 0 ≤ g.blk ∧ g.blk < 512 ∧ g.data.length = 4096 := fun g hg => hR.2.2.2.2.2.2.1 g.pr (List.mem_map_of_mem hg)
  have h32 : gs.length ≤ 32 := by rw [← hml]; exact hR.2.2.2.2.2.1
  have h1 : 1 ≤ gs.length := by rw [← hml]; exact hR.2.2.2.2.1
  have hE := hR.2.1
  have hS := hR.2.2.2.1
  have hsl := stampB_length e s
  refine Tri.drop ?_ (fun _ _ _ _ h => h)
  refine Tri.of (args := [.agg #[.int .i64 e, .int .i64 s, .slice a gs.length cap]]) tabOk Tryz.func203 rfl (by kernel_rfl) (by kernel_rfl) ?_
  conv => whnf
  intro b1
  repeat (first | refine LoadD.own 1 rfl _ rfl rfl ?_)
  refine Tri.nf (r6_Right e s (h.mores [_]) (by omega)) ?_
  rintro v J S' hJ ⟨rfl, rfl, rfl⟩
  rw [decide_eq_true hR]
  repeat (first | refine LoadD.own 1 rfl _ rfl rfl ?_)
  refine Tri.nf (r6_head e s (h.mores [_]) hcap hR) ?_
  rintro v J S' hJ ⟨aH, capH, chH, rfl, hH, rfl, rfl⟩
  conv => whnf
  intro bN
  obtain ⟨bA, oA, rfl, _⟩ := SlC.split h.sl (by omega)
  refine CodeF.loopD [1, 4, 5] (fun vs J' S' => ∃ (i : Nat) (a4 : Option Addr) (cap4 : Nat) (ch4 chZ : List Blk) (bs : List Bk), i ≤ gs.length ∧ OwnC ch4 1 a4 (i + 1) cap4 (bs.map Bk.cell) ∧ bs.map Bk.data = hblk e s (gs.map Img.pr) :: (gs.take i).map (fun g => markK (stampB e s) g.data 8) ∧ (∀ b ∈ bs, BkIn chZ b) ∧ I = J' ∧
      vs = [.pointer (some ⟨b1, 0, none⟩), .slice a4 (i + 1 : Nat) cap4, .int .i64 i] ∧ S' = [c0, [(b1, row [.int .i64 e, .int .i64 s, .slice (some ⟨bA, oA, none⟩) gs.length cap] 128)], ch4, chZ])
    (fun vs _ _ => match vs with | [_, _, .int _ i] => ((gs.length : Int) - i).toNat | _ => 0) ?_ ?_
  · refine ⟨_, Drop.pick [0, 1, 3, 2] _ rfl, 0, _, _, _, _, [⟨aH, capH, hblk e s (gs.map Img.pr)⟩], by omega, OwnC.whole rfl, rfl, ?_, rfl, rfl, rfl⟩
    intro b hb
    simp only [List.mem_singleton] at hb
    subst hb; exact BkIn.of hH
  rintro vs gE J' S' hJ' ⟨i, a4, cap4, ch4, chZ, bs, hi, h4, hbd, hbok, rfl, rfl, rfl⟩
  have hj := h
  refine LoadD.own 1 rfl _ rfl rfl ?_
  refine CmpD.split (fun c7 => ?_) (fun c7 => ?_)
  · have i1 : i < gs.length := by omega
    have hr := hj.each _ (List.getElem_mem i1)
    obtain ⟨q1, q2, q3⟩ := hea _ (List.getElem_mem i1)
    have hdl : gs[i].data.length = gs[i].len := by have := hr.rd.len; rwa [bts_length] at this
    have htake : gs.take (i + 1) = gs.take i ++ [gs[i]] := by rw [List.take_add_one, List.getElem?_eq_getElem i1]; rfl
    have h1' := imgCells_1 i1
    generalize gs[i] = g at *
    obtain ⟨gb, ga, gl, gc, gd⟩ := g
    dsimp only at q1 q2 q3 hdl
    obtain rfl : gl = 4096 := by omega
    refine LoadD.own 1 rfl _ rfl rfl ?_
    refine Chk.mk (by omega) ?_
    refine LoadD.mk _ ((slC_cells (hj.sl.mores [_, _, _]) (by omega)).at h1') ?_
    refine Tri.nf (copyS (hr.rd.mores [_, _, _]) (by show 4096 ≤ _; omega)) ?_
    rintro v J S' hJ ⟨a6, cap6, ch6, rfl, h6, rfl, rfl⟩
    rcases h6.at' with q0 | ⟨b6, pre, post, T6, rfl, rfl, hpost⟩
    · have := h6.le; dsimp only at this; omega
    refine CodeF.loopD [1, 4, 5, 6, 7] (fun vs J2 S' => ∃ (q : Nat), q ≤ 4096 ∧ I = J2 ∧ vs = [.pointer (some ⟨b1, 0, none⟩), .slice a4 (i + 1 : Nat) cap4, .int .i64 i, .slice (some ⟨b6, pre.length, none⟩) 4096 cap6, .int .i64 q] ∧
        S' = [c0, [(b1, row [.int .i64 e, .int .i64 s, .slice (some ⟨bA, oA, none⟩) gs.length cap] 128)], ch4, chZ, [(b6, row (pre ++ bts (gen (mrkF (stampB e s) gd) (fun j => gd.getD j 0) q) ++ post) T6)]])
      (fun vs _ _ => match vs with | [_, _, _, _, .int _ q] => ((4096 : Int) - q).toNat | _ => 0) ?_ ?_
    · refine ⟨_, Drop.refl _, 0, by omega, rfl, rfl, ?_⟩
      rw [gen_zero _ q3]
    rintro vs gE2 J2 S' hJ2 ⟨q, hq, rfl, rfl, rfl⟩
    have hgl := gen_length (mrkF (stampB e s) gd) (fun j => gd.getD j 0) q
    refine CmpD.split (fun c8 => ?_) (fun c8 => ?_)
    · refine Chk.mk (by decide) ?_
      refine ToD.to ((q % 512 : Nat) : Int) (tmod_nat q 512) ?_
      refine CmpD.split (fun c9 => ?_) (fun c9 => ?_)
      · refine LoadD.own 1 rfl _ rfl rfl ?_
        refine Tri.nf (r6_stamp e s (by omega) (by omega) _ _ _) ?_
        rintro v J S' hJ ⟨aM, capM, chM, rfl, hM, rfl, rfl⟩
        obtain ⟨bM, oM, rfl, hcM⟩ := SlC.cells (hM.slC1 (I := I) (S := [c0, [(b1, row [.int .i64 e, .int .i64 s, .slice (some ⟨bA, oA, none⟩) gs.length cap] 128)], ch4, chZ, [(b6, row (pre ++ bts (gen (mrkF (stampB e s) gd) (fun j => gd.getD j 0) q) ++ post) T6)], chM]) 5 rfl) (by omega)
        refine Chk.mk (by decide) ?_
        refine ToD.to ((q % 512 : Nat) : Int) (tmod_nat q 512) ?_
        refine Chk.mk (by omega) ?_
        refine LoadD.mk _ (hcM.at (bts_get (getD_get (by omega)))) ?_
        refine Chk.mk (by omega) ?_
        have hset := gen_step (mrkF (stampB e s) gd) (fun j => gd.getD j 0) (q := q) (by omega)
        have hsp : splice (pre ++ bts (gen (mrkF (stampB e s) gd) (fun j => gd.getD j 0) q) ++ post) (pre.length + q) [byte ((stampB e s).getD (q % 512) 0)] = pre ++ bts (gen (mrkF (stampB e s) gd) (fun j => gd.getD j 0) (q + 1)) ++ post := by
          rw [splice_mid _ _ _ _ _ (by rw [bts_length, hgl]; show q + 1 ≤ _; omega), bts_set (by rw [hgl]; omega) hset, mrkF, if_pos (by omega)]
          rfl
        refine StoreD.to 4 rfl _ hsp (by simp only [List.length_append, bts_length, hgl]; show pre.length + q + 1 ≤ _; omega) (.inr (.inr (Nat.le_refl _))) _ rfl ?_
        refine ToD.i64 (by omega) (by omega) ?_
        refine ⟨_, Drop.pick [0, 1, 2, 3, 4] _ rfl, ⟨q + 1, by omega, rfl, rfl, rfl⟩, ?_⟩
        show ((4096 : Int) - ((q : Int) + 1)).toNat < ((4096 : Int) - (q : Int)).toNat
        omega
      · refine ToD.i64 (by omega) (by omega) ?_
        refine ⟨_, Drop.refl _, ⟨q + 1, by omega, rfl, rfl, ?_⟩, ?_⟩
        · rw [gen_skip _ _ (q := q) (by rw [mrkF, if_neg (by omega)])]
        · show ((4096 : Int) - ((q : Int) + 1)).toNat < ((4096 : Int) - (q : Int)).toNat
          omega
    · obtain rfl : q = 4096 := by omega
      rw [gen_mark hsl q3]
      have hkl := markK_length (l := gd) hsl 8 (by omega) (by omega)
      have h6' : OwnB [(b6, row (pre ++ bts (markK (stampB e s) gd 8) ++ post) T6)] (some ⟨b6, pre.length, none⟩) 4096 cap6 (markK (stampB e s) gd 8) := ⟨by rw [bts_length, hkl, q3], h6.le, .inr ⟨b6, pre, post, T6, rfl, rfl, hpost⟩⟩
      conv => whnf
      intro bK
      refine appendD tabOk rfl rfl rfl rfl rfl rfl rfl 2 rfl h4 (SrcOk.slice (n := 1) (news := [.slice (some ⟨b6, pre.length, none⟩) 4096 cap6]) tabOk rfl ((OwnC.whole (len := 1) (size := 1) rfl).slC 5 rfl) (by intro v hv; simp only [List.mem_singleton] at hv; subst hv; rfl)) rfl (by show (i + 1 + 1) * 24 ≤ _; omega) (by omega) ?_
      intro a5 cap5 ch5 h5
      refine ToD.i64 (by omega) (by omega) ?_
      refine ⟨[c0, [(b1, row [.int .i64 e, .int .i64 s, .slice (some ⟨bA, oA, none⟩) gs.length cap] 128)], ch5, chZ ++ [(b6, row (pre ++ bts (markK (stampB e s) gd 8) ++ post) T6)]], (Drop.pick [0, 1, 2, 3, 4] _ rfl).trans (Drop.flat (by simp [St.at])), ⟨i + 1, a5, cap5, ch5, _, bs ++ [⟨some ⟨b6, pre.length, none⟩, cap6, markK (stampB e s) gd 8⟩], by omega, ?_, ?_, ?_, rfl, rfl, rfl⟩, ?_⟩
      · rw [List.map_append]; exact h5
      · rw [List.map_append, hbd, htake, List.map_append]; rfl
      · intro b hb
        rcases List.mem_append.1 hb with hb | hb
        · exact (hbok b hb).more _
        · simp only [List.mem_singleton] at hb
          subst hb
          exact (BkIn.of h6').more' _
      · show ((gs.length : Int) - ((i : Int) + 1)).toNat < ((gs.length : Int) - (i : Int)).toNat
        omega
  · obtain rfl : i = gs.length := by omega
    rw [List.take_length] at hbd
    refine Done.mk ⟨[c0, ch4, chZ], Drop.pick [0, 2, 3] _ rfl, a4, cap4, ch4, chZ, bs, rfl, h4, ?_, hbok, rfl⟩
    rw [hbd, putP, List.map_map]
    rfl
theorem r6_Put1 (c0 : List Blk) {I : Imm} (e s : Nat) {a : Option Addr} {cap : Nat} {gs : List Img} (h : ImgsR I [c0] a gs) (hcap : ∀ g ∈ gs, g.len ≤ g.cap) (hR : RightP e s (gs.map Img.pr)) :
    Tri Tryz.prog 203 #[.agg #[.int .i64 e, .int .i64 s, .slice a gs.length cap]] I [c0] fun v J S' => ∃ aO capO chO, ∃ bs : List Bk, v = .tuple #[.slice aO (gs.length + 1) capO, .int .i64 0] ∧ OwnC chO 1 aO (gs.length + 1) capO (bs.map Bk.cell) ∧ bs.map Bk.data = putP e s (gs.map Img.pr) ∧ (∀ b ∈ bs, BkOk J b) ∧ S' = [c0, chO] := by
  refine Tri.drop (Tri.fixed (K := fun v J S' => ∃ aO capO chO, ∃ bs : List Bk, v = .tuple #[.slice aO (gs.length + 1) capO, .int .i64 0] ∧ OwnC chO 1 aO (gs.length + 1) capO (bs.map Bk.cell) ∧ bs.map Bk.data = putP e s (gs.map Img.pr) ∧ (∀ b ∈ bs, BkOk J b) ∧ S' = [c0, chO, []]) (r6_Put0 c0 e s h hcap hR) ?_) ?_
  · rintro v J S' hJ ⟨aO, capO, chO, chZ, bs, rfl, h1, h2, h3, rfl⟩
    exact ⟨2, chZ, rfl, fun J' hJ' hm => ⟨aO, capO, chO, bs, rfl, h1, h2, fun b hb => (h3 b hb).ok hm, rfl⟩⟩
  · rintro v J S' hJ ⟨aO, capO, chO, bs, rfl, h1, h2, h3, rfl⟩
    exact ⟨[c0, chO], Drop.pick [0, 1] _ rfl, aO, capO, chO, bs, rfl, h1, h2, h3, rfl⟩
theorem r6_Put {S : St} {I : Imm} (e s : Nat) {a : Option Addr} {cap : Nat} {gs : List Img} (h : ImgsR I S a gs) (hcap : ∀ g ∈ gs, g.len ≤ g.cap) (hR : RightP e s (gs.map Img.pr)) :
    Tri Tryz.prog 203 #[.agg #[.int .i64 e, .int .i64 s, .slice a gs.length cap]] I S fun v J S' => ∃ aO capO chO, ∃ bs : List Bk, v = .tuple #[.slice aO (gs.length + 1) capO, .int .i64 0] ∧ OwnC chO 1 aO (gs.length + 1) capO (bs.map Bk.cell) ∧ bs.map Bk.data = putP e s (gs.map Img.pr) ∧ (∀ b ∈ bs, BkOk J b) ∧ S' = S ++ [chO] := by
  refine Tri.pack ((r6_Put1 S.flatten e s h.pack hcap hR).mono ?_)
  rintro r J S' hJ ⟨aO, capO, chO, bs, rfl, h1, h2, h3, rfl⟩
  exact ⟨[chO], rfl, aO, capO, chO, bs, rfl, h1, h2, h3, rfl⟩
end Go.Proofs.YtegdcjnjnoeinaaGreat
namespace Go.Proofs.YtegdcjnjnoeinaaGreat
open Go.RowKit Go.Sl
set_option maxRecDepth 20000

theorem nb_append (x y : Dat) : nb (x ++ y) = nb x * 256 ^ y.length + nb y := by
  refine snoc_ind (p := fun y => nb (x ++ y) = nb x * 256 ^ y.length + nb y) (by simp [nb]) ?_ y
  intro l c ih
  have hc := c.toNat_lt
  rw [← List.append_assoc, nb_snoc, nb_snoc, ih, or_low _ _ hc, or_low _ _ hc, List.length_append, List.length_singleton, Nat.pow_succ, Nat.add_mul, Nat.mul_assoc]
  omega
theorem hbE_eq {b : Dat} (hb : b.length = 4096) : (numV b 0 3) = (hbE b, true) ∧ (numV b 3 5) = (hbS b, true) ∧ hbE b < 16777216 ∧ hbS b < 1099511627776 := by
  have e8 : (b.drop 0).take 8 = (b.drop 0).take 3 ++ (b.drop 3).take 5 := by
    rw [List.drop_zero, show (8 : Nat) = 3 + 5 from rfl, List.take_add]
  have l3 : ((b.drop 0).take 3).length = 3 := by rw [List.length_take, List.length_drop]; omega
  have l5 : ((b.drop 3).take 5).length = 5 := by rw [List.length_take, List.length_drop]; omega
  have hn := nb_append ((b.drop 0).take 3) ((b.drop 3).take 5)
  rw [← e8, l5] at hn
  have h3 := nb_lt ((b.drop 0).take 3)
  have h5 := nb_lt ((b.drop 3).take 5)
  rw [l3] at h3
  rw [l5] at h5
  have hv : ∀ (k : Nat) (n : Nat), k + n ≤ 4096 → numV b (k : Nat) n = (nb ((b.drop k).take n), true) := fun k n h => by
    unfold numV
    rw [if_neg (by omega), Int.toNat_natCast]
  have v8 := hv 0 8 (by omega)
  have v3 := hv 0 3 (by omega)
  have v5 := hv 3 5 (by omega)
  have hE : hbE b = nb ((b.drop 0).take 3) := by
    unfold hbE
    rw [show (0 : Int) = ((0 : Nat) : Int) from rfl, v8]
    show nb _ / _ = _
    rw [hn]; omega
  have hS : hbS b = nb ((b.drop 3).take 5) := by
    unfold hbS
    rw [show (0 : Int) = ((0 : Nat) : Int) from rfl, v8]
    show nb _ % _ = _
    rw [hn]; omega
  refine ⟨by rw [hE]; exact v3, by rw [hS]; exact v5, by omega, by omega⟩
/-- an image whose data lies in a block of its own -/
structure DI where
  blk : Int
  b : Nat
  data : Dat
def DI.img (d : DI) : Img := ⟨d.blk, some ⟨d.b, 0, none⟩, 4096, 4096, d.data⟩
def dch (l : List DI) : List Blk := l.map fun d => (d.b, row (bts d.data) 5)
theorem dch_img {I : Imm} {S : St} {l : List DI} (k : Nat) (hk : S[k]? = some (dch l)) (hd : ∀ d ∈ l, d.data.length = 4096) {a : Option Addr} (hsl : SlC I S a (l.length * 2) (imgCells (l.map DI.img))) : ImgsR I S a (l.map DI.img) := by
  refine ⟨by rw [List.length_map]; exact hsl, fun g hg => ?_⟩
  obtain ⟨d, hdm, rfl⟩ := List.mem_map.1 hg
  have hl := hd d hdm
  refine ⟨⟨by rw [bts_length]; exact hl, .inr ⟨d.b, 0, rfl, ⟨bts d.data, 5, (0, 0), .own k ?_, ?_, by rw [bts_length]; exact hl⟩⟩⟩⟩
  · exact mem_getD hk (List.mem_map_of_mem (f := fun d : DI => (d.b, row (bts d.data) 5)) hdm)
  · show List.take 4096 ((bts d.data).drop 0) = bts d.data
    rw [List.drop_zero, List.take_of_length_le (by rw [bts_length]; omega)]
set_option maxHeartbeats 8000000 in
theorem r6_read1 (c0 : List Blk) {I : Imm} {a : Option Addr} {len cap : Nat} {b : Dat} (h : SlC I [c0] a len (bts b)) (hlen : len ≤ 1000000000) :
    Tri Tryz.prog 202 #[.slice a len cap] I [c0] fun v J S' =>
      (hdP b = none ∧ (∃ x y aI n capI, v = .tuple #[.agg #[.int .i64 x, .int .i64 y, .slice aI n capI], .bool false]) ∧ I = J ∧ S' = [c0]) ∨
      (hdP b = some (hbE b, hbS b, imsB b) ∧ ∃ aI capI chI, ∃ l : List DI, v = .tuple #[.agg #[.int .i64 (hbE b : Nat), .int .i64 (hbS b : Nat), .slice aI (cntB b) capI], .bool true] ∧ l.length = cntB b ∧ OwnC chI 2 aI (cntB b) capI (imgCells (l.map DI.img)) ∧
        (l.map DI.img).map Img.pr = imsB b ∧ I = J ∧ S' = [c0, chI, dch l]) := by
  have hll : b.length = len := by rw [← bts_length, h.len]
  refine Tri.drop ?_ (fun _ _ _ _ h => h)
  refine Tri.of (args := [.slice a len cap]) tabOk Tryz.func202 rfl (by kernel_rfl) (by kernel_rfl) ?_
  conv => whnf
  intro b2
  refine CmpD.split (fun (c1 : (len : Int) = 4096) => ?_) (fun (c1 : ¬ (len : Int) = 4096) => ?_)
  rotate_left
  · repeat (first | refine LoadD.own 1 rfl _ rfl rfl ?_ | refine StoreD.st 1 rfl rfl rfl ?_)
    refine Done.mk ⟨[c0], Drop.pick [0] _ rfl, .inl ⟨?_, ⟨_, _, _, _, _, rfl⟩, rfl, rfl⟩⟩
    cases hd : hdP b with
    | none => rfl
    | some x =>
      obtain ⟨e, s, l⟩ := x
      obtain ⟨_, _, _, _, _, hb, _⟩ := hdP_some hd
      omega
  obtain rfl : len = 4096 := by omega
  obtain ⟨bb, ob, rfl, hcb⟩ := SlC.split h (by omega)
  obtain ⟨n1, n2, n3, n4⟩ := hbE_eq hll
  refine Tri.nf (ref_Number (h.mores [_]) (by omega) 0 (by unfold In64; omega) 3 (by omega)) ?_
  rintro v J S' hJ ⟨rfl, rfl, rfl⟩
  rw [n1]
  skip
  refine Tri.nf (ref_Number (h.mores [_]) (by omega) 3 (by unfold In64; omega) 5 (by omega)) ?_
  rintro v J S' hJ ⟨rfl, rfl, rfl⟩
  rw [n2]
  refine ToD.to ((hbE b : Nat) : Int) (wrap_i64 (by omega) (by omega)) ?_
  refine ToD.to ((hbS b : Nat) : Int) (wrap_i64 (by omega) (by omega)) ?_
  conv => whnf
  intro b8
  repeat (first | refine StoreD.st 2 rfl rfl rfl ?_)
  refine CodeF.loopD [0, 2, 8, 9, 10] (fun vs J' S' => ∃ (q : Nat) (a9 : Option Addr) (cap9 : Nat) (ch9 : List Blk), q ≤ 4096 ∧ OwnB ch9 a9 (cq q) cap9 ((gatK b 8).take (cq q)) ∧
      vs = [.slice (some ⟨bb, ob, none⟩) 4096 cap, .pointer (some ⟨b2, 0, none⟩), .pointer (some ⟨b8, 0, none⟩), .slice a9 (cq q) cap9, .int .i64 q] ∧ I = J' ∧ S' = [c0, gBox b2 0 0 none 0 0, gBox b8 (hbE b : Nat) (hbS b : Nat) none 0 0, ch9])
    (fun vs _ _ => match vs with | [_, _, _, _, .int _ q] => ((4096 : Int) - q).toNat | _ => 0) ?_ ?_
  · exact ⟨_, Drop.and (Drop.refl _), 0, none, 0, [], by omega, OwnC.nil _ _, rfl, rfl, rfl⟩
  rintro vs gE J' S' hJ' ⟨q, a9, cap9, ch9, hq, h9, rfl, rfl, rfl⟩
  refine CmpD.split (fun c2 => ?_) (fun c2 => ?_)
  · have hcq : cq q ≤ 4032 := by unfold cq; omega
    refine Chk.mk (by decide) ?_
    refine ToD.to ((q % 512 : Nat) : Int) (tmod_nat q 512) ?_
    refine CmpD.split (fun c3 => ?_) (fun c3 => ?_)
    · obtain ⟨g1, g2⟩ := gat_step hll (q := q) (by omega) (by omega)
      refine Chk.mk (by omega) ?_
      refine LoadD.mk _ ((slC_cells (h.mores [_, _, _]) (by omega)).at (bts_get (getD_get (by omega)))) ?_
      conv => whnf
      intro bN
      refine appendD tabOk rfl rfl rfl rfl rfl rfl rfl 3 rfl h9 (SrcOk.slice (n := 1) (news := bts [b.getD q 0]) tabOk rfl ((OwnC.whole (len := 1) (size := 1) rfl).slC 4 rfl) (bts_plain _)) rfl (by show (cq q + 1) * 1 ≤ _; omega) (by omega) ?_
      intro a5 cap5 ch5 h5
      refine ToD.i64 (by omega) (by omega) ?_
      refine ⟨_, Drop.pick [0, 1, 2, 3] _ rfl, ⟨q + 1, a5, cap5, ch5, by omega, ?_, by rw [g2]; rfl, rfl, rfl⟩, ?_⟩
      · rw [g1, g2, OwnB, bts_append]; exact h5
      · show ((4096 : Int) - ((q : Int) + 1)).toNat < ((4096 : Int) - (q : Int)).toNat
        omega
    · refine ToD.i64 (by omega) (by omega) ?_
      refine ⟨_, Drop.refl _, ⟨q + 1, a9, cap9, ch9, by omega, ?_, ?_, rfl, rfl⟩, ?_⟩
      · rw [cq_skip (by omega)]; exact h9
      · rw [cq_skip (by omega)]; rfl
      · show ((4096 : Int) - ((q : Int) + 1)).toNat < ((4096 : Int) - (q : Int)).toNat
        omega
  · obtain rfl : q = 4096 := by omega
    rw [cq_all hll] at h9
    have hg := gatK_length hll 8 (by omega)
    have h9 : OwnB ch9 a9 4032 cap9 (gatK b 8) := h9
    refine Tri.nf (ref_Number (h9.slC1 3 rfl) (by show 4032 ≤ _; omega) 0 (by unfold In64; omega) 2 (by omega)) ?_
    rintro v J S' hJ ⟨rfl, rfl, rfl⟩
    have hc16 : cntB b < 65536 := nb_lt2 (gatK b 8) 0
    have hcn : (numV (gatK b 8) 0 2).1 = cntB b := rfl
    generalize hc2 : (numV (gatK b 8) 0 2).2 = ok2
    rw [hcn]
    obtain ⟨c, hc⟩ : ∃ c, c = cntB b := ⟨_, rfl⟩
    rw [← hc] at hc16 ⊢
    refine CmpD.split (fun c3 => ?_) (fun c3 => ?_)
    · repeat (first | refine LoadD.own 1 rfl _ rfl rfl ?_ | refine StoreD.st 1 rfl rfl rfl ?_)
      refine Done.mk ⟨[c0], Drop.pick [0] _ rfl, .inl ⟨hdP_cnt (by omega), ⟨_, _, _, _, _, rfl⟩, rfl, rfl⟩⟩
    refine CodeF.loopD [0, 2, 8, 9, 11, 13] (fun vs J' S' => ∃ (i : Nat) (aI : Option Addr) (capI : Nat) (chI : List Blk) (l : List DI), i ≤ c ∧ l.length = i ∧ OwnC chI 2 aI i capI (imgCells (l.map DI.img)) ∧ (l.map DI.img).map Img.pr = (List.range i).map (fun k => (blkB b k, shoK noughts (hidB b k) 8)) ∧
        vs = [.slice (some ⟨bb, ob, none⟩) 4096 cap, .pointer (some ⟨b2, 0, none⟩), .pointer (some ⟨b8, 0, none⟩), .slice a9 4032 cap9, .int .u64 c, .int .i64 i] ∧ I = J' ∧ S' = [c0, gBox b2 0 0 none 0 0, gBox b8 (hbE b : Nat) (hbS b : Nat) aI i capI, ch9, chI, dch l])
      (fun vs _ _ => match vs with | [_, _, _, _, _, .int _ i] => ((c : Int) - i).toNat | _ => 0) ?_ ?_
    · exact ⟨_, Drop.and (Drop.and (Drop.refl _)), 0, none, 0, [], [], by omega, rfl, OwnC.nil _ _, rfl, rfl, rfl, rfl⟩
    rintro vs gE J' S' hJ' ⟨i, aI, capI, chI, l, hi, hil, hI, hpr, rfl, rfl, rfl⟩
    refine ToD.to ((c : Nat) : Int) (wrap_i64 (by omega) (by omega)) ?_
    refine CmpD.split (fun c4 => ?_) (fun c4 => ?_)
    · have hb16 := nb_lt2 (gatK b 8) (6 + 66 * i : Nat)
      refine ToD.to ((66 * i : Nat) : Int) (by rw [wrap_i64 (by omega) (by omega)]; omega) ?_
      refine ToD.to ((6 + 66 * i : Nat) : Int) (by rw [wrap_i64 (by omega) (by omega)]; omega) ?_
      refine Tri.nf (ref_Number (h9.slC1 3 rfl) (by omega) (6 + 66 * i : Nat) (by unfold In64; omega) 2 (by omega)) ?_
      rintro v J S' hJ ⟨rfl, rfl, rfl⟩
      have hbk : blkB b i = ((numV (gatK b 8) (6 + 66 * i : Nat) 2).1 : Nat) := rfl
      generalize (numV (gatK b 8) (6 + 66 * i : Nat) 2).2 = ok3
      generalize (numV (gatK b 8) (6 + 66 * i : Nat) 2).1 = bk at hbk hb16 ⊢
      refine makeD tabOk rfl rfl rfl 4096 4096 rfl rfl (Nat.le_refl _) (by show 1 * 4096 ≤ _; decide) (by decide) (by show 4096 * 1 ≤ _; decide) rfl (by decide) ?_
      intro bz
      refine CodeF.loopD [0, 2, 8, 9, 11, 13, 14, 15, 17, 18] (fun vs J' S' => ∃ (n : Nat), n ≤ 64 ∧
          vs = [.slice (some ⟨bb, ob, none⟩) 4096 cap, .pointer (some ⟨b2, 0, none⟩), .pointer (some ⟨b8, 0, none⟩), .slice a9 4032 cap9, .int .u64 c, .int .i64 i, .int .i64 (6 + 66 * i : Nat), .int .u64 bk, .slice (some ⟨bz, 0, none⟩) 4096 4096, .int .i64 n] ∧ I = J' ∧
          S' = [c0, gBox b2 0 0 none 0 0, gBox b8 (hbE b : Nat) (hbS b : Nat) aI i capI, ch9, chI, dch l, [(bz, row (bts (shw (hidB b i) n)) 5)]])
        (fun vs _ _ => match vs with | [_, _, _, _, _, _, _, _, _, .int _ n] => ((64 : Int) - n).toNat | _ => 0) ?_ ?_
      · refine ⟨_, Drop.refl _, 0, by omega, rfl, rfl, ?_⟩
        rw [shw_zero, ← rows_noughts]; rfl
      rintro vs gE2 J' S' hJ' ⟨n, hn, rfl, rfl, rfl⟩
      have hsl := shw_length (hidB b i) n
      refine CmpD.split (fun c5 => ?_) (fun c5 => ?_)
      · obtain ⟨b9, o9, rfl, hc9⟩ := SlC.cells (h9.slC1 (I := I) (S := [c0, gBox b2 0 0 none 0 0, gBox b8 (hbE b : Nat) (hbS b : Nat) aI i capI, ch9, chI, dch l, [(bz, row (bts (shw (hidB b i) n)) 5)]]) 3 rfl) (by omega)
        refine Chk.mk (by decide) ?_
        refine ToD.to ((n / 8 : Nat) : Int) (by rw [Int.tdiv_eq_ediv_of_nonneg (by omega), wrap_i64 (by omega) (by omega)]; omega) ?_
        refine ToD.to ((n / 8 * 512 : Nat) : Int) (by rw [wrap_i64 (by omega) (by omega)]; omega) ?_
        refine Chk.mk (by decide) ?_
        refine ToD.to ((n % 8 : Nat) : Int) (tmod_nat n 8) ?_
        refine ToD.to ((n / 8 * 512 + n % 8 : Nat) : Int) (by rw [wrap_i64 (by omega) (by omega)]; omega) ?_
        refine ToD.to ((8 + 66 * i : Nat) : Int) (by rw [wrap_i64 (by omega) (by omega)]; omega) ?_
        refine ToD.to ((8 + 66 * i + n : Nat) : Int) (by rw [wrap_i64 (by omega) (by omega)]; omega) ?_
        refine Chk.mk (by omega) ?_
        refine LoadD.mk _ (hc9.at (bts_get (hidB_get hll (i := i) (n := n) (by omega) (by omega)))) ?_
        refine Chk.mk (by omega) ?_
        have hsp : splice (bts (shw (hidB b i) n)) (n / 8 * 512 + n % 8) [byte ((hidB b i).getD n 0)] = bts (shw (hidB b i) (n + 1)) := by
          rw [bts_set (by rw [hsl]; omega) (shw_step (hidB b i) n)]; rfl
        refine StoreD.to 6 rfl (bts (shw (hidB b i) (n + 1))) (by show splice _ (0 + (n / 8 * 512 + n % 8)) _ = _; rw [Nat.zero_add]; exact hsp) (by rw [bts_length, hsl]; show 0 + (n / 8 * 512 + n % 8) + 1 ≤ _; omega) (.inr (.inr (Nat.le_refl _))) _ rfl ?_
        refine ToD.i64 (by omega) (by omega) ?_
        refine ⟨_, Drop.refl _, ⟨n + 1, by omega, rfl, rfl, rfl⟩, ?_⟩
        show ((64 : Int) - ((n : Int) + 1)).toNat < ((64 : Int) - (n : Int)).toNat
        omega
      · obtain rfl : n = 64 := by omega
        rw [shw_all (hidB_length hll (by omega))]
        repeat (first | refine LoadD.own 2 rfl _ rfl rfl ?_)
        refine ToD.to (bk : Int) (wrap_i64 (by omega) (by omega)) ?_
        conv => whnf
        intro bG
        refine appendD tabOk rfl rfl rfl rfl rfl rfl rfl 4 rfl hI (SrcOk.slice (n := 1) (news := imgCells [⟨bk, some ⟨bz, 0, none⟩, 4096, 4096, shoK noughts (hidB b i) 8⟩]) tabOk rfl ((OwnC.whole (len := 1) (size := 2) rfl).slC 7 rfl) (by intro v hv; simp [imgCells] at hv; rcases hv with rfl | rfl <;> rfl)) rfl (by show (i + 1) * 32 ≤ _; omega) (by omega) ?_
        intro aI2 capI2 chI2 hI2
        repeat (first | refine StoreD.st 2 rfl rfl rfl ?_)
        refine ToD.i64 (by omega) (by omega) ?_
        refine ⟨[c0, gBox b2 0 0 none 0 0, gBox b8 (hbE b : Nat) (hbS b : Nat) aI2 (i + 1) capI2, ch9, chI2, dch (l ++ [⟨bk, bz, shoK noughts (hidB b i) 8⟩])], ?_, ⟨i + 1, aI2, capI2, chI2, l ++ [⟨bk, bz, shoK noughts (hidB b i) 8⟩], by omega, by simp [hil], ?_, ?_, rfl, rfl, rfl⟩, ?_⟩
        · refine (Drop.pick [0, 1, 2, 3, 4, 5, 6] _ rfl).trans (Drop.flat ?_)
          simp [St.at, dch]
          rfl
        · rw [List.map_append, List.map_cons, List.map_nil]
          rw [DI.img, imgCells_snoc]; exact hI2
        · rw [List.map_append, List.map_append, hpr, List.range_succ, List.map_append]
          show _ ++ [((bk : Int), shoK noughts (hidB b i) 8)] = _ ++ [(blkB b i, shoK noughts (hidB b i) 8)]
          rw [hbk]
        · show ((c : Int) - ((i : Int) + 1)).toNat < ((c : Int) - i).toNat; omega
    · obtain rfl : i = c := by omega
      have hims : (l.map DI.img).map Img.pr = imsB b := by rw [hpr, imsB, ← hc]
      have hdl : ∀ d ∈ l, d.data.length = 4096 := by
        intro d hd
        have hm : (d.blk, d.data) ∈ (l.map DI.img).map Img.pr := List.mem_map.2 ⟨d.img, List.mem_map_of_mem hd, rfl⟩
        rw [hpr] at hm
        obtain ⟨k, hk, e⟩ := List.mem_map.1 hm
        have e2 : shoK noughts (hidB b k) 8 = d.data := congrArg Prod.snd e
        rw [← e2]
        exact shoK_length noughts_length (hidB_length hll (by rw [List.mem_range] at hk; omega)) 8 (by omega)
      have hIR : ∀ L, ImgsR I ([c0, gBox b2 0 0 none 0 0, gBox b8 (hbE b : Nat) (hbS b : Nat) aI i capI, ch9, chI, dch l] ++ L) aI (l.map DI.img) := fun L => (dch_img 5 rfl hdl (by have := hI.slC (I := I) (S := [c0, gBox b2 0 0 none 0 0, gBox b8 (hbE b : Nat) (hbS b : Nat) aI i capI, ch9, chI, dch l]) 4 rfl; rw [hil]; exact this)).mores L
      have hml : (l.map DI.img).length = i := by rw [List.length_map, hil]
      have hRt := r6_Right (hbE b : Nat) (hbS b : Nat) (cap := capI) (hIR []) (by omega)
      rw [hims, hml] at hRt
      by_cases hR : RightP (hbE b : Nat) (hbS b : Nat) (imsB b)
      · have hHt := r6_head (hbE b) (hbS b) (cap := capI) (hIR []) (by intro g hg; obtain ⟨d, _, rfl⟩ := List.mem_map.1 hg; exact Nat.le_refl _) (by rw [hims]; exact hR)
        rw [hims, hml] at hHt
        refine CodeF.sched [[], [], [1], [1, 2], [1, 2, 3], [1, 2, 3, 4], [1, 2, 3], [1, 2, 3, 4, 5, 6], [1, 2, 3, 4, 5, 6, 7], [0, 1, 2, 3, 4, 5, 6, 7], [0, 1, 2, 3, 4, 5, 6, 7, 8, 9]] [0, 1, 2, 3, 4, 6, 5, 7, 8, 9, 10] (by kernel_rfl) ?_
        repeat (first | refine LoadP.at 2 rfl _ rfl rfl ?_)
        refine Tri.nf hRt ?_
        rintro v J S' hJ ⟨rfl, rfl, rfl⟩
        rw [decide_eq_true hR]
        repeat (first | refine LoadP.at 2 rfl _ rfl rfl ?_ | refine Chk.mk ⟨rfl, trivial⟩ ?_)
        refine Tri.nf hHt ?_
        rintro v J S' hJ ⟨aH, capH, chH, rfl, hH, rfl, rfl⟩
        repeat (first | refine Chk.mk ⟨rfl, trivial⟩ ?_)
        refine Tri.nf (same_bytes (hH.slC1 6 rfl) (h.mores [_, _, _, _, _, _])) ?_
        rintro v J S' hJ ⟨rfl, rfl, rfl⟩
        repeat (first | refine LoadD.own 1 rfl _ rfl rfl ?_ | refine StoreD.st 1 rfl rfl rfl ?_ | refine Chk.mk ⟨rfl, trivial⟩ ?_)
        by_cases hq : hblk (hbE b) (hbS b) (imsB b) = b
        · rw [decide_eq_true hq]
          skip
          refine Done.mk ⟨[c0, chI, dch l], Drop.pick [0, 4, 5] _ rfl, .inr ⟨by unfold hdP; rw [if_pos ⟨hR, hq⟩], aI, capI, chI, l, rfl, hil, hI, hims, rfl, rfl⟩⟩
        · rw [decide_eq_false hq]
          skip
          exact Done.mk ⟨[c0], Drop.pick [0] _ rfl, .inl ⟨by unfold hdP; rw [if_neg (fun h' => hq h'.2)], ⟨_, _, _, _, _, rfl⟩, rfl, rfl⟩⟩
      · refine CodeF.sched [[], [], [1], [1, 2], [1, 2, 3], [1, 2, 3, 4], [1, 2, 3], [1, 2, 3, 4, 5, 6], [1, 2, 3, 4, 5, 6, 7], [0, 1, 2, 3, 4, 5, 6, 7], [0, 1, 2, 3, 4, 5, 6, 7, 8, 9]] [0, 1, 2, 3, 4, 6, 5, 7, 8, 9, 10] (by kernel_rfl) ?_
        repeat (first | refine LoadP.at 2 rfl _ rfl rfl ?_)
        refine Tri.nf hRt ?_
        rintro v J S' hJ ⟨rfl, rfl, rfl⟩
        rw [decide_eq_false hR]
        repeat (first | refine LoadD.own 1 rfl _ rfl rfl ?_ | refine StoreD.st 1 rfl rfl rfl ?_ | refine Chk.mk ⟨rfl, trivial⟩ ?_)
        exact Done.mk ⟨[c0], Drop.pick [0] _ rfl, .inl ⟨by unfold hdP; rw [if_neg (fun h' => hR h'.1)], ⟨_, _, _, _, _, rfl⟩, rfl, rfl⟩⟩
end Go.Proofs.YtegdcjnjnoeinaaGreat
namespace Go.Proofs.YtegdcjnjnoeinaaGreat
open Go.RowKit Go.Sl
set_option maxRecDepth 20000

theorem r6_read {S : St} {I : Imm} {a : Option Addr} {len cap : Nat} {b : Dat} (h : SlC I S a len (bts b)) (hlen : len ≤ 1000000000) :
    Tri Tryz.prog 202 #[.slice a len cap] I S fun v J S' =>
      (hdP b = none ∧ (∃ x y aI n capI, v = .tuple #[.agg #[.int .i64 x, .int .i64 y, .slice aI n capI], .bool false]) ∧ I = J ∧ S' = S) ∨
      (hdP b = some (hbE b, hbS b, imsB b) ∧ ∃ aI capI chI, ∃ l : List DI, v = .tuple #[.agg #[.int .i64 (hbE b : Nat), .int .i64 (hbS b : Nat), .slice aI (cntB b) capI], .bool true] ∧ l.length = cntB b ∧ OwnC chI 2 aI (cntB b) capI (imgCells (l.map DI.img)) ∧
        (l.map DI.img).map Img.pr = imsB b ∧ I = J ∧ S' = S ++ [chI, dch l]) := by
  refine Tri.pack ((r6_read1 S.flatten h.pack hlen).mono ?_)
  rintro v J S' hJ (⟨h1, h2, rfl, rfl⟩ | ⟨h1, aI, capI, chI, l, rfl, h2, h3, h4, rfl, rfl⟩)
  · exact ⟨[], rfl, .inl ⟨h1, h2, rfl, by simp⟩⟩
  · exact ⟨[chI, dch l], rfl, .inr ⟨h1, aI, capI, chI, l, rfl, h2, h3, h4, rfl, rfl⟩⟩
theorem r6_Head {I : Imm} {a : Option Addr} {len cap : Nat} {b : Dat} (h : Rds I a len (bts b)) (hlen : len ≤ 1000000000) :
    Tri Tryz.prog 174 #[.slice a len cap] I [] fun v J _ => v = headV b ∧ I = J := by
  refine Tri.of (args := [.slice a len cap]) tabOk Tryz.func174 rfl (by kernel_rfl) (by kernel_rfl) ?_
  refine Tri.nf (r6_read h.slC hlen) ?_
  rintro v J S' hJ (⟨hn, ⟨x, y, aI, n, capI, rfl⟩, rfl, rfl⟩ | ⟨hs, aI, capI, chI, l, rfl, hl, hI, hp, rfl, rfl⟩)
  · conv => whnf
    intro b6
    repeat (first | refine StoreD.st 0 rfl rfl rfl ?_)
    refine Done.mk ⟨?_, rfl⟩
    unfold headV; rw [hn]; rfl
  · conv => whnf
    intro b6
    repeat (first | refine StoreD.st 2 rfl rfl rfl ?_)
    refine CodeF.sched [[], [0], [], [2], [], [4], [4, 5], [0, 1], [0, 1, 2, 3, 7], [0, 1, 2, 3, 4, 5, 6, 7, 8], [0, 1, 2, 3, 4, 5, 6, 7, 8, 9]] [0, 1, 2, 3, 4, 5, 6, 7, 8, 9, 10] (by kernel_rfl) ?_
    repeat (first | refine LoadP.at 2 rfl _ rfl rfl ?_)
    refine Done.mk ⟨?_, rfl⟩
    unfold headV; rw [hs]
    show _ = Value.tuple #[_, _, .int .i64 ((imsB b).length : Nat), _]
    rw [imsB_length]; rfl
theorem map_take_eq {α β : Type} {f : α → β} {g1 g2 : List α} {i : Nat} (h1 : i < g1.length) (h2 : i < g2.length) (ht : (g1.take i).map f = (g2.take i).map f) :
    ((g1.take (i + 1)).map f = (g2.take (i + 1)).map f) ↔ f g1[i] = f g2[i] := by
  rw [List.take_add_one, List.take_add_one, List.getElem?_eq_getElem h1, List.getElem?_eq_getElem h2, List.map_append, List.map_append, ht]
  simp
theorem same_lists1 (c0 : List Blk) {I : Imm} {a1 a2 : Option Addr} {c1 c2 : Nat} {g1 g2 : List Bk} (h1 : SlC I [c0] a1 g1.length (g1.map Bk.cell)) (h2 : SlC I [c0] a2 g2.length (g2.map Bk.cell)) (k1 : ∀ b ∈ g1, BkOk I b) (k2 : ∀ b ∈ g2, BkOk I b) (hl1 : g1.length ≤ 1000000000) :
    Tri Tryz.prog 36 #[.slice a1 g1.length c1, .slice a2 g2.length c2] I [c0] fun v J S' => v = .bool (decide (g1.map Bk.data = g2.map Bk.data)) ∧ I = J ∧ S' = [c0] := by
  refine Tri.of (args := [.slice a1 g1.length c1, .slice a2 g2.length c2]) tabOk Tryz.func36 rfl (by kernel_rfl) (by kernel_rfl) ?_
  refine CmpD.split (fun (c : (g1.length : Int) = g2.length) => ?_) (fun (c : ¬ (g1.length : Int) = g2.length) => ?_)
  rotate_left
  · refine Done.mk ⟨?_, rfl, rfl⟩
    show Value.bool _ = Value.bool _
    rw [decide_eq_false (fun h => c (by have := congrArg List.length h; simp at this; omega))]
  have hl : g1.length = g2.length := by omega
  refine CodeF.loopD [0, 1, 5] (fun vs J' S' => ∃ (i : Nat), i ≤ g1.length ∧ (g1.take i).map Bk.data = (g2.take i).map Bk.data ∧ vs = [.slice a1 g1.length c1, .slice a2 g2.length c2, .int .i64 i] ∧ I = J' ∧ S' = [c0])
    (fun vs _ _ => match vs with | [_, _, .int _ i] => ((g1.length : Int) - i).toNat | _ => 0) ?_ ?_
  · exact ⟨_, Drop.refl _, 0, by omega, rfl, rfl, rfl, rfl⟩
  rintro vs gE J' S' hJ' ⟨i, hi, hpre, rfl, rfl, rfl⟩
  refine CmpD.split (fun c1' => ?_) (fun c1' => ?_)
  · have i1 : i < g1.length := by omega
    have i2 : i < g2.length := by omega
    have hiff := map_take_eq (f := Bk.data) i1 i2 hpre
    have no : ¬ (g1[i].data = g2[i].data) → decide (g1.map Bk.data = g2.map Bk.data) = false := by
      intro h
      refine decide_eq_false fun h' => h (hiff.1 ?_)
      rw [List.map_take, List.map_take, h']
    obtain ⟨b1, o1, rfl, hc1⟩ := SlC.split h1 (by omega)
    obtain ⟨b2, o2, rfl, hc2⟩ := SlC.split h2 (by omega)
    have r1 := k1 _ (List.getElem_mem i1)
    have r2 := k2 _ (List.getElem_mem i2)
    have e1 : (g1.map Bk.cell)[i]? = some g1[i].cell := by rw [List.getElem?_map, List.getElem?_eq_getElem i1]; rfl
    have e2 : (g2.map Bk.cell)[i]? = some g2[i].cell := by rw [List.getElem?_map, List.getElem?_eq_getElem i2]; rfl
    refine CodeF.sched [[], [], [0, 1], [0, 1, 2], [], [], [4, 5], [4, 5, 6], [0, 1, 2, 3, 4, 5, 6, 7], [0, 1, 2, 3, 4, 5, 6, 7, 8]] [0, 1, 2, 3, 4, 5, 6, 7, 8, 9] (by kernel_rfl) ?_
    refine Chk.mk (by omega) ?_
    refine LoadP_any _ (hc1.at e1) ?_
    refine Chk.mk (by omega) ?_
    refine LoadP_any _ (hc2.at e2) ?_
    refine Tri.nf (same_bytes (Rds.slC r1) (Rds.slC r2)) ?_
    rintro v J S' hJ ⟨rfl, rfl, rfl⟩
    by_cases hd : g1[i].data = g2[i].data
    · rw [decide_eq_true hd]
      refine ToD.i64 (by omega) (by omega) ?_
      refine ⟨_, Drop.refl _, ⟨i + 1, by omega, hiff.2 hd, rfl, rfl, rfl⟩, ?_⟩
      show ((g1.length : Int) - ((i : Int) + 1)).toNat < ((g1.length : Int) - (i : Int)).toNat
      omega
    · rw [decide_eq_false hd]
      refine Done.mk ⟨?_, rfl, rfl⟩
      show Value.bool _ = Value.bool _
      rw [no hd]
  · obtain rfl : i = g1.length := by omega
    refine Done.mk ⟨?_, rfl, rfl⟩
    show Value.bool _ = Value.bool _
    rw [List.take_length, hl, List.take_length] at hpre
    rw [decide_eq_true hpre]
theorem same_lists {S : St} {I : Imm} {a1 a2 : Option Addr} {c1 c2 : Nat} {g1 g2 : List Bk} (h1 : SlC I S a1 g1.length (g1.map Bk.cell)) (h2 : SlC I S a2 g2.length (g2.map Bk.cell)) (k1 : ∀ b ∈ g1, BkOk I b) (k2 : ∀ b ∈ g2, BkOk I b) (hl1 : g1.length ≤ 1000000000) :
    Tri Tryz.prog 36 #[.slice a1 g1.length c1, .slice a2 g2.length c2] I S fun v J S' => v = .bool (decide (g1.map Bk.data = g2.map Bk.data)) ∧ I = J ∧ S' = S := by
  refine Tri.pack ((same_lists1 _ h1.pack h2.pack k1 k2 hl1).mono ?_)
  rintro v J S' hJ ⟨rfl, rfl, rfl⟩
  exact ⟨[], rfl, rfl, rfl, by simp⟩
theorem flat_eq {f g : Nat → Dat} {n : Nat} (h : ∀ i, i < n → f i = g i) : (List.range n).flatMap f = (List.range n).flatMap g := by
  have : ∀ m : List Nat, (∀ i ∈ m, i < n) → m.flatMap f = m.flatMap g := by
    intro m
    induction m with
    | nil => intro _; rfl
    | cons x m ih =>
      intro hm
      rw [List.flatMap_cons, List.flatMap_cons, h x (hm x (by simp)), ih fun i hi => hm i (by simp [hi])]
  exact this _ fun i hi => List.mem_range.1 hi
theorem getL_right {b : Dat} {rest : List Dat} {e s : Nat} (hsome : hdP b = some (e, s, imsB b)) (hn : rest.length = cntB b) (h4 : ∀ r ∈ rest, r.length = 4096) : RightP e s (getL b rest) ∧ hblk e s (getL b rest) = b := by
  obtain ⟨_, _, _, hR, hb, hb4, _⟩ := hdP_some hsome
  have h32 := hR.2.2.2.2.2.1
  have h1 := hR.2.2.2.2.1
  rw [imsB_length] at h32 h1
  have hfst : (getL b rest).map Prod.fst = (imsB b).map Prod.fst := by
    unfold getL imsB
    rw [List.map_map, List.map_map, hn]; rfl
  have hll : (getL b rest).length = cntB b := by simp [getL, hn]
  have hr4 : ∀ i, i < cntB b → (rest.getD i []).length = 4096 := by
    intro i hi
    rw [List.getD_eq_getElem?_getD, List.getElem?_eq_getElem (by omega)]
    exact h4 _ (List.getElem_mem _)
  have hhid : hidP (getL b rest) = hidP (imsB b) := by
    unfold hidP getL imsB
    rw [List.flatMap_map, List.flatMap_map, hn]
    refine flat_eq fun i hi => ?_
    have hh := hidB_length hb4 (i := i) (by omega)
    dsimp only
    rw [hid_sho (hr4 i hi) hh, hid_sho noughts_length hh]
  refine ⟨?_, ?_⟩
  · obtain ⟨r1, r2, r3, r4, r5, r6, r7, r8⟩ := hR
    refine ⟨r1, r2, r3, r4, by omega, by omega, ?_, by rw [hfst]; exact r8⟩
    intro g hg
    obtain ⟨i, hi, rfl⟩ := List.mem_map.1 hg
    have hi := List.mem_range.1 hi
    have hm := r7 (blkB b i, shoK noughts (hidB b i) 8) (List.mem_map.2 ⟨i, List.mem_range.2 (by omega), rfl⟩)
    exact ⟨hm.1, hm.2.1, shoK_length (hr4 i (by omega)) (hidB_length hb4 (by omega)) 8 (by omega)⟩
  · rw [← hb]
    conv => lhs; rw [hb]
    unfold hblk headP listP
    rw [hhid, hll, imsB_length]
theorem putL_iff {b : Dat} {rest : List Dat} {e s : Nat} (hsome : hdP b = some (e, s, imsB b)) (hn : rest.length = cntB b) (h4 : ∀ r ∈ rest, r.length = 4096) : putP e s (getL b rest) = b :: rest ↔ rest.length = (imsB b).length ∧ RestOk e s rest := by
  obtain ⟨hR, hbk⟩ := getL_right hsome hn h4
  constructor
  · intro h
    refine ⟨by rw [imsB_length]; exact hn, fun r hr => ⟨h4 r hr, ?_⟩⟩
    rw [putP_eq] at h
    have h2 := (List.cons.inj h).2
    rw [← h2] at hr
    obtain ⟨x, hx, rfl⟩ := List.mem_map.1 hr
    exact mark_bears (stampB_length _ _) (hR.lens x hx)
  · intro h
    exact (getP_some (getP_good hsome h)).2
end Go.Proofs.YtegdcjnjnoeinaaGreat
namespace Go.Proofs.YtegdcjnjnoeinaaGreat
open Go.RowKit Go.Sl
set_option maxRecDepth 20000

theorem dch_split (L : List DI) (d : DI) (R : List DI) : dch (L ++ d :: R) = dch L ++ (d.b, row (bts d.data) 5) :: dch R := by simp [dch]
theorem di_cells {l l2 : List DI} (h : l2.map (fun d => (d.blk, d.b)) = l.map fun d => (d.blk, d.b)) : imgCells (l2.map DI.img) = imgCells (l.map DI.img) := by
  have e : ∀ m : List DI, imgCells (m.map DI.img) = (m.map fun d => (d.blk, d.b)).flatMap fun p => [.int .i64 p.1, .slice (some ⟨p.2, 0, none⟩) 4096 4096] := by
    intro m
    unfold imgCells
    rw [List.flatMap_map, List.flatMap_map]; rfl
  rw [e, e, h]
theorem storeD_mkTo {S : St} {b off : Nat} {vs : List Value} {K : St → Prop} (k : Nat) (A B : List Blk) (c : List Value) (T : TypeId) (fr : Nat × Nat) (hk : S[k]? = some (A ++ (b, row c T fr) :: B)) (c' : List Value) (hc : splice c off vs = c') (hl : off + vs.length ≤ c.length)
    (hf : fr.2 ≤ off ∨ off + vs.length ≤ fr.1 ∨ fr.2 ≤ fr.1) (S' : St) (hS : S.set k (A ++ (b, row c' T fr) :: B) = S') (h : K S') : StoreD S b off vs K := by
  subst hc; subst hS; exact .mk k A B c T fr hk hl hf h
def dAt (D : List Dat) (b : Dat) (i k : Nat) : Dat := if k < i then shoK (D.getD k []) (hidB b k) 8 else shoK noughts (hidB b k) 8
set_option maxHeartbeats 8000000 in
theorem r6_Get (I : Imm) (aL : Option Addr) (n capL : Nat) (bks : List Bk) (hn : n ≤ 1000000) (h : Rds I aL n (bks.map Bk.cell)) (hok : ∀ x ∈ bks, BkOk I x) :
    Tri Tryz.prog 175 #[.slice aL n capL] I [] fun v J _ =>
      (getP (bks.map Bk.data) = none ∧ v = .tuple #[.agg #[.int .i64 0, .int .i64 0, .slice none 0 0], .int .i64 80]) ∨
      (∃ e s l, getP (bks.map Bk.data) = some (e, s, l) ∧ ∃ aI capI gs, v = .tuple #[.agg #[.int .i64 (e : Nat), .int .i64 (s : Nat), .slice aI gs.length capI], .int .i64 0] ∧ ImgsOk J aI gs ∧ gs.map Img.pr = l) := by
  refine Tri.fixed (Q := fun v _ S' => ∃ ch, S' = [ch] ∧
      ((getP (bks.map Bk.data) = none ∧ v = .tuple #[.agg #[.int .i64 0, .int .i64 0, .slice none 0 0], .int .i64 80]) ∨
      (∃ e s l, getP (bks.map Bk.data) = some (e, s, l) ∧ ∃ aI capI chI, ∃ dl : List DI, ch = chI ++ dch dl ∧ v = .tuple #[.agg #[.int .i64 (e : Nat), .int .i64 (s : Nat), .slice aI dl.length capI], .int .i64 0] ∧ OwnC chI 2 aI dl.length capI (imgCells (dl.map DI.img)) ∧ (∀ d ∈ dl, In64 d.blk ∧ d.data.length = 4096) ∧ (dl.map DI.img).map Img.pr = l))) ?_ ?_
  rotate_left
  · rintro v J S' hJ ⟨ch, rfl, h⟩
    refine ⟨0, ch, rfl, fun J' hJ' hm => ?_⟩
    rcases h with h | ⟨e, s, l, h1, aI, capI, chI, dl, rfl, rfl, hO, hk, hp⟩
    · exact .inl h
    · have hll : (dl.map DI.img).length = dl.length := List.length_map ..
      refine .inr ⟨e, s, l, h1, aI, capI, dl.map DI.img, by rw [hll], ⟨?_, ?_⟩, hp⟩
      · rw [hll]; exact Rds.of_ownS hO fun x hx => hm x (List.mem_append_left _ hx)
      · intro g hg
        obtain ⟨d, hd, rfl⟩ := List.mem_map.1 hg
        obtain ⟨q1, q2⟩ := hk d hd
        refine ⟨q1, by rw [bts_length]; exact q2, .inr ⟨d.b, 0, bts d.data, 5, (0, 0), rfl, hm _ (List.mem_append_right _ (List.mem_map_of_mem (f := fun d : DI => (d.b, row (bts d.data) 5)) hd)), ?_⟩⟩
        show List.take 4096 ((bts d.data).drop 0) = bts d.data
        rw [List.drop_zero, List.take_of_length_le (by rw [bts_length]; omega)]
  have hl : bks.length = n := by have := h.len; rwa [List.length_map] at this
  refine Tri.drop ?_ (fun _ _ _ _ h => h)
  refine Tri.of (args := [.slice aL n capL]) tabOk Tryz.func175 rfl (by kernel_rfl) (by kernel_rfl) ?_
  conv => whnf
  intro b2
  have bad : ∀ (S : St), getP (bks.map Bk.data) = none → ∃ S'', Drop S S'' ∧ ∃ ch, S'' = [ch] ∧
      ((getP (bks.map Bk.data) = none ∧ Value.tuple #[.agg #[.int .i64 0, .int .i64 0, .slice none 0 0], .int .i64 80] = .tuple #[.agg #[.int .i64 0, .int .i64 0, .slice none 0 0], .int .i64 80]) ∨
      (∃ e s l, getP (bks.map Bk.data) = some (e, s, l) ∧ ∃ aI capI chI, ∃ dl : List DI, ch = chI ++ dch dl ∧ Value.tuple #[.agg #[.int .i64 0, .int .i64 0, .slice none 0 0], .int .i64 80] = .tuple #[.agg #[.int .i64 (e : Nat), .int .i64 (s : Nat), .slice aI dl.length capI], .int .i64 0] ∧ OwnC chI 2 aI dl.length capI (imgCells (dl.map DI.img)) ∧ (∀ d ∈ dl, In64 d.blk ∧ d.data.length = 4096) ∧ (dl.map DI.img).map Img.pr = l)) :=
    fun S hg => ⟨[[]], (Drop.pick [] _ rfl).trans (Drop.flat rfl), [], rfl, .inl ⟨hg, rfl⟩⟩
  refine CmpD.split (fun c0 => ?_) (fun c0 => ?_)
  · repeat (first | refine LoadD.own 0 rfl _ rfl rfl ?_ | refine StoreD.st 0 rfl rfl rfl ?_)
    refine Done.mk (bad _ ?_)
    have : bks = [] := List.length_eq_zero_iff.1 (by omega)
    rw [this]; rfl
  rcases h.mem with q0 | ⟨bA, oA, cA, TA, fA, rfl, hIA, hcA⟩
  · omega
  obtain ⟨ka, kc, b0, rest, rfl⟩ : ∃ ka kc b0 rest, bks = (⟨ka, kc, b0⟩ : Bk) :: rest := by
    cases bks with
    | nil => simp at hl; omega
    | cons k0 rest => exact ⟨k0.a, k0.cap, k0.data, rest, rfl⟩
  have hk0 := hok ⟨ka, kc, b0⟩ (by simp)
  have hrest : ∀ x ∈ rest, BkOk I x := fun x hx => hok x (by simp [hx])
  have hrl : rest.length + 1 = n := by simpa using hl
  refine Chk.mk (by omega) ?_
  refine LoadD.imm hIA [(⟨ka, kc, b0⟩ : Bk).cell] (take_get (i := 0) hcA rfl) rfl ?_
  refine Tri.nf (r6_read (Rds.slC hk0) (by omega)) ?_
  rintro v J S' hJ (⟨hnone, ⟨x, y, aI, m, capI, rfl⟩, rfl, rfl⟩ | ⟨hsome, aI, capI, chI, l, rfl, hll, hI, hp, rfl, rfl⟩)
  · conv => whnf
    intro b4
    repeat (first | refine LoadD.own 0 rfl _ rfl rfl ?_ | refine StoreD.st 0 rfl rfl rfl ?_ | refine StoreD.st 1 rfl rfl rfl ?_)
    exact Done.mk (bad _ (getP_none hnone))
  obtain ⟨_, _, _, hR, _, hb4, _⟩ := hdP_some hsome
  have hc32 := hR.2.2.2.2.2.1
  have hc1 := hR.2.2.2.2.1
  rw [imsB_length] at hc32 hc1
  have hbad := fun (rs : List Dat) => getP_bad (rest := rs) hsome
  have hgood := fun (rs : List Dat) => getP_good (rest := rs) hsome
  have hlen4 : ∀ r ∈ rest.map Bk.data, r.length = 4096 := by
    intro r hr
    obtain ⟨x, hx, rfl⟩ := List.mem_map.1 hr
    have := (hrest x hx).len; rwa [bts_length] at this
  obtain ⟨D, hD⟩ : ∃ D, D = rest.map Bk.data := ⟨_, rfl⟩
  have hmap : ((⟨ka, kc, b0⟩ : Bk) :: rest).map Bk.data = b0 :: D := by rw [hD]; rfl
  have hDl : D.length = rest.length := by rw [hD, List.length_map]
  rw [← hD] at hlen4
  have hright := fun h => getL_right (rest := D) hsome h hlen4
  have hiff := fun h => putL_iff (rest := D) hsome h hlen4
  rw [imsB_length] at hgood hbad hiff
  have hims : imsB b0 = (List.range (cntB b0)).map fun k => (blkB b0 k, shoK noughts (hidB b0 k) 8) := rfl
  rw [hims] at hp
  obtain ⟨e, he⟩ : ∃ e, e = hbE b0 := ⟨_, rfl⟩
  obtain ⟨s, hse⟩ : ∃ s, s = hbS b0 := ⟨_, rfl⟩
  obtain ⟨c, hc⟩ : ∃ c, c = cntB b0 := ⟨_, rfl⟩
  rw [hmap] at bad ⊢
  rw [← he, ← hse] at hgood hbad hright hiff hR
  rw [← hc] at hc32 hc1 hgood hbad hiff hright hI hll hp
  rw [← he, ← hse, ← hc]
  have hE := hR.2.1
  have hS := hR.2.2.2.1
  conv => whnf
  intro b4
  repeat (first | refine LoadD.own 3 rfl _ rfl rfl ?_ | refine StoreD.st 3 rfl rfl rfl ?_)
  refine ToD.i64 (by omega) (by omega) ?_
  refine CmpD.split (fun (c1 : (n : Int) = c + 1) => ?_) (fun (c1 : ¬ (n : Int) = c + 1) => ?_)
  rotate_left
  · repeat (first | refine LoadD.own 0 rfl _ rfl rfl ?_ | refine StoreD.st 0 rfl rfl rfl ?_)
    refine Done.mk (bad _ (hbad _ fun h' => c1 ?_))
    have := h'.1
    omega
  have hcr : rest.length = c := by omega
  obtain rfl : n = c + 1 := by omega
  rcases hI.at' with q0 | ⟨bI, pre, post, TI, rfl, rfl, hpost⟩
  · have := hI.le; omega
  refine CodeF.loopD [0, 2, 4, 6] (fun vs J' S' => ∃ (i : Nat) (l2 : List DI), i ≤ c ∧ l2.map (fun d => (d.blk, d.b)) = l.map (fun d => (d.blk, d.b)) ∧ (∀ k, k < c → ∃ d, l2[k]? = some d ∧ d.blk = blkB b0 k ∧ d.data = dAt D b0 i k) ∧
      vs = [.slice (some ⟨bA, oA, none⟩) (c + 1 : Nat) capL, .pointer (some ⟨b2, 0, none⟩), .pointer (some ⟨b4, 0, none⟩), .int .i64 i] ∧ I = J' ∧
      S' = [gBox b2 0 0 none 0 0, [(bI, row (pre ++ imgCells (l.map DI.img) ++ post) TI)], dch l2, gBox b4 e s (some ⟨bI, pre.length, none⟩) c capI])
    (fun vs _ _ => match vs with | [_, _, _, .int _ i] => ((c : Int) - i).toNat | _ => 0) ?_ ?_
  · refine ⟨_, Drop.refl _, 0, l, by omega, rfl, ?_, rfl, rfl, rfl⟩
    intro k hk
    have := congrArg (·[k]?) hp
    simp only [List.getElem?_map, List.getElem?_range hk, Option.map_some] at this
    cases hd : l[k]? with
    | none => rw [hd] at this; cases this
    | some d =>
      rw [hd] at this
      simp only [Option.map_some, Option.some.injEq] at this
      have q1 : d.blk = blkB b0 k := congrArg Prod.fst this
      have q2 : d.data = shoK noughts (hidB b0 k) 8 := congrArg Prod.snd this
      exact ⟨d, rfl, q1, by rw [q2, dAt, if_neg (by omega)]⟩
  rintro vs gE J' S' hJ' ⟨i, l2, hi, hcl, hdat, rfl, rfl, rfl⟩
  have hl2 : l2.length = c := by have := congrArg List.length hcl; rw [List.length_map, List.length_map] at this; omega
  have hcells := di_cells hcl
  refine LoadD.own 3 rfl _ rfl rfl ?_
  refine CmpD.split (fun c2 => ?_) (fun c2 => ?_)
  · have i1 : i < l2.length := by omega
    have ir : i < rest.length := by omega
    obtain ⟨d, hd1, hd2, hd3⟩ := hdat i (by omega)
    have hdl : l2 = l2.take i ++ d :: l2.drop (i + 1) := by
      rw [List.getElem?_eq_getElem i1, Option.some.injEq] at hd1
      rw [← hd1, List.getElem_cons_drop, List.take_append_drop]
    obtain ⟨L, hL⟩ : ∃ L, L = l2.take i := ⟨_, rfl⟩
    obtain ⟨R, hRR⟩ : ∃ R, R = l2.drop (i + 1) := ⟨_, rfl⟩
    have hLl : L.length = i := by rw [hL, List.length_take]; omega
    rw [← hL, ← hRR] at hdl
    obtain ⟨db, dz, dd⟩ := d
    dsimp only at hd2 hd3
    obtain ⟨r, hr⟩ : ∃ r, r = rest[i] := ⟨_, rfl⟩
    have hrok := hrest r (by rw [hr]; exact List.getElem_mem ir)
    have hrc : (((⟨ka, kc, b0⟩ : Bk) :: rest).map Bk.cell)[i + 1]? = some r.cell := by
      rw [List.map_cons, List.getElem?_cons_succ, List.getElem?_map, List.getElem?_eq_getElem ir, hr]; rfl
    have hDi : D.getD i [] = r.data := by
      rw [hD, List.getD_eq_getElem?_getD, List.getElem?_map, List.getElem?_eq_getElem ir, hr]; rfl
    have hr4 : r.data.length = 4096 := by have := hrok.len; rwa [bts_length] at this
    have hhid := hidB_length hb4 (i := i) (by omega)
    have hz := shoK_length noughts_length hhid 8 (by omega)
    rw [dAt, if_neg (by omega)] at hd3
    rcases hrok.mem with q0 | ⟨bB, oB, cB, TB, fB, hra, hIB, hcB⟩
    · omega
    refine ToD.to ((i + 1 : Nat) : Int) (wrap_i64 (by omega) (by omega)) ?_
    refine Chk.mk (by omega) ?_
    refine LoadD.imm hIA [r.cell] (take_get hcA hrc) rfl ?_
    refine CmpD.yes rfl ?_
    have hgl := fun q => gen_length (filF (shoK noughts (hidB b0 i) 8) r.data) (fun j => (shoK noughts (hidB b0 i) 8).getD j 0) q
    have hstep := fun q hq => gen_step (filF (shoK noughts (hidB b0 i) 8) r.data) (fun j => (shoK noughts (hidB b0 i) 8).getD j 0) (q := q) hq
    have hskip := fun q hq => gen_skip (filF (shoK noughts (hidB b0 i) 8) r.data) (fun j => (shoK noughts (hidB b0 i) 8).getD j 0) (q := q) hq
    have hfill := gen_fill hr4 hhid
    have hzero := gen_zero (filF (shoK noughts (hidB b0 i) 8) r.data) hz
    refine CodeF.loopD [0, 2, 4, 6, 7, 8] (fun vs J' S' => ∃ (q : Nat), q ≤ 4096 ∧
        vs = [.slice (some ⟨bA, oA, none⟩) (c + 1 : Nat) capL, .pointer (some ⟨b2, 0, none⟩), .pointer (some ⟨b4, 0, none⟩), .int .i64 i, r.cell, .int .i64 q] ∧ I = J' ∧
        S' = [gBox b2 0 0 none 0 0, [(bI, row (pre ++ imgCells (l.map DI.img) ++ post) TI)], dch (L ++ ⟨db, dz, gen (filF (shoK noughts (hidB b0 i) 8) r.data) (fun j => (shoK noughts (hidB b0 i) 8).getD j 0) q⟩ :: R), gBox b4 e s (some ⟨bI, pre.length, none⟩) c capI])
      (fun vs _ _ => match vs with | [_, _, _, _, _, .int _ q] => ((4096 : Int) - q).toNat | _ => 0) ?_ ?_
    · refine ⟨_, Drop.refl _, 0, by omega, rfl, rfl, ?_⟩
      rw [hzero, ← hd3, ← hdl]
    rintro vs gE2 J' S' hJ' ⟨q, hq, rfl, rfl, rfl⟩
    refine CmpD.split (fun c3 => ?_) (fun c3 => ?_)
    · refine Chk.mk (by decide) ?_
      refine ToD.to ((q % 512 : Nat) : Int) (tmod_nat q 512) ?_
      refine CmpD.split (fun c4 => ?_) (fun c4 => ?_)
      · refine CodeF.sched [[], [0], [], [0, 1, 2], [0, 1, 2, 3], [0, 1, 2, 3, 4], [], [], [], [7, 8], [7, 8, 9], [0, 1, 2, 3, 4, 5, 6, 7, 8, 9, 10], [0, 1, 2, 3, 4, 5, 6, 7, 8, 9, 10, 11]] [0, 1, 2, 3, 4, 5, 6, 7, 8, 9, 10, 11, 12] (by kernel_rfl) ?_
        refine LoadP.at 3 rfl _ rfl rfl ?_
        refine Chk.mk (by omega) ?_
        have hc1' : ((l.map DI.img).length) = c := by rw [List.length_map, hll]
        have hcell : (imgCells (l.map DI.img))[i * 2 + 1]? = some (.slice (some ⟨dz, 0, none⟩) 4096 4096) := by
          rw [← hcells]
          have hi2 : i < (l2.map DI.img).length := by rw [List.length_map]; exact i1
          have := imgCells_1 hi2
          rw [this]
          have e1 : l2[i] = ⟨db, dz, dd⟩ := by rw [List.getElem?_eq_getElem i1, Option.some.injEq] at hd1; exact hd1
          rw [List.getElem_map, e1]; rfl
        have hIc : Cells I [[(bI, row (pre ++ imgCells (l.map DI.img) ++ post) TI)]] bI pre.length (c * 2) (imgCells (l.map DI.img)) :=
          ⟨_, TI, (0, 0), .one 0 rfl, by have := own_take pre (imgCells (l.map DI.img)) post; rwa [hI.n] at this, hI.n⟩
        refine LoadP.own 1 _ (hIc.at hcell) ?_
        rw [show r.cell = Value.slice r.a 4096 r.cap from rfl, hra]
        refine Chk.mk (by omega) ?_
        refine LoadP.imm [byte (r.data.getD q 0)] ⟨cB, TB, fB, .imm hIB, take_get hcB (bts_get (getD_get (by omega))), rfl⟩ ?_
        refine Chk.mk (by omega) ?_
        have hsp : splice (bts (gen (filF (shoK noughts (hidB b0 i) 8) r.data) (fun j => (shoK noughts (hidB b0 i) 8).getD j 0) q)) (0 + q) [byte (r.data.getD q 0)] = bts (gen (filF (shoK noughts (hidB b0 i) 8) r.data) (fun j => (shoK noughts (hidB b0 i) 8).getD j 0) (q + 1)) := by
          rw [bts_set (by rw [hgl]; omega) (hstep q (by omega)), Nat.zero_add]
          rw [show filF (shoK noughts (hidB b0 i) 8) r.data q = r.data.getD q 0 by rw [filF, if_pos (by omega)]]
          rfl
        refine storeD_mkTo 2 (dch L) (dch R) (bts (gen (filF (shoK noughts (hidB b0 i) 8) r.data) (fun j => (shoK noughts (hidB b0 i) 8).getD j 0) q)) 5 (0, 0) (by rw [dch_split]; rfl) _ hsp (by rw [bts_length, hgl]; show 0 + q + 1 ≤ _; omega) (.inr (.inr (Nat.le_refl _))) [gBox b2 0 0 none 0 0, [(bI, row (pre ++ imgCells (l.map DI.img) ++ post) TI)], dch (L ++ ⟨db, dz, gen (filF (shoK noughts (hidB b0 i) 8) r.data) (fun j => (shoK noughts (hidB b0 i) 8).getD j 0) (q + 1)⟩ :: R), gBox b4 e s (some ⟨bI, pre.length, none⟩) c capI] (by rw [dch_split, dch_split]; rfl) ?_
        refine ToD.i64 (by omega) (by omega) ?_
        refine ⟨_, Drop.refl _, ⟨q + 1, by omega, rfl, rfl, rfl⟩, ?_⟩
        show ((4096 : Int) - ((q : Int) + 1)).toNat < ((4096 : Int) - (q : Int)).toNat
        omega
      · refine ToD.i64 (by omega) (by omega) ?_
        refine ⟨_, Drop.refl _, ⟨q + 1, by omega, rfl, rfl, ?_⟩, ?_⟩
        · rw [hskip q (by rw [filF, if_neg (by omega)])]
        · show ((4096 : Int) - ((q : Int) + 1)).toNat < ((4096 : Int) - (q : Int)).toNat
          omega
    · obtain rfl : q = 4096 := by omega
      rw [hfill]
      refine ToD.i64 (by omega) (by omega) ?_
      refine ⟨_, Drop.refl _, ⟨i + 1, L ++ ⟨db, dz, shoK r.data (hidB b0 i) 8⟩ :: R, by omega, ?_, ?_, rfl, rfl, rfl⟩, ?_⟩
      · rw [← hcl, hdl]; simp
      · intro k hk
        rcases Nat.lt_trichotomy k i with g | g | g
        · obtain ⟨d', q1, q2, q3⟩ := hdat k hk
          refine ⟨d', ?_, q2, ?_⟩
          · rw [List.getElem?_append_left (by omega), ← q1, hdl, List.getElem?_append_left (by omega)]
          · rw [q3, dAt, dAt, if_pos g, if_pos (by omega)]
        · subst g
          refine ⟨⟨db, dz, shoK r.data (hidB b0 k) 8⟩, ?_, hd2, ?_⟩
          · rw [List.getElem?_append_right (by omega), hLl, Nat.sub_self]; rfl
          · show shoK r.data (hidB b0 k) 8 = _
            rw [dAt, if_pos (by omega), hDi]
        · obtain ⟨d', q1, q2, q3⟩ := hdat k hk
          refine ⟨d', ?_, q2, ?_⟩
          · rw [List.getElem?_append_right (by omega), ← q1, hdl, List.getElem?_append_right (by omega), hLl]
            obtain ⟨m, hm⟩ : ∃ m, k - i = m + 1 := ⟨k - i - 1, by omega⟩
            rw [hm, List.getElem?_cons_succ, List.getElem?_cons_succ]
          · rw [q3, dAt, dAt, if_neg (by omega), if_neg (by omega)]
      · show ((c : Int) - ((i : Int) + 1)).toNat < ((c : Int) - i).toNat; omega
  · obtain rfl : i = c := by omega
    have hDc : D.length = i := by omega
    have hpr : (l2.map DI.img).map Img.pr = getL b0 D := by
      refine getElem_eq_of (by simp [getL, hl2, hDc]) fun k k1 k2 => ?_
      rw [List.length_map, List.length_map] at k1
      obtain ⟨d, q1, q2, q3⟩ := hdat k (by omega)
      rw [List.getElem?_eq_getElem k1, Option.some.injEq] at q1
      simp only [getL, List.getElem_map, List.getElem_range]
      rw [q1]
      show (d.blk, d.data) = _
      rw [q2, q3, dAt, if_pos (by omega)]
    obtain ⟨hRg, hbk⟩ := hright (by omega)
    have hd4 : ∀ d ∈ l2, In64 d.blk ∧ d.data.length = 4096 := by
      intro d hd
      have hm : (d.blk, d.data) ∈ (l2.map DI.img).map Img.pr := List.mem_map.2 ⟨d.img, List.mem_map_of_mem hd, rfl⟩
      rw [hpr] at hm
      have := hRg.2.2.2.2.2.2.1 _ hm
      exact ⟨by have h1 := this.1; have h2 := this.2.1; dsimp only at h1 h2; unfold In64; omega, this.2.2⟩
    have hIO : OwnC [(bI, row (pre ++ imgCells (l.map DI.img) ++ post) TI)] 2 (some ⟨bI, pre.length, none⟩) l2.length capI (imgCells (l2.map DI.img)) := by rw [hl2, hcells]; exact hI
    have hIR := dch_img (I := I) (S := [gBox b2 0 0 none 0 0, [(bI, row (pre ++ imgCells (l.map DI.img) ++ post) TI)], dch l2, gBox b4 e s (some ⟨bI, pre.length, none⟩) i capI]) 2 rfl (fun d hd => (hd4 d hd).2) (hIO.slC 1 rfl)
    have hPt := r6_Put e s (cap := capI) hIR (by intro g hg; obtain ⟨d, _, rfl⟩ := List.mem_map.1 hg; exact Nat.le_refl _) (by rw [hpr]; exact hRg)
    rw [hpr, List.length_map, hl2] at hPt
    refine LoadD.own 3 rfl _ rfl rfl ?_
    refine Tri.nf hPt ?_
    rintro v J2 S' hJ2 ⟨aO, capO, chO, bs, rfl, hO, hbd, hbok, rfl⟩
    have hbl : bs.length = i + 1 := by have := hO.n; rw [List.length_map] at this; omega
    have hsm := same_lists (S := [gBox b2 0 0 none 0 0, [(bI, row (pre ++ imgCells (l.map DI.img) ++ post) TI)], dch l2, gBox b4 e s (some ⟨bI, pre.length, none⟩) i capI, chO]) (I := J2) (g1 := bs) (g2 := (⟨ka, kc, b0⟩ : Bk) :: rest) (c1 := capO) (c2 := capL) (by rw [hbl]; exact hO.slC1 4 rfl) (by rw [hl]; exact (h.mono hJ2).slC) hbok (fun b hb => Rds.mono (hok b hb) hJ2) (by omega)
    rw [hbl, hbd, hmap, hl] at hsm
    refine Tri.nf hsm ?_
    rintro v J3 S' hJ3 ⟨rfl, rfl, rfl⟩
    by_cases hq : putP e s (getL b0 D) = b0 :: D
    · rw [decide_eq_true hq]
      repeat (first | refine LoadD.own 0 rfl _ rfl rfl ?_ | refine LoadD.own 3 rfl _ rfl rfl ?_ | refine StoreD.st 0 rfl rfl rfl ?_)
      have hrr := (hiff (by omega)).1 hq
      refine Done.mk ⟨[[(bI, row (pre ++ imgCells (l.map DI.img) ++ post) TI)] ++ dch l2], (Drop.pick [1, 2] _ rfl).trans (Drop.flat (by simp [St.at])), _, rfl, .inr ⟨e, s, getL b0 D, hgood _ hrr, some ⟨bI, pre.length, none⟩, capI, _, l2, rfl, by rw [hl2]; rfl, hIO, hd4, hpr⟩⟩
    · rw [decide_eq_false hq]
      repeat (first | refine LoadD.own 0 rfl _ rfl rfl ?_ | refine StoreD.st 0 rfl rfl rfl ?_)
      exact Done.mk (bad _ (hbad _ fun h' => hq ((hiff (by omega)).2 h')))
end Go.Proofs.YtegdcjnjnoeinaaGreat

/- Texts of this claim laid together: AwP, Img11, Awake11, VolumeMounts, We, Wv, KeptW, Cr1, Cr2, Cr3, Cr4, Cr5, Cr6, Cr7, Tw1, Tw2, Fm2, OpenB. -/
import Derived.Test.YtegdcjnjnoeinaaGreatBVolumeFormats6
import Derived.Test.YtegdcjnjnoeinaaGreatBVolumeFormats5
import Derived.Test.YtegdcjnjnoeinaaGreatBVolumeFormats3
import Derived.Test.YtegdcjnjnoeinaaGreatBVolumeFormats2
import Derived.Test.YtegdcjnjnoeinaaGreatBVolumeFormats1
import Derived.Test.YtegdcjnjnoeinaaGreatBVolumeFormats4
namespace Go.Proofs.YtegdcjnjnoeinaaGreat
open Go.RowKit Go.Sl
set_option maxRecDepth 20000

theorem DSt.flush_calm {d : DSt} (h : d.Calm) : d.flush = ({ d with safe := d.now, writes := [] }, 0) := by
  unfold DSt.flush
  rw [DSt.stop_calm h]
  simp
/-- noughts over noughts -/
theorem blank_calm : ∀ (n k : Nat) (d : DSt), d.Calm → k + n ≤ d.now.length → (∀ i, k ≤ i → i < k + n → d.now[i]? = some noughts) → ∃ ws, blankP n k d = ({ d with writes := ws, count := d.count + n }, 0)
  | 0, k, d, _, _, _ => ⟨d.writes, by rw [blankP]; simp⟩
  | n + 1, k, d, hc, hl, hz => by
    have hw := DSt.write_calm hc (n := (k : Int)) (b := noughts) (by omega) noughts_length
    have hset : d.now.set k noughts = d.now := by
      apply List.ext_getElem?
      intro i
      by_cases hi : k = i
      · subst hi; rw [List.getElem?_set_self (by omega), hz k (by omega) (by omega)]
      · rw [List.getElem?_set_ne hi]
    have hput : d.put (k : Int) noughts = { d with writes := d.writes ++ [((k : Int), noughts)], count := d.count + 1 } := by
      show ({ d with now := d.now.set (k : Int).toNat noughts, writes := _, count := _ } : DSt) = _
      rw [Int.toNat_natCast, hset]
    obtain ⟨ws, ih⟩ := blank_calm n (k + 1) { d with writes := d.writes ++ [((k : Int), noughts)], count := d.count + 1 } hc (by show k + 1 + n ≤ d.now.length; omega) (fun i h1 h2 => hz i (by omega) (by omega))
    refine ⟨ws, ?_⟩
    rw [blankP, hw, if_neg (by simp)]
    show blankP n (k + 1) (d.put (k : Int) noughts) = _
    rw [hput, ih]
    show (({ d with writes := ws, count := d.count + 1 + n } : DSt), (0 : Int)) = _
    congr 2
    push_cast
    omega
/-- a disk of 64 blocks: two superblocks, and noughts -/
def zL (a b : Dat) : List Dat := a :: b :: List.replicate 62 noughts
def dz (a b : Dat) (c : Int) : DSt := ⟨zL a b, zL a b, [], c, false, ⟨false, 0⟩, ⟨false, 0⟩⟩
theorem zL_length (a b : Dat) : (zL a b).length = 64 := by simp [zL]
theorem dz_calm (a b : Dat) (c : Int) : (dz a b c).Calm := ⟨rfl, rfl, rfl⟩
theorem zL_get (a b : Dat) (i : Nat) (h : 2 ≤ i) (h2 : i < 64) : (zL a b)[i]? = some noughts := by
  obtain ⟨j, rfl⟩ : ∃ j, i = j + 2 := ⟨i - 2, by omega⟩
  show (List.replicate 62 noughts)[j]? = _
  rw [List.getElem?_replicate, if_pos (by omega)]
theorem dz_wf {a b : Dat} (ha : a.length = 4096) (hb : b.length = 4096) (c : Int) : (dz a b c).Wf := by
  have hm : ∀ x ∈ zL a b, x.length = 4096 := by
    intro x hx
    rcases List.mem_cons.1 hx with rfl | hx
    · exact ha
    rcases List.mem_cons.1 hx with rfl | hx
    · exact hb
    rw [(List.mem_replicate.1 hx).2]; exact noughts_length
  exact ⟨rfl, by show 1 ≤ (zL a b).length ∧ (zL a b).length ≤ 512; rw [zL_length]; omega, hm, hm, fun w hw => (List.not_mem_nil hw).elim, fun h => (Bool.false_ne_true h).elim, fun h => (Bool.false_ne_true h).elim⟩
theorem dz_few (a b : Dat) (c : Nat) : (dz a b c).Few c := ⟨Nat.zero_le _, by show (0 : Int) ≤ c; omega, by show (c : Int) ≤ c; omega⟩
theorem format_new : formatP (DSt.of (List.replicate 64 noughts)) = (dz (supL ⟨64, 1, 1, 0⟩) noughts 23, 0) := by
  have e0 : DSt.of (List.replicate 64 noughts) = dz noughts noughts 0 := rfl
  have hc := dz_calm noughts noughts 0
  have hl : (dz noughts noughts 0).now.length = 64 := zL_length _ _
  have hall : ∀ i, 1 ≤ i → i < 1 + 22 → (dz noughts noughts 0).now[i]? = some noughts := by
    intro i h1 h2
    by_cases h : i = 1
    · subst h; rfl
    · exact zL_get _ _ i (by omega) (by omega)
  rw [e0]
  generalize hd : dz noughts noughts 0 = d0 at *
  obtain ⟨ws, hb⟩ := blank_calm 22 1 d0 hc (by omega) hall
  unfold formatP
  rw [if_neg (by omega), hl, show (layOf ((64 : Nat) : Int)).d.toNat - 1 = 22 from by decide]
  unfold fmtS
  rw [hb]
  dsimp only
  have hc1 : ({ d0 with writes := ws, count := d0.count + (22 : Nat) } : DSt).Calm := hc
  rw [if_neg (by simp), DSt.flush_calm hc1]
  dsimp only
  rw [if_neg (by simp)]
  have hc2 : ({ d0 with safe := d0.now, writes := [], count := d0.count + (22 : Nat) } : DSt).Calm := hc
  rw [DSt.write_calm (d := { d0 with safe := d0.now, writes := [], count := d0.count + (22 : Nat) }) hc2 (n := 0) (b := supL ⟨(64 : Nat), 1, 1, 0⟩) (by show (0 : Int) ≤ 0 ∧ (0 : Int) < (d0.now.length : Nat); omega) (supL_length _)]
  dsimp only
  rw [if_neg (by simp), DSt.flush_calm (by exact hc)]
  subst hd
  rfl
theorem rb_dz (a b : Dat) (c : Int) (o : Nat) : rbP (dz a b c) 2 16 o = noughts := by
  unfold rbP
  show (zL a b).getD _ _ = _
  rw [List.getD_eq_getElem?_getD, zL_get a b _ (by omega) (by omega)]; rfl
theorem scan_dz (a b : Dat) (c : Int) (s : Sup) : scanL (dz a b c) s = [] := by
  rw [scanL64 (zL_length a b)]
  refine scan_stop ?_
  intro e q l h
  rw [grpP_none (by rw [rb_dz]; exact hd_noughts)] at h
  cases h
theorem do_empty {d : DSt} (hc : d.Calm) (_hw : d.writes = [] ∧ d.safe = d.now) {s : Sup} (hR : RightS s) (slot : Nat) (hs : slot ≤ 1) (hl : 2 ≤ d.now.length) : doP d [] s slot = ({ d with safe := d.now.set slot (supL s), now := d.now.set slot (supL s), writes := [], count := d.count + 1 }, 0) := by
  have hd : DoOk d [] := by intro g hg; simp at hg
  unfold doP
  rw [if_neg (by rintro (h | h | h | h); exact h hR; omega; omega; exact h hd)]
  rw [show wrImgs [] d = (d, 0) from rfl]
  dsimp only
  rw [if_neg (by simp), DSt.flush_calm hc]
  dsimp only
  rw [if_neg (by simp)]
  unfold lastWr
  have hc2 : ({ d with safe := d.now, writes := [] } : DSt).Calm := hc
  rw [DSt.write_calm hc2 (n := (slot : Int)) (b := supL s) (by show (0 : Int) ≤ slot ∧ (slot : Int) < d.now.length; omega) (supL_length _)]
  dsimp only
  rw [if_neg (by simp), DSt.flush_calm (by exact hc)]
  show (({ d with safe := d.now.set (slot : Int).toNat (supL s), now := d.now.set (slot : Int).toNat (supL s), writes := [], count := d.count + 1 } : DSt), (0 : Int)) = _
  rw [Int.toNat_natCast]
/-- mounting a disk whose ring is empty -/
theorem mount_dz {a b : Dat} {c : Int} {s : Sup} {slot : Nat} (hch : chooseP (getS a) (getS b) = (s, (slot : Int), true)) (hR : RightS s) (hb : s.blocks = 64) (ht : s.tail < 16) (he : s.epoch < 8388608) (hs : slot ≤ 1) :
    mountP (dz a b c) = (dz (if slot = 1 then supL ⟨64, s.epoch + 1, s.seq, s.tail⟩ else a) (if slot = 1 then b else supL ⟨64, s.epoch + 1, s.seq, s.tail⟩) (c + 1), 0, some ⟨openJ 64 (s.epoch + 1) s.seq s.tail, s.epoch + 1, slot, [], false⟩) := by
  obtain ⟨sb, se, sq, st⟩ := s
  obtain ⟨r1, r2, r3, r4, r5, r6, r7, r8⟩ := hR
  dsimp only at *
  subst hb
  have hl : (dz a b c).now.length = 64 := zL_length _ _
  have hf : foundP (dz a b c) = (⟨64, se, sq, st⟩, (slot : Int), 0) := by
    unfold foundP
    rw [if_neg (by show ¬ false = true; simp), hl]
    have e1 : (dz a b c).now.getD 0 [] = a := rfl
    have e2 : (dz a b c).now.getD 1 [] = b := rfl
    rw [e1, e2, hch]
    dsimp only
    rw [if_neg (by rintro (h | h | h | h); exact Bool.noConfusion h; exact h rfl; rw [show layL ((64 : Nat) : Int) = 16 from by decide] at h; omega; omega)]
  unfold mountP
  rw [if_neg (by omega), hf]
  dsimp only
  rw [if_neg (by simp), scan_dz]
  unfold mountL
  have h16 : (layL (((dz a b c).now.length : Nat) : Int)).toNat = 16 := by rw [hl]; decide
  rw [h16]
  have hpl : ((placeP 16 st.toNat [] : Nat) : Int) = st := by
    unfold placeP
    simp only [List.map_nil, List.sum_nil, Nat.add_zero]
    omega
  rw [if_neg (by rintro (h | h); exact h (by intro g hg; simp [allG] at hg); simp at h; omega)]
  rw [hpl]
  have hdo := do_empty (d := dz a b c) (dz_calm a b c) ⟨rfl, rfl⟩ (s := ⟨64, se + 1, sq + (([] : List G3).length : Nat), st⟩) ⟨by show (64 : Int) ≤ 64; decide, by show (64 : Int) ≤ 512; decide, by show 1 ≤ se + 1; omega, by show se + 1 ≤ 8388608; omega, by show 1 ≤ sq + ((0 : Nat) : Int); omega, by show sq + ((0 : Nat) : Int) ≤ 549755813888; omega, r7, r8⟩ (1 - slot) (by omega) (by omega)
  have hsl : ((1 - slot : Nat) : Int) = 1 - (slot : Int) := by omega
  rw [hsl] at hdo
  have hho : homeP (allG []) = [] := by
    have := homeP_len (allG [])
    simp [allG] at this
    exact this
  rw [hho, hdo]
  dsimp only
  rw [if_neg (by simp), hl]
  have hsq : sq + (([] : List G3).length : Int) = sq := by simp
  rw [hsq]
  rcases Nat.eq_or_lt_of_le hs with h | h
  · subst h
    simp only [if_true]
    rfl
  · obtain rfl : slot = 0 := by omega
    rw [if_neg (by decide), if_neg (by decide)]
    rfl
theorem crash_none (sec : Nat) : ∀ (ws : List (Int × Dat)) (i : Nat) (s : List Dat), crashK [] (-1) sec i ws s = s
  | [], _, _ => rfl
  | w :: ws, i, s => by
    rw [crashK, crash_none sec ws]
    unfold crash1
    rw [if_neg (by omega), if_neg (by simp)]
end Go.Proofs.YtegdcjnjnoeinaaGreat
namespace Go.Proofs.YtegdcjnjnoeinaaGreat
open Go.RowKit Go.Sl
set_option maxRecDepth 20000
theorem images11_of (aL : Option Addr) (capL : Nat) (z : List Int) (hz : z.length ≤ 40) (hz2 : ∀ x ∈ z, In64 x) (k : Int) (hk : In64 k) (I : Imm) (hL : Rds I aL z.length (ints z)) :
    Tri Tryz.prog 15 #[.slice aL z.length capL, .int .i64 k] I [] fun v J S' => ∃ a cap ch gs, v = .slice a z.length cap ∧ OwnC ch 2 a z.length cap (imgCells gs) ∧ gs.map Img.pr = imgsP z k 0 ∧ (∀ g ∈ gs, ImgOk J g ∧ g.len = 4096) ∧ S' = [ch] := by
  refine Tri.of (args := [.slice aL z.length capL, .int .i64 k]) tabOk Tryz.func15 rfl (by kernel_rfl) (by kernel_rfl) ?_
  refine CodeF.loopD [0, 1, 5, 6] (fun vs J S' => ∃ (i : Nat) (kk : Int) (a : Option Addr) (cap : Nat) (ch : List Blk) (gs : List Img), i ≤ z.length ∧ In64 kk ∧ OwnC ch 2 a i cap (imgCells gs) ∧ gs.length = i ∧ gs.map Img.pr ++ imgsP (z.drop i) kk i = imgsP z k 0 ∧ (∀ g ∈ gs, ImgOk J g ∧ g.len = 4096) ∧ I.le J ∧
      vs = [.slice aL z.length capL, .int .i64 kk, .slice a i cap, .int .i64 i] ∧ S' = [ch])
    (fun vs _ _ => match vs with | [_, _, _, .int _ i] => ((z.length : Int) - i).toNat | _ => 0) ?_ ?_
  · exact ⟨_, Drop.and (Drop.refl _), 0, k, none, 0, [], [], by omega, hk, OwnC.nil _ _, rfl, rfl, by simp, I.le_refl, rfl, rfl⟩
  rintro vs g J S' hJ ⟨i, kk, a, cap, ch, gs, hi, hkk, hown, hgs, hbl, hok, hle, rfl, rfl⟩
  refine CmpD.split (fun c1 => ?_) (fun c1 => ?_)
  · refine CmpD.yes (by omega) ?_
    have hil : i < z.length := by omega
    rcases hL.mem with q0 | ⟨bL, oL, cL, TL, fL, rfl, hIL, hcL⟩
    · omega
    refine CodeF.sched [[], [], [], [1, 2], [1, 2, 3], [], [5], [1, 2, 3, 4, 5, 6], [1, 2, 3, 4, 5, 6, 7], [0, 1, 2, 3, 4, 5, 6, 7, 8], [0, 1, 2, 3, 4, 5, 6, 7, 8, 9]] [0, 1, 2, 3, 4, 5, 6, 7, 8, 9, 10] (by kernel_rfl) ?_
    refine Chk.mk (by omega) ?_
    refine LoadP.imm [.int .i64 z[i]] ⟨cL, TL, fL, .imm (hle _ _ hIL), take_get hcL (ints_get (List.getElem?_eq_getElem hil)), rfl⟩ ?_
    refine Tri.free (made kk 4096 (by omega) J) ?_
    have hdr : z.drop i = z[i] :: z.drop (i + 1) := List.drop_eq_getElem_cons hil
    rw [hdr, imgsP] at hbl
    rintro v J1 _ hJ1 ⟨aD, rfl, hrD⟩
    conv => whnf
    intro bN
    refine appendD tabOk rfl rfl rfl rfl rfl rfl rfl 0 rfl hown (SrcOk.slice (n := 1) (news := imgCells [⟨z[i], aD, 4096, 4096, madeL kk 4096⟩]) tabOk rfl ((OwnC.whole (len := 1) (size := 2) rfl).slC 1 rfl) (by intro v hv; simp [imgCells] at hv; rcases hv with rfl | rfl <;> rfl)) rfl (by show (i + 1) * 32 ≤ _; omega) (by omega) ?_
    intro a2 cap2 ch2 hown2
    refine Chk.mk (by omega) ?_
    have hk2 := tdiv2_range hkk
    refine ToD.i64 (by omega) (by omega) ?_
    refine ToD.i64 (by omega) (by omega) ?_
    refine ToD.i64 (by omega) (by omega) ?_
    refine ⟨_, Drop.pick [0] _ rfl, ⟨i + 1, _, a2, cap2, ch2, gs ++ [⟨z[i], aD, 4096, 4096, madeL kk 4096⟩], by omega, ?_, by rw [imgCells_snoc]; exact hown2, ?_, ?_, ?_, Imm.le_trans hle hJ1, rfl, rfl⟩, ?_⟩
    · unfold In64; omega
    · simp [hgs]
    · rw [List.map_append, List.append_assoc]; exact hbl
    · intro g hg
      rcases List.mem_append.1 hg with hg | hg
      · exact ⟨(hok g hg).1.mono hJ1, (hok g hg).2⟩
      · simp only [List.mem_singleton] at hg
        subst hg
        exact ⟨⟨hz2 _ (List.getElem_mem hil), hrD⟩, rfl⟩
    · show ((z.length : Int) - ((i : Int) + 1)).toNat < ((z.length : Int) - (i : Int)).toNat
      omega
  · obtain rfl : i = z.length := by omega
    refine Done.mk ⟨a, cap, ch, gs, rfl, hown, by rw [← hbl, List.drop_length, imgsP, List.append_nil], hok, rfl⟩
theorem images11_fix (aL : Option Addr) (capL : Nat) (z : List Int) (hz : z.length ≤ 40) (hz2 : ∀ x ∈ z, In64 x) (k : Int) (hk : In64 k) (I : Imm) (hL : Rds I aL z.length (ints z)) :
    Tri Tryz.prog 15 #[.slice aL z.length capL, .int .i64 k] I [] fun v J _ => ∃ a cap gs, v = .slice a gs.length cap ∧ ImgsOk J a gs ∧ gs.map Img.pr = imgsP z k 0 := by
  refine Tri.fixed (images11_of aL capL z hz hz2 k hk I hL) ?_
  rintro v J S' hJ ⟨a, cap, ch, gs, rfl, hown, hgs, hok, rfl⟩
  have hl : gs.length = z.length := by have := congrArg List.length hgs; rw [List.length_map, imgsP_length] at this; exact this
  refine ⟨0, ch, rfl, fun J' hJ' hm => ⟨a, cap, gs, by rw [hl], ⟨?_, fun g hg => (hok g hg).1.mono hJ'⟩, hgs⟩⟩
  rw [hl]
  exact Rds.of_ownS hown hm
end Go.Proofs.YtegdcjnjnoeinaaGreat
namespace Go.Proofs.YtegdcjnjnoeinaaGreat
open Go.RowKit Go.Sl
set_option maxRecDepth 20000

def sE (ep : Int) : Sup := ⟨64, ep, 1, 0⟩
theorem sE_right {ep : Int} (h : 1 ≤ ep ∧ ep ≤ 8388608) : RightS (sE ep) := ⟨by show (64 : Int) ≤ 64; decide, by show (64 : Int) ≤ 512; decide, h.1, h.2, by show (1 : Int) ≤ 1; decide, by show (1 : Int) ≤ 549755813888; decide, by show (0 : Int) ≤ 0; decide, by show (0 : Int) ≤ 511; decide⟩
theorem getS_noughts : getS noughts = none := by
  cases h : getS noughts with
  | none => rfl
  | some s =>
    have h2 := (getS_some.1 h).2
    have h3 := congrArg (·.head?) h2
    simp [supL, sup44, sup40, magicL, noughts] at h3
def v0 : VSt := ⟨openJ 64 2 1 0, 2, 0, [], false⟩
def dV : DSt := dz (supL (sE 1)) (supL (sE 2)) 24
theorem mount_first : mountP (dz (supL (sE 1)) noughts 23) = (dV, 0, some v0) := by
  have h := mount_dz (a := supL (sE 1)) (b := noughts) (c := 23) (s := sE 1) (slot := 0) (by rw [get_supL (sE_right (by omega)), getS_noughts]; rfl) (sE_right (by omega)) rfl (by show (0 : Int) < 16; decide) (by show (1 : Int) < 8388608; decide) (by omega)
  rw [if_neg (by decide), if_neg (by decide)] at h
  exact h
theorem mount_again (c : Int) : mountP (dz (supL (sE 1)) (supL (sE 2)) c) = (dz (supL (sE 3)) (supL (sE 2)) (c + 1), 0, some ⟨openJ 64 3 1 0, 3, 1, [], false⟩) := by
  have h := mount_dz (a := supL (sE 1)) (b := supL (sE 2)) (c := c) (s := sE 2) (slot := 1) (by rw [get_supL (sE_right (by omega)), get_supL (sE_right (by omega))]; rfl) (sE_right (by omega)) rfl (by show (0 : Int) < 16; decide) (by show (2 : Int) < 8388608; decide) (by omega)
  rw [if_pos rfl, if_pos rfl] at h
  exact h
theorem v0_wf : v0.j.Wf := openJ_wf 64 (by omega) ⟨rfl, by omega, by omega, by omega, by omega, by omega, by rw [layL_64']; omega⟩
theorem law_fresh (I : Imm) : Tri Tryz.prog 14 #[] I [] fun r J S' => ∃ bD bV chD chV, r = .tuple #[.pointer (some ⟨bD, 0, none⟩), .pointer (some ⟨bV, 0, none⟩), .bool true] ∧ Dk J bD dV chD ∧ Vk J bV bD v0 chV ∧ S' = [chV, chD] := by
  refine Tri.drop ?_ (fun _ _ _ _ h => h)
  refine Tri.of (args := []) tabOk Tryz.func14 rfl (by kernel_rfl) (by kernel_rfl) ?_
  refine Tri.frameX (dk_New I 64 (by omega)) [] rfl rfl ?_
  rintro r J1 A' hJ1 ⟨bD, chD, rfl, hD, rfl⟩
  repeat (first | refine CmpD.yes rfl ?_)
  refine Tri.frame1 0 rfl (vk_Format hD ((DSt.of_few _).mono (by omega))) ?_
  rw [format_new]
  rintro r J2 A' hJ2 ⟨rfl, chD2, hD2, rfl⟩
  refine ⟨_, rfl, ?_⟩
  repeat (first | refine CmpD.yes rfl ?_)
  have hf : (dz (supL ⟨64, 1, 1, 0⟩) noughts 23).Few 700000 := (dz_few _ _ 23).mono (by omega)
  refine Tri.frameX (vk_Mount hD2 hf) [0] rfl rfl ?_
  rw [show mountP (dz (supL ⟨64, 1, 1, 0⟩) noughts 23) = (dV, 0, some v0) from mount_first]
  rintro r J3 A' hJ3 ⟨chD3, hD3, (⟨h, _⟩ | ⟨_, v, bV, chV, hv, rfl, hV, rfl⟩)⟩
  · exact absurd rfl h
  cases hv
  repeat (first | refine CmpD.yes rfl ?_)
  exact Done.mk ⟨_, Drop.pick [2, 1] _ rfl, bD, bV, chD3, chV, rfl, hD3, hV, rfl⟩
theorem law_has {bV bD : Nat} {v : VSt} {ch : List Blk} {I : Imm} (h : Vk I bV bD v ch) {d : DSt} {chD : List Blk} (hD : Dk I bD d chD) (hfew : ∀ g ∈ v.fresh, g.2.length ≤ 1000000) (n : Int) (aB : Option Addr) (lB capB : Nat) (b : Dat) (hB : Rds I aB lB (bts b)) :
    Tri Tryz.prog 21 #[.pointer (some ⟨bV, 0, none⟩), .int .i64 n, .slice aB lB capB] I [ch, chD] fun r J S' => r = .bool (decide ((v.read d n).2 = 0 ∧ (v.read d n).1 = b)) ∧ I = J ∧ S' = [ch, chD] := by
  refine Tri.drop ?_ (fun _ _ _ _ h => h)
  refine Tri.of (args := [.pointer (some ⟨bV, 0, none⟩), .int .i64 n, .slice aB lB capB]) tabOk Tryz.func21 rfl (by kernel_rfl) (by kernel_rfl) ?_
  refine Tri.nf (vk_Read h hD hfew n) ?_
  generalize v.read d n = rd
  obtain ⟨x, e⟩ := rd
  dsimp only
  rintro r _ A' hJ ⟨a, cap, chB, rfl, hO, rfl, rfl⟩
  skip
  refine CmpD.split (fun (c1 : e = 0) => ?_) (fun (c1 : ¬ e = 0) => ?_)
  · skip
    refine Tri.mono (same_bytes (hO.slC1 2 rfl) hB.slC) ?_
    rintro r _ _ hJ ⟨rfl, rfl, rfl⟩
    by_cases hx : x = b
    · rw [decide_eq_true hx, decide_eq_true ⟨c1, hx⟩]
      exact Done.mk ⟨_, Drop.pick [0, 1] _ rfl, rfl, rfl, rfl⟩
    · rw [decide_eq_false hx, decide_eq_false (fun h => hx h.2)]
      exact Done.mk ⟨_, Drop.pick [0, 1] _ rfl, rfl, rfl, rfl⟩
  · rw [decide_eq_false (fun h => c1 h.1)]
    skip
    exact Done.mk ⟨_, Drop.pick [0, 1] _ rfl, rfl, rfl, rfl⟩
theorem wrD_rest (f : Nat → Int) : ∀ (bs : List Dat) (i : Nat) (d : DSt), (wrD f bs i d).safe = d.safe ∧ (wrD f bs i d).count = d.count + bs.length
  | [], _, _ => by simp [wrD]
  | b :: bs, i, d => by
    obtain ⟨h1, h2⟩ := wrD_rest f bs (i + 1) (d.put (f i) b)
    rw [wrD, h1, h2]
    refine ⟨rfl, ?_⟩
    show d.count + 1 + (bs.length : Int) = d.count + ((bs.length + 1 : Nat) : Int)
    omega
theorem commit_first {d : DSt} (hc : d.Calm) (hlen : d.now.length = 64) {l : List PImg} (hR : RightP 2 1 l) (hho : HomeOk (layOf 64) l) (hl : l.length + 1 ≤ 16) :
    ∃ (j : JSt) (f : Nat → Int), v0.commit d l = (⟨j, 2, 0, l.foldl pput [], false⟩, wrD f (putP 2 1 l) 0 d, 1, 0) := by
  have h1 := hR.2.2.2.2.1
  have hs : v0.j.s = 16 := layL_64'
  obtain ⟨j', a, _⟩ := JSt.append_next (j := v0.j) (held := false) v0_wf (by show 0 ≤ _; omega) rfl (d := d) (l := l) hR (by rw [hs]; omega) hc (by rw [hs, hlen]; decide) (t := 0) (u := (l.length : Int) + 1) (h := 0) (at_ := 0) (by
    rw [hs]
    show putS 16 0 0 0 ((l.length : Int) + 1) (if false = true then (l.length : Int) + 1 else 0) = _
    unfold putS
    have hok : Ok 16 0 0 0 := by unfold Ok; omega
    rw [if_neg (by simp only [Bool.false_eq_true, if_false]; rintro (h | h | h | h | h); exact h hok; omega; omega; omega; omega), if_neg (by simp only [Bool.false_eq_true, if_false]; omega)]
    simp)
  have hbn : blocksN (l.length : Int) = (l.length : Int) + 1 := by unfold blocksN; rw [if_neg (by omega)]
  refine ⟨j', fun i => 2 + (0 + (i : Int)) % v0.j.s, ?_⟩
  unfold VSt.commit
  rw [if_neg (by show ¬ false = true; simp), if_neg (fun h => h hho), if_neg (fun h => h hR)]
  have hft : v0.fits (l.length : Int) = true := by
    unfold VSt.fits
    rw [hbn]
    exact decide_eq_true ⟨by omega, by show (l.length : Int) + 1 ≤ layL ((64 : Nat) : Int); rw [layL_64']; omega⟩
  rw [if_neg (by rw [hft]; simp), hbn, if_neg (by rw [hs]; show ¬ (16 : Int) - 0 - 0 < _; omega)]
  unfold VSt.app
  rw [a]
  dsimp only
  rw [if_neg (by simp)]
  rfl
set_option maxHeartbeats 4000000 in
theorem awake11 (I : Imm) (S : St) : Tri Tryz.prog 22 #[] I S fun v _ _ => v = .bool true := by
  refine Tri.free (Q := fun v _ _ => v = .bool true) ?_ (fun v J _ _ h => h)
  refine Tri.of (args := []) tabOk Tryz.func22 rfl (by kernel_rfl) (by kernel_rfl) ?_
  refine Tri.frameX (law_fresh I) [] rfl rfl ?_
  rintro r J1 A' hJ1 ⟨bD, bV, chD, chV, rfl, hD, hV, rfl⟩
  skip
  refine Tri.frame1 0 rfl (vk_Next hV) ?_
  rintro r _ A' hJ ⟨rfl, rfl, rfl⟩
  refine ⟨_, rfl, ?_⟩
  repeat (first | refine CmpD.yes rfl ?_)
  refine Tri.frame1 0 rfl (vk_Synced hV) ?_
  rintro r _ A' hJ ⟨rfl, rfl, rfl⟩
  refine ⟨_, rfl, ?_⟩
  repeat (first | refine CmpD.yes rfl ?_)
  conv => whnf
  intro bR
  refine Tri.fix 2 rfl fun I2 hI2 hRm => ?_
  have hz : Rds I2 (some ⟨bR, 0, none⟩) 2 (ints (rowL 2)) := ⟨rfl, .inr ⟨bR, 0, _, _, _, rfl, hRm _ (List.mem_singleton.2 rfl), rfl⟩⟩
  refine Tri.free (images11_fix (some ⟨bR, 0, none⟩) 2 (rowL 2) (by decide) (rowL_in 2 (by omega)) 5 (by unfold In64; omega) I2 hz) ?_
  rintro r J3 _ hJ3 ⟨aI, capI, gs, rfl, hI, hgs⟩
  have hgl : gs.length = 2 := by have := congrArg List.length hgs; rwa [List.length_map, imgsP_length, rowL_length] at this
  have hle3 := Imm.le_trans hI2 hJ3
  have hR := right_row (e := 2) (s := 1) (by omega) (by omega) 2 (by omega) 5
  have hho : HomeOk (layOf 64) (imgsP (rowL 2) 5 0) := by
    intro g hg
    have : g.1 ∈ rowL 2 := by rw [← imgsP_fst (rowL 2) 5 0]; exact List.mem_map_of_mem hg
    simp [rowL] at this
    obtain ⟨i, hi, hgi⟩ := this
    show (18 : Int) ≤ g.1 ∧ g.1 < 64
    omega
  obtain ⟨j1, f, hcm⟩ := commit_first (d := dV) (dz_calm _ _ _) (zL_length _ _) hR hho (by rw [imgsP_length, rowL_length]; decide)
  refine Tri.frame (vk_Commit (hV.mono hle3) v0_wf rfl (by show (0 : Int) ≤ 0 ∧ (0 : Int) ≤ 1; omega) (by show 0 ≤ 1000; omega) (by show 0 ≤ _; omega) (hD.mono hle3) ((dz_few _ _ 24).mono (by omega)) aI capI gs hI (by omega)) [0, 1] rfl rfl ?_
  rw [hgs, hcm]
  dsimp only
  rintro r J4 A' hJ4 ⟨rfl, chV4, chD4, hV4, hD4, rfl⟩
  refine ⟨Nat.le_refl _, ?_⟩
  repeat (first | refine CmpD.yes rfl ?_)
  refine Tri.free (made 5 4096 (by omega) J4) ?_
  rintro r J5 _ hJ5 ⟨aM, rfl, hM⟩
  skip
  have hrow : imgsP (rowL 2) 5 0 = [(30, madeL 5 4096), (31, madeL ((5 : Int).tdiv 2 + (0 : Nat)) 4096)] := rfl
  have hfr : (imgsP (rowL 2) 5 0).foldl pput [] = imgsP (rowL 2) 5 0 := by rw [hrow]; simp [pput]
  have hfew : ∀ g ∈ (imgsP (rowL 2) 5 0).foldl pput [], g.2.length ≤ 1000000 := by rw [hfr]; intro g hg; have := imgsP_snd _ _ _ g hg; omega
  refine Tri.frame (law_has (hV4.mono hJ5) (hD4.mono hJ5) hfew 30 aM 4096 4096 (madeL 5 4096) hM) [0, 1] rfl rfl ?_
  have hrd : VSt.read ⟨j1, 2, 0, (imgsP (rowL 2) 5 0).foldl pput [], false⟩ (wrD f (putP 2 1 (imgsP (rowL 2) 5 0)) 0 dV) 30 = (madeL 5 4096, 0) := by
    unfold VSt.read
    rw [if_neg (by simp), hfr, hrow]
    rfl
  rw [hrd, decide_eq_true ⟨rfl, rfl⟩]
  rintro r _ A' hJ6 ⟨rfl, rfl, rfl⟩
  refine ⟨Nat.le_refl _, ?_⟩
  skip
  obtain ⟨hsafe, hcount⟩ := wrD_rest f (putP 2 1 (imgsP (rowL 2) 5 0)) 0 dV
  have hfew4 : (wrD f (putP 2 1 (imgsP (rowL 2) 5 0)) 0 dV).Few 1000000 := (wrD_few f _ 0 dV 24 (dz_few _ _ 24)).mono (by rw [putP_length, imgsP_length, rowL_length]; omega)
  refine Tri.frame1 1 rfl (dk_Crash (hD4.mono hJ5) hfew4 none 0 0 [] ⟨rfl, .inl rfl⟩ (-1) 0 (by omega)) ?_
  have hcr : (wrD f (putP 2 1 (imgsP (rowL 2) 5 0)) 0 dV).crash [] (-1) 0 = dz (supL (sE 1)) (supL (sE 2)) 27 := by
    unfold DSt.crash
    rw [crash_none, hsafe, hcount, putP_length, imgsP_length, rowL_length]
    rfl
  rw [hcr]
  rintro r J7 A' hJ7 ⟨rfl, chD7, hD7, rfl⟩
  refine ⟨_, rfl, ?_⟩
  repeat (first | refine CmpD.yes rfl ?_)
  refine Tri.frameX (vk_Mount hD7 ((dz_few _ _ 27).mono (by omega))) [1] rfl rfl ?_
  rw [mount_again]
  rintro r J8 A' hJ8 ⟨chD8, hD8, (⟨h, _⟩ | ⟨_, v, bV8, chV8, hv, rfl, hV8, rfl⟩)⟩
  · exact absurd rfl h
  cases hv
  repeat (first | refine CmpD.yes rfl ?_)
  refine makeH tabOk rfl rfl rfl 4096 4096 rfl rfl (Nat.le_refl _) (by show 1 * 4096 ≤ _; decide) (by decide) (by show 4096 * 1 ≤ _; decide) rfl (by decide) ?_
  intro bN NB hNB
  skip
  refine Tri.fix 5 rfl fun I9 hI9 hNm => ?_
  have hN : Rds I9 (some ⟨bN, 0, none⟩) 4096 (bts noughts) := by
    rw [noughts_bts]
    exact Rds.of_own (cap := 4096) (by rw [hNB]; show OwnC [(bN, row (rows 4096 [Value.int .u8 0]) _)] 1 _ _ _ _; exact OwnC.whole (by rw [rows_length]; rfl)) hNm
  refine Tri.frame (law_has (hV8.mono hI9) (hD8.mono hI9) (by intro g hg; simp at hg) 30 (some ⟨bN, 0, none⟩) 4096 4096 noughts hN) [4, 3] rfl rfl ?_
  have hrd2 : VSt.read ⟨openJ 64 3 1 0, 3, 1, [], false⟩ (dz (supL (sE 3)) (supL (sE 2)) (27 + 1)) 30 = (noughts, 0) := by
    unfold VSt.read
    rw [if_neg (by simp)]
    show (dz (supL (sE 3)) (supL (sE 2)) (27 + 1)).read ((30 : Nat) : Int) = _
    rw [read_up (dz_wf (supL_length _) (supL_length _) _) rfl (by show 30 < (zL _ _).length; rw [zL_length]; omega)]
    show ((zL _ _).getD 30 [], (0 : Int)) = _
    rw [List.getD_eq_getElem?_getD, zL_get _ _ 30 (by omega) (by omega)]; rfl
  rw [hrd2, decide_eq_true ⟨rfl, rfl⟩]
  rintro r _ A' hJ10 ⟨rfl, rfl, rfl⟩
  refine ⟨Nat.le_refl _, ?_⟩
  skip
  refine Tri.frame1 4 rfl (vk_Next (hV8.mono hI9)) ?_
  rintro r _ A' hJ11 ⟨rfl, rfl, rfl⟩
  refine ⟨_, rfl, ?_⟩
  repeat (first | refine CmpD.yes rfl ?_)
  exact Done.mk rfl
end Go.Proofs.YtegdcjnjnoeinaaGreat
namespace Go.Proofs.YtegdcjnjnoeinaaGreat
open Go.RowKit Go.Sl
set_option maxRecDepth 20000

end Go.Proofs.YtegdcjnjnoeinaaGreat
namespace Go.Proofs.YtegdcjnjnoeinaaGreat
open Go.RowKit Go.Sl
set_option maxRecDepth 20000

/-- where the k-th block goes, of those from place o of a ring on -/
def rgAt (o : Nat) : Nat → Int := fun k => ((2 + (o + k) % 16 : Nat) : Int)
structure WE (ep t0 sq : Nat) (j : JSt) (d : DSt) (ls : List (List PImg)) (k : Nat) : Prop where
  lay : j.lay = layOf 64
  s : j.s = 16
  t : j.t = ((t0 % 16 : Nat) : Int)
  u : j.u = (usedP ls : Nat)
  h : j.h = 0
  epoch : j.epoch = ep
  epr : 1 ≤ ep ∧ ep ≤ 8388608
  next : j.next = ((sq + ls.length : Nat) : Int)
  pos : 1 ≤ sq
  groups : j.groups = grL sq ls
  broken : j.broken = false
  wf : j.Wf
  calm : d.Calm
  dwf : d.Wf
  len : d.now.length = 64
  few : d.Few k
  used : usedP ls ≤ 16
  right : ∀ (i : Nat) (h : i < ls.length), RightP ep ((sq + i : Nat) : Int) ls[i]
  ring : ∀ (o : Nat) (h : o < (ringB ep sq ls).length), rbP d 2 16 (t0 + o) = (ringB ep sq ls)[o]
section
variable {ep t0 sq : Nat} {j : JSt} {d : DSt} {ls : List (List PImg)} {k : Nat}
theorem WE.mono {m : Nat} (w : WE ep t0 sq j d ls k) (h : k ≤ m) : WE ep t0 sq j d ls m := { w with few := w.few.mono h }
theorem WE.room (w : WE ep t0 sq j d ls k) : Ok 16 ((t0 % 16 : Nat) : Int) (usedP ls : Nat) 0 := by
  have := w.wf.ring; rw [w.s, w.t, w.u, w.h] at this; exact this
theorem putP_lens {e s : Nat} {l : List PImg} (hR : RightP e s l) : ∀ b ∈ putP e s l, b.length = 4096 := putP_len (e := e) (s := s) hR.2.2.2.2.2.1 hR.lens
/-- a group that fits is appended -/
theorem WE.append (w : WE ep t0 sq j d ls k) {l : List PImg} (hR : RightP ep ((sq + ls.length : Nat) : Int) l) (hroom : usedP ls + (l.length + 1) ≤ 16) :
    ∃ j', j.appendB d l false = (j', wrD (rgAt (t0 + usedP ls)) (putP ep (sq + ls.length) l) 0 d, ((sq + ls.length : Nat) : Int), 0) ∧ WE ep t0 sq j' (wrD (rgAt (t0 + usedP ls)) (putP ep (sq + ls.length) l) 0 d) (ls ++ [l]) (k + 16) ∧ j'.synced = j.synced := by
  have hge := usedP_ge ls
  have hu := w.used
  have hll := hR.2.2.2.2.2.1
  have hR' : RightP j.epoch j.next l := by rw [w.epoch, w.next]; exact hR
  have hokd := w.room
  have hok := hokd
  unfold Ok at hok
  have hp : putS j.s j.t j.u j.h ((l.length : Int) + 1) (if false = true then (l.length : Int) + 1 else 0) = ((j.s, ((t0 % 16 : Nat) : Int), ((usedP ls : Nat) : Int) + ((l.length : Int) + 1), 0, 0), (((t0 % 16 : Nat) : Int) + (usedP ls : Nat)) % 16) := by
    rw [w.s, w.t, w.u, w.h]
    unfold putS
    rw [if_neg (by simp only [Bool.false_eq_true, if_false]; rintro (h | h | h | h | h); exact h hokd; omega; omega; omega; omega), if_neg (by simp only [Bool.false_eq_true, if_false]; omega)]
    simp only [Bool.false_eq_true, if_false, Int.sub_zero]
  have hlen16 : j.s + 2 ≤ d.now.length := by rw [w.s, w.len]; decide
  have hs1 : (l.length : Int) + 1 ≤ j.s := by rw [w.s]; omega
  have hgl : j.groups.length = ls.length := by rw [w.groups, grL_length]
  obtain ⟨j', a, f1, f2, f3, f4, f5, f6, f7, f8, f9, f10, w'⟩ := JSt.append_next w.wf (by rw [hgl]; omega) w.broken hR' hs1 w.calm hlen16 hp
  have hff : (fun k : Nat => (2 : Int) + ((((t0 % 16 : Nat) : Int) + (usedP ls : Nat)) % 16 + k) % j.s) = rgAt (t0 + usedP ls) := by
    funext k
    rw [w.s]; unfold rgAt; omega
  have he1 : j.epoch.toNat = ep := by rw [w.epoch]; rfl
  have he2 : j.next.toNat = sq + ls.length := by rw [w.next]; omega
  rw [hff, he1, he2, w.next] at a
  have hB := putP_lens (e := ep) (s := sq + ls.length) hR
  have hfl : ∀ k : Nat, (0 : Int) ≤ rgAt (t0 + usedP ls) k ∧ rgAt (t0 + usedP ls) k < d.now.length := by
    intro k
    rw [w.len]; unfold rgAt; omega
  refine ⟨j', a, ⟨by rw [f1, w.lay], by rw [f2, w.s], f3, by rw [f4, usedP_snoc]; omega, f5, by rw [f6, w.epoch], w.epr, by rw [f7, w.next, List.length_append]; show _ = (((sq + (ls.length + 1) : Nat)) : Int); omega, w.pos, by rw [f9, w.groups, w.next, grL_snoc], f10, w', wrD_calm _ _ _ _ w.calm, wrD_wf _ _ _ _ w.dwf w.calm hB hfl, by rw [wrD_len, w.len], ?_, by rw [usedP_snoc]; exact hroom, ?_, ?_⟩, f8⟩
  · have := wrD_few (rgAt (t0 + usedP ls)) (putP ep (sq + ls.length) l) 0 d _ w.few
    rw [putP_length] at this
    exact this.mono (by omega)
  · intro i hi
    rw [List.getElem_append]
    split
    · rename_i h; exact w.right i h
    · rename_i h
      simp only [List.length_append, List.length_singleton] at hi
      obtain rfl : i = ls.length := by omega
      simpa using hR
  · intro o ho
    have hrl := ringB_length ep ls sq
    have hsn := ringB_snoc ep ls sq l
    have hpl := putP_length ep (sq + ls.length) l
    obtain ⟨B, hBe⟩ : ∃ B, B = putP ep (sq + ls.length) l := ⟨_, rfl⟩
    rw [← hBe] at hpl hsn ⊢
    have ho2 : o < usedP ls + B.length := by rw [hsn, List.length_append, hrl] at ho; exact ho
    have e0 : (ringB ep sq (ls ++ [l]))[o]? = (ringB ep sq ls ++ B)[o]? := by rw [hsn]
    rw [List.getElem?_eq_getElem ho] at e0
    unfold rbP
    rw [List.getD_eq_getElem?_getD]
    have inj : ∀ k, k < B.length → (2 + (t0 + usedP ls + k) % 16 = 2 + (t0 + o) % 16 ↔ usedP ls + k = o) := by
      intro k hk; omega
    by_cases hin : usedP ls ≤ o
    · have := wrD_hit (fun k => 2 + (t0 + usedP ls + k) % 16) (2 + (t0 + o) % 16) B 0 d (o - usedP ls) (by omega) (by have := (inj (o - usedP ls) (by omega)).2 (by omega); simpa using this)
        (fun k' h1 h2 h3 => by have := (inj k' h2).1 (by simpa using h3); omega) (by rw [w.len]; omega)
      rw [show (rgAt (t0 + usedP ls)) = fun k => ((2 + (t0 + usedP ls + k) % 16 : Nat) : Int) from rfl, this]
      rw [List.getElem?_append_right (by omega), hrl, List.getElem?_eq_getElem (by omega)] at e0
      exact (Option.some.inj e0).symm
    · have := wrD_miss (fun k => 2 + (t0 + usedP ls + k) % 16) (2 + (t0 + o) % 16) B 0 d (fun k hk h3 => by have := (inj k hk).1 (by simpa using h3); omega)
      rw [show (rgAt (t0 + usedP ls)) = fun k => ((2 + (t0 + usedP ls + k) % 16 : Nat) : Int) from rfl, this]
      rw [List.getElem?_append_left (by omega), List.getElem?_eq_getElem (by omega)] at e0
      have hw := w.ring o (by omega)
      unfold rbP at hw
      rw [List.getD_eq_getElem?_getD] at hw
      rw [hw]
      exact (Option.some.inj e0).symm
theorem WE.flush (w : WE ep t0 sq j d ls k) :
    ∃ j', j.flush d = (j', { d with safe := d.now, writes := [] }, 0) ∧ WE ep t0 sq j' { d with safe := d.now, writes := [] } ls k ∧ j'.synced = j'.next - 1 := by
  obtain ⟨j', a, f1, f2, f3, f4, f5, f6, f7, f8, f9, f10, w'⟩ := JSt.flush_next w.wf w.broken w.calm
  have hc := w.calm
  have hdw : ({ d with safe := d.now, writes := [] } : DSt).Wf := by
    have := w.dwf.flush
    rwa [DSt.flush_calm w.calm] at this
  refine ⟨j', a, ⟨by rw [f1, w.lay], by rw [f2, w.s], by rw [f3, w.t], by rw [f4, w.u], by rw [f5, w.h], by rw [f6, w.epoch], w.epr, by rw [f7, w.next], w.pos, by rw [f9, w.groups], f10, w', hc, hdw, w.len, ?_, w.used, w.right, w.ring⟩, by rw [f8, f7]⟩
  obtain ⟨h1, h2, h3⟩ := w.few
  exact ⟨by simp, h2, h3⟩
/-- all groups are let go -/
theorem WE.release (w : WE ep t0 sq j d ls k) (hsy : j.synced = j.next - 1) :
    ∃ j', j.release j.synced = (j', 0) ∧ WE ep (t0 + usedP ls) (sq + ls.length) j' d [] k ∧ j'.synced = j.synced := by
  have hu := w.used
  cases ls with
  | nil =>
    have hr : relAll j.synced j.groups j.s j.t j.u j.h = ([], (16, ((t0 % 16 : Nat) : Int), 0, 0, 0)) := by
      rw [w.groups, w.s, w.t, w.u, w.h]; rfl
    obtain ⟨j', a, f1, f2, f3, f4, f5, f6, f7, f8, f9, f10, w'⟩ := JSt.release_next w.wf (seq := j.synced) w.broken (by omega) hr
    refine ⟨j', a, ⟨by rw [f1, w.lay], f2, by rw [f3]; simp [usedP], f4, f5, by rw [f6, w.epoch], w.epr, by rw [f7, w.next]; rfl, w.pos, f9, f10, w', w.calm, w.dwf, w.len, w.few, by simp [usedP], w.right, fun o ho => by simp [ringB] at ho⟩, f8⟩
  | cons l ls' =>
    have hm : ls'.length < (l :: ls').length := by simp
    have hle : (l :: ls').length = ls'.length + 1 := rfl
    have hr : relAll ((sq + ls'.length : Nat) : Int) j.groups j.s j.t j.u j.h = (grL (sq + (ls'.length + 1)) ((l :: ls').drop (ls'.length + 1)), (16, (((t0 + usedP ((l :: ls').take (ls'.length + 1))) % 16 : Nat) : Int), ((usedP ((l :: ls').drop (ls'.length + 1)) : Nat) : Int), 0, 0)) := by
      rw [w.groups, w.s, w.t, w.u, w.h]; exact rel_gr ls'.length (l :: ls') sq t0 ((usedP (l :: ls') : Nat) : Int) 0 hm rfl w.room
    rw [← hle, List.take_length, List.drop_length] at hr
    have hse : j.synced = ((sq + ls'.length : Nat) : Int) := by rw [hsy, w.next, hle]; omega
    rw [← hse] at hr
    obtain ⟨j', a, f1, f2, f3, f4, f5, f6, f7, f8, f9, f10, w'⟩ := JSt.release_next w.wf (seq := j.synced) w.broken (by omega) hr
    refine ⟨j', a, ⟨by rw [f1, w.lay], f2, f3, f4, f5, by rw [f6, w.epoch], w.epr, by rw [f7, w.next]; rfl, by have := w.pos; omega, f9, f10, w', w.calm, w.dwf, w.len, w.few, by simp [usedP], fun i hi => by simp at hi, fun o ho => by simp [ringB] at ho⟩, f8⟩
end
/-- doing images, with nothing in the way -/
theorem doP_calm {d : DSt} (hc : d.Calm) (hlen : d.now.length = 64) {l : List PImg} (hok : DoOk d l) {s : Sup} (hR : RightS s) {slot : Int} (hsl : 0 ≤ slot ∧ slot ≤ 1) :
    ∃ e, doP d l s slot = (e, 0) ∧ e.Calm ∧ e.writes = [] ∧ e.safe = e.now ∧ e.now = (wrC l d).now.set slot.toNat (supL s) ∧ e.now.length = 64 := by
  have hw := wrC_imgs l d hc hok
  have hcw := wrC_calm l d hc
  have hnl := (wrC_now l d (fun g hg => (hok g hg).1) (fun g hg => (hok g hg).2.1)).1
  have f1 := DSt.flush_calm hcw
  obtain ⟨e1, he1⟩ : ∃ e1, e1 = ({ wrC l d with safe := (wrC l d).now, writes := [] } : DSt) := ⟨_, rfl⟩
  rw [← he1] at f1
  have ce1 : e1.Calm := by rw [he1]; exact hcw
  have ne1 : e1.now = (wrC l d).now := by rw [he1]
  have w2 : e1.write slot (supL s) = (e1.put slot (supL s), 0) := DSt.write_calm ce1 ⟨hsl.1, by rw [ne1, hnl, hlen]; omega⟩ (supL_length _)
  have f2 : (e1.put slot (supL s)).flush = ({ e1.put slot (supL s) with safe := (e1.put slot (supL s)).now, writes := [] }, 0) := DSt.flush_calm ce1
  refine ⟨{ e1.put slot (supL s) with safe := (e1.put slot (supL s)).now, writes := [] }, ?_, ce1, rfl, rfl, ?_, ?_⟩
  · unfold doP lastWr
    rw [if_neg (by rintro (h | h | h | h); exact h hR; omega; omega; exact h hok), hw]
    simp [f1, w2, f2]
  · show e1.now.set _ _ = _; rw [ne1]
  · show (e1.now.set _ _).length = 64; rw [List.length_set, ne1, hnl, hlen]
theorem doP_wf {d : DSt} (h : d.Wf) (l : List PImg) (s : Sup) (slot : Int) : (doP d l s slot).1.Wf := by
  have h1 : ∀ (l : List PImg) (d : DSt), d.Wf → (wrImgs l d).1.Wf := by
    intro l
    induction l with
    | nil => intro d h; exact h
    | cons g l ih =>
      intro d h
      rw [wrImgs]
      split
      · exact h.write _ _
      · exact ih _ (h.write _ _)
  unfold doP
  split
  · exact h
  split
  · exact h1 l d h
  split
  · exact (h1 l d h).flush
  unfold lastWr
  split
  · exact ((h1 l d h).flush).write _ _
  · exact (((h1 l d h).flush).write _ _).flush
end Go.Proofs.YtegdcjnjnoeinaaGreat
namespace Go.Proofs.YtegdcjnjnoeinaaGreat
open Go.RowKit Go.Sl
set_option maxRecDepth 20000

/-- a block as it counts -/
def VSt.cur (v : VSt) (d : DSt) (n : Int) : Dat := match v.fresh.lookup n with
  | some b => b
  | none => d.now.getD n.toNat []
structure WV (ep t0 sq : Nat) (v : VSt) (d : DSt) (ls : List (List PImg)) (k : Nat) : Prop where
  e : WE ep t0 sq v.j d ls k
  epoch : v.epoch = ep
  slot : v.slot = 0 ∨ v.slot = 1
  fresh : v.fresh = lastP ls.flatten
  home : HomeOk (layOf 64) ls.flatten
  broken : v.broken = false
theorem home64 {l : List PImg} (h : HomeOk (layOf 64) l) : ∀ g ∈ l, 18 ≤ g.1 ∧ g.1 < 64 := by
  intro g hg
  have := h g hg
  have e1 : (layOf 64).bi = 18 := by decide
  have e2 : (layOf 64).b = 64 := rfl
  rw [e1, e2] at this; exact this
section
variable {ep t0 sq : Nat} {v : VSt} {d : DSt} {ls : List (List PImg)} {k : Nat}
theorem WV.mono {m : Nat} (w : WV ep t0 sq v d ls k) (h : k ≤ m) : WV ep t0 sq v d ls m := { w with e := w.e.mono h }
theorem WV.lens (w : WV ep t0 sq v d ls k) : ∀ g ∈ ls.flatten, g.2.length = 4096 := by
  intro g hg
  obtain ⟨l, hl, hgl⟩ := List.mem_flatten.1 hg
  obtain ⟨i, hi⟩ := List.mem_iff_getElem?.1 hl
  have hlt := (List.getElem?_eq_some_iff.1 hi).1
  have hr := w.e.right i hlt
  have e : ls[i] = l := by rw [List.getElem?_eq_getElem hlt] at hi; exact Option.some.inj hi
  rw [e] at hr
  exact (hr.2.2.2.2.2.2.1 g hgl).2.2
theorem WV.lookup (w : WV ep t0 sq v d ls k) (n : Int) : v.fresh.lookup n = lastD ls.flatten n := by rw [w.fresh, lookup_lastP]
theorem WV.few_fresh (w : WV ep t0 sq v d ls k) : v.fresh.length ≤ 16 := by
  have h1 : (ls.flatten).length ≤ usedP ls := by
    unfold usedP
    rw [List.length_flatten]
    have : ∀ l : List (List PImg), (l.map List.length).sum ≤ (l.map fun g => g.length + 1).sum := by
      intro l
      induction l with
      | nil => simp
      | cons g l ih => simp; omega
    exact this ls
  have h2 : ∀ (l ms : List PImg), (l.foldl pput ms).length ≤ ms.length + l.length := by
    intro l
    induction l with
    | nil => intro ms; simp
    | cons g l ih =>
      intro ms
      have h1 := ih (pput ms g)
      have h2 : (pput ms g).length ≤ ms.length + 1 := by unfold pput; split <;> simp
      rw [List.foldl_cons, List.length_cons]; omega
  have h3 := h2 ls.flatten []
  have := w.e.used
  rw [w.fresh]
  unfold lastP
  rw [List.length_nil, Nat.zero_add] at h3
  omega
theorem WV.read (w : WV ep t0 sq v d ls k) {n : Int} (h : 0 ≤ n ∧ n < 64) : v.read d n = (v.cur d n, 0) := by
  unfold VSt.read VSt.cur
  rw [if_neg (by rw [w.broken]; simp)]
  cases hl : v.fresh.lookup n with
  | some b => rfl
  | none =>
    have e : n = ((n.toNat : Nat) : Int) := by omega
    have := read_up w.e.dwf w.e.calm.1 (k := n.toNat) (by rw [w.e.len]; omega)
    rw [← e] at this
    exact this
/-- a group is appended, there is room -/
theorem WV.app (w : WV ep t0 sq v d ls k) {l : List PImg} (hho : HomeOk (layOf 64) l) (hR : RightP ep ((sq + ls.length : Nat) : Int) l) (hroom : usedP ls + (l.length + 1) ≤ 16) :
    ∃ v' , v.app d l = (v', wrD (rgAt (t0 + usedP ls)) (putP ep (sq + ls.length) l) 0 d, ((sq + ls.length : Nat) : Int), 0) ∧ WV ep t0 sq v' (wrD (rgAt (t0 + usedP ls)) (putP ep (sq + ls.length) l) 0 d) (ls ++ [l]) (k + 16) ∧
      (∀ n, 18 ≤ n → n < 64 → v'.cur (wrD (rgAt (t0 + usedP ls)) (putP ep (sq + ls.length) l) 0 d) n = (lastD l n).getD (v.cur d n)) ∧ v'.j.synced = v.j.synced ∧ v'.slot = v.slot := by
  obtain ⟨j', a, w', hs⟩ := w.e.append hR hroom
  have hv : v.app d l = ({ v with j := j', fresh := l.foldl pput v.fresh }, wrD (rgAt (t0 + usedP ls)) (putP ep (sq + ls.length) l) 0 d, ((sq + ls.length : Nat) : Int), 0) := by
    unfold VSt.app
    rw [a]
    dsimp only
    rw [if_neg (by simp)]
  have hfr : l.foldl pput v.fresh = lastP (ls ++ [l]).flatten := by
    rw [w.fresh]; unfold lastP; rw [List.flatten_append, List.foldl_append]; simp
  refine ⟨_, hv, ⟨w', w.epoch, w.slot, hfr, ?_, w.broken⟩, fun n h1 h2 => ?_, hs, rfl⟩
  · intro g hg
    rw [List.flatten_append] at hg
    rcases List.mem_append.1 hg with hg | hg
    · exact w.home g hg
    · exact hho g (by simpa using hg)
  · unfold VSt.cur
    dsimp only
    rw [hfr, lookup_lastP, w.lookup, List.flatten_append, List.flatten_singleton]
    have hla : lastD (ls.flatten ++ l) n = (lastD l n).or (lastD ls.flatten n) := by
      refine snoc_ind (p := fun l : List PImg => lastD (ls.flatten ++ l) n = (lastD l n).or (lastD ls.flatten n)) ?_ ?_ l
      · rw [List.append_nil]; simp [lastD]
      · intro l g ih
        rw [← List.append_assoc, lastD_snoc, lastD_snoc]
        split
        · rfl
        · exact ih
    rw [hla]
    cases lastD l n with
    | some x => rfl
    | none =>
      simp only [Option.none_or, Option.getD_none]
      cases lastD ls.flatten n with
      | some x => rfl
      | none =>
        show List.getD _ _ _ = _
        rw [List.getD_eq_getElem?_getD, List.getD_eq_getElem?_getD, show (rgAt (t0 + usedP ls)) = fun k => ((2 + (t0 + usedP ls + k) % 16 : Nat) : Int) from rfl,
          wrD_miss (fun k => 2 + (t0 + usedP ls + k) % 16) n.toNat _ 0 d (fun k _ => by omega)]
theorem lastD_keys (f : Int → Dat) : ∀ (l : List Int) (n : Int), lastD (l.map fun m => (m, f m)) n = if n ∈ l then some (f n) else none := by
  refine fun l n => snoc_ind (p := fun l : List Int => lastD (l.map fun m => (m, f m)) n = if n ∈ l then some (f n) else none) ?_ ?_ l
  · simp [lastD]
  · intro l m ih
    rw [List.map_append, List.map_cons, List.map_nil, lastD_snoc]
    dsimp only
    by_cases h : m = n
    · subst h; simp
    · rw [if_neg h, ih]
      have h' : ¬ n = m := fun e => h e.symm
      simp [h']
theorem lookup_keys (l : List PImg) (n : Int) : (l.lookup n).isSome = true ↔ n ∈ l.map Prod.fst := by
  induction l with
  | nil => simp
  | cons x l ih =>
    obtain ⟨m, b⟩ := x
    rw [List.lookup_cons]
    by_cases h : n = m
    · subst h; simp
    · have : (n == m) = false := by simp [h]
      rw [this]
      simp only [List.map_cons, List.mem_cons]
      rw [ih]
      simp [h]
theorem lastD_sortP (l : List PImg) (n : Int) : lastD (sortP l) n = l.lookup n := by
  unfold sortP
  rw [lastD_keys]
  have hk := lookup_keys l n
  have hm : n ∈ sortI (l.map Prod.fst) ↔ n ∈ l.map Prod.fst := (sortI_perm _).mem_iff
  by_cases h : n ∈ l.map Prod.fst
  · rw [if_pos (hm.2 h)]
    cases hl : l.lookup n with
    | some b => rfl
    | none => rw [hl] at hk; exact absurd (hk.2 h) (by simp)
  · rw [if_neg (fun h' => h (hm.1 h'))]
    cases hl : l.lookup n with
    | none => rfl
    | some b => rw [hl] at hk; exact absurd (hk.1 rfl) h
theorem sortP_mem {l : List PImg} {g : PImg} (h : g ∈ sortP l) : g.1 ∈ l.map Prod.fst ∧ l.lookup g.1 = some g.2 := by
  unfold sortP at h
  obtain ⟨n, hn, rfl⟩ := List.mem_map.1 h
  have hn := (sortI_perm _).mem_iff.1 hn
  refine ⟨hn, ?_⟩
  have hk := (lookup_keys l n).2 hn
  dsimp only
  cases hl : l.lookup n with
  | some b => rfl
  | none => rw [hl] at hk; cases hk
theorem lookup_mem {l : List PImg} {n : Int} {b : Dat} (h : l.lookup n = some b) : (n, b) ∈ l := by
  induction l with
  | nil => simp at h
  | cons x l ih =>
    obtain ⟨m, c⟩ := x
    rw [List.lookup_cons] at h
    by_cases hm : n = m
    · subst hm; simp at h; subst h; simp
    · have : (n == m) = false := by simp [hm]
      rw [this] at h
      exact List.mem_cons_of_mem _ (ih h)
theorem WV.fresh_home (w : WV ep t0 sq v d ls k) : ∀ g ∈ sortP v.fresh, 18 ≤ g.1 ∧ g.1 < 64 ∧ g.2.length = 4096 := by
  intro g hg
  obtain ⟨_, h2⟩ := sortP_mem hg
  rw [w.lookup] at h2
  obtain ⟨x, hx, q1, q2⟩ := lastD_mem _ _ _ h2
  have h3 := home64 w.home x hx
  have h4 := w.lens x hx
  rw [← q1, ← q2]; exact ⟨h3.1, h3.2, h4⟩
theorem WV.sup (w : WV ep t0 sq v d ls k) : v.sup = ⟨64, ep, ((sq + ls.length : Nat) : Int), (((t0 + usedP ls) % 16 : Nat) : Int)⟩ := by
  unfold VSt.sup
  rw [w.e.lay, w.epoch, w.e.next, w.e.t, w.e.u, w.e.s]
  congr 1
  omega
/-- a checkpoint -/
theorem WV.ckpt (w : WV ep t0 sq v d ls k) (hsq : sq + ls.length ≤ 549755813888) :
    ∃ v' d', v.ckpt d = (v', d', 0) ∧ WV ep (t0 + usedP ls) (sq + ls.length) v' d' [] (k + 17) ∧ (∀ n, 18 ≤ n → n < 64 → v'.cur d' n = v.cur d n) ∧ v'.j.synced = v'.j.next - 1 ∧ v'.slot = 1 - v.slot ∧ v'.fresh = [] ∧ d'.writes = [] ∧ d'.safe = d'.now ∧
      d'.now = (wrC (sortP v.fresh) { d with safe := d.now, writes := [] }).now.set v.slot.toNat (supL v.sup) := by
  obtain ⟨j1, a1, w1, s1⟩ := w.e.flush
  have hsl : 0 ≤ v.slot ∧ v.slot ≤ 1 := by rcases w.slot with h | h <;> omega
  have hho := w.fresh_home
  have hep := w.e.epr
  have hpos := w.e.pos
  have hRs : RightS v.sup := by
    rw [w.sup]
    exact ⟨by show (64 : Int) ≤ 64; decide, by show (64 : Int) ≤ 512; decide, by show (1 : Int) ≤ (ep : Int); omega, by show (ep : Int) ≤ 8388608; omega, by show (1 : Int) ≤ ((sq + ls.length : Nat) : Int); omega, by show ((sq + ls.length : Nat) : Int) ≤ 549755813888; omega, by show (0 : Int) ≤ (((t0 + usedP ls) % 16 : Nat) : Int); omega, by show (((t0 + usedP ls) % 16 : Nat) : Int) ≤ 511; omega⟩
  have hok : DoOk ({ d with safe := d.now, writes := [] } : DSt) (sortP v.fresh) := fun g hg => by
    obtain ⟨h1, h2, h3⟩ := hho g hg
    exact ⟨by omega, by rw [w1.len]; exact h2, h3⟩
  obtain ⟨e, b1, b2, b3, b4, b5, b6⟩ := doP_calm w1.calm w1.len hok hRs hsl
  have hwf := doP_wf w1.dwf (sortP v.fresh) v.sup v.slot
  have hfew := doP_few w1.few (sortP v.fresh) v.sup v.slot
  rw [b1] at hwf hfew
  dsimp only at hwf hfew
  have hfl := w.few_fresh
  have hsl2 : (sortP v.fresh).length = v.fresh.length := sortP_length _
  have w2 : WE ep t0 sq j1 e ls (k + 17) := { w1 with calm := b2, dwf := hwf, len := b6, few := hfew.mono (by omega), ring := ?ring }
  case ring =>
    intro o ho
    have hw := w1.ring o ho
    unfold rbP at hw ⊢
    rw [b5, List.getD_eq_getElem?_getD]
    rw [List.getD_eq_getElem?_getD] at hw
    have hq := (wrC_now (sortP v.fresh) ({ d with safe := d.now, writes := [] } : DSt) (fun g hg => (hok g hg).1) (fun g hg => (hok g hg).2.1)).2 (2 + (t0 + o) % 16) (by rw [w1.len]; omega)
    rw [List.getElem?_set_ne (by omega), hq]
    have hno : lastD (sortP v.fresh) ((2 + (t0 + o) % 16 : Nat) : Int) = none := lastD_none fun hm => by
      obtain ⟨g, hg, he⟩ := List.mem_map.1 hm
      have := hho g hg; omega
    rw [hno]; exact hw
  obtain ⟨j2, a2, w3, s3⟩ := w2.release s1
  have hck : v.ckS d = (0, j2, e) := by
    unfold VSt.ckS
    rw [a1]
    dsimp only
    rw [if_neg (by simp), b1]
    dsimp only
    rw [if_neg (by simp), a2]
  have hv : v.ckpt d = ({ v with j := j2, slot := 1 - v.slot, fresh := [] }, e, 0) := by
    unfold VSt.ckpt
    rw [if_neg (by rw [w.broken]; simp), hck]
    dsimp only
    rw [if_neg (by simp)]
  refine ⟨_, e, hv, ⟨w3, w.epoch, by rcases w.slot with h | h <;> simp [h], rfl, by intro g hg; simp at hg, w.broken⟩, fun n h1 h2 => ?_, ?_, rfl, rfl, b3, b4, b5⟩
  · unfold VSt.cur
    show e.now.getD _ _ = _
    rw [b5, List.getD_eq_getElem?_getD, List.getElem?_set_ne (by omega)]
    have hq := (wrC_now (sortP v.fresh) ({ d with safe := d.now, writes := [] } : DSt) (fun g hg => (hok g hg).1) (fun g hg => (hok g hg).2.1)).2 n.toNat (by rw [w1.len]; omega)
    rw [hq, show ((n.toNat : Nat) : Int) = n by omega, lastD_sortP]
    cases v.fresh.lookup n with
    | some b => rfl
    | none => show _ = d.now.getD _ _; rw [List.getD_eq_getElem?_getD]
  · show j2.synced = j2.next - 1
    rw [s3, s1, w3.next, w1.next]; rfl
theorem WV.fits (w : WV ep t0 sq v d ls k) {n : Nat} (h : 1 ≤ n ∧ n + 1 ≤ 16) : v.fits n = true := by
  unfold VSt.fits
  have hb : blocksN (n : Int) = n + 1 := by unfold blocksN; rw [if_neg (by omega)]
  rw [hb, w.e.lay]
  exact decide_eq_true ⟨by omega, by show (n : Int) + 1 ≤ layL ((64 : Nat) : Int); rw [layL_64']; omega⟩
/-- a commit: the group is appended, behind a checkpoint if there is no room -/
theorem WV.commit (w : WV ep t0 sq v d ls k) {l : List PImg} (hho : HomeOk (layOf 64) l) (hR : RightP ep ((sq + ls.length : Nat) : Int) l) (hl : l.length + 1 ≤ 16) :
    ∃ v' d' t1 sq' ls', v.commit d l = (v', d', ((sq + ls.length : Nat) : Int), 0) ∧ WV ep t1 sq' v' d' ls' (k + 33) ∧ sq' + ls'.length = sq + ls.length + 1 ∧ (∀ n, 18 ≤ n → n < 64 → v'.cur d' n = (lastD l n).getD (v.cur d n)) := by
  have hll := hR.2.2.2.2.1
  have hsq : sq + ls.length ≤ 549755813888 := by have := hR.2.2.2.1; omega
  have hb : blocksN (l.length : Int) = l.length + 1 := by unfold blocksN; rw [if_neg (by omega)]
  have hu := w.e.used
  have hc : v.commit d l = if v.j.s - v.j.u - v.j.h < blocksN l.length then (if (v.ckpt d).2.2 ≠ 0 then ((v.ckpt d).1, (v.ckpt d).2.1, 0, (v.ckpt d).2.2) else (v.ckpt d).1.app (v.ckpt d).2.1 l) else v.app d l := by
    unfold VSt.commit
    rw [if_neg (by rw [w.broken]; simp), if_neg (by rw [w.e.lay]; exact fun h => h hho), if_neg (by rw [w.epoch, w.e.next]; exact fun h => h hR), if_neg (by rw [w.fits ⟨hll, hl⟩]; simp)]
  rw [hc, hb, w.e.s, w.e.u, w.e.h]
  by_cases hr : (16 : Int) - ((usedP ls : Nat) : Int) - 0 < (l.length : Int) + 1
  · rw [if_pos hr]
    obtain ⟨v1, d1, a1, w1, c1, _⟩ := w.ckpt hsq
    rw [a1]
    dsimp only
    rw [if_neg (by simp)]
    obtain ⟨v2, a2, w2, c2, _⟩ := w1.app hho (by simpa using hR) (by simp [usedP]; omega)
    refine ⟨v2, _, _, _, _, a2, w2.mono (by omega), by simp, fun n h1 h2 => ?_⟩
    rw [c2 n h1 h2, c1 n h1 h2]
  · rw [if_neg hr]
    obtain ⟨v2, a2, w2, c2, _⟩ := w.app hho hR (by omega)
    exact ⟨v2, _, _, _, _, a2, w2.mono (by omega), by simp; omega, c2⟩
end
end Go.Proofs.YtegdcjnjnoeinaaGreat
namespace Go.Proofs.YtegdcjnjnoeinaaGreat
open Go.RowKit Go.Sl
set_option maxRecDepth 20000

def wL (tail : Nat) : Nat → List Dat → List (Int × Dat)
  | _, [] => []
  | o, b :: bs => (((2 + (tail + o) % 16 : Nat) : Int), b) :: wL tail (o + 1) bs
theorem wL_append (tail : Nat) : ∀ (a b : List Dat) (o : Nat), wL tail o (a ++ b) = wL tail o a ++ wL tail (o + a.length) b
  | [], b, o => by simp [wL]
  | x :: a, b, o => by rw [List.cons_append, wL, wL_append tail a b, wL, List.length_cons, show o + 1 + a.length = o + (a.length + 1) by omega]; rfl
theorem wrD_wL (tail u : Nat) : ∀ (bs : List Dat) (i : Nat) (d : DSt), (wrD (fun k : Nat => ((2 + (tail + u + k) % 16 : Nat) : Int)) bs i d).writes = d.writes ++ wL tail (u + i) bs
  | [], _, _ => by simp [wrD, wL]
  | b :: bs, i, d => by
    rw [wrD, wrD_wL tail u bs (i + 1), wL, show u + (i + 1) = u + i + 1 by omega]
    show (d.writes ++ [_]) ++ _ = _
    rw [List.append_assoc, show tail + u + i = tail + (u + i) by omega]; rfl
theorem WI.wr {ep tail : Nat} {z : Nat → Dat} {j : JSt} {d : DSt} {all : List (List PImg)} (w : WI ep tail z j d all) (hw : d.writes = wL tail 0 (ringB ep 1 all)) {l : List PImg} (hR : RightP ep ((all.length + 1 : Nat) : Int) l) (hf : usedP all + (l.length + 1) ≤ 16) :
    (j.appendB d l false).2.1.writes = wL tail 0 (ringB ep 1 (all ++ [l])) := by
  have hge := usedP_ge all
  have hR' : RightP j.epoch j.next l := by rw [w.epoch, w.next]; exact hR
  have hok := w.wf.ring
  have hokd : Ok 16 tail (usedP all : Nat) 0 := by have := hok; rw [w.s, w.t, w.u, w.h] at this; exact this
  have htl : (tail : Int) < 16 := hokd.2.2.2.1
  have hp : putS j.s j.t j.u j.h ((l.length : Int) + 1) (if false = true then (l.length : Int) + 1 else 0) = ((j.s, (tail : Int), ((usedP all : Nat) : Int) + ((l.length : Int) + 1), 0, 0), ((tail : Int) + (usedP all : Nat)) % 16) := by
    rw [w.s, w.t, w.u, w.h]
    unfold putS
    rw [if_neg (by simp only [Bool.false_eq_true, if_false]; rintro (h | h | h | h | h); exact h hokd; omega; omega; omega; omega), if_neg (by simp only [Bool.false_eq_true, if_false]; omega)]
    simp only [Bool.false_eq_true, if_false, Int.sub_zero]
  have hlen16 : j.s + 2 ≤ d.now.length := by rw [w.s, w.len]; decide
  have hs1 : (l.length : Int) + 1 ≤ j.s := by rw [w.s]; omega
  obtain ⟨j', a, _⟩ := JSt.append_next w.wf (by rw [w.groups]; omega) w.broken hR' hs1 w.calm hlen16 hp
  rw [a]
  have hff : (fun k : Nat => (2 : Int) + (((tail : Int) + (usedP all : Nat)) % 16 + k) % j.s) = fun k : Nat => ((2 + (tail + usedP all + k) % 16 : Nat) : Int) := by
    funext k
    rw [w.s]; omega
  have he1 : j.epoch.toNat = ep := by rw [w.epoch]; rfl
  have he2 : j.next.toNat = 1 + all.length := by rw [w.next]; omega
  show (wrD _ _ 0 d).writes = _
  rw [hff, he1, he2, wrD_wL, hw, ringB_snoc, wL_append, ringB_length, Nat.zero_add, Nat.add_zero]
theorem crash1_get (keep : List Bool) (tn : Int) (sec i n : Nat) (b : Dat) (s : List Dat) (p : Nat) (hn : n < s.length) :
    (n ≠ p → (crash1 keep tn sec i n b s).getD p [] = s.getD p []) ∧ (n = p → (crash1 keep tn sec i n b s).getD p [] = s.getD p [] ∨ (crash1 keep tn sec i n b s).getD p [] = b ∨ (crash1 keep tn sec i n b s).getD p [] = tornP (s.getD p []) b sec) := by
  have h1 : ∀ y : Dat, n ≠ p → (s.set n y).getD p [] = s.getD p [] := fun y h => by
    rw [List.getD_eq_getElem?_getD, List.getD_eq_getElem?_getD, List.getElem?_set_ne h]
  have h2 : ∀ y : Dat, n = p → (s.set n y).getD p [] = y := fun y h => by
    subst h
    rw [List.getD_eq_getElem?_getD, List.getElem?_set_self hn]; rfl
  unfold crash1
  constructor
  · intro h
    split
    · exact h1 _ h
    · split
      · exact h1 _ h
      · rfl
  · intro h
    split
    · right; right; rw [h2 _ h, h]
    · split
      · right; left; exact h2 _ h
      · left; rfl
theorem crash_wL (keep : List Bool) (tn : Int) (sec tail : Nat) : ∀ (bs : List Dat) (u i : Nat) (s : List Dat), s.length = 64 → u + bs.length ≤ 16 → ∀ o, o < 16 →
    (∀ (_ : u ≤ o) (h : o - u < bs.length), (crashK keep tn sec i (wL tail u bs) s).getD (2 + (tail + o) % 16) [] = s.getD (2 + (tail + o) % 16) [] ∨ (crashK keep tn sec i (wL tail u bs) s).getD (2 + (tail + o) % 16) [] = bs[o - u] ∨ (crashK keep tn sec i (wL tail u bs) s).getD (2 + (tail + o) % 16) [] = tornP (s.getD (2 + (tail + o) % 16) []) bs[o - u] sec) ∧
    (¬ (u ≤ o ∧ o - u < bs.length) → (crashK keep tn sec i (wL tail u bs) s).getD (2 + (tail + o) % 16) [] = s.getD (2 + (tail + o) % 16) [])
  | [], u, i, s, _, _, o, _ => ⟨fun _ h => by simp at h, fun _ => rfl⟩
  | b :: bs, u, i, s, hs, hu, o, ho => by
    rw [wL, crashK]
    dsimp only
    rw [Int.toNat_natCast]
    simp only [List.length_cons] at hu
    obtain ⟨g1, g2⟩ := crash1_get keep tn sec i (2 + (tail + u) % 16) b s (2 + (tail + o) % 16) (by omega)
    obtain ⟨r1, r2⟩ := crash_wL keep tn sec tail bs (u + 1) (i + 1) (crash1 keep tn sec i (2 + (tail + u) % 16) b s) (by rw [crash1_length]; exact hs) (by omega) o ho
    by_cases huo : u = o
    · subst huo
      have hr := r2 (by omega)
      rw [hr]
      refine ⟨fun _ h => ?_, fun h => absurd ⟨Nat.le_refl _, by simp⟩ h⟩
      simp only [Nat.sub_self, List.getElem_cons_zero]
      exact g2 rfl
    · have hg := g1 (by omega)
      rw [hg] at r1 r2
      refine ⟨fun h1 h => ?_, fun h => r2 (fun h' => h ⟨by omega, by simp; omega⟩)⟩
      have e : o - u = (o - (u + 1)) + 1 := by omega
      have := r1 (by omega) (by simp only [List.length_cons] at h; omega)
      simp only [e, List.getElem_cons_succ]
      exact this
theorem foreign_not {m b : Dat} (h : Foreign m b) : ¬ Bears m b := fun hb => h 0 (by omega) (hb 0 (by omega))
end Go.Proofs.YtegdcjnjnoeinaaGreat
namespace Go.Proofs.YtegdcjnjnoeinaaGreat
open Go.RowKit Go.Sl
set_option maxRecDepth 20000

/-! ### stamps that are not there -/
theorem stamp_ne2 {e e' s s' : Nat} (he : e ≤ 8388608) (he' : e' ≤ 8388608) (hs : s ≤ 549755813888) (hs' : s' ≤ 549755813888) (h : e ≠ e' ∨ s ≠ s') : stampB e s ≠ stampB e' s' := by
  intro hh
  have := congrArg nb hh
  rw [stamp_num he hs, stamp_num he' hs'] at this
  omega
/-- bytes of an older time: no sector bears a stamp of this epoch from this number on, or of a later epoch -/
def Old (ep sq : Nat) (b : Dat) : Prop := b.length = 4096 ∧ ∀ e s : Nat, (ep < e ∨ (e = ep ∧ sq ≤ s)) → e ≤ 8388608 → s ≤ 549755813888 → Foreign (stampB e s) b
theorem Old.mono {ep sq ep' sq' : Nat} {b : Dat} (h : Old ep sq b) (hle : ep < ep' ∨ (ep = ep' ∧ sq ≤ sq')) : Old ep' sq' b :=
  ⟨h.1, fun e s he h1 h2 => h.2 e s (by omega) h1 h2⟩
theorem old_bears {ep s0 sq : Nat} {b : Dat} (hl : b.length = 4096) (hb : Bears (stampB ep s0) b) (hep : ep ≤ 8388608) (hs0 : s0 ≤ 549755813888) (h : s0 < sq) : Old ep sq b :=
  ⟨hl, fun e s he h1 h2 => bears_foreign hb (stamp_ne2 hep h1 hs0 h2 (by omega))⟩
theorem torn_foreign {m old new : Dat} (h1 : old.length = 4096) (h2 : new.length = 4096) (hf1 : Foreign m old) (hf2 : Foreign m new) (sec : Nat) : Foreign m (tornP old new sec) := by
  have hl : (tornP old new sec).length = 4096 := tornK_length h1 h2 sec 8 (by omega)
  have hat := tornK_at h1 h2 sec 8 (by omega)
  intro k hk he
  by_cases hb : sec / 2 ^ k % 2 = 1
  · refine hf2 k hk ?_
    rw [← he]
    refine extN 8 (by rw [List.length_take, List.length_drop]; omega) (by rw [List.length_take, List.length_drop]; omega) fun i hi => ?_
    rw [List.getElem?_take, if_pos hi, List.getElem?_drop, List.getElem?_take, if_pos hi, List.getElem?_drop, tornP, hat _ (by omega), if_pos ⟨by omega, by rw [show (k * 512 + i) / 512 = k by omega]; exact hb⟩]
  · refine hf1 k hk ?_
    rw [← he]
    refine extN 8 (by rw [List.length_take, List.length_drop]; omega) (by rw [List.length_take, List.length_drop]; omega) fun i hi => ?_
    rw [List.getElem?_take, if_pos hi, List.getElem?_drop, List.getElem?_take, if_pos hi, List.getElem?_drop, tornP, hat _ (by omega), if_neg (by rw [show (k * 512 + i) / 512 = k by omega]; exact fun h => hb h.2)]
theorem old_torn {ep sq : Nat} {old new : Dat} (h1 : Old ep sq old) (h2 : Old ep sq new) (sec : Nat) : Old ep sq (tornP old new sec) :=
  ⟨tornK_length h1.1 h2.1 sec 8 (by omega), fun e s he g1 g2 => torn_foreign h1.1 h2.1 (h1.2 e s he g1 g2) (h2.2 e s he g1 g2) sec⟩
/-! ### a crash, block by block -/
/-! ### scanning -/
/-- as 'scan_kept', of stamps from this number on alone -/
theorem scan_kept2 {rb : Nat → Dat} {ep : Nat} : ∀ (l : List (List PImg)) (f at_ sq room : Nat), (∀ (i : Nat) (h : i < l.length), RightP ep ((sq + i : Nat) : Int) l[i]) → usedP l ≤ room → sq + l.length ≤ 549755813889 →
    (∀ (k : Nat) (h : k < (ringB ep sq l).length) (s : Nat), sq ≤ s → s ≤ 549755813888 → Bears (stampB ep s) (rb (at_ + k)) → rb (at_ + k) = (ringB ep sq l)[k]) →
    (∀ k s, usedP l ≤ k → k < room → sq ≤ s → s ≤ 549755813888 → ¬ Bears (stampB ep s) (rb (at_ + k))) →
    ∃ n, n ≤ l.length ∧ scanK rb ep f at_ sq room = gsP ep sq (l.take n)
  | [], f, at_, sq, room, _, _, hsq, _, h2 => by
    refine ⟨0, by simp, ?_⟩
    rw [scan_stop]; · rfl
    intro e s l hg h'
    have hr := (grpP_room hg).1
    obtain ⟨l', hd, _, _⟩ := grpP_hd hg
    have hb := (hdP_some hd).2.2.2.2.2.2
    have hR := (hdP_some hd).2.2.2.1
    have hs : (s : Int) = sq := h'.2
    have he : (e : Int) = ep := h'.1
    obtain rfl : e = ep := by omega
    have h549 := hR.2.2.2.1
    exact h2 0 s (by simp [usedP]) (by omega) (by omega) (by omega) (by rw [Nat.add_zero]; exact hb)
  | g :: l, 0, at_, sq, room, _, _, _, _, _ => ⟨0, by simp, rfl⟩
  | g :: l, f + 1, at_, sq, room, hR, hu, hsq, h1, h2 => by
    have e : usedP (g :: l) = g.length + 1 + usedP l := by simp [usedP]
    have hpl := putP_length ep sq g
    have hrl := ringB_length ep l (sq + 1)
    have hRl : ringB ep sq (g :: l) = putP ep sq g ++ ringB ep (sq + 1) l := rfl
    have hlen : (ringB ep sq (g :: l)).length = usedP (g :: l) := ringB_length ep (g :: l) sq
    have h0 : RightP ep ((sq : Nat) : Int) g := by have := hR 0 (by simp); rw [Nat.add_zero] at this; exact this
    have h549 : sq ≤ 549755813888 := by have := h0.2.2.2.1; omega
    have hat : ∀ (k : Nat) (hk : k < (putP ep sq g).length), Bears (stampB ep sq) (rb (at_ + k)) → rb (at_ + k) = (putP ep sq g)[k] := by
      intro k hk hb
      have := h1 k (by rw [hlen]; omega) sq (Nat.le_refl _) h549 hb
      rw [this]
      simp only [hRl]
      rw [List.getElem_append_left hk]
    rw [scanK]
    cases hg : grpP rb at_ room with
    | none => exact ⟨0, by simp, rfl⟩
    | some p =>
      obtain ⟨e2, s2, l2⟩ := p
      dsimp only
      by_cases hc : (e2 : Int) = ep ∧ (s2 : Int) = sq
      · rw [if_pos hc]
        obtain ⟨he, hs⟩ := hc
        obtain rfl : e2 = ep := by omega
        obtain rfl : s2 = sq := by omega
        obtain ⟨l', hd, hll, hroom⟩ := grpP_hd hg
        have hb0 := (hdP_some hd).2.2.2.2.2.2
        have hr0 := hat 0 (by omega) (by rw [Nat.add_zero]; exact hb0)
        rw [Nat.add_zero] at hr0
        have hr0' : rb at_ = hblk e2 s2 g := by rw [hr0]; rfl
        have hd' := hd
        rw [hr0', hdP_put h0, Option.some.injEq] at hd'
        have hl'g : l'.length = g.length := by
          have := congrArg (fun x => x.2.2.length) hd'
          simpa using this.symm
        rw [grpP_get hd (by omega)] at hg
        have hbs : ∀ i, i < l'.length → Bears (stampB e2 s2) (rb (at_ + (i + 1))) := by
          rw [List.range_succ_eq_map, List.map_cons, Nat.add_zero] at hg
          by_cases hrest : ((List.map Nat.succ (List.range l'.length)).map fun i => rb (at_ + i)).length = l'.length ∧ RestOk e2 s2 ((List.map Nat.succ (List.range l'.length)).map fun i => rb (at_ + i))
          · intro i hi
            exact (hrest.2 (rb (at_ + (i + 1))) (by
              rw [List.map_map]
              exact List.mem_map.2 ⟨i, List.mem_range.2 hi, rfl⟩)).2
          · rw [getP_bad hd hrest] at hg
            cases hg
        have hall : ((List.range (l'.length + 1)).map fun i => rb (at_ + i)) = putP e2 s2 g := by
          refine getElem_eq_of (by simp [hpl, hl'g]) fun i i1 i2 => ?_
          simp only [List.getElem_map, List.getElem_range]
          rw [List.length_map, List.length_range] at i1
          cases i with
          | zero => exact hr0
          | succ i => exact hat (i + 1) i2 (hbs i (by omega))
        rw [hall, getP_put h0, Option.some.injEq] at hg
        have hl2 : g = l2 := by
          have := congrArg (fun x => x.2.2) hg
          exact this
        subst hl2
        obtain ⟨n, hn, hrec⟩ := scan_kept2 l f (at_ + (g.length + 1)) (s2 + 1) (room - (g.length + 1)) (fun i hi => by
            have := hR (i + 1) (by simpa using hi)
            rw [show s2 + (i + 1) = s2 + 1 + i by omega] at this
            simpa using this) (by omega) (by simp at hsq; omega) (fun k hk s hs0 hs hb => by
            rw [show at_ + (g.length + 1) + k = at_ + (g.length + 1 + k) by omega] at hb ⊢
            have := h1 (g.length + 1 + k) (by rw [hlen, e]; omega) s (by omega) hs hb
            rw [this]
            simp only [hRl]
            rw [List.getElem_append_right (by omega)]
            congr 1
            omega) (fun k s hk1 hk2 hs0 hs hb => by
            rw [show at_ + (g.length + 1) + k = at_ + (g.length + 1 + k) by omega] at hb
            exact h2 (g.length + 1 + k) s (by omega) (by omega) (by omega) hs hb)
        refine ⟨n + 1, by simp; omega, ?_⟩
        rw [show ((s2 : Nat) : Int) + 1 = ((s2 + 1 : Nat) : Int) by omega, hrec]
        rfl
      · rw [if_neg hc]
        exact ⟨0, by simp, rfl⟩
/-- the groups up to a place are whole, what lies behind is kept or not: a beginning is told, those at least -/
theorem scan_from {rb : Nat → Dat} {ep t0 sq m : Nat} {ls : List (List PImg)} (hm : m ≤ ls.length) (hR : ∀ (i : Nat) (h : i < ls.length), RightP ep ((sq + i : Nat) : Int) ls[i]) (hu : usedP ls ≤ 16) (hsq : sq + ls.length ≤ 549755813889)
    (hw : ∀ (o : Nat) (h : o < (ringB ep sq ls).length), o < usedP (ls.take m) → rb (t0 + o) = (ringB ep sq ls)[o])
    (hk : ∀ (o : Nat) (h : o < (ringB ep sq ls).length), usedP (ls.take m) ≤ o → ∀ s, sq + m ≤ s → s ≤ 549755813888 → Bears (stampB ep s) (rb (t0 + o)) → rb (t0 + o) = (ringB ep sq ls)[o])
    (hf : ∀ o, usedP ls ≤ o → o < 16 → ∀ s, sq + m ≤ s → s ≤ 549755813888 → ¬ Bears (stampB ep s) (rb (t0 + o))) :
    ∃ n, m ≤ n ∧ n ≤ ls.length ∧ scanK rb ep 17 t0 sq 16 = gsP ep sq (ls.take n) := by
  have hge := usedP_ge ls
  have hsp := usedP_split ls m
  have hrl := ringB_length ep ls sq
  have htl : (ls.take m).length = m := by rw [List.length_take]; omega
  have hrt := ringB_length ep (ls.take m) sq
  have happ : ∀ (a b : List (List PImg)) (q : Nat), ringB ep q (a ++ b) = ringB ep q a ++ ringB ep (q + a.length) b := by
    intro a
    induction a with
    | nil => intro b q; simp [ringB]
    | cons x a ih => intro b q; rw [List.cons_append, ringB, ih, ringB, List.append_assoc, List.length_cons, show q + 1 + a.length = q + (a.length + 1) by omega]
  have hrsp : ringB ep sq ls = ringB ep sq (ls.take m) ++ ringB ep (sq + m) (ls.drop m) := by
    conv => lhs; rw [← List.take_append_drop m ls]
    rw [happ, htl]
  have hp := scan_prefix rb ep (ls.take m) 17 t0 sq 16 (fun i hi => by rw [List.getElem_take]; exact hR i (by rw [List.length_take] at hi; omega)) (by omega) (by omega) (fun k hk' => by
    have h2 : k < (ringB ep sq ls).length := by omega
    rw [hw k h2 (by omega)]
    simp only [hrsp]
    rw [List.getElem_append_left hk'])
  rw [htl] at hp
  obtain ⟨n, hn, hs⟩ := scan_kept2 (rb := rb) (ls.drop m) (17 - m) (t0 + usedP (ls.take m)) (sq + m) (16 - usedP (ls.take m)) (fun i hi => by
      rw [List.getElem_drop]
      have := hR (m + i) (by rw [List.length_drop] at hi; omega)
      rwa [show sq + (m + i) = sq + m + i by omega] at this) (by omega) (by rw [List.length_drop]; omega) (fun k hk' s hs0 hs hb => by
      have hkl := ringB_length ep (ls.drop m) (sq + m)
      rw [show t0 + usedP (ls.take m) + k = t0 + (usedP (ls.take m) + k) by omega] at hb ⊢
      rw [hk (usedP (ls.take m) + k) (by omega) (by omega) s hs0 hs hb]
      simp only [hrsp]
      rw [List.getElem_append_right (by omega)]
      congr 1; omega) (fun k s hk1 hk2 hs0 hs hb => by
      rw [show t0 + usedP (ls.take m) + k = t0 + (usedP (ls.take m) + k) by omega] at hb
      exact hf (usedP (ls.take m) + k) (by omega) (by omega) s hs0 hs hb)
  rw [List.length_drop] at hn
  refine ⟨m + n, by omega, by omega, ?_⟩
  rw [hp, hs]
  have hg : ∀ (a b : List (List PImg)) (q : Nat), gsP ep q (a ++ b) = gsP ep q a ++ gsP ep (q + a.length) b := by
    intro a
    induction a with
    | nil => intro b q; simp [gsP]
    | cons x a ih => intro b q; rw [List.cons_append, gsP, ih, gsP, List.cons_append, List.length_cons, show q + 1 + a.length = q + (a.length + 1) by omega]
  have ht : ls.take (m + n) = ls.take m ++ (ls.drop m).take n := by rw [List.take_add]
  rw [ht, hg, htl]
end Go.Proofs.YtegdcjnjnoeinaaGreat
namespace Go.Proofs.YtegdcjnjnoeinaaGreat
open Go.RowKit Go.Sl
set_option maxRecDepth 20000

/-- noughts, or a superblock -/
def SupForm (b : Dat) : Prop := b = noughts ∨ ∃ s, RightS s ∧ b = supL s
theorem SupForm.len {b : Dat} (h : SupForm b) : b.length = 4096 := by
  rcases h with rfl | ⟨s, _, rfl⟩
  · exact noughts_length
  · exact supL_length _
theorem SupForm.rest {b : Dat} (h : SupForm b) {j : Nat} (h1 : 512 ≤ j) (h2 : j < 4096) : b[j]? = some 0 := by
  rcases h with rfl | ⟨s, _, rfl⟩
  · exact noughts_get h2
  · exact supL_rest _ (by omega) h2
/-- the superblock that counts, beside another one -/
def Older (a b : Sup) : Prop := a = b ∨ a.epoch < b.epoch ∨ (a.epoch = b.epoch ∧ a.seq < b.seq)
/-- the one at place sl counts -/
structure SupAt (B : List Dat) (sl : Nat) (s : Sup) : Prop where
  at' : sl = 0 ∨ sl = 1
  right : RightS s
  cur : B.getD sl [] = supL s
  other : B.getD (1 - sl) [] = noughts ∨ ∃ s', RightS s' ∧ B.getD (1 - sl) [] = supL s' ∧ Older s' s
/-- it is chosen (or its like at the other place) -/
theorem SupAt.choose {B : List Dat} {sl : Nat} {s : Sup} (h : SupAt B sl s) : ∃ sl' : Nat, SupAt B sl' s ∧ chooseP (getS (B.getD 0 [])) (getS (B.getD 1 [])) = (s, (sl' : Int), true) := by
  have hcur : getS (B.getD sl []) = some s := by rw [h.cur]; exact get_supL h.right
  rcases h.other with ho | ⟨s', hr, ho, hold⟩
  · have hoth : getS (B.getD (1 - sl) []) = none := by rw [ho]; exact get_zeros
    refine ⟨sl, h, ?_⟩
    rcases h.at' with e | e
    · subst e
      rw [hcur, show (1 : Nat) = 1 - 0 from rfl, hoth]; rfl
    · subst e
      rw [hcur, show B.getD 0 [] = B.getD (1 - 1) [] from rfl, hoth]; rfl
  · have hoth : getS (B.getD (1 - sl) []) = some s' := by rw [ho]; exact get_supL hr
    rcases h.at' with e | e
    · subst e
      refine ⟨0, h, ?_⟩
      rw [hcur, show B.getD 1 [] = B.getD (1 - 0) [] from rfl, hoth]
      unfold chooseP
      dsimp only
      rw [if_pos (by rcases hold with e | e | e; exact .inr (by rw [e]; exact ⟨rfl, Int.le_refl _⟩); exact .inl e; exact .inr ⟨e.1, by omega⟩)]
      rfl
    · subst e
      rw [hcur, show B.getD 0 [] = B.getD (1 - 1) [] from rfl, hoth]
      unfold chooseP
      dsimp only
      by_cases hc : s.epoch < s'.epoch ∨ (s.epoch = s'.epoch ∧ s.seq ≤ s'.seq)
      · have e : s' = s := by
          rcases hold with e | e | e
          · exact e
          · omega
          · omega
        rw [if_pos hc, e]
        refine ⟨0, ⟨.inl rfl, h.right, by rw [show B.getD 0 [] = B.getD (1 - 1) [] from rfl, ho, e], .inr ⟨s, h.right, h.cur, .inl rfl⟩⟩, rfl⟩
      · rw [if_neg hc]
        exact ⟨1, h, rfl⟩
/-- a disk's blocks that can be mounted: the superblock, the groups that are told, what is shown -/
structure RBx (B : List Dat) (ep t0 sq : Nat) (ls : List (List PImg)) (vw : Int → Dat) : Prop where
  len : B.length = 64
  all : ∀ b ∈ B, b.length = 4096
  sup : ∃ sl, SupAt B sl ⟨64, ep, sq, t0⟩
  t : t0 < 16
  scan : scanK (fun i => B.getD (2 + i % 16) []) ep 17 t0 sq 16 = gsP ep sq ls
  right : ∀ (i : Nat) (h : i < ls.length), RightP ep ((sq + i : Nat) : Int) ls[i]
  used : usedP ls ≤ 16
  home : HomeOk (layOf 64) ls.flatten
  old : ∀ o, o < 16 → Old (ep + 1) 0 (B.getD (2 + o) [])
  view : ∀ n : Int, 18 ≤ n → n < 64 → vw n = (lastD ls.flatten n).getD (B.getD n.toNat [])
end Go.Proofs.YtegdcjnjnoeinaaGreat
namespace Go.Proofs.YtegdcjnjnoeinaaGreat
open Go.RowKit Go.Sl
set_option maxRecDepth 20000

section
variable {ep t0 sq : Nat} {ls : List (List PImg)} {vw : Int → Dat}
theorem RBx.lens {B : List Dat} (h : RBx B ep t0 sq ls vw) : ∀ g ∈ ls.flatten, 18 ≤ g.1 ∧ g.1 < 64 ∧ g.2.length = 4096 := by
  intro g hg
  obtain ⟨l, hl, hgl⟩ := List.mem_flatten.1 hg
  obtain ⟨i, hi⟩ := List.mem_iff_getElem?.1 hl
  have hlt := (List.getElem?_eq_some_iff.1 hi).1
  have hr := h.right i hlt
  have e : ls[i] = l := by rw [List.getElem?_eq_getElem hlt] at hi; exact Option.some.inj hi
  rw [e] at hr
  have h3 := home64 h.home g hg
  exact ⟨h3.1, h3.2, (hr.2.2.2.2.2.2.1 g hgl).2.2⟩
end
end Go.Proofs.YtegdcjnjnoeinaaGreat
namespace Go.Proofs.YtegdcjnjnoeinaaGreat
open Go.RowKit Go.Sl
set_option maxRecDepth 20000

def wrB (l : List PImg) (B : List Dat) : List Dat := l.foldl (fun B g => B.set g.1.toNat g.2) B
/-- what lies on the disk while images are done -/
inductive DoSt (B : List Dat) (l : List PImg) (slot : Nat) (s : Sup) : List Dat → List (Int × Dat) → Prop
  | one (k : Nat) : DoSt B l slot s B (l.take k)
  | two : DoSt B l slot s (wrB l B) []
  | sup : DoSt B l slot s (wrB l B) [((slot : Int), supL s)]
  | done : DoSt B l slot s ((wrB l B).set slot (supL s)) []
/-! ### a crash -/
section
variable {B C : List Dat} {ep t0 sq : Nat} {ls : List (List PImg)} {vw : Int → Dat}
end
end Go.Proofs.YtegdcjnjnoeinaaGreat
namespace Go.Proofs.YtegdcjnjnoeinaaGreat
open Go.RowKit Go.Sl
set_option maxRecDepth 20000

theorem ringB_bears2 {ep : Nat} : ∀ (l : List (List PImg)) (sq : Nat), (∀ (i : Nat) (h : i < l.length), RightP ep ((sq + i : Nat) : Int) l[i]) → ∀ b ∈ ringB ep sq l, b.length = 4096 ∧ ∃ s', s' < sq + l.length ∧ s' ≤ 549755813888 ∧ Bears (stampB ep s') b
  | [], _, _, b, hb => by simp [ringB] at hb
  | g :: l, sq, hR, b, hb => by
    rw [ringB] at hb
    have h0 : RightP ep ((sq : Nat) : Int) g := by have := hR 0 (by simp); rw [Nat.add_zero] at this; exact this
    rcases List.mem_append.1 hb with hb | hb
    · have hl := h0.lens
      have h32 := h0.2.2.2.2.2.1
      have hsq : (sq : Int) ≤ 549755813888 := h0.2.2.2.1
      rw [putP_eq] at hb
      rcases List.mem_cons.1 hb with rfl | hb
      · exact ⟨hblk_length h32 hl, sq, by simp, by omega, hblk_bears h32 hl⟩
      · obtain ⟨x, hx, rfl⟩ := List.mem_map.1 hb
        have hx4 := hl x hx
        exact ⟨by rw [markK_length (stampB_length _ _) 8 (by omega) (by omega)]; exact hx4, sq, by simp, by omega, mark_bears (stampB_length _ _) hx4⟩
    · obtain ⟨h1, s', h2, h3, h4⟩ := ringB_bears2 l (sq + 1) (fun i hi => by
        have := hR (i + 1) (by simpa using hi)
        rw [show sq + (i + 1) = sq + 1 + i by omega] at this
        simpa using this) b hb
      exact ⟨h1, s', by simp; omega, h3, h4⟩
theorem crash_out (keep : List Bool) (tn : Int) (sec tail p : Nat) (hp : p < 2 ∨ 18 ≤ p) : ∀ (bs : List Dat) (u i : Nat) (s : List Dat), s.length = 64 → (crashK keep tn sec i (wL tail u bs) s).getD p [] = s.getD p []
  | [], _, _, _, _ => rfl
  | b :: bs, u, i, s, hs => by
    rw [wL, crashK]
    dsimp only
    rw [Int.toNat_natCast, crash_out keep tn sec tail p hp bs (u + 1) (i + 1) _ (by rw [crash1_length]; exact hs)]
    exact (crash1_get keep tn sec i (2 + (tail + u) % 16) b s p (by omega)).1 (by omega)
theorem wL_mem (tail : Nat) : ∀ (bs : List Dat) (u : Nat) (w : Int × Dat), w ∈ wL tail u bs → (2 ≤ w.1 ∧ w.1 < 18) ∧ w.2 ∈ bs
  | [], _, _, h => by simp [wL] at h
  | b :: bs, u, w, h => by
    rw [wL] at h
    rcases List.mem_cons.1 h with rfl | h
    · refine ⟨by dsimp only; omega, by simp⟩
    · obtain ⟨h1, h2⟩ := wL_mem tail bs (u + 1) w h
      exact ⟨h1, by simp [h2]⟩
/-- what lies safe on a disk, and what is pending: groups, of which the first m are safe -/
structure KC (ep t0 sq : Nat) (safe : List Dat) (writes : List (Int × Dat)) (ls : List (List PImg)) (m : Nat) : Prop where
  len : safe.length = 64
  all : ∀ b ∈ safe, b.length = 4096
  sup : ∃ sl, SupAt safe sl ⟨64, ep, sq, ((t0 % 16 : Nat) : Int)⟩
  le : m ≤ ls.length
  wr : ∃ c, writes = wL t0 (usedP (ls.take m)) ((ringB ep (sq + m) (ls.drop m)).take c)
  used : usedP ls ≤ 16
  right : ∀ (i : Nat) (h : i < ls.length), RightP ep ((sq + i : Nat) : Int) ls[i]
  home : HomeOk (layOf 64) ls.flatten
  ring : ∀ (o : Nat) (h : o < (ringB ep sq ls).length), o < usedP (ls.take m) → safe.getD (2 + (t0 + o) % 16) [] = (ringB ep sq ls)[o]
  rest : ∀ o, usedP (ls.take m) ≤ o → o < 16 → Old ep (sq + m) (safe.getD (2 + (t0 + o) % 16) [])
theorem ringB_app (ep : Nat) : ∀ (a b : List (List PImg)) (q : Nat), ringB ep q (a ++ b) = ringB ep q a ++ ringB ep (q + a.length) b
  | [], b, q => by simp [ringB]
  | x :: a, b, q => by rw [List.cons_append, ringB, ringB_app ep a, ringB, List.append_assoc, List.length_cons, show q + 1 + a.length = q + (a.length + 1) by omega]
section
variable {ep t0 sq m : Nat} {safe : List Dat} {writes : List (Int × Dat)} {ls : List (List PImg)}
theorem right_bounds {l : List PImg} (h : RightP ep ((sq : Nat) : Int) l) : ep ≤ 8388608 ∧ sq ≤ 549755813888 := by
  have h1 := h.2.1
  have h2 := h.2.2.2.1
  omega
theorem bears_old1 {s : Nat} {b : Dat} (hl : b.length = 4096) (hb : Bears (stampB ep s) b) (hep : ep ≤ 8388608) (hs : s ≤ 549755813888) : Old (ep + 1) 0 b :=
  ⟨hl, fun e s' he h1 h2 => bears_foreign hb (stamp_ne2 hep h1 hs h2 (by omega))⟩
theorem KC.crash (h : KC ep t0 sq safe writes ls m) (hep : ep ≤ 8388608) (hsq : sq + ls.length ≤ 549755813889) (keep : List Bool) (tn : Int) (sec : Nat) :
    ∃ n, m ≤ n ∧ n ≤ ls.length ∧ RBx (crashK keep tn sec 0 writes safe) ep (t0 % 16) sq (ls.take n) (fun x => (lastD (ls.take n).flatten x).getD (safe.getD x.toNat [])) := by
  obtain ⟨c, hc⟩ := h.wr
  have hlen := h.len
  have hm := h.le
  have hu := h.used
  have hsp := usedP_split ls m
  have hrl := ringB_length ep ls sq
  have hrd := ringB_length ep (ls.drop m) (sq + m)
  have hrt := ringB_length ep (ls.take m) sq
  have htl : (ls.take m).length = m := by rw [List.length_take]; omega
  have hrsp : ringB ep sq ls = ringB ep sq (ls.take m) ++ ringB ep (sq + m) (ls.drop m) := by
    conv => lhs; rw [← List.take_append_drop m ls]
    rw [ringB_app, htl]
  obtain ⟨R, hRd⟩ : ∃ R, R = (ringB ep (sq + m) (ls.drop m)).take c := ⟨_, rfl⟩
  obtain ⟨u, hud⟩ : ∃ u, u = usedP (ls.take m) := ⟨_, rfl⟩
  have hRl : R.length ≤ usedP (ls.drop m) := by rw [hRd, List.length_take]; omega
  have hRg : ∀ (k : Nat) (h1 : k < R.length) (h2 : u + k < (ringB ep sq ls).length), R[k] = (ringB ep sq ls)[u + k] := by
    intro k h1 h2
    have e1 : (ringB ep sq ls)[u + k]? = R[k]? := by
      rw [hrsp, List.getElem?_append_right (by omega), hRd, List.getElem?_take, if_pos (by rw [hRd, List.length_take] at h1; omega)]
      congr 1; omega
    rw [List.getElem?_eq_getElem h2, List.getElem?_eq_getElem h1] at e1
    exact (Option.some.inj e1).symm
  rw [← hud, ← hRd] at hc
  have hcl := crash_wL keep tn sec t0 R u 0 safe hlen (by omega)
  have hrest := h.rest
  rw [← hud] at hrest
  have hring := h.ring
  rw [← hud] at hring
  have hrb2 := fun (o : Nat) (ho : o < (ringB ep sq ls).length) => ringB_bears2 ls sq h.right _ (List.getElem_mem ho)
  obtain ⟨C, hC⟩ : ∃ C, C = crashK keep tn sec 0 writes safe := ⟨_, rfl⟩
  have hCe : C = crashK keep tn sec 0 (wL t0 u R) safe := by rw [hC, hc]
  rw [← hCe] at hcl
  have hout := fun p hp => crash_out keep tn sec t0 p hp R u 0 safe hlen
  rw [← hCe] at hout
  have hold0 : ∀ o, o < 16 → Old (ep + 1) 0 (safe.getD (2 + (t0 + o) % 16) []) := by
    intro o ho
    by_cases hou : o < u
    · have h2 : o < (ringB ep sq ls).length := by omega
      rw [hring o h2 hou]
      obtain ⟨q1, s', _, q3, q4⟩ := hrb2 o h2
      exact bears_old1 q1 q4 hep q3
    · exact (hrest o (by omega) ho).mono (by omega)
  rw [← hC]
  obtain ⟨n, n1, n2, hs⟩ := scan_from (rb := fun i => C.getD (2 + i % 16) []) (ep := ep) (t0 := t0 % 16) (sq := sq) (m := m) (ls := ls) hm h.right hu hsq
    (fun o ho hlt => by
      rw [show (t0 % 16 + o) % 16 = (t0 + o) % 16 by omega, (hcl o (by omega)).2 (by omega), hring o ho (by omega)])
    (fun o ho hge s hs1 hs2 hb => by
      rw [show (t0 % 16 + o) % 16 = (t0 + o) % 16 by omega] at hb ⊢
      have ho2 := hrest o (by omega) (by omega)
      have hfo := ho2.2 ep s (by omega) hep hs2
      by_cases hin : o - u < R.length
      · have hget := hRg (o - u) hin (by omega)
        have hnl : R[o - u].length = 4096 := by rw [hget]; exact (hrb2 _ _).1
        have e : (ringB ep sq ls)[o] = R[o - u] := by rw [hget]; congr 1; omega
        rw [e]
        rcases (hcl o (by omega)).1 (by omega) hin with g | g | g
        · rw [g] at hb; exact absurd hb (foreign_not hfo)
        · exact g
        · rw [g] at hb ⊢
          exact torn_bears ho2.1 hnl (stampB_length _ _) hfo hb
      · rw [(hcl o (by omega)).2 (by omega)] at hb
        exact absurd hb (foreign_not hfo))
    (fun o ho1 ho2 s hs1 hs2 hb => by
      rw [show (t0 % 16 + o) % 16 = (t0 + o) % 16 by omega, (hcl o (by omega)).2 (by omega)] at hb
      exact foreign_not ((hrest o (by omega) (by omega)).2 ep s (by omega) hep hs2) hb)
  have hsn := usedP_split ls n
  have hCl : C.length = 64 := by rw [hC, crashK_length]; exact hlen
  refine ⟨n, n1, n2, hCl, ?_, ?_, by omega, hs, fun i hi => ?_, by omega, fun g hg => ?_, fun o ho => ?_, fun x h1 h2 => ?_⟩
  · rw [hCe]
    refine crashK_mem _ _ _ (fun w hw => ?_) h.all
    obtain ⟨q1, q2⟩ := wL_mem t0 R u w hw
    refine ⟨by omega, ?_⟩
    obtain ⟨k, hk⟩ := List.mem_iff_getElem?.1 q2
    have hk1 := (List.getElem?_eq_some_iff.1 hk).1
    rw [List.getElem?_eq_getElem hk1] at hk
    rw [← Option.some.inj hk, hRg k hk1 (by omega)]
    exact (hrb2 _ _).1
  · obtain ⟨sl, hs0⟩ := h.sup
    have hsl := hs0.at'
    refine ⟨sl, hsl, hs0.right, ?_, ?_⟩
    · rw [hout sl (by omega)]; exact hs0.cur
    · rw [hout (1 - sl) (by omega)]; exact hs0.other
  · rw [List.getElem_take]; exact h.right i (by rw [List.length_take] at hi; omega)
  · refine h.home g ?_
    obtain ⟨l, hl, hgl⟩ := List.mem_flatten.1 hg
    exact List.mem_flatten.2 ⟨l, List.mem_of_mem_take hl, hgl⟩
  · -- the ring
    obtain ⟨o', ho', he⟩ : ∃ o', o' < 16 ∧ (t0 + o') % 16 = o := ⟨(o + 16 - t0 % 16) % 16, by omega, by omega⟩
    have h0 := hold0 o' ho'
    rw [← he]
    by_cases hin : u ≤ o' ∧ o' - u < R.length
    · have hget := hRg (o' - u) hin.2 (by omega)
      have hnew : Old (ep + 1) 0 R[o' - u] := by
        rw [hget]
        obtain ⟨q1, s', _, q3, q4⟩ := hrb2 (u + (o' - u)) (by omega)
        exact bears_old1 q1 q4 hep q3
      rcases (hcl o' ho').1 hin.1 hin.2 with g | g | g
      · rw [g]; exact h0
      · rw [g]; exact hnew
      · rw [g]; exact old_torn h0 hnew sec
    · rw [(hcl o' ho').2 hin]; exact h0
  · show _ = Option.getD _ (C.getD x.toNat [])
    rw [hout x.toNat (by omega)]
end
end Go.Proofs.YtegdcjnjnoeinaaGreat
namespace Go.Proofs.YtegdcjnjnoeinaaGreat
open Go.RowKit Go.Sl
set_option maxRecDepth 20000

structure KV (ep t0 sq : Nat) (v : VSt) (d : DSt) (ls : List (List PImg)) (m k : Nat) : Prop where
  w : WV ep t0 sq v d ls k
  sup : SupAt d.safe (1 - v.slot.toNat) ⟨64, ep, sq, ((t0 % 16 : Nat) : Int)⟩
  le : m ≤ ls.length
  wr : d.writes = wL t0 (usedP (ls.take m)) (ringB ep (sq + m) (ls.drop m))
  ring : ∀ (o : Nat) (h : o < (ringB ep sq ls).length), o < usedP (ls.take m) → d.safe.getD (2 + (t0 + o) % 16) [] = (ringB ep sq ls)[o]
  rest : ∀ o, usedP (ls.take m) ≤ o → o < 16 → Old ep (sq + m) (d.safe.getD (2 + (t0 + o) % 16) [])
  nowrest : ∀ o, usedP ls ≤ o → o < 16 → d.now.getD (2 + (t0 + o) % 16) [] = d.safe.getD (2 + (t0 + o) % 16) []
  same : ∀ p, p < 64 → (p < 2 ∨ 18 ≤ p) → d.now.getD p [] = d.safe.getD p []
  sy : v.j.synced = ((sq + m : Nat) : Int) - 1
section
variable {ep t0 sq m k : Nat} {v : VSt} {d : DSt} {ls : List (List PImg)}
theorem KV.mono {n : Nat} (w : KV ep t0 sq v d ls m k) (h : k ≤ n) : KV ep t0 sq v d ls m n := { w with w := w.w.mono h }
theorem KV.safe_len (w : KV ep t0 sq v d ls m k) : d.safe.length = 64 := by rw [w.w.e.dwf.len, w.w.e.len]
theorem KV.kc (w : KV ep t0 sq v d ls m k) : KC ep t0 sq d.safe d.writes ls m :=
  ⟨w.safe_len, w.w.e.dwf.safe, ⟨_, w.sup⟩, w.le, ⟨(ringB ep (sq + m) (ls.drop m)).length, by rw [w.wr, List.take_length]⟩, w.w.e.used, w.w.e.right, w.w.home, w.ring, w.rest⟩
theorem SupAt.same {B C : List Dat} {sl : Nat} {s : Sup} (h : SupAt B sl s) (h0 : C.getD 0 [] = B.getD 0 []) (h1 : C.getD 1 [] = B.getD 1 []) : SupAt C sl s := by
  have e : ∀ p, p = 0 ∨ p = 1 → C.getD p [] = B.getD p [] := by rintro p (rfl | rfl) <;> assumption
  have hsl := h.at'
  refine ⟨hsl, h.right, by rw [e sl hsl]; exact h.cur, ?_⟩
  rw [e (1 - sl) (by omega)]
  exact h.other
theorem getD_eq' {a b : List Dat} {p : Nat} (h : a[p]? = b[p]?) : a.getD p [] = b.getD p [] := by
  rw [List.getD_eq_getElem?_getD, List.getD_eq_getElem?_getD, h]
theorem KV.app (w : KV ep t0 sq v d ls m k) {l : List PImg} (hho : HomeOk (layOf 64) l) (hR : RightP ep ((sq + ls.length : Nat) : Int) l) (hroom : usedP ls + (l.length + 1) ≤ 16) :
    ∃ v' d', v.app d l = (v', d', ((sq + ls.length : Nat) : Int), 0) ∧ KV ep t0 sq v' d' (ls ++ [l]) m (k + 16) ∧ (∀ n, 18 ≤ n → n < 64 → v'.cur d' n = (lastD l n).getD (v.cur d n)) := by
  obtain ⟨v', a, w', hcur, hsy, hsl⟩ := w.w.app hho hR hroom
  have hle := w.le
  have hge := usedP_ge ls
  have hsp := usedP_split ls m
  have hrd := ringB_length ep (ls.drop m) (sq + m)
  have hpl := putP_length ep (sq + ls.length) l
  obtain ⟨r1, r2⟩ := wrD_rest (rgAt (t0 + usedP ls)) (putP ep (sq + ls.length) l) 0 d
  have hwr := wrD_wL t0 (usedP ls) (putP ep (sq + ls.length) l) 0 d
  have hmiss := fun p hp => wrD_miss (fun k => 2 + (t0 + usedP ls + k) % 16) p (putP ep (sq + ls.length) l) 0 d hp
  have hfe : rgAt (t0 + usedP ls) = fun k => ((2 + (t0 + usedP ls + k) % 16 : Nat) : Int) := rfl
  rw [← hfe] at hwr hmiss
  obtain ⟨d', hd'⟩ : ∃ d', d' = wrD (rgAt (t0 + usedP ls)) (putP ep (sq + ls.length) l) 0 d := ⟨_, rfl⟩
  rw [← hd'] at a w' hcur r1 r2 hwr hmiss
  have htk : (ls ++ [l]).take m = ls.take m := by rw [List.take_append_of_le_length hle]
  have hdr : (ls ++ [l]).drop m = ls.drop m ++ [l] := by rw [List.drop_append_of_le_length hle]
  have hrdl : (ls.drop m).length = ls.length - m := List.length_drop
  refine ⟨v', d', a, ⟨w', by rw [hsl, r1]; exact w.sup, by simp; omega, ?_, ?_, ?_, ?_, ?_, by rw [hsy, w.sy]⟩, hcur⟩
  · rw [hwr, w.wr, htk, hdr, ringB_snoc, wL_append, hrd, ← hsp, hrdl, Nat.add_zero, show sq + m + (ls.length - m) = sq + ls.length by omega]
  · intro o ho hlt
    rw [htk] at hlt
    have hrl := ringB_length ep ls sq
    have hlt2 : o < (ringB ep sq ls).length := by omega
    rw [r1, w.ring o hlt2 hlt]
    have e0 : (ringB ep sq (ls ++ [l]))[o]? = (ringB ep sq ls)[o]? := by rw [ringB_snoc, List.getElem?_append_left hlt2]
    rw [List.getElem?_eq_getElem ho, List.getElem?_eq_getElem hlt2] at e0
    exact (Option.some.inj e0).symm
  · intro o h1 h2
    rw [htk] at h1
    rw [r1]; exact w.rest o h1 h2
  · intro o h1 h2
    rw [usedP_snoc] at h1
    rw [r1, ← w.nowrest o (by omega) h2]
    exact getD_eq' (hmiss _ (fun k hk => by omega))
  · intro p h1 h2
    rw [r1, ← w.same p h1 h2]
    exact getD_eq' (hmiss _ (fun k hk => by omega))
theorem KV.ckpt (w : KV ep t0 sq v d ls m k) (hsq : sq + ls.length ≤ 549755813888) :
    ∃ v' d', v.ckpt d = (v', d', 0) ∧ KV ep (t0 + usedP ls) (sq + ls.length) v' d' [] 0 (k + 17) ∧ (∀ n, 18 ≤ n → n < 64 → v'.cur d' n = v.cur d n) := by
  obtain ⟨v', d', a, w', hcur, hsy, hsl, hfr, hw, hsn, hnow⟩ := w.w.ckpt hsq
  have hho := w.w.fresh_home
  have hlen := w.w.e.len
  have hslot := w.w.slot
  have hle := w.le
  have hu := w.w.e.used
  have hrl := ringB_length ep ls sq
  have hq := fun (n : Nat) (hn : n < 64) => (wrC_now (sortP v.fresh) ({ d with safe := d.now, writes := [] } : DSt) (fun g hg => by have := hho g hg; omega) (fun g hg => by have := hho g hg; show _ < (d.now.length : Int); omega)).2 n (by show n < d.now.length; omega)
  have hln := (wrC_now (sortP v.fresh) ({ d with safe := d.now, writes := [] } : DSt) (fun g hg => by have := hho g hg; omega) (fun g hg => by have := hho g hg; show _ < (d.now.length : Int); omega)).1
  have hlow : ∀ p, p < 18 → p ≠ v.slot.toNat → d'.now.getD p [] = d.now.getD p [] := by
    intro p hp hne
    refine getD_eq' ?_
    rw [hnow, List.getElem?_set_ne (fun e => hne e.symm), hq p (by omega)]
    have hno : lastD (sortP v.fresh) (p : Int) = none := lastD_none fun hm => by
      obtain ⟨g, hg, he⟩ := List.mem_map.1 hm
      have := hho g hg; omega
    rw [hno]
  have hsup := w.sup
  have hbear : ∀ (o : Nat) (ho : o < (ringB ep sq ls).length), Old ep (sq + ls.length) (ringB ep sq ls)[o] := by
    intro o ho
    obtain ⟨q1, s', q2, q3, q4⟩ := ringB_bears2 ls sq w.w.e.right _ (List.getElem_mem ho)
    exact old_bears q1 q4 w.w.e.epr.2 q3 q2
  have hold : ∀ o, o < 16 → Old ep (sq + ls.length) (d.now.getD (2 + (t0 + o) % 16) []) := by
    intro o ho
    by_cases hou : o < usedP ls
    · have := w.w.e.ring o (by omega)
      unfold rbP at this
      rw [this]
      exact hbear o (by omega)
    · rw [w.nowrest o (by omega) ho]
      exact (w.rest o (by have := usedP_split ls m; omega) ho).mono (by omega)
  have hep := w.w.e.epr
  have hpos := w.w.e.pos
  have hRs : RightS ⟨64, (ep : Int), ((sq + ls.length : Nat) : Int), (((t0 + usedP ls) % 16 : Nat) : Int)⟩ :=
    ⟨by show (64 : Int) ≤ 64; decide, by show (64 : Int) ≤ 512; decide, by show (1 : Int) ≤ (ep : Int); omega, by show (ep : Int) ≤ 8388608; omega, by show (1 : Int) ≤ ((sq + ls.length : Nat) : Int); omega, by show ((sq + ls.length : Nat) : Int) ≤ 549755813888; omega, by show (0 : Int) ≤ (((t0 + usedP ls) % 16 : Nat) : Int); omega, by show (((t0 + usedP ls) % 16 : Nat) : Int) ≤ 511; omega⟩
  have hs0 : v.slot.toNat = 0 ∨ v.slot.toNat = 1 := by rcases hslot with h | h <;> simp [h]
  have hs1 : 1 - v'.slot.toNat = v.slot.toNat := by rw [hsl]; rcases hslot with h | h <;> simp [h]
  refine ⟨v', d', a, ⟨w', ?_, Nat.le_refl _, ?_, ?_, ?_, fun _ _ _ => by rw [hsn], fun _ _ _ => by rw [hsn], ?_⟩, hcur⟩
  · rw [hs1, hsn]
    refine ⟨hs0, hRs, ?_, .inr ⟨⟨64, ep, sq, ((t0 % 16 : Nat) : Int)⟩, hsup.right, ?_, ?_⟩⟩
    · rw [hnow, w.w.sup, List.getD_eq_getElem?_getD, List.getElem?_set_self (by rw [hln]; show _ < d.now.length; omega)]; rfl
    · rw [hlow _ (by omega) (by omega), w.same _ (by omega) (by omega)]
      exact hsup.cur
    · by_cases h0 : ls = []
      · left; subst h0; simp [usedP]
      · right; right
        have : 0 < ls.length := List.length_pos_iff.2 h0
        exact ⟨rfl, by show (sq : Int) < ((sq + ls.length : Nat) : Int); omega⟩
  · rw [hw]; rfl
  · intro o ho _; simp [ringB] at ho
  · intro o _ h2
    rw [hsn]
    obtain ⟨o', ho', he⟩ : ∃ o', o' < 16 ∧ (t0 + o') % 16 = (t0 + usedP ls + o) % 16 := ⟨(usedP ls + o) % 16, by omega, by omega⟩
    rw [hlow _ (by omega) (by omega), ← he]
    exact hold o' ho'
  · rw [hsy, w'.e.next]; rfl
/-- a commit, calm -/
theorem KV.commit (w : KV ep t0 sq v d ls m k) {l : List PImg} (hho : HomeOk (layOf 64) l) (hR : RightP ep ((sq + ls.length : Nat) : Int) l) (hl : l.length + 1 ≤ 16) :
    ∃ v' d' t1 sq' ls' m', v.commit d l = (v', d', ((sq + ls.length : Nat) : Int), 0) ∧ KV ep t1 sq' v' d' ls' m' (k + 33) ∧ sq' + ls'.length = sq + ls.length + 1 ∧ (∀ n, 18 ≤ n → n < 64 → v'.cur d' n = (lastD l n).getD (v.cur d n)) := by
  have hll := hR.2.2.2.2.1
  have hsq : sq + ls.length ≤ 549755813888 := by have := hR.2.2.2.1; omega
  have hb : blocksN (l.length : Int) = l.length + 1 := by unfold blocksN; rw [if_neg (by omega)]
  have hu := w.w.e.used
  have hc : v.commit d l = if v.j.s - v.j.u - v.j.h < blocksN l.length then (if (v.ckpt d).2.2 ≠ 0 then ((v.ckpt d).1, (v.ckpt d).2.1, 0, (v.ckpt d).2.2) else (v.ckpt d).1.app (v.ckpt d).2.1 l) else v.app d l := by
    unfold VSt.commit
    rw [if_neg (by rw [w.w.broken]; simp), if_neg (by rw [w.w.e.lay]; exact fun h => h hho), if_neg (by rw [w.w.epoch, w.w.e.next]; exact fun h => h hR), if_neg (by rw [w.w.fits ⟨hll, hl⟩]; simp)]
  rw [hc, hb, w.w.e.s, w.w.e.u, w.w.e.h]
  by_cases hr : (16 : Int) - ((usedP ls : Nat) : Int) - 0 < (l.length : Int) + 1
  · rw [if_pos hr]
    obtain ⟨v1, d1, a1, w1, c1⟩ := w.ckpt hsq
    rw [a1]
    dsimp only
    rw [if_neg (by simp)]
    obtain ⟨v2, d2, a2, w2, c2⟩ := w1.app hho (by simpa using hR) (by simp [usedP]; omega)
    refine ⟨v2, d2, _, _, _, _, a2, w2.mono (by omega), by simp, fun n h1 h2 => ?_⟩
    rw [c2 n h1 h2, c1 n h1 h2]
  · rw [if_neg hr]
    obtain ⟨v2, d2, a2, w2, c2⟩ := w.app hho hR (by omega)
    exact ⟨v2, d2, _, _, _, _, a2, w2.mono (by omega), by simp; omega, c2⟩
end
end Go.Proofs.YtegdcjnjnoeinaaGreat
namespace Go.Proofs.YtegdcjnjnoeinaaGreat
open Go.RowKit Go.Sl
set_option maxRecDepth 20000

section
variable {ep t0 sq m k : Nat} {v : VSt} {d : DSt} {ls : List (List PImg)} {vw : Int → Dat}
theorem KV.view (w : KV ep t0 sq v d ls m k) {n : Int} (h1 : 18 ≤ n) (h2 : n < 64) : v.cur d n = (lastD ls.flatten n).getD (d.safe.getD n.toNat []) := by
  unfold VSt.cur
  rw [w.w.lookup]
  cases lastD ls.flatten n with
  | some x => rfl
  | none => exact w.same n.toNat (by omega) (by omega)
theorem KV.crash (w : KV ep t0 sq v d ls m k) (keep : List Bool) (tn : Int) (sec : Nat) :
    ∃ n, m ≤ n ∧ n ≤ ls.length ∧ RBx (d.crash keep tn sec).now ep (t0 % 16) sq (ls.take n) (fun x => (lastD (ls.take n).flatten x).getD (d.safe.getD x.toNat [])) := by
  refine w.kc.crash w.w.e.epr.2 ?_ keep tn sec
  by_cases h0 : ls = []
  · subst h0
    have h := w.sup.right.2.2.2.2.2.1
    have h : (sq : Int) ≤ 549755813888 := h
    simp; omega
  · have hl : 0 < ls.length := List.length_pos_iff.2 h0
    have := (right_bounds (w.w.e.right (ls.length - 1) (by omega))).2
    omega
end
end Go.Proofs.YtegdcjnjnoeinaaGreat
namespace Go.Proofs.YtegdcjnjnoeinaaGreat
open Go.RowKit Go.Sl
set_option maxRecDepth 20000

end Go.Proofs.YtegdcjnjnoeinaaGreat
namespace Go.Proofs.YtegdcjnjnoeinaaGreat
open Go.RowKit Go.Sl
set_option maxRecDepth 20000

theorem DSt.Few.crash {d : DSt} {k : Nat} (h : d.Few k) (keep : List Bool) (tn : Int) (sec : Nat) : (d.crash keep tn sec).Few k := ⟨by show ([] : List (Int × Dat)).length ≤ k; simp, h.2.1, h.2.2⟩
end Go.Proofs.YtegdcjnjnoeinaaGreat
namespace Go.Proofs.YtegdcjnjnoeinaaGreat
open Go.RowKit Go.Sl
set_option maxRecDepth 20000

def repB (seed : Int) (i : Nat) : Dat := (List.replicate i (madeL seed 4096)).flatten
theorem repB_succ (seed : Int) (i : Nat) : repB seed (i + 1) = repB seed i ++ madeL seed 4096 := by
  unfold repB
  rw [List.replicate_succ', List.flatten_append]; simp
theorem fmtS_few {m q : Nat} {s : Sup} {d : DSt} (h : d.Few q) : (fmtS m s d).1.Few (q + m + 1) := by
  have h1 := blankP_few m 1 d q h
  have h2 := h1.flush
  have h3 := h2.write (0 : Int) (supL s)
  unfold fmtS
  split
  · exact h1.mono (by omega)
  split
  · exact h2.mono (by omega)
  split
  · exact h3
  · exact h3.flush
theorem formatP_few {d : DSt} (h : d.Few 0) (hl : 60 ≤ d.now.length ∧ d.now.length ≤ 140) : (formatP d).1.Few 200 := by
  unfold formatP
  split
  · exact h.mono (by omega)
  · rename_i h64
    refine (fmtS_few h).mono ?_
    have hlr := layL_range (n := (d.now.length : Int)) (by omega)
    have : (layOf d.now.length).d = 3 + layL d.now.length + (d.now.length : Int) / 16 := rfl
    omega
theorem mountP_few2 {d : DSt} {k : Nat} (h : d.Few k) (hl : d.now.length ≤ 512) : (mountP d).1.Few (k + 66) := by
  unfold mountP
  split
  · exact h.mono (by omega)
  split
  · exact h.mono (by omega)
  rename_i h64 _
  have h16 : ∀ s, (homeP (allG (scanL d s))).length ≤ 64 := by
    intro s
    have h1 := homeP_len (allG (scanL d s))
    have h2 := allG_sum (scanL d s)
    have h3 := (scan_bound (rb := rbP d 2 (layL (d.now.length : Int)).toNat) (ep := s.epoch) ((layL (d.now.length : Int)).toNat + 1) s.tail.toNat s.seq (layL (d.now.length : Int)).toNat).2
    have hlr := layL_range (n := (d.now.length : Int)) (by omega)
    unfold scanL at h1 h2 ⊢
    omega
  have h16 := h16 (foundP d).1
  unfold mountL
  split
  · exact h.mono (by omega)
  split
  · exact (doP_few h _ _ _).mono (by omega)
  · exact (doP_few h _ _ _).mono (by omega)
theorem fmtS_len (m : Nat) (s : Sup) (d : DSt) : (fmtS m s d).1.now.length = d.now.length := by
  have h1 : ∀ (m k : Nat) (d : DSt), (blankP m k d).1.now.length = d.now.length := by
    intro m
    induction m with
    | zero => intro k d; rfl
    | succ m ih =>
      intro k d
      rw [blankP]
      split
      · exact DSt.write_len ..
      · rw [ih]; exact DSt.write_len ..
  unfold fmtS
  split
  · exact h1 ..
  split
  · rw [DSt.flush_len]; exact h1 ..
  split
  · rw [DSt.write_len, DSt.flush_len]; exact h1 ..
  · rw [DSt.flush_len, DSt.write_len, DSt.flush_len]; exact h1 ..
theorem formatP_len (d : DSt) : (formatP d).1.now.length = d.now.length := by
  unfold formatP
  split
  · rfl
  · exact fmtS_len ..
theorem RDk.cellsW {I : Imm} {v : Value} {d : DSt} (h : RDk I v d) : ∃ (s w : Hd), v = rV s w d.count d.down (gv d.arm) (gv d.fault) ∧ w.len = d.writes.length := by
  obtain ⟨s, w, bS, gs, rfl, h1, h2, h3, h4, h5, h6⟩ := h.ex
  refine ⟨s, w, rfl, ?_⟩
  rw [h5, ← h6, List.length_map]
set_option maxHeartbeats 8000000 in
theorem volumeFormats_walk {I : Imm} (n : Int) (hn : In64 n) (seed : Int) (_hs : In64 seed) (arm : Int) (harm : In64 arm) (aK : Option Addr) (nK capK : Nat) (keep : List Bool) (hK : Rds I aK nK (bools keep)) (tn : Int) (_htn : In64 tn) (sec : Nat) (hsec : sec < 256) :
    Tri Tryz.prog 9 #[.int .i64 n, .int .i64 seed, .int .i64 arm, .slice aK nK capK, .int .i64 tn, .int .u8 sec] I [] fun v _ _ => v = .bool true := by
  refine Tri.of (args := [.int .i64 n, .int .i64 seed, .int .i64 arm, .slice aK nK capK, .int .i64 tn, .int .u8 sec]) tabOk Tryz.func9 rfl (by kernel_rfl) (by kernel_rfl) ?_
  have hp1 := pickS_range (n := n) (m := 81) (by decide)
  have hp2 := pickS_range (n := arm) (m := 90) (by decide)
  refine Tri.free (low_Pick n 81 I hn (by unfold In64; omega)) ?_
  rintro v _ _ hJ ⟨rfl, rfl⟩
  refine ToD.to (60 + pickS n 81) (by show IntKind.i64.wrap (60 + pickS n 81) = _; exact wrap_i64 (by omega) (by omega)) ?_
  obtain ⟨b, hb⟩ : ∃ b : Nat, 60 + pickS n 81 = b := ⟨(60 + pickS n 81).toNat, by omega⟩
  rw [hb]
  refine CodeF.loopD [0, 1, 2, 3, 4, 5, 13, 14] (fun vs J' S' => ∃ (i : Nat) (a : Option Addr) (cap : Nat) (ch : List Blk), i ≤ b ∧ OwnB ch a (i * 4096) cap (repB seed i) ∧ I = J' ∧
      vs = [.int .i64 b, .int .i64 seed, .int .i64 arm, .slice aK nK capK, .int .i64 tn, .int .u8 sec, .slice a (i * 4096 : Nat) cap, .int .i64 i] ∧ S' = [ch])
    (fun vs _ _ => match vs with | [_, _, _, _, _, _, _, .int _ i] => ((b : Int) - i).toNat | _ => 0) ?_ ?_
  · exact ⟨[[]], Drop.flat rfl, 0, none, 0, [], by omega, by rw [Nat.zero_mul]; exact OwnC.nil _ _, rfl, by rw [Nat.zero_mul]; rfl, rfl⟩
  rintro vs gE J S' hJ ⟨i, a, cap, ch, hi, hO, rfl, rfl, rfl⟩
  refine CmpD.split (fun (c1 : (i : Int) < b) => ?_) (fun (c1 : ¬ (i : Int) < b) => ?_)
  · refine Tri.frameX (made_own seed 4096 (by omega) I) [] rfl rfl ?_
    rintro v _ A' hJ1 ⟨bM, chM, rfl, hM, rfl, rfl⟩
    refine appendD tabOk rfl rfl rfl rfl rfl rfl rfl 0 rfl hO (SrcOk.slice (n := 4096) (news := bts (madeL seed 4096)) tabOk rfl (hM.slC1 1 rfl) (bts_plain _)) rfl (by show (i * 4096 + 4096) * 1 ≤ _; omega) (by omega) ?_
    intro a2 cap2 ch2 hO2
    refine ToD.i64 (by omega) (by omega) ?_
    refine ⟨_, Drop.pick [0] _ rfl, ⟨i + 1, a2, cap2, ch2, by omega, ?_, rfl, ?_, rfl⟩, ?_⟩
    · rw [show (i + 1) * 4096 = i * 4096 + 4096 by omega, repB_succ]
      show OwnC ch2 1 a2 (i * 4096 + 4096) cap2 (bts (repB seed i ++ madeL seed 4096))
      rw [bts_append]; exact hO2
    · rw [show (i + 1) * 4096 = i * 4096 + 4096 by omega]; rfl
    · show ((b : Int) - ((i : Int) + 1)).toNat < ((b : Int) - (i : Int)).toNat; omega
  obtain rfl : i = b := by omega
  obtain ⟨l, hl⟩ : ∃ l, l = repB seed i := ⟨_, rfl⟩
  rw [← hl] at hO
  have hcap := hO.le
  refine Tri.fix 0 (ch := ch) rfl fun I2 hI2 hm => ?_
  have hRd := Rds.of_own hO hm
  refine Tri.frameX (dk_Load I2 a i cap l (by omega) hRd) [] rfl rfl ?_
  rintro r J2 A' hJ2 ⟨bD, chD, rfl, hD, rfl⟩
  skip
  refine Tri.free (r4_Load (I := J2) a i cap l (by omega) (hRd.mono hJ2) hcap) ?_
  rintro r J3 _ hJ3 ⟨v', rfl, hR⟩
  have hD := hD.mono hJ3
  have hK3 := hK.mono (Imm.le_trans hI2 (Imm.le_trans hJ2 hJ3))
  have hd0 : (DSt.of (blocksOf l i)).Few 0 := DSt.of_few _
  have hlen : (DSt.of (blocksOf l i)).now.length = i := blocksOf_length l i
  generalize DSt.of (blocksOf l i) = d0 at *
  obtain ⟨⟨sa, sl, sc⟩, ⟨wa, wl, wc⟩, rfl, hsl⟩ := hR.cells
  conv => whnf
  intro b17
  repeat (first | refine StoreD.st 2 rfl rfl rfl ?_)
  refine Tri.free (low_Pick arm 90 J3 harm (by unfold In64; omega)) ?_
  rintro v _ _ hJ4 ⟨rfl, rfl⟩
  repeat (first | refine CmpD.yes rfl ?_)
  have har : d0.armed (pickS arm 90) = ({ d0 with arm := ⟨true, pickS arm 90⟩ }, 0) := by unfold DSt.armed; rw [if_neg (by omega)]
  refine Tri.frame1 1 rfl (dk_Arm hD (pickS arm 90) (by unfold In64; omega)) ?_
  have hArm := fun (J : Imm) (hJ : J3.le J) => r4_Armed (hR.mono hJ) (pickS arm 90) (by unfold In64; omega)
  simp only [har] at hArm ⊢
  have hd1 : ({ d0 with arm := ⟨true, pickS arm 90⟩ } : DSt).Few 0 := hd0
  have hlen1 : ({ d0 with arm := ⟨true, pickS arm 90⟩ } : DSt).now.length = i := hlen
  generalize ({ d0 with arm := ⟨true, pickS arm 90⟩ } : DSt) = d1 at *
  rintro r J4 A' hJ4 ⟨rfl, chD4, hD4, rfl⟩
  refine ⟨_, rfl, ?_⟩
  repeat (first | refine LoadD.own 2 rfl _ rfl rfl ?_ | refine CmpD.yes rfl ?_)
  refine Tri.free (hArm J4 hJ4) ?_
  rintro r J5 _ hJ5 ⟨v', rfl, hR5⟩
  obtain ⟨⟨sa5, sl5, sc5⟩, ⟨wa5, wl5, wc5⟩, rfl, _⟩ := hR5.cells
  clear hArm hR hD
  repeat (first | refine StoreD.st 2 rfl rfl rfl ?_)
  refine Tri.frame1 1 rfl (vk_Format (hD4.mono hJ5) (hd1.mono (by omega))) ?_
  have hFm := fun (J : Imm) (hJ : J5.le J) => r11_Format (hR5.mono hJ) (hd1.mono (by omega))
  have hfF := formatP_few hd1 (by omega)
  have hlF := formatP_len d1
  generalize formatP d1 = fp at *
  obtain ⟨d2, e2⟩ := fp
  dsimp only at hFm hfF hlF ⊢
  rintro r J6 A' hJ6 ⟨rfl, chD6, hD6, rfl⟩
  refine ⟨_, rfl, ?_⟩
  repeat (first | refine LoadD.own 2 rfl _ rfl rfl ?_)
  refine Tri.free (hFm J6 hJ6) ?_
  rintro r J7 _ hJ7 ⟨v', rfl, hR7⟩
  obtain ⟨⟨sa7, sl7, sc7⟩, ⟨wa7, wl7, wc7⟩, rfl, hwl7⟩ := hR7.cellsW
  dsimp only at hwl7
  subst hwl7
  clear hFm hR5 hD4
  have hD7 := hD6.mono hJ7
  repeat (first | refine StoreD.st 2 rfl rfl rfl ?_)
  refine CodeF.sched [[], [], [0, 1], [0, 1, 2], [0, 1, 2, 3], [0, 1, 2, 3, 4], [0, 1, 2, 3, 4, 5], [0, 1, 2, 3], [0, 1, 2, 3, 7], [0, 1, 2, 3, 7, 8], [0, 1, 2, 3, 4, 5, 6, 7, 8, 9], [0, 1, 2, 3, 4, 5, 6, 7, 8, 9, 10], [0, 1, 2, 3, 4, 5, 6, 7, 8, 9, 10, 11], [0, 1, 2, 3, 4, 5, 6, 7, 8, 9, 10, 11, 12], [0, 1, 2, 3, 4, 5, 6, 7, 8, 9, 10, 11, 12], [0, 1, 2, 3, 4, 5, 6, 7, 8, 9, 10, 11, 12], [0, 1, 2, 3, 4, 5, 6, 7, 8, 9, 10, 11, 12], [0, 1, 2, 3, 4, 5, 6, 7, 8, 9, 10, 11, 12, 13, 14, 15, 16], [0, 1, 2, 3, 4, 5, 6, 7, 8, 9, 10, 11, 12, 13, 14, 15, 16, 17], [0, 1, 2, 3, 4, 5, 6, 7, 8, 9, 10, 11, 12, 13, 14, 15, 16, 17, 18]] [0, 1, 2, 3, 4, 7, 8, 9, 5, 6, 10, 11, 12, 13, 14, 15, 16, 17, 18, 19] (by kernel_rfl) ?_
  repeat (first | refine LoadP.at 2 rfl _ rfl rfl ?_ | refine CmpD.yes rfl ?_)
  refine Tri.frame (dk_Pending hD7 (hfF.mono (by omega))) [1] rfl rfl ?_
  rintro r _ A' hJ8 ⟨aP, capP, chP, rfl, hP, rfl, rfl⟩
  refine ⟨by simp, ?_⟩
  repeat (first | refine CmpD.yes rfl ?_ | refine Chk.mk ⟨rfl, trivial⟩ ?_)
  refine Tri.frame1 1 rfl (dk_Crash hD7 (hfF.mono (by omega)) aK nK capK keep (hK3.mono (Imm.le_trans hJ4 (Imm.le_trans hJ5 (Imm.le_trans hJ6 hJ7)))) tn sec hsec) ?_
  rintro r J8 A' hJ8 ⟨rfl, chD8, hD8, rfl⟩
  refine ⟨_, rfl, ?_⟩
  repeat (first | refine LoadD.own 2 rfl _ rfl rfl ?_ | refine CmpD.yes rfl ?_)
  refine Tri.free (r4_Crash (hR7.mono hJ8) (hfF.mono (by omega)) aK nK capK keep (hK3.mono (Imm.le_trans hJ4 (Imm.le_trans hJ5 (Imm.le_trans hJ6 (Imm.le_trans hJ7 hJ8))))) tn sec hsec) ?_
  rintro r J9 _ hJ9 hR9
  have hfC := hfF.crash keep tn sec
  have hlC : (d2.crash keep tn sec).now.length = i := by
    show (crashK keep tn sec 0 d2.writes d2.safe).length = i
    rw [crashK_length]
    have := hR7.wf.len
    omega
  generalize d2.crash keep tn sec = d3 at *
  obtain ⟨⟨sa9, sl9, sc9⟩, ⟨wa9, wl9, wc9⟩, rfl, _⟩ := hR9.cells
  have hD9 := hD8.mono hJ9
  clear hR7 hD7 hD6 hD8
  repeat (first | refine StoreD.st 2 rfl rfl rfl ?_)
  refine CodeF.sched [[], [0], [], [0, 1, 2], [0, 1, 2, 3], [0, 1, 2, 3, 4]] [0, 2, 1, 3, 4, 5] (by kernel_rfl) ?_
  repeat (first | refine LoadP.at 2 rfl _ rfl rfl ?_)
  refine Tri.frame (dk_Image hD9) [1] rfl rfl ?_
  rintro r _ A' hJ10 ⟨a1, c1', ch1, rfl, hO1, rfl, rfl⟩
  refine ⟨by simp, ?_⟩
  repeat (first | refine Chk.mk ⟨rfl, trivial⟩ ?_)
  refine Tri.frameX (r4_Image hR9 (hfC.mono (by omega))) [] rfl rfl ?_
  rintro r _ A' hJ11 ⟨a2, c2, ch2, rfl, hO2, rfl, rfl⟩
  skip
  refine Tri.mono (same_bytes (hO1.slC1 4 rfl) (hO2.slC1 5 rfl)) ?_
  rintro r _ _ hJ12 ⟨rfl, rfl, rfl⟩
  rw [decide_eq_true rfl]
  skip
  clear hO1 hO2 hK hK3 hRd hm
  have hM1 := vk_Mount hD9 (hfC.mono (by omega))
  have hfM := mountP_few2 hfC (by omega)
  refine Tri.frame hM1 [1] rfl rfl ?_
  rintro r J13 A' hJ13 ⟨chD5, hD5, hcase⟩
  have hRm := r11_Mount (hR9.mono hJ13) (hfC.mono (by omega))
  generalize mountP d3 = M at *
  obtain ⟨d6, e6, v6⟩ := M
  dsimp only at hRm hfM hD5 hcase
  rcases hcase with ⟨he, rfl, rfl, rfl⟩ | ⟨rfl, v, bV, chV, rfl, rfl, hV, rfl⟩
  · refine ⟨by simp, ?_⟩
    repeat (first | refine LoadD.own 2 rfl _ rfl rfl ?_)
    refine Tri.free hRm ?_
    rintro r J14 _ hJ14 ⟨⟨sa6, sl6, sc6⟩, ⟨wa6, wl6, wc6⟩, hR6, (⟨_, rfl⟩ | ⟨h0, _⟩)⟩
    rotate_left
    · exact absurd h0 he
    conv => whnf
    intro b19
    repeat (first | refine StoreD.st 6 rfl rfl rfl ?_)
    refine CodeF.sched [[], [], [0, 1], [0, 1, 2], [0, 1, 2, 3], [0, 1, 2, 3, 4], [0, 1, 2, 3], [0, 1, 2, 3, 6], [0, 1, 2, 3, 6, 7], [0, 1, 2, 3, 4, 5, 6, 7, 8], [0, 1, 2, 3, 4, 5, 6, 7, 8, 9], [0, 1, 2, 3, 4, 5, 6, 7, 8, 9, 10], [0, 1, 2, 3, 4, 5, 6, 7, 8, 9, 10, 11], [0, 1, 2, 3, 4, 5, 6, 7, 8, 9, 10, 11, 12], [0, 1, 2, 3, 4, 5, 6, 7, 8, 9, 10, 11, 12, 13], [0, 1, 2, 3, 4, 5, 6, 7, 8, 9, 10, 11, 12, 13, 14]] [0, 1, 2, 3, 4, 6, 7, 8, 5, 9, 10, 11, 12, 13, 14, 15] (by kernel_rfl) ?_
    repeat (first | refine LoadP.at 6 rfl _ rfl rfl ?_ | refine CmpD.yes rfl ?_)
    refine Tri.frame (dk_Image (hD5.mono hJ14)) [1] rfl rfl ?_
    rintro r _ A' hJ15 ⟨a3, c3, ch3, rfl, hO3, rfl, rfl⟩
    refine ⟨by simp, ?_⟩
    repeat (first | refine Chk.mk ⟨rfl, trivial⟩ ?_)
    refine Tri.frameX (r4_Image hR6 (hfM.mono (by omega))) [] rfl rfl ?_
    rintro r _ A' hJ16 ⟨a4, c4, ch4, rfl, hO4, rfl, rfl⟩
    skip
    refine Tri.mono (same_bytes (hO3.slC1 7 rfl) (hO4.slC1 8 rfl)) ?_
    rintro r _ _ hJ17 ⟨rfl, rfl, rfl⟩
    rw [decide_eq_true rfl]
    skip
    refine Tri.mono (awake11 J14 _) ?_
    rintro r J18 S18 hJ18 rfl
    exact Done.mk rfl
  · refine ⟨by simp, ?_⟩
    repeat (first | refine LoadD.own 2 rfl _ rfl rfl ?_)
    refine Tri.free hRm ?_
    rintro r J14 _ hJ14 ⟨⟨sa6, sl6, sc6⟩, ⟨wa6, wl6, wc6⟩, hR6, (⟨h0, _⟩ | ⟨_, v', hv', rfl⟩)⟩
    · exact absurd rfl h0
    cases hv'
    conv => whnf
    intro b19
    repeat (first | refine StoreD.st 7 rfl rfl rfl ?_)
    refine CodeF.sched [[], [], [0, 1], [0, 1, 2], [0, 1, 2, 3], [0, 1, 2, 3, 4], [0, 1, 2, 3], [0, 1, 2, 3, 6], [0, 1, 2, 3, 6, 7], [0, 1, 2, 3, 4, 5, 6, 7, 8], [0, 1, 2, 3, 4, 5, 6, 7, 8, 9], [0, 1, 2, 3, 4, 5, 6, 7, 8, 9, 10], [0, 1, 2, 3, 4, 5, 6, 7, 8, 9, 10, 11], [0, 1, 2, 3, 4, 5, 6, 7, 8, 9, 10, 11, 12], [0, 1, 2, 3, 4, 5, 6, 7, 8, 9, 10, 11, 12, 13], [0, 1, 2, 3, 4, 5, 6, 7, 8, 9, 10, 11, 12, 13, 14]] [0, 1, 2, 3, 4, 6, 7, 8, 5, 9, 10, 11, 12, 13, 14, 15] (by kernel_rfl) ?_
    repeat (first | refine LoadP.at 7 rfl _ rfl rfl ?_ | refine CmpD.yes rfl ?_)
    refine Tri.frame (dk_Image (hD5.mono hJ14)) [1] rfl rfl ?_
    rintro r _ A' hJ15 ⟨a3, c3, ch3, rfl, hO3, rfl, rfl⟩
    refine ⟨by simp, ?_⟩
    repeat (first | refine Chk.mk ⟨rfl, trivial⟩ ?_)
    refine Tri.frameX (r4_Image hR6 (hfM.mono (by omega))) [] rfl rfl ?_
    rintro r _ A' hJ16 ⟨a4, c4, ch4, rfl, hO4, rfl, rfl⟩
    skip
    refine Tri.mono (same_bytes (hO3.slC1 8 rfl) (hO4.slC1 9 rfl)) ?_
    rintro r _ _ hJ17 ⟨rfl, rfl, rfl⟩
    rw [decide_eq_true rfl]
    skip
    refine Tri.mono (awake11 J14 _) ?_
    rintro r J18 S18 hJ18 rfl
    exact Done.mk rfl
end Go.Proofs.YtegdcjnjnoeinaaGreat
namespace Go.Proofs.YtegdcjnjnoeinaaGreat
open Go.RowKit Go.Sl
set_option maxRecDepth 20000

theorem open_bools {H : Type} {enc : TypeId × Value → H} {W : World} {held : Bool} {fuel : Nat} {c0 : Value} {x : DataW H × List MemPlace} (h : DataW.trod enc Tryz.prog W 0 (fun _ => true) held fuel 57 [c0] = some x) :
    ∃ (a : Option Addr) (len cap : Nat) (l : List Bool), c0 = .slice a len cap ∧ Rds (base W) a len (bools l) := by
  obtain ⟨a, len, cap, vs, D, rfl, _, _, hel, hR, _⟩ := open_elems Tryz.underlying57 (k := 1) (by kernel_rfl) (by omega) h
  obtain ⟨z, hz⟩ := Go.Deep.choose_lt (α := Bool) (n := len) (p := fun i z => vs i = [.bool z]) (fun i hi => by
    obtain ⟨_, n, Pl, ht⟩ := hel i hi
    obtain ⟨b, h1, _⟩ := DataW.trod_bool Tryz.underlying4 ht
    exact ⟨b, h1⟩)
  refine ⟨a, len, cap, (List.range len).map z, rfl, ?_⟩
  rw [Nat.mul_one] at hR
  have e : (List.range len).flatMap vs = bools ((List.range len).map z) := by
    rw [Go.Deep.flatMap_congr_range (fun i hi => hz i hi)]
    unfold bools
    rw [List.map_map]
    induction List.range len with
    | nil => rfl
    | cons y l ih => simp [ih]
  rw [← e]; exact hR
theorem u8_of_wf {n : Int} (h : (Lit.int .u8 n).wf = true) : ∃ m : Nat, n = m ∧ m < 256 := by
  simp [Lit.wf, IntKind.min, IntKind.max, IntKind.signed, IntKind.bits] at h
  exact ⟨n.toNat, by omega, by omega⟩
end Go.Proofs.YtegdcjnjnoeinaaGreat

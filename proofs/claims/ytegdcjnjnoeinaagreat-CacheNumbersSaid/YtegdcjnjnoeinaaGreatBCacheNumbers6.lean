/- Texts of this claim laid together: AwP, Img11, Awake11, We, Wv, Cach11, Awake12, Marks12, CacheNone, VolumeNone, CacheNumbers. -/
import Derived.Test.YtegdcjnjnoeinaaGreatBCacheNumbers5
import Derived.Test.YtegdcjnjnoeinaaGreatBCacheNumbers4
import Derived.Test.YtegdcjnjnoeinaaGreatBCacheNumbers1
import Derived.Test.YtegdcjnjnoeinaaGreatBCacheNumbers2
import Derived.Test.YtegdcjnjnoeinaaGreatBCacheNumbers3
namespace Go.Proofs.YtegdcjnjnoeinaaGreat
open Go.RowKit Go.Sl
set_option maxRecDepth 20000

theorem DSt.flush_calm {d : DSt} (h : d.Calm) : d.flush = ({ d with safe := d.now, writes := [] }, 0) := by
  unfold DSt.flush
  rw [DSt.stop_calm h]
  simp
/-- noughts over noughts -/
theorem blank_calm : ∀ (n k : Nat) (d : DSt), d.Calm → k + n ≤ d.now.length → (∀ i, k ≤ i → i < k + n → d.now[i]? = some noughts) → ∃ ws, blankP n k d = ({ d with writes := ws, count := d.count + n }, 0)
  | 0, k, d, _, _, _ => ⟨d.writes, by rw [blankP]; simp⟩
  | n + 1, k, d, hc, hl, hz => by
    have hw := DSt.write_calm hc (n := (k : Int)) (b := noughts) (by omega) noughts_length
    have hset : d.now.set k noughts = d.now := by
      apply List.ext_getElem?
      intro i
      by_cases hi : k = i
      · subst hi; rw [List.getElem?_set_self (by omega), hz k (by omega) (by omega)]
      · rw [List.getElem?_set_ne hi]
    have hput : d.put (k : Int) noughts = { d with writes := d.writes ++ [((k : Int), noughts)], count := d.count + 1 } := by
      show ({ d with now := d.now.set (k : Int).toNat noughts, writes := _, count := _ } : DSt) = _
      rw [Int.toNat_natCast, hset]
    obtain ⟨ws, ih⟩ := blank_calm n (k + 1) { d with writes := d.writes ++ [((k : Int), noughts)], count := d.count + 1 } hc (by show k + 1 + n ≤ d.now.length; omega) (fun i h1 h2 => hz i (by omega) (by omega))
    refine ⟨ws, ?_⟩
    rw [blankP, hw, if_neg (by simp)]
    show blankP n (k + 1) (d.put (k : Int) noughts) = _
    rw [hput, ih]
    show (({ d with writes := ws, count := d.count + 1 + n } : DSt), (0 : Int)) = _
    congr 2
    push_cast
    omega
/-- a disk of 64 blocks: two superblocks, and noughts -/
def zL (a b : Dat) : List Dat := a :: b :: List.replicate 62 noughts
def dz (a b : Dat) (c : Int) : DSt := ⟨zL a b, zL a b, [], c, false, ⟨false, 0⟩, ⟨false, 0⟩⟩
theorem zL_length (a b : Dat) : (zL a b).length = 64 := by simp [zL]
theorem dz_calm (a b : Dat) (c : Int) : (dz a b c).Calm := ⟨rfl, rfl, rfl⟩
theorem zL_get (a b : Dat) (i : Nat) (h : 2 ≤ i) (h2 : i < 64) : (zL a b)[i]? = some noughts := by
  obtain ⟨j, rfl⟩ : ∃ j, i = j + 2 := ⟨i - 2, by omega⟩
  show (List.replicate 62 noughts)[j]? = _
  rw [List.getElem?_replicate, if_pos (by omega)]
theorem dz_wf {a b : Dat} (ha : a.length = 4096) (hb : b.length = 4096) (c : Int) : (dz a b c).Wf := by
  have hm : ∀ x ∈ zL a b, x.length = 4096 := by
    intro x hx
    rcases List.mem_cons.1 hx with rfl | hx
    · exact ha
    rcases List.mem_cons.1 hx with rfl | hx
    · exact hb
    rw [(List.mem_replicate.1 hx).2]; exact noughts_length
  exact ⟨rfl, by show 1 ≤ (zL a b).length ∧ (zL a b).length ≤ 512; rw [zL_length]; omega, hm, hm, fun w hw => (List.not_mem_nil hw).elim, fun h => (Bool.false_ne_true h).elim, fun h => (Bool.false_ne_true h).elim⟩
theorem dz_few (a b : Dat) (c : Nat) : (dz a b c).Few c := ⟨Nat.zero_le _, by show (0 : Int) ≤ c; omega, by show (c : Int) ≤ c; omega⟩
theorem format_new : formatP (DSt.of (List.replicate 64 noughts)) = (dz (supL ⟨64, 1, 1, 0⟩) noughts 23, 0) := by
  have e0 : DSt.of (List.replicate 64 noughts) = dz noughts noughts 0 := rfl
  have hc := dz_calm noughts noughts 0
  have hl : (dz noughts noughts 0).now.length = 64 := zL_length _ _
  have hall : ∀ i, 1 ≤ i → i < 1 + 22 → (dz noughts noughts 0).now[i]? = some noughts := by
    intro i h1 h2
    by_cases h : i = 1
    · subst h; rfl
    · exact zL_get _ _ i (by omega) (by omega)
  rw [e0]
  generalize hd : dz noughts noughts 0 = d0 at *
  obtain ⟨ws, hb⟩ := blank_calm 22 1 d0 hc (by omega) hall
  unfold formatP
  rw [if_neg (by omega), hl, show (layOf ((64 : Nat) : Int)).d.toNat - 1 = 22 from by decide]
  unfold fmtS
  rw [hb]
  dsimp only
  have hc1 : ({ d0 with writes := ws, count := d0.count + (22 : Nat) } : DSt).Calm := hc
  rw [if_neg (by simp), DSt.flush_calm hc1]
  dsimp only
  rw [if_neg (by simp)]
  have hc2 : ({ d0 with safe := d0.now, writes := [], count := d0.count + (22 : Nat) } : DSt).Calm := hc
  rw [DSt.write_calm (d := { d0 with safe := d0.now, writes := [], count := d0.count + (22 : Nat) }) hc2 (n := 0) (b := supL ⟨(64 : Nat), 1, 1, 0⟩) (by show (0 : Int) ≤ 0 ∧ (0 : Int) < (d0.now.length : Nat); omega) (supL_length _)]
  dsimp only
  rw [if_neg (by simp), DSt.flush_calm (by exact hc)]
  subst hd
  rfl
theorem rb_dz (a b : Dat) (c : Int) (o : Nat) : rbP (dz a b c) 2 16 o = noughts := by
  unfold rbP
  show (zL a b).getD _ _ = _
  rw [List.getD_eq_getElem?_getD, zL_get a b _ (by omega) (by omega)]; rfl
theorem scan_dz (a b : Dat) (c : Int) (s : Sup) : scanL (dz a b c) s = [] := by
  rw [scanL64 (zL_length a b)]
  refine scan_stop ?_
  intro e q l h
  rw [grpP_none (by rw [rb_dz]; exact hd_noughts)] at h
  cases h
theorem do_empty {d : DSt} (hc : d.Calm) (_hw : d.writes = [] ∧ d.safe = d.now) {s : Sup} (hR : RightS s) (slot : Nat) (hs : slot ≤ 1) (hl : 2 ≤ d.now.length) : doP d [] s slot = ({ d with safe := d.now.set slot (supL s), now := d.now.set slot (supL s), writes := [], count := d.count + 1 }, 0) := by
  have hd : DoOk d [] := by intro g hg; simp at hg
  unfold doP
  rw [if_neg (by rintro (h | h | h | h); exact h hR; omega; omega; exact h hd)]
  rw [show wrImgs [] d = (d, 0) from rfl]
  dsimp only
  rw [if_neg (by simp), DSt.flush_calm hc]
  dsimp only
  rw [if_neg (by simp)]
  unfold lastWr
  have hc2 : ({ d with safe := d.now, writes := [] } : DSt).Calm := hc
  rw [DSt.write_calm hc2 (n := (slot : Int)) (b := supL s) (by show (0 : Int) ≤ slot ∧ (slot : Int) < d.now.length; omega) (supL_length _)]
  dsimp only
  rw [if_neg (by simp), DSt.flush_calm (by exact hc)]
  show (({ d with safe := d.now.set (slot : Int).toNat (supL s), now := d.now.set (slot : Int).toNat (supL s), writes := [], count := d.count + 1 } : DSt), (0 : Int)) = _
  rw [Int.toNat_natCast]
/-- mounting a disk whose ring is empty -/
theorem mount_dz {a b : Dat} {c : Int} {s : Sup} {slot : Nat} (hch : chooseP (getS a) (getS b) = (s, (slot : Int), true)) (hR : RightS s) (hb : s.blocks = 64) (ht : s.tail < 16) (he : s.epoch < 8388608) (hs : slot ≤ 1) :
    mountP (dz a b c) = (dz (if slot = 1 then supL ⟨64, s.epoch + 1, s.seq, s.tail⟩ else a) (if slot = 1 then b else supL ⟨64, s.epoch + 1, s.seq, s.tail⟩) (c + 1), 0, some ⟨openJ 64 (s.epoch + 1) s.seq s.tail, s.epoch + 1, slot, [], false⟩) := by
  obtain ⟨sb, se, sq, st⟩ := s
  obtain ⟨r1, r2, r3, r4, r5, r6, r7, r8⟩ := hR
  dsimp only at *
  subst hb
  have hl : (dz a b c).now.length = 64 := zL_length _ _
  have hf : foundP (dz a b c) = (⟨64, se, sq, st⟩, (slot : Int), 0) := by
    unfold foundP
    rw [if_neg (by show ¬ false = true; simp), hl]
    have e1 : (dz a b c).now.getD 0 [] = a := rfl
    have e2 : (dz a b c).now.getD 1 [] = b := rfl
    rw [e1, e2, hch]
    dsimp only
    rw [if_neg (by rintro (h | h | h | h); exact Bool.noConfusion h; exact h rfl; rw [show layL ((64 : Nat) : Int) = 16 from by decide] at h; omega; omega)]
  unfold mountP
  rw [if_neg (by omega), hf]
  dsimp only
  rw [if_neg (by simp), scan_dz]
  unfold mountL
  have h16 : (layL (((dz a b c).now.length : Nat) : Int)).toNat = 16 := by rw [hl]; decide
  rw [h16]
  have hpl : ((placeP 16 st.toNat [] : Nat) : Int) = st := by
    unfold placeP
    simp only [List.map_nil, List.sum_nil, Nat.add_zero]
    omega
  rw [if_neg (by rintro (h | h); exact h (by intro g hg; simp [allG] at hg); simp at h; omega)]
  rw [hpl]
  have hdo := do_empty (d := dz a b c) (dz_calm a b c) ⟨rfl, rfl⟩ (s := ⟨64, se + 1, sq + (([] : List G3).length : Nat), st⟩) ⟨by show (64 : Int) ≤ 64; decide, by show (64 : Int) ≤ 512; decide, by show 1 ≤ se + 1; omega, by show se + 1 ≤ 8388608; omega, by show 1 ≤ sq + ((0 : Nat) : Int); omega, by show sq + ((0 : Nat) : Int) ≤ 549755813888; omega, r7, r8⟩ (1 - slot) (by omega) (by omega)
  have hsl : ((1 - slot : Nat) : Int) = 1 - (slot : Int) := by omega
  rw [hsl] at hdo
  have hho : homeP (allG []) = [] := by
    have := homeP_len (allG [])
    simp [allG] at this
    exact this
  rw [hho, hdo]
  dsimp only
  rw [if_neg (by simp), hl]
  have hsq : sq + (([] : List G3).length : Int) = sq := by simp
  rw [hsq]
  rcases Nat.eq_or_lt_of_le hs with h | h
  · subst h
    simp only [if_true]
    rfl
  · obtain rfl : slot = 0 := by omega
    rw [if_neg (by decide), if_neg (by decide)]
    rfl
end Go.Proofs.YtegdcjnjnoeinaaGreat
namespace Go.Proofs.YtegdcjnjnoeinaaGreat
open Go.RowKit Go.Sl
set_option maxRecDepth 20000
end Go.Proofs.YtegdcjnjnoeinaaGreat
namespace Go.Proofs.YtegdcjnjnoeinaaGreat
open Go.RowKit Go.Sl
set_option maxRecDepth 20000

def sE (ep : Int) : Sup := ⟨64, ep, 1, 0⟩
theorem sE_right {ep : Int} (h : 1 ≤ ep ∧ ep ≤ 8388608) : RightS (sE ep) := ⟨by show (64 : Int) ≤ 64; decide, by show (64 : Int) ≤ 512; decide, h.1, h.2, by show (1 : Int) ≤ 1; decide, by show (1 : Int) ≤ 549755813888; decide, by show (0 : Int) ≤ 0; decide, by show (0 : Int) ≤ 511; decide⟩
theorem getS_noughts : getS noughts = none := by
  cases h : getS noughts with
  | none => rfl
  | some s =>
    have h2 := (getS_some.1 h).2
    have h3 := congrArg (·.head?) h2
    simp [supL, sup44, sup40, magicL, noughts] at h3
def v0 : VSt := ⟨openJ 64 2 1 0, 2, 0, [], false⟩
def dV : DSt := dz (supL (sE 1)) (supL (sE 2)) 24
theorem mount_first : mountP (dz (supL (sE 1)) noughts 23) = (dV, 0, some v0) := by
  have h := mount_dz (a := supL (sE 1)) (b := noughts) (c := 23) (s := sE 1) (slot := 0) (by rw [get_supL (sE_right (by omega)), getS_noughts]; rfl) (sE_right (by omega)) rfl (by show (0 : Int) < 16; decide) (by show (1 : Int) < 8388608; decide) (by omega)
  rw [if_neg (by decide), if_neg (by decide)] at h
  exact h
theorem v0_wf : v0.j.Wf := openJ_wf 64 (by omega) ⟨rfl, by omega, by omega, by omega, by omega, by omega, by rw [layL_64']; omega⟩
end Go.Proofs.YtegdcjnjnoeinaaGreat
namespace Go.Proofs.YtegdcjnjnoeinaaGreat
open Go.RowKit Go.Sl
set_option maxRecDepth 20000

/-- where the k-th block goes, of those from place o of a ring on -/
def rgAt (o : Nat) : Nat → Int := fun k => ((2 + (o + k) % 16 : Nat) : Int)
structure WE (ep t0 sq : Nat) (j : JSt) (d : DSt) (ls : List (List PImg)) (k : Nat) : Prop where
  lay : j.lay = layOf 64
  s : j.s = 16
  t : j.t = ((t0 % 16 : Nat) : Int)
  u : j.u = (usedP ls : Nat)
  h : j.h = 0
  epoch : j.epoch = ep
  epr : 1 ≤ ep ∧ ep ≤ 8388608
  next : j.next = ((sq + ls.length : Nat) : Int)
  pos : 1 ≤ sq
  groups : j.groups = grL sq ls
  broken : j.broken = false
  wf : j.Wf
  calm : d.Calm
  dwf : d.Wf
  len : d.now.length = 64
  few : d.Few k
  used : usedP ls ≤ 16
  right : ∀ (i : Nat) (h : i < ls.length), RightP ep ((sq + i : Nat) : Int) ls[i]
  ring : ∀ (o : Nat) (h : o < (ringB ep sq ls).length), rbP d 2 16 (t0 + o) = (ringB ep sq ls)[o]
section
variable {ep t0 sq : Nat} {j : JSt} {d : DSt} {ls : List (List PImg)} {k : Nat}
theorem WE.mono {m : Nat} (w : WE ep t0 sq j d ls k) (h : k ≤ m) : WE ep t0 sq j d ls m := { w with few := w.few.mono h }
theorem WE.room (w : WE ep t0 sq j d ls k) : Ok 16 ((t0 % 16 : Nat) : Int) (usedP ls : Nat) 0 := by
  have := w.wf.ring; rw [w.s, w.t, w.u, w.h] at this; exact this
theorem putP_lens {e s : Nat} {l : List PImg} (hR : RightP e s l) : ∀ b ∈ putP e s l, b.length = 4096 := putP_len (e := e) (s := s) hR.2.2.2.2.2.1 hR.lens
/-- a group that fits is appended -/
theorem WE.append (w : WE ep t0 sq j d ls k) {l : List PImg} (hR : RightP ep ((sq + ls.length : Nat) : Int) l) (hroom : usedP ls + (l.length + 1) ≤ 16) :
    ∃ j', j.appendB d l false = (j', wrD (rgAt (t0 + usedP ls)) (putP ep (sq + ls.length) l) 0 d, ((sq + ls.length : Nat) : Int), 0) ∧ WE ep t0 sq j' (wrD (rgAt (t0 + usedP ls)) (putP ep (sq + ls.length) l) 0 d) (ls ++ [l]) (k + 16) ∧ j'.synced = j.synced := by
  have hge := usedP_ge ls
  have hu := w.used
  have hll := hR.2.2.2.2.2.1
  have hR' : RightP j.epoch j.next l := by rw [w.epoch, w.next]; exact hR
  have hokd := w.room
  have hok := hokd
  unfold Ok at hok
  have hp : putS j.s j.t j.u j.h ((l.length : Int) + 1) (if false = true then (l.length : Int) + 1 else 0) = ((j.s, ((t0 % 16 : Nat) : Int), ((usedP ls : Nat) : Int) + ((l.length : Int) + 1), 0, 0), (((t0 % 16 : Nat) : Int) + (usedP ls : Nat)) % 16) := by
    rw [w.s, w.t, w.u, w.h]
    unfold putS
    rw [if_neg (by simp only [Bool.false_eq_true, if_false]; rintro (h | h | h | h | h); exact h hokd; omega; omega; omega; omega), if_neg (by simp only [Bool.false_eq_true, if_false]; omega)]
    simp only [Bool.false_eq_true, if_false, Int.sub_zero]
  have hlen16 : j.s + 2 ≤ d.now.length := by rw [w.s, w.len]; decide
  have hs1 : (l.length : Int) + 1 ≤ j.s := by rw [w.s]; omega
  have hgl : j.groups.length = ls.length := by rw [w.groups, grL_length]
  obtain ⟨j', a, f1, f2, f3, f4, f5, f6, f7, f8, f9, f10, w'⟩ := JSt.append_next w.wf (by rw [hgl]; omega) w.broken hR' hs1 w.calm hlen16 hp
  have hff : (fun k : Nat => (2 : Int) + ((((t0 % 16 : Nat) : Int) + (usedP ls : Nat)) % 16 + k) % j.s) = rgAt (t0 + usedP ls) := by
    funext k
    rw [w.s]; unfold rgAt; omega
  have he1 : j.epoch.toNat = ep := by rw [w.epoch]; rfl
  have he2 : j.next.toNat = sq + ls.length := by rw [w.next]; omega
  rw [hff, he1, he2, w.next] at a
  have hB := putP_lens (e := ep) (s := sq + ls.length) hR
  have hfl : ∀ k : Nat, (0 : Int) ≤ rgAt (t0 + usedP ls) k ∧ rgAt (t0 + usedP ls) k < d.now.length := by
    intro k
    rw [w.len]; unfold rgAt; omega
  refine ⟨j', a, ⟨by rw [f1, w.lay], by rw [f2, w.s], f3, by rw [f4, usedP_snoc]; omega, f5, by rw [f6, w.epoch], w.epr, by rw [f7, w.next, List.length_append]; show _ = (((sq + (ls.length + 1) : Nat)) : Int); omega, w.pos, by rw [f9, w.groups, w.next, grL_snoc], f10, w', wrD_calm _ _ _ _ w.calm, wrD_wf _ _ _ _ w.dwf w.calm hB hfl, by rw [wrD_len, w.len], ?_, by rw [usedP_snoc]; exact hroom, ?_, ?_⟩, f8⟩
  · have := wrD_few (rgAt (t0 + usedP ls)) (putP ep (sq + ls.length) l) 0 d _ w.few
    rw [putP_length] at this
    exact this.mono (by omega)
  · intro i hi
    rw [List.getElem_append]
    split
    · rename_i h; exact w.right i h
    · rename_i h
      simp only [List.length_append, List.length_singleton] at hi
      obtain rfl : i = ls.length := by omega
      simpa using hR
  · intro o ho
    have hrl := ringB_length ep ls sq
    have hsn := ringB_snoc ep ls sq l
    have hpl := putP_length ep (sq + ls.length) l
    obtain ⟨B, hBe⟩ : ∃ B, B = putP ep (sq + ls.length) l := ⟨_, rfl⟩
    rw [← hBe] at hpl hsn ⊢
    have ho2 : o < usedP ls + B.length := by rw [hsn, List.length_append, hrl] at ho; exact ho
    have e0 : (ringB ep sq (ls ++ [l]))[o]? = (ringB ep sq ls ++ B)[o]? := by rw [hsn]
    rw [List.getElem?_eq_getElem ho] at e0
    unfold rbP
    rw [List.getD_eq_getElem?_getD]
    have inj : ∀ k, k < B.length → (2 + (t0 + usedP ls + k) % 16 = 2 + (t0 + o) % 16 ↔ usedP ls + k = o) := by
      intro k hk; omega
    by_cases hin : usedP ls ≤ o
    · have := wrD_hit (fun k => 2 + (t0 + usedP ls + k) % 16) (2 + (t0 + o) % 16) B 0 d (o - usedP ls) (by omega) (by have := (inj (o - usedP ls) (by omega)).2 (by omega); simpa using this)
        (fun k' h1 h2 h3 => by have := (inj k' h2).1 (by simpa using h3); omega) (by rw [w.len]; omega)
      rw [show (rgAt (t0 + usedP ls)) = fun k => ((2 + (t0 + usedP ls + k) % 16 : Nat) : Int) from rfl, this]
      rw [List.getElem?_append_right (by omega), hrl, List.getElem?_eq_getElem (by omega)] at e0
      exact (Option.some.inj e0).symm
    · have := wrD_miss (fun k => 2 + (t0 + usedP ls + k) % 16) (2 + (t0 + o) % 16) B 0 d (fun k hk h3 => by have := (inj k hk).1 (by simpa using h3); omega)
      rw [show (rgAt (t0 + usedP ls)) = fun k => ((2 + (t0 + usedP ls + k) % 16 : Nat) : Int) from rfl, this]
      rw [List.getElem?_append_left (by omega), List.getElem?_eq_getElem (by omega)] at e0
      have hw := w.ring o (by omega)
      unfold rbP at hw
      rw [List.getD_eq_getElem?_getD] at hw
      rw [hw]
      exact (Option.some.inj e0).symm
theorem WE.flush (w : WE ep t0 sq j d ls k) :
    ∃ j', j.flush d = (j', { d with safe := d.now, writes := [] }, 0) ∧ WE ep t0 sq j' { d with safe := d.now, writes := [] } ls k ∧ j'.synced = j'.next - 1 := by
  obtain ⟨j', a, f1, f2, f3, f4, f5, f6, f7, f8, f9, f10, w'⟩ := JSt.flush_next w.wf w.broken w.calm
  have hc := w.calm
  have hdw : ({ d with safe := d.now, writes := [] } : DSt).Wf := by
    have := w.dwf.flush
    rwa [DSt.flush_calm w.calm] at this
  refine ⟨j', a, ⟨by rw [f1, w.lay], by rw [f2, w.s], by rw [f3, w.t], by rw [f4, w.u], by rw [f5, w.h], by rw [f6, w.epoch], w.epr, by rw [f7, w.next], w.pos, by rw [f9, w.groups], f10, w', hc, hdw, w.len, ?_, w.used, w.right, w.ring⟩, by rw [f8, f7]⟩
  obtain ⟨h1, h2, h3⟩ := w.few
  exact ⟨by simp, h2, h3⟩
/-- all groups are let go -/
theorem WE.release (w : WE ep t0 sq j d ls k) (hsy : j.synced = j.next - 1) :
    ∃ j', j.release j.synced = (j', 0) ∧ WE ep (t0 + usedP ls) (sq + ls.length) j' d [] k ∧ j'.synced = j.synced := by
  have hu := w.used
  cases ls with
  | nil =>
    have hr : relAll j.synced j.groups j.s j.t j.u j.h = ([], (16, ((t0 % 16 : Nat) : Int), 0, 0, 0)) := by
      rw [w.groups, w.s, w.t, w.u, w.h]; rfl
    obtain ⟨j', a, f1, f2, f3, f4, f5, f6, f7, f8, f9, f10, w'⟩ := JSt.release_next w.wf (seq := j.synced) w.broken (by omega) hr
    refine ⟨j', a, ⟨by rw [f1, w.lay], f2, by rw [f3]; simp [usedP], f4, f5, by rw [f6, w.epoch], w.epr, by rw [f7, w.next]; rfl, w.pos, f9, f10, w', w.calm, w.dwf, w.len, w.few, by simp [usedP], w.right, fun o ho => by simp [ringB] at ho⟩, f8⟩
  | cons l ls' =>
    have hm : ls'.length < (l :: ls').length := by simp
    have hle : (l :: ls').length = ls'.length + 1 := rfl
    have hr : relAll ((sq + ls'.length : Nat) : Int) j.groups j.s j.t j.u j.h = (grL (sq + (ls'.length + 1)) ((l :: ls').drop (ls'.length + 1)), (16, (((t0 + usedP ((l :: ls').take (ls'.length + 1))) % 16 : Nat) : Int), ((usedP ((l :: ls').drop (ls'.length + 1)) : Nat) : Int), 0, 0)) := by
      rw [w.groups, w.s, w.t, w.u, w.h]; exact rel_gr ls'.length (l :: ls') sq t0 ((usedP (l :: ls') : Nat) : Int) 0 hm rfl w.room
    rw [← hle, List.take_length, List.drop_length] at hr
    have hse : j.synced = ((sq + ls'.length : Nat) : Int) := by rw [hsy, w.next, hle]; omega
    rw [← hse] at hr
    obtain ⟨j', a, f1, f2, f3, f4, f5, f6, f7, f8, f9, f10, w'⟩ := JSt.release_next w.wf (seq := j.synced) w.broken (by omega) hr
    refine ⟨j', a, ⟨by rw [f1, w.lay], f2, f3, f4, f5, by rw [f6, w.epoch], w.epr, by rw [f7, w.next]; rfl, by have := w.pos; omega, f9, f10, w', w.calm, w.dwf, w.len, w.few, by simp [usedP], fun i hi => by simp at hi, fun o ho => by simp [ringB] at ho⟩, f8⟩
end
/-- doing images, with nothing in the way -/
theorem doP_calm {d : DSt} (hc : d.Calm) (hlen : d.now.length = 64) {l : List PImg} (hok : DoOk d l) {s : Sup} (hR : RightS s) {slot : Int} (hsl : 0 ≤ slot ∧ slot ≤ 1) :
    ∃ e, doP d l s slot = (e, 0) ∧ e.Calm ∧ e.writes = [] ∧ e.safe = e.now ∧ e.now = (wrC l d).now.set slot.toNat (supL s) ∧ e.now.length = 64 := by
  have hw := wrC_imgs l d hc hok
  have hcw := wrC_calm l d hc
  have hnl := (wrC_now l d (fun g hg => (hok g hg).1) (fun g hg => (hok g hg).2.1)).1
  have f1 := DSt.flush_calm hcw
  obtain ⟨e1, he1⟩ : ∃ e1, e1 = ({ wrC l d with safe := (wrC l d).now, writes := [] } : DSt) := ⟨_, rfl⟩
  rw [← he1] at f1
  have ce1 : e1.Calm := by rw [he1]; exact hcw
  have ne1 : e1.now = (wrC l d).now := by rw [he1]
  have w2 : e1.write slot (supL s) = (e1.put slot (supL s), 0) := DSt.write_calm ce1 ⟨hsl.1, by rw [ne1, hnl, hlen]; omega⟩ (supL_length _)
  have f2 : (e1.put slot (supL s)).flush = ({ e1.put slot (supL s) with safe := (e1.put slot (supL s)).now, writes := [] }, 0) := DSt.flush_calm ce1
  refine ⟨{ e1.put slot (supL s) with safe := (e1.put slot (supL s)).now, writes := [] }, ?_, ce1, rfl, rfl, ?_, ?_⟩
  · unfold doP lastWr
    rw [if_neg (by rintro (h | h | h | h); exact h hR; omega; omega; exact h hok), hw]
    simp [f1, w2, f2]
  · show e1.now.set _ _ = _; rw [ne1]
  · show (e1.now.set _ _).length = 64; rw [List.length_set, ne1, hnl, hlen]
theorem doP_wf {d : DSt} (h : d.Wf) (l : List PImg) (s : Sup) (slot : Int) : (doP d l s slot).1.Wf := by
  have h1 : ∀ (l : List PImg) (d : DSt), d.Wf → (wrImgs l d).1.Wf := by
    intro l
    induction l with
    | nil => intro d h; exact h
    | cons g l ih =>
      intro d h
      rw [wrImgs]
      split
      · exact h.write _ _
      · exact ih _ (h.write _ _)
  unfold doP
  split
  · exact h
  split
  · exact h1 l d h
  split
  · exact (h1 l d h).flush
  unfold lastWr
  split
  · exact ((h1 l d h).flush).write _ _
  · exact (((h1 l d h).flush).write _ _).flush
end Go.Proofs.YtegdcjnjnoeinaaGreat
namespace Go.Proofs.YtegdcjnjnoeinaaGreat
open Go.RowKit Go.Sl
set_option maxRecDepth 20000

/-- a block as it counts -/
def VSt.cur (v : VSt) (d : DSt) (n : Int) : Dat := match v.fresh.lookup n with
  | some b => b
  | none => d.now.getD n.toNat []
structure WV (ep t0 sq : Nat) (v : VSt) (d : DSt) (ls : List (List PImg)) (k : Nat) : Prop where
  e : WE ep t0 sq v.j d ls k
  epoch : v.epoch = ep
  slot : v.slot = 0 ∨ v.slot = 1
  fresh : v.fresh = lastP ls.flatten
  home : HomeOk (layOf 64) ls.flatten
  broken : v.broken = false
theorem home64 {l : List PImg} (h : HomeOk (layOf 64) l) : ∀ g ∈ l, 18 ≤ g.1 ∧ g.1 < 64 := by
  intro g hg
  have := h g hg
  have e1 : (layOf 64).bi = 18 := by decide
  have e2 : (layOf 64).b = 64 := rfl
  rw [e1, e2] at this; exact this
theorem of_home64 {l : List PImg} (h : ∀ g ∈ l, 18 ≤ g.1 ∧ g.1 < 64) : HomeOk (layOf 64) l := by
  intro g hg
  have := h g hg
  have e1 : (layOf 64).bi = 18 := by decide
  have e2 : (layOf 64).b = 64 := rfl
  rw [e1, e2]; exact this
section
variable {ep t0 sq : Nat} {v : VSt} {d : DSt} {ls : List (List PImg)} {k : Nat}
theorem WV.mono {m : Nat} (w : WV ep t0 sq v d ls k) (h : k ≤ m) : WV ep t0 sq v d ls m := { w with e := w.e.mono h }
theorem WV.lens (w : WV ep t0 sq v d ls k) : ∀ g ∈ ls.flatten, g.2.length = 4096 := by
  intro g hg
  obtain ⟨l, hl, hgl⟩ := List.mem_flatten.1 hg
  obtain ⟨i, hi⟩ := List.mem_iff_getElem?.1 hl
  have hlt := (List.getElem?_eq_some_iff.1 hi).1
  have hr := w.e.right i hlt
  have e : ls[i] = l := by rw [List.getElem?_eq_getElem hlt] at hi; exact Option.some.inj hi
  rw [e] at hr
  exact (hr.2.2.2.2.2.2.1 g hgl).2.2
theorem WV.lookup (w : WV ep t0 sq v d ls k) (n : Int) : v.fresh.lookup n = lastD ls.flatten n := by rw [w.fresh, lookup_lastP]
theorem WV.few_fresh (w : WV ep t0 sq v d ls k) : v.fresh.length ≤ 16 := by
  have h1 : (ls.flatten).length ≤ usedP ls := by
    unfold usedP
    rw [List.length_flatten]
    have : ∀ l : List (List PImg), (l.map List.length).sum ≤ (l.map fun g => g.length + 1).sum := by
      intro l
      induction l with
      | nil => simp
      | cons g l ih => simp; omega
    exact this ls
  have h2 : ∀ (l ms : List PImg), (l.foldl pput ms).length ≤ ms.length + l.length := by
    intro l
    induction l with
    | nil => intro ms; simp
    | cons g l ih =>
      intro ms
      have h1 := ih (pput ms g)
      have h2 : (pput ms g).length ≤ ms.length + 1 := by unfold pput; split <;> simp
      rw [List.foldl_cons, List.length_cons]; omega
  have h3 := h2 ls.flatten []
  have := w.e.used
  rw [w.fresh]
  unfold lastP
  rw [List.length_nil, Nat.zero_add] at h3
  omega
theorem WV.fresh_len (w : WV ep t0 sq v d ls k) : ∀ g ∈ v.fresh, g.2.length = 4096 := by
  intro g hg
  rw [w.fresh] at hg
  have h2 : ∀ (l ms : List PImg), (∀ g ∈ ms, g.2.length = 4096) → (∀ g ∈ l, g.2.length = 4096) → ∀ g ∈ l.foldl pput ms, g.2.length = 4096 := by
    intro l
    induction l with
    | nil => intro ms h _; exact h
    | cons x l ih =>
      intro ms h h' 
      refine ih (pput ms x) ?_ (fun g hg => h' g (by simp [hg]))
      intro g hg
      unfold pput at hg
      split at hg
      · obtain ⟨y, hy, rfl⟩ := List.mem_map.1 hg
        split
        · exact h' x (by simp)
        · exact h y hy
      · rcases List.mem_append.1 hg with hg | hg
        · exact h g hg
        · simp at hg; subst hg; exact h' g (by simp)
  exact h2 _ [] (by simp) w.lens g hg
theorem WV.read (w : WV ep t0 sq v d ls k) {n : Int} (h : 0 ≤ n ∧ n < 64) : v.read d n = (v.cur d n, 0) := by
  unfold VSt.read VSt.cur
  rw [if_neg (by rw [w.broken]; simp)]
  cases hl : v.fresh.lookup n with
  | some b => rfl
  | none =>
    have e : n = ((n.toNat : Nat) : Int) := by omega
    have := read_up w.e.dwf w.e.calm.1 (k := n.toNat) (by rw [w.e.len]; omega)
    rw [← e] at this
    exact this
/-- a group is appended, there is room -/
theorem WV.app (w : WV ep t0 sq v d ls k) {l : List PImg} (hho : HomeOk (layOf 64) l) (hR : RightP ep ((sq + ls.length : Nat) : Int) l) (hroom : usedP ls + (l.length + 1) ≤ 16) :
    ∃ v' , v.app d l = (v', wrD (rgAt (t0 + usedP ls)) (putP ep (sq + ls.length) l) 0 d, ((sq + ls.length : Nat) : Int), 0) ∧ WV ep t0 sq v' (wrD (rgAt (t0 + usedP ls)) (putP ep (sq + ls.length) l) 0 d) (ls ++ [l]) (k + 16) ∧
      (∀ n, 18 ≤ n → n < 64 → v'.cur (wrD (rgAt (t0 + usedP ls)) (putP ep (sq + ls.length) l) 0 d) n = (lastD l n).getD (v.cur d n)) ∧ v'.j.synced = v.j.synced ∧ v'.slot = v.slot := by
  obtain ⟨j', a, w', hs⟩ := w.e.append hR hroom
  have hv : v.app d l = ({ v with j := j', fresh := l.foldl pput v.fresh }, wrD (rgAt (t0 + usedP ls)) (putP ep (sq + ls.length) l) 0 d, ((sq + ls.length : Nat) : Int), 0) := by
    unfold VSt.app
    rw [a]
    dsimp only
    rw [if_neg (by simp)]
  have hfr : l.foldl pput v.fresh = lastP (ls ++ [l]).flatten := by
    rw [w.fresh]; unfold lastP; rw [List.flatten_append, List.foldl_append]; simp
  refine ⟨_, hv, ⟨w', w.epoch, w.slot, hfr, ?_, w.broken⟩, fun n h1 h2 => ?_, hs, rfl⟩
  · intro g hg
    rw [List.flatten_append] at hg
    rcases List.mem_append.1 hg with hg | hg
    · exact w.home g hg
    · exact hho g (by simpa using hg)
  · unfold VSt.cur
    dsimp only
    rw [hfr, lookup_lastP, w.lookup, List.flatten_append, List.flatten_singleton]
    have hla : lastD (ls.flatten ++ l) n = (lastD l n).or (lastD ls.flatten n) := by
      refine snoc_ind (p := fun l : List PImg => lastD (ls.flatten ++ l) n = (lastD l n).or (lastD ls.flatten n)) ?_ ?_ l
      · rw [List.append_nil]; simp [lastD]
      · intro l g ih
        rw [← List.append_assoc, lastD_snoc, lastD_snoc]
        split
        · rfl
        · exact ih
    rw [hla]
    cases lastD l n with
    | some x => rfl
    | none =>
      simp only [Option.none_or, Option.getD_none]
      cases lastD ls.flatten n with
      | some x => rfl
      | none =>
        show List.getD _ _ _ = _
        rw [List.getD_eq_getElem?_getD, List.getD_eq_getElem?_getD, show (rgAt (t0 + usedP ls)) = fun k => ((2 + (t0 + usedP ls + k) % 16 : Nat) : Int) from rfl,
          wrD_miss (fun k => 2 + (t0 + usedP ls + k) % 16) n.toNat _ 0 d (fun k _ => by omega)]
theorem lastD_keys (f : Int → Dat) : ∀ (l : List Int) (n : Int), lastD (l.map fun m => (m, f m)) n = if n ∈ l then some (f n) else none := by
  refine fun l n => snoc_ind (p := fun l : List Int => lastD (l.map fun m => (m, f m)) n = if n ∈ l then some (f n) else none) ?_ ?_ l
  · simp [lastD]
  · intro l m ih
    rw [List.map_append, List.map_cons, List.map_nil, lastD_snoc]
    dsimp only
    by_cases h : m = n
    · subst h; simp
    · rw [if_neg h, ih]
      have h' : ¬ n = m := fun e => h e.symm
      simp [h']
theorem lookup_keys (l : List PImg) (n : Int) : (l.lookup n).isSome = true ↔ n ∈ l.map Prod.fst := by
  induction l with
  | nil => simp
  | cons x l ih =>
    obtain ⟨m, b⟩ := x
    rw [List.lookup_cons]
    by_cases h : n = m
    · subst h; simp
    · have : (n == m) = false := by simp [h]
      rw [this]
      simp only [List.map_cons, List.mem_cons]
      rw [ih]
      simp [h]
theorem lastD_sortP (l : List PImg) (n : Int) : lastD (sortP l) n = l.lookup n := by
  unfold sortP
  rw [lastD_keys]
  have hk := lookup_keys l n
  have hm : n ∈ sortI (l.map Prod.fst) ↔ n ∈ l.map Prod.fst := (sortI_perm _).mem_iff
  by_cases h : n ∈ l.map Prod.fst
  · rw [if_pos (hm.2 h)]
    cases hl : l.lookup n with
    | some b => rfl
    | none => rw [hl] at hk; exact absurd (hk.2 h) (by simp)
  · rw [if_neg (fun h' => h (hm.1 h'))]
    cases hl : l.lookup n with
    | none => rfl
    | some b => rw [hl] at hk; exact absurd (hk.1 rfl) h
theorem sortP_mem {l : List PImg} {g : PImg} (h : g ∈ sortP l) : g.1 ∈ l.map Prod.fst ∧ l.lookup g.1 = some g.2 := by
  unfold sortP at h
  obtain ⟨n, hn, rfl⟩ := List.mem_map.1 h
  have hn := (sortI_perm _).mem_iff.1 hn
  refine ⟨hn, ?_⟩
  have hk := (lookup_keys l n).2 hn
  dsimp only
  cases hl : l.lookup n with
  | some b => rfl
  | none => rw [hl] at hk; cases hk
theorem lookup_mem {l : List PImg} {n : Int} {b : Dat} (h : l.lookup n = some b) : (n, b) ∈ l := by
  induction l with
  | nil => simp at h
  | cons x l ih =>
    obtain ⟨m, c⟩ := x
    rw [List.lookup_cons] at h
    by_cases hm : n = m
    · subst hm; simp at h; subst h; simp
    · have : (n == m) = false := by simp [hm]
      rw [this] at h
      exact List.mem_cons_of_mem _ (ih h)
theorem WV.fresh_home (w : WV ep t0 sq v d ls k) : ∀ g ∈ sortP v.fresh, 18 ≤ g.1 ∧ g.1 < 64 ∧ g.2.length = 4096 := by
  intro g hg
  obtain ⟨_, h2⟩ := sortP_mem hg
  rw [w.lookup] at h2
  obtain ⟨x, hx, q1, q2⟩ := lastD_mem _ _ _ h2
  have h3 := home64 w.home x hx
  have h4 := w.lens x hx
  rw [← q1, ← q2]; exact ⟨h3.1, h3.2, h4⟩
theorem WV.sup (w : WV ep t0 sq v d ls k) : v.sup = ⟨64, ep, ((sq + ls.length : Nat) : Int), (((t0 + usedP ls) % 16 : Nat) : Int)⟩ := by
  unfold VSt.sup
  rw [w.e.lay, w.epoch, w.e.next, w.e.t, w.e.u, w.e.s]
  congr 1
  omega
/-- a checkpoint -/
theorem WV.ckpt (w : WV ep t0 sq v d ls k) (hsq : sq + ls.length ≤ 549755813888) :
    ∃ v' d', v.ckpt d = (v', d', 0) ∧ WV ep (t0 + usedP ls) (sq + ls.length) v' d' [] (k + 17) ∧ (∀ n, 18 ≤ n → n < 64 → v'.cur d' n = v.cur d n) ∧ v'.j.synced = v'.j.next - 1 ∧ v'.slot = 1 - v.slot ∧ v'.fresh = [] ∧ d'.writes = [] ∧ d'.safe = d'.now ∧
      d'.now = (wrC (sortP v.fresh) { d with safe := d.now, writes := [] }).now.set v.slot.toNat (supL v.sup) := by
  obtain ⟨j1, a1, w1, s1⟩ := w.e.flush
  have hsl : 0 ≤ v.slot ∧ v.slot ≤ 1 := by rcases w.slot with h | h <;> omega
  have hho := w.fresh_home
  have hep := w.e.epr
  have hpos := w.e.pos
  have hRs : RightS v.sup := by
    rw [w.sup]
    exact ⟨by show (64 : Int) ≤ 64; decide, by show (64 : Int) ≤ 512; decide, by show (1 : Int) ≤ (ep : Int); omega, by show (ep : Int) ≤ 8388608; omega, by show (1 : Int) ≤ ((sq + ls.length : Nat) : Int); omega, by show ((sq + ls.length : Nat) : Int) ≤ 549755813888; omega, by show (0 : Int) ≤ (((t0 + usedP ls) % 16 : Nat) : Int); omega, by show (((t0 + usedP ls) % 16 : Nat) : Int) ≤ 511; omega⟩
  have hok : DoOk ({ d with safe := d.now, writes := [] } : DSt) (sortP v.fresh) := fun g hg => by
    obtain ⟨h1, h2, h3⟩ := hho g hg
    exact ⟨by omega, by rw [w1.len]; exact h2, h3⟩
  obtain ⟨e, b1, b2, b3, b4, b5, b6⟩ := doP_calm w1.calm w1.len hok hRs hsl
  have hwf := doP_wf w1.dwf (sortP v.fresh) v.sup v.slot
  have hfew := doP_few w1.few (sortP v.fresh) v.sup v.slot
  rw [b1] at hwf hfew
  dsimp only at hwf hfew
  have hfl := w.few_fresh
  have hsl2 : (sortP v.fresh).length = v.fresh.length := sortP_length _
  have w2 : WE ep t0 sq j1 e ls (k + 17) := { w1 with calm := b2, dwf := hwf, len := b6, few := hfew.mono (by omega), ring := ?ring }
  case ring =>
    intro o ho
    have hw := w1.ring o ho
    unfold rbP at hw ⊢
    rw [b5, List.getD_eq_getElem?_getD]
    rw [List.getD_eq_getElem?_getD] at hw
    have hq := (wrC_now (sortP v.fresh) ({ d with safe := d.now, writes := [] } : DSt) (fun g hg => (hok g hg).1) (fun g hg => (hok g hg).2.1)).2 (2 + (t0 + o) % 16) (by rw [w1.len]; omega)
    rw [List.getElem?_set_ne (by omega), hq]
    have hno : lastD (sortP v.fresh) ((2 + (t0 + o) % 16 : Nat) : Int) = none := lastD_none fun hm => by
      obtain ⟨g, hg, he⟩ := List.mem_map.1 hm
      have := hho g hg; omega
    rw [hno]; exact hw
  obtain ⟨j2, a2, w3, s3⟩ := w2.release s1
  have hck : v.ckS d = (0, j2, e) := by
    unfold VSt.ckS
    rw [a1]
    dsimp only
    rw [if_neg (by simp), b1]
    dsimp only
    rw [if_neg (by simp), a2]
  have hv : v.ckpt d = ({ v with j := j2, slot := 1 - v.slot, fresh := [] }, e, 0) := by
    unfold VSt.ckpt
    rw [if_neg (by rw [w.broken]; simp), hck]
    dsimp only
    rw [if_neg (by simp)]
  refine ⟨_, e, hv, ⟨w3, w.epoch, by rcases w.slot with h | h <;> simp [h], rfl, by intro g hg; simp at hg, w.broken⟩, fun n h1 h2 => ?_, ?_, rfl, rfl, b3, b4, b5⟩
  · unfold VSt.cur
    show e.now.getD _ _ = _
    rw [b5, List.getD_eq_getElem?_getD, List.getElem?_set_ne (by omega)]
    have hq := (wrC_now (sortP v.fresh) ({ d with safe := d.now, writes := [] } : DSt) (fun g hg => (hok g hg).1) (fun g hg => (hok g hg).2.1)).2 n.toNat (by rw [w1.len]; omega)
    rw [hq, show ((n.toNat : Nat) : Int) = n by omega, lastD_sortP]
    cases v.fresh.lookup n with
    | some b => rfl
    | none => show _ = d.now.getD _ _; rw [List.getD_eq_getElem?_getD]
  · show j2.synced = j2.next - 1
    rw [s3, s1, w3.next, w1.next]; rfl
theorem WV.fits (w : WV ep t0 sq v d ls k) {n : Nat} (h : 1 ≤ n ∧ n + 1 ≤ 16) : v.fits n = true := by
  unfold VSt.fits
  have hb : blocksN (n : Int) = n + 1 := by unfold blocksN; rw [if_neg (by omega)]
  rw [hb, w.e.lay]
  exact decide_eq_true ⟨by omega, by show (n : Int) + 1 ≤ layL ((64 : Nat) : Int); rw [layL_64']; omega⟩
/-- a commit: the group is appended, behind a checkpoint if there is no room -/
theorem WV.commit (w : WV ep t0 sq v d ls k) {l : List PImg} (hho : HomeOk (layOf 64) l) (hR : RightP ep ((sq + ls.length : Nat) : Int) l) (hl : l.length + 1 ≤ 16) :
    ∃ v' d' t1 sq' ls', v.commit d l = (v', d', ((sq + ls.length : Nat) : Int), 0) ∧ WV ep t1 sq' v' d' ls' (k + 33) ∧ sq' + ls'.length = sq + ls.length + 1 ∧ (∀ n, 18 ≤ n → n < 64 → v'.cur d' n = (lastD l n).getD (v.cur d n)) := by
  have hll := hR.2.2.2.2.1
  have hsq : sq + ls.length ≤ 549755813888 := by have := hR.2.2.2.1; omega
  have hb : blocksN (l.length : Int) = l.length + 1 := by unfold blocksN; rw [if_neg (by omega)]
  have hu := w.e.used
  have hc : v.commit d l = if v.j.s - v.j.u - v.j.h < blocksN l.length then (if (v.ckpt d).2.2 ≠ 0 then ((v.ckpt d).1, (v.ckpt d).2.1, 0, (v.ckpt d).2.2) else (v.ckpt d).1.app (v.ckpt d).2.1 l) else v.app d l := by
    unfold VSt.commit
    rw [if_neg (by rw [w.broken]; simp), if_neg (by rw [w.e.lay]; exact fun h => h hho), if_neg (by rw [w.epoch, w.e.next]; exact fun h => h hR), if_neg (by rw [w.fits ⟨hll, hl⟩]; simp)]
  rw [hc, hb, w.e.s, w.e.u, w.e.h]
  by_cases hr : (16 : Int) - ((usedP ls : Nat) : Int) - 0 < (l.length : Int) + 1
  · rw [if_pos hr]
    obtain ⟨v1, d1, a1, w1, c1, _⟩ := w.ckpt hsq
    rw [a1]
    dsimp only
    rw [if_neg (by simp)]
    obtain ⟨v2, a2, w2, c2, _⟩ := w1.app hho (by simpa using hR) (by simp [usedP]; omega)
    refine ⟨v2, _, _, _, _, a2, w2.mono (by omega), by simp, fun n h1 h2 => ?_⟩
    rw [c2 n h1 h2, c1 n h1 h2]
  · rw [if_neg hr]
    obtain ⟨v2, a2, w2, c2, _⟩ := w.app hho hR (by omega)
    exact ⟨v2, _, _, _, _, a2, w2.mono (by omega), by simp; omega, c2⟩
end
end Go.Proofs.YtegdcjnjnoeinaaGreat
namespace Go.Proofs.YtegdcjnjnoeinaaGreat
open Go.RowKit Go.Sl
set_option maxRecDepth 20000

theorem rows_map (n : Nat) : (List.replicate n (none : Option BufM)).map ptrB = rows n [.pointer none] := by
  unfold rows
  induction n with
  | zero => rfl
  | succ n ih => rw [List.replicate_succ, List.replicate_succ, List.map_cons, ih, List.flatten_cons]; rfl
theorem bufs_rep (n : Nat) : bufs (List.replicate n none) = [] := by
  induction n with
  | zero => rfl
  | succ n ih => rw [List.replicate_succ, bufs_none, ih]
def newC (n : Nat) : CSt := ⟨List.replicate n none, 0⟩
theorem v_Layout2 (bV bD bJ bM : Nat) (x : Lay) (ep sl : Int) (br : Bool) (I : Imm) (S : St) (k : Nat) (hk : S[k]? = some (vChunk bV bD bJ bM x ep sl br)) : Tri Tryz.prog 29 #[.pointer (some ⟨bV, 0, none⟩)] I S fun v J S' => v = x.v ∧ I = J ∧ S' = S := by
  refine Tri.drop ?_ (fun _ _ _ _ h => h)
  have h0 := fun (S : St) (hk : S[k]? = some (vChunk bV bD bJ bM x ep sl br)) => v_none bV bD bJ bM x ep sl br I S k hk
  obtain ⟨l1, l2, l3, l4, l5, l6, l7⟩ := x
  refine Tri.of (args := [.pointer (some ⟨bV, 0, none⟩)]) tabOk Tryz.func29 rfl (by kernel_rfl) (by kernel_rfl) ?_
  conv => whnf
  intro b2
  have hk2 : ∀ y, (S ++ [y])[k]? = some (vChunk bV bD bJ bM ⟨l1, l2, l3, l4, l5, l6, l7⟩ ep sl br) := fun y => by
    rw [List.getElem?_append_left (List.getElem?_eq_some_iff.1 hk).1]; exact hk
  refine Tri.mono (h0 _ (hk2 _)) ?_
  rintro v _ _ hJ ⟨rfl, rfl, rfl⟩
  refine LoadD.own k (hk2 _) [.int .i64 l1, .int .i64 l2, .int .i64 l3, .int .i64 l4, .int .i64 l5, .int .i64 l6, .int .i64 l7] rfl rfl ?_
  refine StoreD.one S.length (last_get S _) (by show 0 + 7 ≤ 7; omega) (.inr (.inr (Nat.le_refl _))) ?_
  rw [last_set]
  refine LoadD.own S.length (last_get S _) [.int .i64 l1, .int .i64 l2, .int .i64 l3, .int .i64 l4, .int .i64 l5, .int .i64 l6, .int .i64 l7] rfl rfl ?_
  exact Done.mk ⟨_, Drop.init _ _, rfl, rfl, rfl⟩
theorem vk_Layout {I : Imm} {bV bD : Nat} {v : VSt} {ch : List Blk} (h : Vk I bV bD v ch) : Tri Tryz.prog 29 #[.pointer (some ⟨bV, 0, none⟩)] I [ch] fun r J S' => r = v.j.lay.v ∧ I = J ∧ S' = [ch] := by
  obtain ⟨bJ, bM, ob, chJ, gs, rfl, hj, hM, hg, hp⟩ := h
  refine Tri.abs (S2 := [vChunk bV bD bJ bM v.j.lay v.epoch v.slot v.broken, [(bM, ob)], chJ]) (vk_lay ..) (v_Layout2 bV bD bJ bM v.j.lay v.epoch v.slot v.broken I _ 0 rfl) ?_
  rintro r _ _ hJ ⟨rfl, rfl, rfl⟩
  exact ⟨_, Drop.flat (vk_lay ..).symm, rfl, rfl, rfl⟩
theorem newC_slots (n : Nat) : slotsOf (List.replicate n none) = (newC n).slots := by unfold slotsOf newC; rw [List.map_replicate]; rfl
theorem ck_New {I : Imm} {bV bD : Nat} {v : VSt} {chV : List Blk} (hV : Vk I bV bD v chV) (hlay : v.j.lay = layOf 64) (n : Int) :
    Tri Tryz.prog 59 #[.pointer (some ⟨bV, 0, none⟩), .int .i64 n] I [chV] fun r J S' => I = J ∧
      ((¬ (1 ≤ n ∧ n ≤ 64) ∧ r = .tuple #[.pointer none, .int .i64 2] ∧ S' = [chV]) ∨ (1 ≤ n ∧ n ≤ 64 ∧ ∃ bC ch, r = .tuple #[.pointer (some ⟨bC, 0, none⟩), .int .i64 0] ∧ Ck J bC bV (newC n.toNat) ch ∧ S' = [chV, ch])) := by
  refine Tri.drop ?_ (fun _ _ _ _ h => h)
  have hL := vk_Layout hV
  rw [hlay] at hL
  refine Tri.of (args := [.pointer (some ⟨bV, 0, none⟩), .int .i64 n]) tabOk Tryz.func59 rfl (by kernel_rfl) (by kernel_rfl) ?_
  refine Tri.nf hL ?_
  rintro r _ _ hJ ⟨rfl, rfl, rfl⟩
  refine lay_cmp (layOf 64) ⟨0, 0, 0, 0, 0, 0, 0⟩ rfl (.inl rfl) rfl rfl ?_
  refine CmpD.no (by decide) ?_
  refine CmpD.split (fun (c1 : n < 1) => ?_) (fun (c1 : ¬ n < 1) => ?_)
  · exact Done.mk ⟨_, Drop.refl _, rfl, .inl ⟨by omega, rfl, rfl⟩⟩
  refine CmpD.split (fun (c2 : 64 < n) => ?_) (fun (c2 : ¬ 64 < n) => ?_)
  · exact Done.mk ⟨_, Drop.refl _, rfl, .inl ⟨by omega, rfl, rfl⟩⟩
  obtain ⟨m, rfl⟩ : ∃ m : Nat, n = m := ⟨n.toNat, by omega⟩
  refine makeD tabOk rfl rfl rfl m m rfl rfl (Nat.le_refl _) (by show 8 * m ≤ _; omega) (by omega) (by show m * 1 ≤ _; omega) rfl (by decide) ?_
  intro bS
  conv => whnf
  intro bC
  have hl : (List.replicate m (none : Option BufM)).length = m := List.length_replicate
  refine Done.mk ⟨[chV, cChunk bC bV bS (List.replicate m (none : Option BufM)).length 0 ++ (sChunk bS (List.replicate m none) ++ bufs (List.replicate m none))], ?_, rfl, .inr ⟨by omega, by omega, bC, _, rfl, ⟨bS, List.replicate m none, by rw [Int.toNat_natCast]; rfl, by rw [Int.toNat_natCast]; exact newC_slots m, (fun x hx => by have := List.eq_of_mem_replicate hx; cases this), by rw [hl]; omega, by rw [hl]; omega, by rw [hl]; show 0 < m; omega⟩, rfl⟩⟩
  rw [hl, bufs_rep]
  unfold sChunk
  rw [rows_map]
  refine ⟨[], ?_⟩
  simp only [List.flatten_cons, List.flatten_nil, List.append_nil, List.append_assoc]
  refine List.Perm.append_left _ ?_
  exact List.Perm.swap _ _ _
theorem openJ_we {ep sq t0 : Nat} {d : DSt} {k : Nat} (hep : 1 ≤ ep ∧ ep ≤ 8388608) (hsq : 1 ≤ sq ∧ sq ≤ 549755813888) (ht : t0 < 16) (hc : d.Calm) (hw : d.Wf) (hl : d.now.length = 64) (hf : d.Few k) : WE ep t0 sq (openJ 64 ep sq t0) d [] k :=
  ⟨rfl, layL_64', by show (t0 : Int) = _; omega, rfl, rfl, rfl, hep, by show (sq : Int) = ((sq + 0 : Nat) : Int); simp, hsq.1, rfl, rfl, openJ_wf 64 (by omega) ⟨rfl, by omega, by omega, by omega, by omega, by omega, by rw [layL_64']; omega⟩, hc, hw, hl, hf, by simp [usedP], fun i hi => by simp at hi, fun o ho => by simp [ringB] at ho⟩
theorem v0_wv : WV 2 0 1 v0 dV [] 24 :=
  ⟨openJ_we (by omega) (by omega) (by omega) (dz_calm _ _ _) (dz_wf (supL_length _) (supL_length _) _) (zL_length _ _) (dz_few _ _ 24), rfl, .inl rfl, rfl, by intro g hg; simp at hg, rfl⟩
theorem v0_cur {n : Int} (h : 2 ≤ n ∧ n < 64) : v0.cur dV n = noughts := by
  show (zL _ _).getD n.toNat [] = _
  rw [List.getD_eq_getElem?_getD, zL_get _ _ _ (by omega) (by omega)]; rfl
/-- a cache upon a calm volume of 64 blocks -/
structure CWld (J : Imm) (bD bV bC : Nat) (c : CSt) (v : VSt) (d : DSt) (S : St) (k : Nat) : Prop where
  ex : ∃ chC chV chD, S = [chC, chV, chD] ∧ Ck J bC bV c chC ∧ Vk J bV bD v chV ∧ Dk J bD d chD
  w : ∃ ep t0 sq ls, WV ep t0 sq v d ls k
theorem law12_fresh (I : Imm) (n : Int) (hn : 1 ≤ n ∧ n ≤ 64) : Tri Tryz.prog 58 #[.int .i64 n] I [] fun r J S' => ∃ bD bV bC, r = .tuple #[.pointer (some ⟨bD, 0, none⟩), .pointer (some ⟨bV, 0, none⟩), .pointer (some ⟨bC, 0, none⟩), .bool true] ∧ ∃ chC chV chD, S' = [chC, chV, chD] ∧ Ck J bC bV (newC n.toNat) chC ∧ Vk J bV bD v0 chV ∧ Dk J bD dV chD := by
  refine Tri.drop ?_ (fun _ _ _ _ h => h)
  refine Tri.of (args := [.int .i64 n]) tabOk Tryz.func58 rfl (by kernel_rfl) (by kernel_rfl) ?_
  refine Tri.frameX (dk_New I 64 (by omega)) [] rfl rfl ?_
  rintro r J1 A' hJ1 ⟨bD, chD, rfl, hD, rfl⟩
  repeat (first | refine CmpD.yes rfl ?_)
  refine Tri.frame1 0 rfl (vk_Format hD ((DSt.of_few _).mono (by omega))) ?_
  rw [format_new]
  rintro r J2 A' hJ2 ⟨rfl, chD2, hD2, rfl⟩
  refine ⟨_, rfl, ?_⟩
  repeat (first | refine CmpD.yes rfl ?_)
  have hf : (dz (supL ⟨64, 1, 1, 0⟩) noughts 23).Few 700000 := (dz_few _ _ 23).mono (by omega)
  refine Tri.frameX (vk_Mount hD2 hf) [0] rfl rfl ?_
  rw [show mountP (dz (supL ⟨64, 1, 1, 0⟩) noughts 23) = (dV, 0, some v0) from mount_first]
  rintro r J3 A' hJ3 ⟨chD3, hD3, (⟨h, _⟩ | ⟨_, v, bV, chV, hv, rfl, hV, rfl⟩)⟩
  · exact absurd rfl h
  cases hv
  repeat (first | refine CmpD.yes rfl ?_)
  refine Tri.frameX (ck_New hV rfl n) [2] rfl rfl ?_
  rintro r _ A' hJ4 ⟨rfl, (⟨h, _⟩ | ⟨_, _, bC, chC, rfl, hC, rfl⟩)⟩
  · exact absurd hn h
  repeat (first | refine CmpD.yes rfl ?_)
  exact Done.mk ⟨_, Drop.pick [4, 3, 1] _ rfl, bD, bV, bC, rfl, chC, chV, chD3, rfl, hC, hV, hD3⟩
/-- is a block loaded, and what is held then so? -/
theorem law12_load {I : Imm} {bC bV bD : Nat} {c : CSt} {chC : List Blk} (hC : Ck I bC bV c chC) {v : VSt} {chV : List Blk} (hV : Vk I bV bD v chV) {d : DSt} {chD : List Blk} (hD : Dk I bD d chD) (hfew : ∀ g ∈ v.fresh, g.2.length ≤ 1000000) (n : Int)
    (hrd : (v.read d n).2 = 0 → 0 ≤ n ∧ n ≤ 1000000 ∧ (v.read d n).1.length ≤ 1000000) (hl2 : (c.load v d n).1.slots.length ≤ 12) (aH : Option Addr) (lH capH : Nat) (z : List Int) (hH : Rds I aH lH (ints z)) :
    Tri Tryz.prog 65 #[.pointer (some ⟨bC, 0, none⟩), .int .i64 n, .slice aH lH capH] I [chC, chV, chD] fun r J S' => r = .bool (decide ((c.load v d n).2.2 = 0 ∧ (c.load v d n).1.which (fun _ => true) = z)) ∧ I.le J ∧ ∃ chC', Ck J bC bV (c.load v d n).1 chC' ∧ S' = [chC', chV, chD] := by
  refine Tri.drop ?_ (fun _ _ _ _ h => h)
  refine Tri.of (args := [.pointer (some ⟨bC, 0, none⟩), .int .i64 n, .slice aH lH capH]) tabOk Tryz.func65 rfl (by kernel_rfl) (by kernel_rfl) ?_
  refine Tri.nf (ck_Load hC hV hD hfew n hrd) ?_
  generalize c.load v d n = L at *
  obtain ⟨c2, x, e⟩ := L
  dsimp only at hl2 ⊢
  rintro r J A' hJ ⟨a, cap, chB, chC2, rfl, hB, hle, hC2, rfl⟩
  skip
  refine CmpD.split (fun (c1 : e = 0) => ?_) (fun (c1 : ¬ e = 0) => ?_)
  rotate_left
  · rw [decide_eq_false (fun h => c1 h.1)]
    skip
    exact Done.mk ⟨_, Drop.pick [0, 1, 2] _ rfl, rfl, hle, chC2, hC2, rfl⟩
  skip
  refine Tri.frame (ck_Held hC2 hl2) [0] rfl rfl ?_
  rintro r _ A' hJ2 ⟨rfl, a2, cap2, chO, rfl, hO, rfl⟩
  refine ⟨by simp, ?_⟩
  skip
  refine Tri.pack ?_
  refine Tri.mono (same_ints _ J a2 aH _ lH cap2 capH _ z ((hO.slC1 4 rfl).pack) ((hH.mono hle).slC) ?_) ?_
  · have : (c2.which (fun _ => true)).length ≤ 12 := by
      unfold CSt.which
      rw [(sortI_perm _).length_eq, List.length_map]
      have h1 := List.length_filter_le (fun _ : Buf => true) c2.held
      have h2 : c2.held.length ≤ c2.slots.length := List.length_filterMap_le ..
      omega
    omega
  rintro r _ _ hJ3 ⟨b, rfl, hb, rfl, rfl⟩
  refine ⟨[], by simp, ?_⟩
  have e1 : b = decide (e = 0 ∧ c2.which (fun _ => true) = z) := by
    cases b with
    | true => exact (decide_eq_true ⟨c1, hb.1 rfl⟩).symm
    | false => exact (decide_eq_false (fun h => by have := hb.2 h.2; cases this)).symm
  rw [← e1]
  skip
  exact Done.mk ⟨_, Drop.pick [0, 1, 2] _ rfl, rfl, hle, chC2, hC2, rfl⟩
end Go.Proofs.YtegdcjnjnoeinaaGreat
namespace Go.Proofs.YtegdcjnjnoeinaaGreat
open Go.RowKit Go.Sl
set_option maxRecDepth 20000

theorem load_miss {c c' : CSt} {v : VSt} {d : DSt} {n : Int} {x : Dat} {i : Nat} (hg : c.got n = none) (hr : v.read d n = (x, 0)) (hroom : c.room = (c', some i)) :
    c.load v d n = (⟨c'.slots.set i (some ⟨n, x, 0, false, true⟩), c'.hand⟩, x, 0) := by
  unfold CSt.load
  rw [hg, hr, hroom]
  simp
theorem load_busy {c c' : CSt} {v : VSt} {d : DSt} {n : Int} {x : Dat} (hg : c.got n = none) (hr : v.read d n = (x, 0)) (hroom : c.room = (c', none)) : c.load v d n = (c', [], 130) := by
  unfold CSt.load
  rw [hg, hr, hroom]
  simp
theorem which_eq {c : CSt} {p : Buf → Bool} {z : List Int} (h : ((c.held.filter p).map Buf.n).Perm z) (hs : z.Pairwise (· ≤ ·)) : c.which p = z := by
  unfold CSt.which
  exact List.Perm.eq_of_pairwise (le := fun a b => a ≤ b) (fun _ _ _ _ h1 h2 => Int.le_antisymm h1 h2) (sortI_le _) hs ((sortI_perm _).trans h)
section
variable {I : Imm} {bC bV bD : Nat} {c : CSt} {chC : List Blk} (hC : Ck I bC bV c chC) (hl : c.slots.length ≤ 12) {v : VSt} {chV : List Blk} (hV : Vk I bV bD v chV) {d : DSt} {chD : List Blk} (hD : Dk I bD d chD)
include hC hl hV hD
/-- a block loaded that is there: the slice of what is held lies in a chunk of its own -/
theorem load_ok {ep t0 sq k : Nat} {ls : List (List PImg)} (hw : WV ep t0 sq v d ls k) {n : Int} (hn : 18 ≤ n ∧ n < 64) {c2 : CSt} {x : Dat} (hL : c.load v d n = (c2, x, 0)) (hl2 : c2.slots.length ≤ 12) {z : List Int} (_hz : z.length ≤ 12) (hwh : c2.which (fun _ => true) = z)
    (bH : Nat) {T : TypeId} : Tri Tryz.prog 65 #[.pointer (some ⟨bC, 0, none⟩), .int .i64 n, .slice (some ⟨bH, 0, none⟩) z.length z.length] I [chC, chV, chD, [(bH, row (ints z) T)]] fun r J S' => r = .bool true ∧ I.le J ∧ ∃ chC', Ck J bC bV c2 chC' ∧ S' = [chC', chV, chD, []] := by
  have _h12 := hl
  refine Tri.fix 3 rfl fun I2 hI2 hm => ?_
  have hH : Rds I2 (some ⟨bH, 0, none⟩) z.length (ints z) := ⟨by simp [ints], .inr ⟨bH, 0, _, _, _, rfl, hm _ (List.mem_singleton.2 rfl), by rw [List.drop_zero, List.take_of_length_le (by simp [ints])]⟩⟩
  have hr := hw.read (n := n) (by omega)
  have hfew : ∀ g ∈ v.fresh, g.2.length ≤ 1000000 := fun g hg => by have := hw.fresh_len g hg; omega
  have hcur : (v.cur d n).length ≤ 1000000 := by
    unfold VSt.cur
    cases h : v.fresh.lookup n with
    | some b => have := hw.fresh_len _ (lookup_mem h); dsimp only at this ⊢; omega
    | none =>
      have : n.toNat < d.now.length := by rw [hw.e.len]; omega
      have := hw.e.dwf.now (d.now.getD n.toNat []) (by rw [List.getD_eq_getElem?_getD, List.getElem?_eq_getElem this]; exact List.getElem_mem _)
      dsimp only; omega
  have hT := law12_load (hC.mono hI2) (hV.mono hI2) (hD.mono hI2) hfew n (fun _ => ⟨by omega, by omega, by rw [hr]; exact hcur⟩) (by rw [hL]; exact hl2) (some ⟨bH, 0, none⟩) z.length z.length z hH
  rw [hL] at hT
  dsimp only at hT
  rw [decide_eq_true ⟨rfl, hwh⟩] at hT
  refine Tri.frame hT [0, 1, 2] rfl rfl ?_
  rintro r J A' hJ ⟨rfl, hle, chC', hC', rfl⟩
  exact ⟨Nat.le_refl _, rfl, Imm.le_trans hI2 hle, chC', hC', rfl⟩
end
/-- a buffer of a block -/
@[reducible] def bf (n : Int) (x : Dat) (p : Int) (dd m : Bool) : Option Buf := some ⟨n, x, p, dd, m⟩
set_option maxHeartbeats 4000000 in
theorem awake12 (I : Imm) (S : St) : Tri Tryz.prog 72 #[] I S fun v _ _ => v = .bool true := by
  refine Tri.free (Q := fun v _ _ => v = .bool true) ?_ (fun v J _ _ h => h)
  refine Tri.of (args := []) tabOk Tryz.func72 rfl (by kernel_rfl) (by kernel_rfl) ?_
  refine Tri.frameX (law12_fresh I 2 (by omega)) [] rfl rfl ?_
  rintro r J1 A' hJ1 ⟨bD, bV, bC, rfl, chC, chV, chD, rfl, hC, hV, hD⟩
  have hrd : ∀ n : Int, 18 ≤ n ∧ n < 64 → v0.read dV n = (noughts, 0) := fun n hn => by rw [v0_wv.read (by omega), v0_cur (by omega)]
  obtain ⟨N, hN⟩ : ∃ N, N = noughts := ⟨_, rfl⟩
  rw [← hN] at hrd
  skip
  have hle0 : J1.le J1 := Imm.le_refl _
  have L1 : CSt.load (newC (Int.toNat 2)) v0 dV 30 = (⟨[bf 30 N 0 false true, none], 0⟩, N, 0) := load_miss (c' := ⟨[none, none], 0⟩) (i := 0) (by kernel_rfl) (hrd 30 (by omega)) (by kernel_rfl)
  conv => whnf
  intro bH1
  refine Tri.frame (load_ok hC (by show 2 ≤ 12; decide) (hV.mono hle0) (hD.mono hle0) v0_wv (n := 30) (by omega) L1 (by show 2 ≤ 12; decide) (z := [30]) (by decide) (which_eq (by show [30].Perm [30]; decide) (by decide)) bH1) [0, 1, 2, 3] rfl rfl ?_
  rintro r J A' hJ ⟨rfl, hle, chC1, hC1, rfl⟩
  have hle1 := Imm.le_trans hle0 hle
  clear hle hJ
  refine ⟨Nat.le_refl _, ?_⟩
  skip
  have L2 : CSt.load ⟨[bf 30 N 0 false true, none], 0⟩ v0 dV 31 = (⟨[bf 30 N 0 false true, bf 31 N 0 false true], 0⟩, N, 0) := load_miss (c' := ⟨[bf 30 N 0 false true, none], 0⟩) (i := 1) (by kernel_rfl) (hrd 31 (by omega)) (by kernel_rfl)
  conv => whnf
  intro bH2
  refine Tri.frame (load_ok hC1 (by show 2 ≤ 12; decide) (hV.mono hle1) (hD.mono hle1) v0_wv (n := 31) (by omega) L2 (by show 2 ≤ 12; decide) (z := [30, 31]) (by decide) (which_eq (by show [30, 31].Perm [30, 31]; decide) (by decide)) bH2) [0, 1, 2, 4] rfl rfl ?_
  rintro r J A' hJ ⟨rfl, hle, chC2, hC2, rfl⟩
  have hle2 := Imm.le_trans hle1 hle
  clear hle hJ
  refine ⟨Nat.le_refl _, ?_⟩
  skip
  have L3 : CSt.load ⟨[bf 30 N 0 false true, bf 31 N 0 false true], 0⟩ v0 dV 32 = (⟨[bf 32 N 0 false true, bf 31 N 0 false false], 1⟩, N, 0) := load_miss (c' := ⟨[none, bf 31 N 0 false false], 1⟩) (i := 0) (by kernel_rfl) (hrd 32 (by omega)) (by kernel_rfl)
  conv => whnf
  intro bH3
  refine Tri.frame (load_ok hC2 (by show 2 ≤ 12; decide) (hV.mono hle2) (hD.mono hle2) v0_wv (n := 32) (by omega) L3 (by show 2 ≤ 12; decide) (z := [31, 32]) (by decide) (which_eq (by show [32, 31].Perm [31, 32]; decide) (by decide)) bH3) [0, 1, 2, 5] rfl rfl ?_
  rintro r J A' hJ ⟨rfl, hle, chC3, hC3, rfl⟩
  have hle3 := Imm.le_trans hle2 hle
  clear hle hJ
  refine ⟨Nat.le_refl _, ?_⟩
  skip
  refine Tri.frame1 0 rfl (ck_Pin hC3 31) ?_
  rw [show CSt.pin ⟨[bf 32 N 0 false true, bf 31 N 0 false false], 1⟩ 31 = (⟨[bf 32 N 0 false true, bf 31 N 1 false false], 1⟩, 0) from by kernel_rfl]
  rintro r J4 A' hJ4 ⟨rfl, chC4, hC4, rfl⟩
  refine ⟨_, rfl, ?_⟩
  have hle4 := Imm.le_trans hle3 hJ4
  repeat (first | refine CmpD.yes rfl ?_)
  have L5 : CSt.load ⟨[bf 32 N 0 false true, bf 31 N 1 false false], 1⟩ v0 dV 33 = (⟨[bf 33 N 0 false true, bf 31 N 1 false false], 1⟩, N, 0) := load_miss (c' := ⟨[none, bf 31 N 1 false false], 1⟩) (i := 0) (by kernel_rfl) (hrd 33 (by omega)) (by kernel_rfl)
  conv => whnf
  intro bH5
  refine Tri.frame (load_ok hC4 (by show 2 ≤ 12; decide) (hV.mono hle4) (hD.mono hle4) v0_wv (n := 33) (by omega) L5 (by show 2 ≤ 12; decide) (z := [31, 33]) (by decide) (which_eq (by show [33, 31].Perm [31, 33]; decide) (by decide)) bH5) [0, 1, 2, 6] rfl rfl ?_
  rintro r J A' hJ ⟨rfl, hle, chC5, hC5, rfl⟩
  have hle5 := Imm.le_trans hle4 hle
  clear hle hJ
  refine ⟨Nat.le_refl _, ?_⟩
  skip
  refine Tri.free (made 1 4096 (by omega) _) ?_
  rintro r J6 _ hJ6 ⟨aM, rfl, hM⟩
  obtain ⟨M, hMe⟩ : ∃ M, M = madeL 1 4096 := ⟨_, rfl⟩
  have hMl : M.length = 4096 := by rw [hMe]; exact madeL_length _ _
  rw [← hMe] at hM
  skip
  refine Tri.frame1 0 rfl (ck_Put (hC5.mono hJ6) 33 aM 4096 4096 M hM) ?_
  have P6 : CSt.putD ⟨[bf 33 N 0 false true, bf 31 N 1 false false], 1⟩ 33 M = (⟨[bf 33 M 0 true true, bf 31 N 1 false false], 1⟩, 0) := by
    show (if M.length ≠ 4096 then _ else _) = _
    rw [if_neg (by omega)]; kernel_rfl
  rw [P6]
  rintro r J7 A' hJ7 ⟨rfl, chC7, hC7, rfl⟩
  refine ⟨_, rfl, ?_⟩
  have hle7 := Imm.le_trans hle5 (Imm.le_trans hJ6 hJ7)
  repeat (first | refine CmpD.yes rfl ?_)
  have L8 : CSt.load ⟨[bf 33 M 0 true true, bf 31 N 1 false false], 1⟩ v0 dV 34 = (⟨[bf 33 M 0 true true, bf 31 N 1 false false], 1⟩, [], 130) := load_busy (c' := ⟨[bf 33 M 0 true true, bf 31 N 1 false false], 1⟩) (by kernel_rfl) (hrd 34 (by omega)) (by kernel_rfl)
  refine Tri.frame (ck_Load hC7 (hV.mono hle7) (hD.mono hle7) (by intro g hg; simp [v0] at hg) 34 (fun _ => ⟨by omega, by omega, by rw [hrd 34 (by omega), hN, noughts_length]; omega⟩)) [0, 1, 2] rfl rfl ?_
  rw [L8]
  rintro r J8 A' hJ8 ⟨a8, cap8, chB8, chC8, rfl, _, _, hC8, rfl⟩
  refine ⟨by simp, ?_⟩
  have hle8 := Imm.le_trans hle7 hJ8
  skip
  obtain ⟨v9, d9, t9, s9, l9, hcm, w9, _, hcur9⟩ := v0_wv.commit (l := [(33, M)]) (of_home64 (by intro g hg; simp at hg; subst hg; dsimp only; omega)) ⟨by omega, by omega, by decide, by decide, by show 1 ≤ 1; decide, by show 1 ≤ 32; decide, by intro g hg; simp at hg; subst hg; dsimp only; omega, by simp⟩ (by show 1 + 1 ≤ 16; decide)
  refine Tri.frame (ck_Commit hC8 (by show 2 ≤ 12; decide) (by show [(33 : Int), 31].Nodup; decide) (hV.mono hle8) v0_wf rfl (by show (0 : Int) ≤ 0 ∧ (0 : Int) ≤ 1; omega) (by show 0 ≤ 1000; omega) (by show 0 ≤ _; omega) (hD.mono hle8) ((dz_few _ _ 24).mono (by omega))) [0, 1, 2] rfl rfl ?_
  have C9 : CSt.commit ⟨[bf 33 M 0 true true, bf 31 N 1 false false], 1⟩ v0 dV = (⟨[bf 33 M 0 false true, bf 31 N 1 false false], 1⟩, v9, d9, 1, 0) := by
    have hd : CSt.dirtyL ⟨[bf 33 M 0 true true, bf 31 N 1 false false], 1⟩ = [⟨33, M, 0, true, true⟩] := List.mergeSort_singleton _
    unfold CSt.commit
    rw [hd]
    simp only [List.map_cons, List.map_nil]
    rw [hcm]
    simp
    rfl
  rw [C9]
  dsimp only
  rintro r J9 A' hJ9 ⟨rfl, hle9', chC9, chV9, chD9, hC9, hV9, hD9, rfl⟩
  refine ⟨by simp, ?_⟩
  have hrd9 : ∀ n : Int, n = 34 → v9.read d9 n = (N, 0) := by
    rintro n rfl
    rw [w9.read (by omega), hcur9 34 (by omega) (by omega), v0_cur (by omega), hN]; rfl
  have hle9 := Imm.le_refl J9
  repeat (first | refine CmpD.yes rfl ?_)
  have L10 : CSt.load ⟨[bf 33 M 0 false true, bf 31 N 1 false false], 1⟩ v9 d9 34 = (⟨[bf 34 N 0 false true, bf 31 N 1 false false], 1⟩, N, 0) := load_miss (c' := ⟨[none, bf 31 N 1 false false], 1⟩) (i := 0) (by kernel_rfl) (hrd9 34 rfl) (by kernel_rfl)
  conv => whnf
  intro bH10
  refine Tri.frame (load_ok hC9 (by show 2 ≤ 12; decide) (hV9.mono hle9) (hD9.mono hle9) w9 (n := 34) (by omega) L10 (by show 2 ≤ 12; decide) (z := [31, 34]) (by decide) (which_eq (by show [34, 31].Perm [31, 34]; decide) (by decide)) bH10) [0, 1, 2, 8] rfl rfl ?_
  rintro r J A' hJ ⟨rfl, hle, chC10, hC10, rfl⟩
  have hle10 := Imm.le_trans hle9 hle
  clear hle hJ
  refine ⟨Nat.le_refl _, ?_⟩
  skip
  refine Tri.frame1 0 rfl (ck_Unpin hC10 30) ?_
  rw [show CSt.unpin ⟨[bf 34 N 0 false true, bf 31 N 1 false false], 1⟩ 30 = (⟨[bf 34 N 0 false true, bf 31 N 1 false false], 1⟩, 2) from by kernel_rfl]
  rintro r J11 A' hJ11 ⟨rfl, chC11, hC11, rfl⟩
  refine ⟨_, rfl, ?_⟩
  repeat (first | refine CmpD.yes rfl ?_)
  exact Done.mk rfl
end Go.Proofs.YtegdcjnjnoeinaaGreat
namespace Go.Proofs.YtegdcjnjnoeinaaGreat
open Go.RowKit Go.Sl
set_option maxRecDepth 20000

set_option maxHeartbeats 4000000 in
theorem marks12 (I : Imm) (S : St) : Tri Tryz.prog 71 #[] I S fun v _ _ => v = .bool true := by
  refine Tri.free (Q := fun v _ _ => v = .bool true) ?_ (fun v J _ _ h => h)
  refine Tri.of (args := []) tabOk Tryz.func71 rfl (by kernel_rfl) (by kernel_rfl) ?_
  refine Tri.frameX (law12_fresh I 3 (by omega)) [] rfl rfl ?_
  rintro r J1 A' hJ1 ⟨bD, bV, bC, rfl, chC, chV, chD, rfl, hC, hV, hD⟩
  have hrd : ∀ n : Int, 18 ≤ n ∧ n < 64 → v0.read dV n = (noughts, 0) := fun n hn => by rw [v0_wv.read (by omega), v0_cur (by omega)]
  obtain ⟨N, hN⟩ : ∃ N, N = noughts := ⟨_, rfl⟩
  have hNl : N.length = 4096 := by rw [hN]; exact noughts_length
  rw [← hN] at hrd
  skip
  have hle0 : J1.le J1 := Imm.le_refl _
  have L1 : CSt.load (newC (Int.toNat 3)) v0 dV 30 = (⟨[bf 30 N 0 false true, none, none], 0⟩, N, 0) := load_miss (c' := ⟨[none, none, none], 0⟩) (i := 0) (by kernel_rfl) (hrd 30 (by omega)) (by kernel_rfl)
  conv => whnf
  intro bH1
  refine Tri.frame (load_ok hC (by show 3 ≤ 12; decide) (hV.mono hle0) (hD.mono hle0) v0_wv (n := 30) (by omega) L1 (by show 3 ≤ 12; decide) (z := [30]) (by decide) (which_eq (by show [30].Perm [30]; decide) (by decide)) bH1) [0, 1, 2, 3] rfl rfl ?_
  rintro r J A' hJ ⟨rfl, hle, chC1, hC1, rfl⟩
  have hle1 := Imm.le_trans hle0 hle
  clear hle hJ
  refine ⟨Nat.le_refl _, ?_⟩
  skip
  have L2 : CSt.load ⟨[bf 30 N 0 false true, none, none], 0⟩ v0 dV 31 = (⟨[bf 30 N 0 false true, bf 31 N 0 false true, none], 0⟩, N, 0) := load_miss (c' := ⟨[bf 30 N 0 false true, none, none], 0⟩) (i := 1) (by kernel_rfl) (hrd 31 (by omega)) (by kernel_rfl)
  conv => whnf
  intro bH2
  refine Tri.frame (load_ok hC1 (by show 3 ≤ 12; decide) (hV.mono hle1) (hD.mono hle1) v0_wv (n := 31) (by omega) L2 (by show 3 ≤ 12; decide) (z := [30, 31]) (by decide) (which_eq (by show [30, 31].Perm [30, 31]; decide) (by decide)) bH2) [0, 1, 2, 4] rfl rfl ?_
  rintro r J A' hJ ⟨rfl, hle, chC2, hC2, rfl⟩
  have hle2 := Imm.le_trans hle1 hle
  clear hle hJ
  refine ⟨Nat.le_refl _, ?_⟩
  skip
  have L3 : CSt.load ⟨[bf 30 N 0 false true, bf 31 N 0 false true, none], 0⟩ v0 dV 32 = (⟨[bf 30 N 0 false true, bf 31 N 0 false true, bf 32 N 0 false true], 0⟩, N, 0) := load_miss (c' := ⟨[bf 30 N 0 false true, bf 31 N 0 false true, none], 0⟩) (i := 2) (by kernel_rfl) (hrd 32 (by omega)) (by kernel_rfl)
  conv => whnf
  intro bH3
  refine Tri.frame (load_ok hC2 (by show 3 ≤ 12; decide) (hV.mono hle2) (hD.mono hle2) v0_wv (n := 32) (by omega) L3 (by show 3 ≤ 12; decide) (z := [30, 31, 32]) (by decide) (which_eq (by show [30, 31, 32].Perm [30, 31, 32]; decide) (by decide)) bH3) [0, 1, 2, 5] rfl rfl ?_
  rintro r J A' hJ ⟨rfl, hle, chC3, hC3, rfl⟩
  have hle3 := Imm.le_trans hle2 hle
  clear hle hJ
  refine ⟨Nat.le_refl _, ?_⟩
  skip
  have L4 : CSt.load ⟨[bf 30 N 0 false true, bf 31 N 0 false true, bf 32 N 0 false true], 0⟩ v0 dV 33 = (⟨[bf 33 N 0 false true, bf 31 N 0 false false, bf 32 N 0 false false], 1⟩, N, 0) := load_miss (c' := ⟨[none, bf 31 N 0 false false, bf 32 N 0 false false], 1⟩) (i := 0) (by kernel_rfl) (hrd 33 (by omega)) (by kernel_rfl)
  conv => whnf
  intro bH4
  refine Tri.frame (load_ok hC3 (by show 3 ≤ 12; decide) (hV.mono hle3) (hD.mono hle3) v0_wv (n := 33) (by omega) L4 (by show 3 ≤ 12; decide) (z := [31, 32, 33]) (by decide) (which_eq (by show [33, 31, 32].Perm [31, 32, 33]; decide) (by decide)) bH4) [0, 1, 2, 6] rfl rfl ?_
  rintro r J A' hJ ⟨rfl, hle, chC4, hC4, rfl⟩
  have hle4 := Imm.le_trans hle3 hle
  clear hle hJ
  refine ⟨Nat.le_refl _, ?_⟩
  skip
  refine makeH tabOk rfl rfl rfl 4096 4096 rfl rfl (Nat.le_refl _) (by show 1 * 4096 ≤ _; decide) (by decide) (by show 4096 * 1 ≤ _; decide) rfl (by decide) ?_
  intro bN NB hNB
  skip
  refine Tri.fix 7 rfl fun I5 hI5 hNm => ?_
  have hNR : Rds I5 (some ⟨bN, 0, none⟩) 4096 (bts N) := by
    rw [hN, noughts_bts]
    exact Rds.of_own (cap := 4096) (by rw [hNB]; show OwnC [(bN, row (rows 4096 [Value.int .u8 0]) _)] 1 _ _ _ _; exact OwnC.whole (by rw [rows_length]; rfl)) hNm
  refine Tri.frame1 0 rfl (ck_Put (hC4.mono hI5) 31 (some ⟨bN, 0, none⟩) 4096 4096 N hNR) ?_
  have P5 : CSt.putD ⟨[bf 33 N 0 false true, bf 31 N 0 false false, bf 32 N 0 false false], 1⟩ 31 N = (⟨[bf 33 N 0 false true, bf 31 N 0 true true, bf 32 N 0 false false], 1⟩, 0) := by
    show (if N.length ≠ 4096 then _ else _) = _
    rw [if_neg (by omega)]; kernel_rfl
  rw [P5]
  rintro r J6 A' hJ6 ⟨rfl, chC5, hC5, rfl⟩
  refine ⟨_, rfl, ?_⟩
  have hle6 := Imm.le_trans hle4 (Imm.le_trans hI5 hJ6)
  repeat (first | refine CmpD.yes rfl ?_)
  obtain ⟨v9, d9, t9, s9, l9, hcm, w9, _, hcur9⟩ := v0_wv.commit (l := [(31, N)]) (of_home64 (by intro g hg; simp at hg; subst hg; dsimp only; omega)) ⟨by omega, by omega, by decide, by decide, by show 1 ≤ 1; decide, by show 1 ≤ 32; decide, by intro g hg; simp at hg; subst hg; dsimp only; omega, by simp⟩ (by show 1 + 1 ≤ 16; decide)
  refine Tri.frame (ck_Commit hC5 (by show 3 ≤ 12; decide) (by show [(33 : Int), 31, 32].Nodup; decide) (hV.mono hle6) v0_wf rfl (by show (0 : Int) ≤ 0 ∧ (0 : Int) ≤ 1; omega) (by show 0 ≤ 1000; omega) (by show 0 ≤ _; omega) (hD.mono hle6) ((dz_few _ _ 24).mono (by omega))) [0, 1, 2] rfl rfl ?_
  have C9 : CSt.commit ⟨[bf 33 N 0 false true, bf 31 N 0 true true, bf 32 N 0 false false], 1⟩ v0 dV = (⟨[bf 33 N 0 false true, bf 31 N 0 false true, bf 32 N 0 false false], 1⟩, v9, d9, 1, 0) := by
    have hd : CSt.dirtyL ⟨[bf 33 N 0 false true, bf 31 N 0 true true, bf 32 N 0 false false], 1⟩ = [⟨31, N, 0, true, true⟩] := List.mergeSort_singleton _
    unfold CSt.commit
    rw [hd]
    simp only [List.map_cons, List.map_nil]
    rw [hcm]
    simp
    rfl
  rw [C9]
  dsimp only
  rintro r J9 A' hJ9 ⟨rfl, hle9', chC9, chV9, chD9, hC9, hV9, hD9, rfl⟩
  refine ⟨by simp, ?_⟩
  have hrd9 : ∀ n : Int, n = 34 → v9.read d9 n = (N, 0) := by
    rintro n rfl
    rw [w9.read (by omega), hcur9 34 (by omega) (by omega), v0_cur (by omega), hN]; rfl
  have hle9 := Imm.le_refl J9
  repeat (first | refine CmpD.yes rfl ?_)
  have L10 : CSt.load ⟨[bf 33 N 0 false true, bf 31 N 0 false true, bf 32 N 0 false false], 1⟩ v9 d9 34 = (⟨[bf 33 N 0 false true, bf 31 N 0 false false, bf 34 N 0 false true], 0⟩, N, 0) := load_miss (c' := ⟨[bf 33 N 0 false true, bf 31 N 0 false false, none], 0⟩) (i := 2) (by kernel_rfl) (hrd9 34 rfl) (by kernel_rfl)
  conv => whnf
  intro bH10
  refine Tri.frame (load_ok hC9 (by show 3 ≤ 12; decide) (hV9.mono hle9) (hD9.mono hle9) w9 (n := 34) (by omega) L10 (by show 3 ≤ 12; decide) (z := [31, 33, 34]) (by decide) (which_eq (by show [33, 31, 34].Perm [31, 33, 34]; decide) (by decide)) bH10) [0, 1, 2, 8] rfl rfl ?_
  rintro r J A' hJ ⟨rfl, hle, chC10, hC10, rfl⟩
  have hle10 := Imm.le_trans hle9 hle
  clear hle hJ
  refine ⟨Nat.le_refl _, ?_⟩
  skip
  exact Done.mk rfl
end Go.Proofs.YtegdcjnjnoeinaaGreat
namespace Go.Proofs.YtegdcjnjnoeinaaGreat
open Go.RowKit Go.Sl
set_option maxRecDepth 20000

end Go.Proofs.YtegdcjnjnoeinaaGreat
namespace Go.Proofs.YtegdcjnjnoeinaaGreat
open Go.RowKit Go.Sl
set_option maxRecDepth 20000

def VNone (I : Imm) (vv : Value) : Prop := vv = .pointer none ∨ ∃ b, vv = .pointer (some ⟨b, 0, none⟩) ∧ I b = some (row [.pointer none, .int .i64 0, .int .i64 0, .int .i64 0, .int .i64 0, .int .i64 0, .int .i64 0, .int .i64 0, .pointer none, .int .i64 0, .int .i64 0, .map none, .bool false] 49)
theorem vn_none (I : Imm) (S : St) (vv : Value) (hv : VNone I vv) : Tri Tryz.prog 97 #[vv] I S fun v J S' => v = .bool true ∧ I = J ∧ S' = S := by
  rcases hv with rfl | ⟨b, rfl, hb⟩
  · refine Tri.of (args := [.pointer none]) tabOk Tryz.func97 rfl (by kernel_rfl) (by kernel_rfl) ?_
    exact Done.mk ⟨rfl, rfl, rfl⟩
  · refine Tri.of (args := [.pointer (some ⟨b, 0, none⟩)]) tabOk Tryz.func97 rfl (by kernel_rfl) (by kernel_rfl) ?_
    refine LoadD.imm hb [.pointer none] rfl rfl ?_
    exact Done.mk ⟨rfl, rfl, rfl⟩
theorem vn_Layout (I : Imm) (vv : Value) (hv : VNone I vv) : Tri Tryz.prog 29 #[vv] I [] fun v J _ => v = layV 0 0 0 0 0 0 0 ∧ I = J := by
  have hv2 := hv
  rcases hv with rfl | ⟨b, rfl, hb⟩
  · refine Tri.of (args := [.pointer none]) tabOk Tryz.func29 rfl (by kernel_rfl) (by kernel_rfl) ?_
    conv => whnf
    intro b1
    skip
    refine Tri.mono (vn_none I _ _ hv2) ?_
    rintro r _ _ hJ ⟨rfl, rfl, rfl⟩
    repeat (first | refine LoadD.own 0 rfl _ rfl rfl ?_ | refine StoreD.st 0 rfl rfl rfl ?_)
    exact Done.mk ⟨rfl, rfl⟩
  · refine Tri.of (args := [.pointer (some ⟨b, 0, none⟩)]) tabOk Tryz.func29 rfl (by kernel_rfl) (by kernel_rfl) ?_
    conv => whnf
    intro b1
    skip
    refine Tri.mono (vn_none I _ _ hv2) ?_
    rintro r _ _ hJ ⟨rfl, rfl, rfl⟩
    repeat (first | refine LoadD.own 0 rfl _ rfl rfl ?_ | refine StoreD.st 0 rfl rfl rfl ?_)
    exact Done.mk ⟨rfl, rfl⟩
end Go.Proofs.YtegdcjnjnoeinaaGreat
namespace Go.Proofs.YtegdcjnjnoeinaaGreat
open Go.RowKit Go.Sl
set_option maxRecDepth 20000

theorem new_nil (I : Imm) (n : Int) : Tri Tryz.prog 59 #[.pointer none, .int .i64 n] I [] fun r J _ => r = .tuple #[.pointer none, .int .i64 1] ∧ I = J := by
  refine Tri.of (args := [.pointer none, .int .i64 n]) tabOk Tryz.func59 rfl (by kernel_rfl) (by kernel_rfl) ?_
  refine Tri.free (vn_Layout I _ (.inl rfl)) ?_
  rintro r _ _ hJ ⟨rfl, rfl⟩
  refine lay_cmp ⟨0, 0, 0, 0, 0, 0, 0⟩ ⟨0, 0, 0, 0, 0, 0, 0⟩ rfl (.inl rfl) rfl rfl ?_
  refine CmpD.yes rfl ?_
  exact Done.mk ⟨rfl, rfl⟩
/-- a row of noughts, made and fixed -/
theorem noughts_rds {J : Imm} {b : Nat} {NB : List Blk} (hNB : NB = [(b, row (rows 4096 [Value.int .u8 0]) 5)]) (hm : ∀ x ∈ NB, J x.1 = some x.2) : Rds J (some ⟨b, 0, none⟩) 4096 (bts noughts) := by
  rw [noughts_bts]
  exact Rds.of_own (cap := 4096) (by rw [hNB]; exact OwnC.whole (by rw [rows_length]; rfl)) hm
theorem rds_small {J : Imm} {b : Nat} {T : TypeId} {z : List Int} {n : Nat} (hn : z.length = n) (h : J b = some (row (ints z) T)) : Rds J (some ⟨b, 0, none⟩) n (ints z) :=
  ⟨by simp [ints, hn], .inr ⟨b, 0, _, _, _, rfl, h, by rw [List.drop_zero, List.take_of_length_le (by simp [ints, hn])]⟩⟩
/-- SameInts of a list that lies in a chunk of its own, and one that is fixed -/
theorem same_own {I : Imm} {ch : List Blk} {a a2 : Option Addr} {n n2 cap cap2 : Nat} {z z2 : List Int} (hO : OwnC ch 1 a n cap (ints z)) (h2 : Rds I a2 n2 (ints z2)) (hn : n ≤ 1000000) :
    Tri Tryz.prog 67 #[.slice a n cap, .slice a2 n2 cap2] I [ch] fun r J S' => r = .bool (decide (z = z2)) ∧ I = J ∧ S' = [ch] := by
  refine Tri.mono (same_ints ch I a a2 n n2 cap cap2 z z2 (hO.slC1 0 rfl) h2.slC (by omega)) ?_
  rintro r J S' hJ ⟨b, rfl, hb, rfl, rfl⟩
  refine ⟨?_, rfl, rfl⟩
  cases b with
  | true => rw [decide_eq_true (hb.1 rfl)]
  | false => rw [decide_eq_false (fun h => by have := hb.2 h; cases this)]
theorem v0_read64 : v0.read dV 64 = ([], 70) := by
  unfold VSt.read
  rw [if_neg (by simp [v0])]
  show dV.read 64 = _
  unfold DSt.read
  have : dV.now.length = 64 := zL_length _ _
  rw [this]
  decide
set_option maxHeartbeats 8000000 in
theorem cacheNumbers_walk {I : Imm} : Tri Tryz.prog 10 #[] I [] fun v _ _ => v = .bool true := by
  refine Tri.of (args := []) tabOk Tryz.func10 rfl (by kernel_rfl) (by kernel_rfl) ?_
  refine Tri.frameX (law12_fresh I 1 (by omega)) [] rfl rfl ?_
  rintro r J1 A' hJ1 ⟨bD, bV, bC, rfl, chC, chV, chD, rfl, hC, hV, hD⟩
  have hrd : ∀ n : Int, 18 ≤ n ∧ n < 64 → v0.read dV n = (noughts, 0) := fun n hn => by rw [v0_wv.read (by omega), v0_cur (by omega)]
  obtain ⟨N, hN⟩ : ∃ N, N = noughts := ⟨_, rfl⟩
  have hNl : N.length = 4096 := by rw [hN]; exact noughts_length
  rw [← hN] at hrd
  have hfr : ∀ g ∈ v0.fresh, g.2.length ≤ 1000000 := by intro g hg; simp [v0] at hg
  skip
  refine Tri.free (new_nil J1 1) ?_
  rintro r _ _ hJ ⟨rfl, rfl⟩
  skip
  refine Tri.frame (ck_New hV rfl 0) [1] rfl rfl ?_
  rintro r _ A' hJ ⟨rfl, (⟨_, rfl, rfl⟩ | ⟨h, _⟩)⟩
  rotate_left
  · omega
  refine ⟨Nat.le_refl _, ?_⟩
  skip
  refine Tri.frame (ck_New hV rfl 65) [1] rfl rfl ?_
  rintro r _ A' hJ ⟨rfl, (⟨_, rfl, rfl⟩ | ⟨_, h, _⟩)⟩
  rotate_left
  · omega
  refine ⟨Nat.le_refl _, ?_⟩
  skip
  refine Tri.frame (ck_New hV rfl 64) [1] rfl rfl ?_
  rintro r _ A' hJ ⟨rfl, (⟨h, _⟩ | ⟨_, _, bX, chX, rfl, hX, rfl⟩)⟩
  · exact absurd ⟨by omega, by omega⟩ h
  refine ⟨by simp, ?_⟩
  skip
  have L0 : CSt.load (newC (Int.toNat 1)) v0 dV 64 = (newC 1, [], 70) := by
    unfold CSt.load
    rw [show CSt.got (newC (Int.toNat 1)) 64 = none from by kernel_rfl, v0_read64]
    rfl
  refine Tri.frame (ck_Load hC hV hD hfr 64 (fun h => by rw [v0_read64] at h; cases h)) [0, 1, 2] rfl rfl ?_
  rw [L0]
  rintro r J2 A' hJ2 ⟨a8, cap8, chB8, chC2, rfl, _, _, hC2, rfl⟩
  refine ⟨by simp, ?_⟩
  skip
  have C0 : CSt.commit (newC 1) v0 dV = (newC 1, v0, dV, 0, 0) := by
    unfold CSt.commit
    rw [if_pos]
    exact List.mergeSort_nil
  refine Tri.frame (ck_Commit hC2 (by show 1 ≤ 12; decide) (by show ([] : List Int).Nodup; decide) (hV.mono hJ2) v0_wf rfl (by show (0 : Int) ≤ 0 ∧ (0 : Int) ≤ 1; omega) (by show 0 ≤ 1000; omega) (by show 0 ≤ _; omega) (hD.mono hJ2) ((dz_few _ _ 24).mono (by omega))) [0, 1, 2] rfl rfl ?_
  rw [C0]
  dsimp only
  rintro r J3 A' hJ3 ⟨rfl, _, chC3, chV3, chD3, hC3, hV3, hD3, rfl⟩
  refine ⟨by simp, ?_⟩
  repeat (first | refine CmpD.yes rfl ?_)
  refine Tri.frame1 0 rfl (ck_Pin hC3 30) ?_
  rw [show CSt.pin (newC 1) 30 = (newC 1, 2) from by kernel_rfl]
  rintro r J4 A' hJ4 ⟨rfl, chC4, hC4, rfl⟩
  refine ⟨_, rfl, ?_⟩
  repeat (first | refine CmpD.yes rfl ?_)
  refine makeH tabOk rfl rfl rfl 4096 4096 rfl rfl (Nat.le_refl _) (by show 1 * 4096 ≤ _; decide) (by decide) (by show 4096 * 1 ≤ _; decide) rfl (by decide) ?_
  intro bN NB hNB
  skip
  refine Tri.fix 5 rfl fun I5 hI5 hNm => ?_
  refine Tri.frame1 0 rfl (ck_Put (hC4.mono hI5) 30 (some ⟨bN, 0, none⟩) 4096 4096 noughts (noughts_rds hNB hNm)) ?_
  rw [show CSt.putD (newC 1) 30 noughts = (newC 1, 2) from rfl]
  rintro r J6 A' hJ6 ⟨rfl, chC6, hC6, rfl⟩
  refine ⟨_, rfl, ?_⟩
  repeat (first | refine CmpD.yes rfl ?_)
  refine Tri.frame1 0 rfl (ck_Drop hC6 30) ?_
  rw [show CSt.drop (newC 1) 30 = (newC 1, 2) from by kernel_rfl]
  rintro r J7 A' hJ7 ⟨rfl, chC7, hC7, rfl⟩
  refine ⟨_, rfl, ?_⟩
  have hle7 : J3.le J7 := Imm.le_trans hJ4 (Imm.le_trans hI5 (Imm.le_trans hJ6 hJ7))
  repeat (first | refine CmpD.yes rfl ?_)
  have L1 : CSt.load (newC 1) v0 dV 30 = (⟨[bf 30 N 0 false true], 0⟩, N, 0) := load_miss (c' := ⟨[none], 0⟩) (i := 0) (by kernel_rfl) (hrd 30 (by omega)) (by kernel_rfl)
  conv => whnf
  intro bH
  refine Tri.frame (load_ok hC7 (by show 1 ≤ 12; decide) (hV3.mono hle7) (hD3.mono hle7) v0_wv (n := 30) (by omega) L1 (by show 1 ≤ 12; decide) (z := [30]) (by decide) (which_eq (by show [30].Perm [30]; decide) (by decide)) bH) [0, 1, 2, 6] rfl rfl ?_
  rintro r J8 A' hJ8 ⟨rfl, hle, chC8, hC8, rfl⟩
  refine ⟨Nat.le_refl _, ?_⟩
  skip
  refine Tri.frame1 0 rfl (ck_Put hC8 30 none 0 0 [] ⟨rfl, .inl rfl⟩) ?_
  rw [show CSt.putD ⟨[bf 30 N 0 false true], 0⟩ 30 [] = (⟨[bf 30 N 0 false true], 0⟩, 2) from by kernel_rfl]
  rintro r J9 A' hJ9 ⟨rfl, chC9, hC9, rfl⟩
  refine ⟨_, rfl, ?_⟩
  repeat (first | refine CmpD.yes rfl ?_)
  refine Tri.frame1 0 rfl (ck_Unpin hC9 30) ?_
  rw [show CSt.unpin ⟨[bf 30 N 0 false true], 0⟩ 30 = (⟨[bf 30 N 0 false true], 0⟩, 2) from by kernel_rfl]
  rintro r J10 A' hJ10 ⟨rfl, chC10, hC10, rfl⟩
  refine ⟨_, rfl, ?_⟩
  have hle10 : J3.le J10 := Imm.le_trans hle7 (Imm.le_trans hJ8 (Imm.le_trans hJ9 hJ10))
  repeat (first | refine CmpD.yes rfl ?_)
  refine CodeF.loopD [3, 17, 18] (fun vs J' S' => ∃ (i : Nat) (chC' : List Blk), i ≤ 1000 ∧ Ck J' bC bV ⟨[bf 30 N i false true], 0⟩ chC' ∧ J3.le J' ∧ vs = [.pointer (some ⟨bC, 0, none⟩), .bool true, .int .i64 i] ∧ S' = [chC', chV3, chD3])
    (fun vs _ _ => match vs with | [_, _, .int _ i] => ((1000 : Int) - i).toNat | _ => 0) ?_ ?_
  · exact ⟨_, Drop.pick [0, 1, 2] _ rfl, 0, chC10, by omega, hC10, hle10, rfl, rfl⟩
  clear hC10 hle10 hC9 hC8 hC7 hC6 hC4
  rintro vs gE J S' hJ ⟨i, chC', hi, hC', hle, rfl, rfl⟩
  refine CmpD.split (fun (c1 : (i : Int) < 1000) => ?_) (fun (c1 : ¬ (i : Int) < 1000) => ?_)
  · refine Tri.frame1 0 rfl (ck_Pin hC' 30) ?_
    have P : CSt.pin ⟨[bf 30 N i false true], 0⟩ 30 = (⟨[bf 30 N ((i + 1 : Nat) : Int) false true], 0⟩, 0) := by
      show (if (i : Int) = 1000 then _ else _) = _
      rw [if_neg (by omega)]; kernel_rfl
    rw [P]
    rintro r J2 A' hJ2 ⟨rfl, chC2, hC2, rfl⟩
    refine ⟨_, rfl, ?_⟩
    repeat (first | refine CmpD.yes rfl ?_)
    refine ToD.to (((i + 1 : Nat)) : Int) (by rw [wrap_i64 (by omega) (by omega)]; omega) ?_
    refine ⟨_, Drop.refl _, ⟨i + 1, chC2, by omega, hC2, Imm.le_trans hle hJ2, rfl, rfl⟩, ?_⟩
    show ((1000 : Int) - ((i + 1 : Nat) : Int)).toNat < ((1000 : Int) - (i : Int)).toNat; omega
  obtain rfl : i = 1000 := by omega
  refine Tri.frame1 0 rfl (ck_Pin hC' 30) ?_
  rw [show CSt.pin ⟨[bf 30 N ((1000 : Nat) : Int) false true], 0⟩ 30 = (⟨[bf 30 N 1000 false true], 0⟩, 5) from by kernel_rfl]
  rintro r J11 A' hJ11 ⟨rfl, chC11, hC11, rfl⟩
  refine ⟨_, rfl, ?_⟩
  repeat (first | refine CmpD.yes rfl ?_)
  refine Tri.frame1 0 rfl (ck_Drop hC11 30) ?_
  rw [show CSt.drop ⟨[bf 30 N 1000 false true], 0⟩ 30 = (⟨[bf 30 N 1000 false true], 0⟩, 130) from by kernel_rfl]
  rintro r J12 A' hJ12 ⟨rfl, chC12, hC12, rfl⟩
  refine ⟨_, rfl, ?_⟩
  repeat (first | refine CmpD.yes rfl ?_)
  have W1 : CSt.which ⟨[bf 30 N 1000 false true], 0⟩ (fun b => decide (0 < b.pins)) = [30] := which_eq (by show [30].Perm [30]; decide) (by decide)
  refine Tri.frame (ck_Pinned hC12 (by show 1 ≤ 12; decide)) [0] rfl rfl ?_
  rintro r _ A' hJ ⟨rfl, aP, capP, chP, rfl, hP, rfl⟩
  rw [W1] at hP ⊢
  refine ⟨by simp, ?_⟩
  skip
  conv => whnf
  intro bH2
  refine Tri.fix 4 rfl fun I13 hI13 hm13 => ?_
  refine Tri.frame1 3 rfl (same_own hP (rds_small (z := [30]) rfl (hm13 _ (List.mem_singleton.2 rfl))) (by show 1 ≤ 1000000; decide)) ?_
  rw [decide_eq_true rfl]
  rintro r _ A' hJ ⟨rfl, rfl, rfl⟩
  refine ⟨_, rfl, ?_⟩
  have hle13 : J3.le I13 := Imm.le_trans hle (Imm.le_trans hJ11 (Imm.le_trans hJ12 hI13))
  skip
  refine CodeF.loopD [3, 17, 19, 20] (fun vs J' S' => ∃ (i : Nat) (chC' : List Blk), i ≤ 1000 ∧ Ck J' bC bV ⟨[bf 30 N (1000 - (i : Int)) false true], 0⟩ chC' ∧ J3.le J' ∧ vs = [.pointer (some ⟨bC, 0, none⟩), .bool true, .bool true, .int .i64 i] ∧ S' = [chC', chV3, chD3])
    (fun vs _ _ => match vs with | [_, _, _, .int _ i] => ((1000 : Int) - i).toNat | _ => 0) ?_ ?_
  · exact ⟨_, Drop.pick [0, 1, 2] _ rfl, 0, chC12, by omega, hC12.mono hI13, hle13, rfl, rfl⟩
  clear hC12 hle13 hC11 hC' hP
  rintro vs gE2 J S' hJ ⟨i, chC', hi, hC', hle, rfl, rfl⟩
  refine CmpD.split (fun (c1 : (i : Int) < 1000) => ?_) (fun (c1 : ¬ (i : Int) < 1000) => ?_)
  · refine Tri.frame1 0 rfl (ck_Unpin hC' 30) ?_
    have P : CSt.unpin ⟨[bf 30 N (1000 - (i : Int)) false true], 0⟩ 30 = (⟨[bf 30 N (1000 - ((i + 1 : Nat) : Int)) false true], 0⟩, 0) := by
      have e : (1000 - (i : Int)) - 1 = 1000 - ((i + 1 : Nat) : Int) := by omega
      have hh : CSt.unpin ⟨[bf 30 N (1000 - (i : Int)) false true], 0⟩ 30 = (⟨[bf 30 N ((1000 - (i : Int)) - 1) false true], 0⟩, 0) := by
        show (if (1000 - (i : Int)) = 0 then _ else _) = _
        rw [if_neg (by omega)]; kernel_rfl
      rw [e] at hh
      exact hh
    rw [P]
    rintro r J2 A' hJ2 ⟨rfl, chC2, hC2, rfl⟩
    refine ⟨_, rfl, ?_⟩
    skip
    refine ToD.to (((i + 1 : Nat)) : Int) (by rw [wrap_i64 (by omega) (by omega)]; omega) ?_
    refine ⟨_, Drop.refl _, ⟨i + 1, chC2, by omega, hC2, Imm.le_trans hle hJ2, rfl, rfl⟩, ?_⟩
    show ((1000 : Int) - ((i + 1 : Nat) : Int)).toNat < ((1000 : Int) - (i : Int)).toNat; omega
  obtain rfl : i = 1000 := by omega
  rw [show (1000 : Int) - ((1000 : Nat) : Int) = 0 by decide] at hC'
  have W2 : CSt.which ⟨[bf 30 N 0 false true], 0⟩ (fun b => decide (0 < b.pins)) = [] := which_eq (by show ([] : List Int).Perm []; decide) (by decide)
  refine Tri.frame (ck_Pinned hC' (by show 1 ≤ 12; decide)) [0] rfl rfl ?_
  rintro r _ A' hJ ⟨rfl, aP, capP, chP, rfl, hP, rfl⟩
  rw [W2] at hP ⊢
  refine ⟨by simp, ?_⟩
  repeat (first | refine CmpD.yes rfl ?_)
  refine Tri.free (made 2 4096 (by omega) _) ?_
  rintro r J14 _ hJ14 ⟨aM, rfl, hM⟩
  obtain ⟨M, hMe⟩ : ∃ M, M = madeL 2 4096 := ⟨_, rfl⟩
  have hMl : M.length = 4096 := by rw [hMe]; exact madeL_length _ _
  rw [← hMe] at hM
  skip
  refine Tri.frame1 0 rfl (ck_Put (hC'.mono hJ14) 30 aM 4096 4096 M hM) ?_
  have P6 : CSt.putD ⟨[bf 30 N 0 false true], 0⟩ 30 M = (⟨[bf 30 M 0 true true], 0⟩, 0) := by
    show (if M.length ≠ 4096 then _ else _) = _
    rw [if_neg (by omega)]; kernel_rfl
  rw [P6]
  rintro r J15 A' hJ15 ⟨rfl, chC15, hC15, rfl⟩
  refine ⟨_, rfl, ?_⟩
  repeat (first | refine CmpD.yes rfl ?_)
  have W3 : CSt.which ⟨[bf 30 M 0 true true], 0⟩ Buf.dirty = [30] := which_eq (by show [30].Perm [30]; decide) (by decide)
  refine Tri.frame (ck_Dirty hC15 (by show 1 ≤ 12; decide)) [0] rfl rfl ?_
  rintro r _ A' hJ ⟨rfl, aP2, capP2, chP2, rfl, hP2, rfl⟩
  rw [W3] at hP2 ⊢
  refine ⟨by simp, ?_⟩
  skip
  conv => whnf
  intro bH3
  refine Tri.fix 5 rfl fun I16 hI16 hm16 => ?_
  refine Tri.frame1 4 rfl (same_own hP2 (rds_small (z := [30]) rfl (hm16 _ (List.mem_singleton.2 rfl))) (by show 1 ≤ 1000000; decide)) ?_
  rw [decide_eq_true rfl]
  rintro r _ A' hJ ⟨rfl, rfl, rfl⟩
  refine ⟨_, rfl, ?_⟩
  skip
  refine Tri.frame1 0 rfl (ck_Drop (hC15.mono hI16) 30) ?_
  rw [show CSt.drop ⟨[bf 30 M 0 true true], 0⟩ 30 = (⟨[none], 0⟩, 0) from by kernel_rfl]
  rintro r J17 A' hJ17 ⟨rfl, chC17, hC17, rfl⟩
  refine ⟨_, rfl, ?_⟩
  repeat (first | refine CmpD.yes rfl ?_)
  have W4 : CSt.which ⟨[none], 0⟩ (fun _ => true) = [] := which_eq (by show ([] : List Int).Perm []; decide) (by decide)
  refine Tri.frame (ck_Held hC17 (by show 1 ≤ 12; decide)) [0] rfl rfl ?_
  rintro r _ A' hJ ⟨rfl, aP4, capP4, chP4, rfl, hP4, rfl⟩
  rw [W4] at hP4 ⊢
  refine ⟨by simp, ?_⟩
  have hle17 : J3.le J17 := Imm.le_trans hle (Imm.le_trans hJ14 (Imm.le_trans hJ15 (Imm.le_trans hI16 hJ17)))
  repeat (first | refine CmpD.yes rfl ?_)
  have L2 : CSt.load ⟨[none], 0⟩ v0 dV 30 = (⟨[bf 30 N 0 false true], 0⟩, N, 0) := load_miss (c' := ⟨[none], 0⟩) (i := 0) (by kernel_rfl) (hrd 30 (by omega)) (by kernel_rfl)
  refine Tri.frame (ck_Load hC17 (hV3.mono hle17) (hD3.mono hle17) hfr 30 (fun _ => ⟨by omega, by omega, by rw [hrd 30 (by omega), hNl]; omega⟩)) [0, 1, 2] rfl rfl ?_
  rw [L2]
  dsimp only
  rintro r J18 A' hJ18 ⟨aX, capX, chX, chC18, rfl, hX, hle18, hC18, rfl⟩
  refine ⟨by simp, ?_⟩
  rw [hNl] at hX ⊢
  repeat (first | refine CmpD.yes rfl ?_)
  refine makeH tabOk rfl rfl rfl 4096 4096 rfl rfl (Nat.le_refl _) (by show 1 * 4096 ≤ _; decide) (by decide) (by show 4096 * 1 ≤ _; decide) rfl (by decide) ?_
  intro bN2 NB2 hNB2
  skip
  refine Tri.fix 8 rfl fun I19 hI19 hNm2 => ?_
  have hNR := noughts_rds hNB2 hNm2
  refine Tri.mono (same_bytes (hX.slC1 7 rfl) hNR.slC) ?_
  rw [← hN, decide_eq_true rfl]
  rintro r _ _ hJ ⟨rfl, rfl, rfl⟩
  skip
  have hle19 := Imm.le_trans hle17 (Imm.le_trans hle18 hI19)
  refine CodeF.loopD [3, 17, 19, 21, 22, 24, 25] (fun vs J' S' => ∃ (i : Nat) (chX' : List Blk) (ws : List Value), i ≤ 4096 ∧ OwnC chX' 1 aX 4096 capX ws ∧ I19 = J' ∧ vs = [.pointer (some ⟨bC, 0, none⟩), .bool true, .bool true, .bool true, .slice aX 4096 capX, .bool true, .int .i64 i] ∧ S' = [chC18, chV3, chD3, chX'])
    (fun vs _ _ => match vs with | [_, _, _, _, _, _, .int _ i] => ((4096 : Int) - i).toNat | _ => 0) ?_ ?_
  · exact ⟨_, Drop.pick [0, 1, 2, 7] _ rfl, 0, chX, _, by omega, hX, rfl, rfl, rfl⟩
  clear hX
  rintro vs gE3 J S' hJ ⟨i, chX', ws, hi, hX', rfl, rfl, rfl⟩
  refine CmpD.split (fun (c1 : (i : Int) < 4096) => ?_) (fun (c1 : ¬ (i : Int) < 4096) => ?_)
  · have hwl := hX'.len1
    have hcl := hX'.le
    rcases hX'.at' with q0 | ⟨b, pr, po, T, rfl, rfl, hpo⟩
    · omega
    refine Chk.mk (by omega) ?_
    refine StoreD.to 3 rfl (pr ++ ws.set i (.int .u8 9) ++ po) (by show splice _ (pr.length + ((i : Nat) : Int).toNat) _ = _; rw [Int.toNat_natCast]; exact splice_set pr _ po _ _ (by omega)) (by show pr.length + ((i : Nat) : Int).toNat + 1 ≤ _; rw [Int.toNat_natCast, List.length_append, List.length_append]; omega) (.inr (.inr (Nat.le_refl _))) _ rfl ?_
    refine ToD.to (((i + 1 : Nat)) : Int) (by rw [wrap_i64 (by omega) (by omega)]; omega) ?_
    refine ⟨_, Drop.refl _, ⟨i + 1, _, ws.set i (.int .u8 9), by omega, ⟨by rw [List.length_set]; omega, hcl, .inr ⟨b, pr, po, T, rfl, rfl, hpo⟩⟩, rfl, rfl, rfl⟩, ?_⟩
    show ((4096 : Int) - ((i + 1 : Nat) : Int)).toNat < ((4096 : Int) - (i : Int)).toNat; omega
  have L3 : CSt.load ⟨[bf 30 N 0 false true], 0⟩ v0 dV 30 = (⟨[bf 30 N 0 false true], 0⟩, N, 0) := by kernel_rfl
  refine Tri.frame (ck_Load (hC18.mono hI19) (hV3.mono hle19) (hD3.mono hle19) hfr 30 (fun _ => ⟨by omega, by omega, by rw [hrd 30 (by omega), hNl]; omega⟩)) [0, 1, 2] rfl rfl ?_
  rw [L3]
  dsimp only
  rintro r J20 A' hJ20 ⟨aY, capY, chY, chC20, rfl, hY, hle20, hC20, rfl⟩
  refine ⟨by simp, ?_⟩
  rw [hNl] at hY ⊢
  repeat (first | refine CmpD.yes rfl ?_)
  refine makeH tabOk rfl rfl rfl 4096 4096 rfl rfl (Nat.le_refl _) (by show 1 * 4096 ≤ _; decide) (by decide) (by show 4096 * 1 ≤ _; decide) rfl (by decide) ?_
  intro bN3 NB3 hNB3
  skip
  refine Tri.fix 5 rfl fun I21 hI21 hNm3 => ?_
  have hNR3 := noughts_rds hNB3 hNm3
  refine Tri.mono (same_bytes (hY.slC1 4 rfl) hNR3.slC) ?_
  rw [← hN, decide_eq_true rfl]
  rintro r _ _ hJ ⟨rfl, rfl, rfl⟩
  skip
  refine Tri.mono (marks12 I21 _) ?_
  rintro r J22 S22 hJ22 rfl
  skip
  refine Tri.mono (awake12 J22 S22) ?_
  rintro r J23 S23 hJ23 rfl
  skip
  exact Done.mk rfl
end Go.Proofs.YtegdcjnjnoeinaaGreat

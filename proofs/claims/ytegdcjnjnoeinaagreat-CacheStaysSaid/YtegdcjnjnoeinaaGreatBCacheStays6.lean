/- Texts of this claim laid together: AwP, Img11, Awake11, We, Wv, Cach11, Awake12, StaysP, StaysW, CacheStays. -/
import Derived.Test.YtegdcjnjnoeinaaGreatBCacheStays5
import Derived.Test.YtegdcjnjnoeinaaGreatBCacheStays4
import Derived.Test.YtegdcjnjnoeinaaGreatBCacheStays1
import Derived.Test.YtegdcjnjnoeinaaGreatBCacheStays2
import Derived.Test.YtegdcjnjnoeinaaGreatBCacheStays3
namespace Go.Proofs.YtegdcjnjnoeinaaGreat
open Go.RowKit Go.Sl
set_option maxRecDepth 20000

theorem DSt.flush_calm {d : DSt} (h : d.Calm) : d.flush = ({ d with safe := d.now, writes := [] }, 0) := by
  unfold DSt.flush
  rw [DSt.stop_calm h]
  simp
/-- noughts over noughts -/
theorem blank_calm : ∀ (n k : Nat) (d : DSt), d.Calm → k + n ≤ d.now.length → (∀ i, k ≤ i → i < k + n → d.now[i]? = some noughts) → ∃ ws, blankP n k d = ({ d with writes := ws, count := d.count + n }, 0)
  | 0, k, d, _, _, _ => ⟨d.writes, by rw [blankP]; simp⟩
  | n + 1, k, d, hc, hl, hz => by
    have hw := DSt.write_calm hc (n := (k : Int)) (b := noughts) (by omega) noughts_length
    have hset : d.now.set k noughts = d.now := by
      apply List.ext_getElem?
      intro i
      by_cases hi : k = i
      · subst hi; rw [List.getElem?_set_self (by omega), hz k (by omega) (by omega)]
      · rw [List.getElem?_set_ne hi]
    have hput : d.put (k : Int) noughts = { d with writes := d.writes ++ [((k : Int), noughts)], count := d.count + 1 } := by
      show ({ d with now := d.now.set (k : Int).toNat noughts, writes := _, count := _ } : DSt) = _
      rw [Int.toNat_natCast, hset]
    obtain ⟨ws, ih⟩ := blank_calm n (k + 1) { d with writes := d.writes ++ [((k : Int), noughts)], count := d.count + 1 } hc (by show k + 1 + n ≤ d.now.length; omega) (fun i h1 h2 => hz i (by omega) (by omega))
    refine ⟨ws, ?_⟩
    rw [blankP, hw, if_neg (by simp)]
    show blankP n (k + 1) (d.put (k : Int) noughts) = _
    rw [hput, ih]
    show (({ d with writes := ws, count := d.count + 1 + n } : DSt), (0 : Int)) = _
    congr 2
    push_cast
    omega
/-- a disk of 64 blocks: two superblocks, and noughts -/
def zL (a b : Dat) : List Dat := a :: b :: List.replicate 62 noughts
def dz (a b : Dat) (c : Int) : DSt := ⟨zL a b, zL a b, [], c, false, ⟨false, 0⟩, ⟨false, 0⟩⟩
theorem zL_length (a b : Dat) : (zL a b).length = 64 := by simp [zL]
theorem dz_calm (a b : Dat) (c : Int) : (dz a b c).Calm := ⟨rfl, rfl, rfl⟩
theorem zL_get (a b : Dat) (i : Nat) (h : 2 ≤ i) (h2 : i < 64) : (zL a b)[i]? = some noughts := by
  obtain ⟨j, rfl⟩ : ∃ j, i = j + 2 := ⟨i - 2, by omega⟩
  show (List.replicate 62 noughts)[j]? = _
  rw [List.getElem?_replicate, if_pos (by omega)]
theorem dz_wf {a b : Dat} (ha : a.length = 4096) (hb : b.length = 4096) (c : Int) : (dz a b c).Wf := by
  have hm : ∀ x ∈ zL a b, x.length = 4096 := by
    intro x hx
    rcases List.mem_cons.1 hx with rfl | hx
    · exact ha
    rcases List.mem_cons.1 hx with rfl | hx
    · exact hb
    rw [(List.mem_replicate.1 hx).2]; exact noughts_length
  exact ⟨rfl, by show 1 ≤ (zL a b).length ∧ (zL a b).length ≤ 512; rw [zL_length]; omega, hm, hm, fun w hw => (List.not_mem_nil hw).elim, fun h => (Bool.false_ne_true h).elim, fun h => (Bool.false_ne_true h).elim⟩
theorem dz_few (a b : Dat) (c : Nat) : (dz a b c).Few c := ⟨Nat.zero_le _, by show (0 : Int) ≤ c; omega, by show (c : Int) ≤ c; omega⟩
theorem format_new : formatP (DSt.of (List.replicate 64 noughts)) = (dz (supL ⟨64, 1, 1, 0⟩) noughts 23, 0) := by
  have e0 : DSt.of (List.replicate 64 noughts) = dz noughts noughts 0 := rfl
  have hc := dz_calm noughts noughts 0
  have hl : (dz noughts noughts 0).now.length = 64 := zL_length _ _
  have hall : ∀ i, 1 ≤ i → i < 1 + 22 → (dz noughts noughts 0).now[i]? = some noughts := by
    intro i h1 h2
    by_cases h : i = 1
    · subst h; rfl
    · exact zL_get _ _ i (by omega) (by omega)
  rw [e0]
  generalize hd : dz noughts noughts 0 = d0 at *
  obtain ⟨ws, hb⟩ := blank_calm 22 1 d0 hc (by omega) hall
  unfold formatP
  rw [if_neg (by omega), hl, show (layOf ((64 : Nat) : Int)).d.toNat - 1 = 22 from by decide]
  unfold fmtS
  rw [hb]
  dsimp only
  have hc1 : ({ d0 with writes := ws, count := d0.count + (22 : Nat) } : DSt).Calm := hc
  rw [if_neg (by simp), DSt.flush_calm hc1]
  dsimp only
  rw [if_neg (by simp)]
  have hc2 : ({ d0 with safe := d0.now, writes := [], count := d0.count + (22 : Nat) } : DSt).Calm := hc
  rw [DSt.write_calm (d := { d0 with safe := d0.now, writes := [], count := d0.count + (22 : Nat) }) hc2 (n := 0) (b := supL ⟨(64 : Nat), 1, 1, 0⟩) (by show (0 : Int) ≤ 0 ∧ (0 : Int) < (d0.now.length : Nat); omega) (supL_length _)]
  dsimp only
  rw [if_neg (by simp), DSt.flush_calm (by exact hc)]
  subst hd
  rfl
theorem rb_dz (a b : Dat) (c : Int) (o : Nat) : rbP (dz a b c) 2 16 o = noughts := by
  unfold rbP
  show (zL a b).getD _ _ = _
  rw [List.getD_eq_getElem?_getD, zL_get a b _ (by omega) (by omega)]; rfl
theorem scan_dz (a b : Dat) (c : Int) (s : Sup) : scanL (dz a b c) s = [] := by
  rw [scanL64 (zL_length a b)]
  refine scan_stop ?_
  intro e q l h
  rw [grpP_none (by rw [rb_dz]; exact hd_noughts)] at h
  cases h
theorem do_empty {d : DSt} (hc : d.Calm) (_hw : d.writes = [] ∧ d.safe = d.now) {s : Sup} (hR : RightS s) (slot : Nat) (hs : slot ≤ 1) (hl : 2 ≤ d.now.length) : doP d [] s slot = ({ d with safe := d.now.set slot (supL s), now := d.now.set slot (supL s), writes := [], count := d.count + 1 }, 0) := by
  have hd : DoOk d [] := by intro g hg; simp at hg
  unfold doP
  rw [if_neg (by rintro (h | h | h | h); exact h hR; omega; omega; exact h hd)]
  rw [show wrImgs [] d = (d, 0) from rfl]
  dsimp only
  rw [if_neg (by simp), DSt.flush_calm hc]
  dsimp only
  rw [if_neg (by simp)]
  unfold lastWr
  have hc2 : ({ d with safe := d.now, writes := [] } : DSt).Calm := hc
  rw [DSt.write_calm hc2 (n := (slot : Int)) (b := supL s) (by show (0 : Int) ≤ slot ∧ (slot : Int) < d.now.length; omega) (supL_length _)]
  dsimp only
  rw [if_neg (by simp), DSt.flush_calm (by exact hc)]
  show (({ d with safe := d.now.set (slot : Int).toNat (supL s), now := d.now.set (slot : Int).toNat (supL s), writes := [], count := d.count + 1 } : DSt), (0 : Int)) = _
  rw [Int.toNat_natCast]
/-- mounting a disk whose ring is empty -/
theorem mount_dz {a b : Dat} {c : Int} {s : Sup} {slot : Nat} (hch : chooseP (getS a) (getS b) = (s, (slot : Int), true)) (hR : RightS s) (hb : s.blocks = 64) (ht : s.tail < 16) (he : s.epoch < 8388608) (hs : slot ≤ 1) :
    mountP (dz a b c) = (dz (if slot = 1 then supL ⟨64, s.epoch + 1, s.seq, s.tail⟩ else a) (if slot = 1 then b else supL ⟨64, s.epoch + 1, s.seq, s.tail⟩) (c + 1), 0, some ⟨openJ 64 (s.epoch + 1) s.seq s.tail, s.epoch + 1, slot, [], false⟩) := by
  obtain ⟨sb, se, sq, st⟩ := s
  obtain ⟨r1, r2, r3, r4, r5, r6, r7, r8⟩ := hR
  dsimp only at *
  subst hb
  have hl : (dz a b c).now.length = 64 := zL_length _ _
  have hf : foundP (dz a b c) = (⟨64, se, sq, st⟩, (slot : Int), 0) := by
    unfold foundP
    rw [if_neg (by show ¬ false = true; simp), hl]
    have e1 : (dz a b c).now.getD 0 [] = a := rfl
    have e2 : (dz a b c).now.getD 1 [] = b := rfl
    rw [e1, e2, hch]
    dsimp only
    rw [if_neg (by rintro (h | h | h | h); exact Bool.noConfusion h; exact h rfl; rw [show layL ((64 : Nat) : Int) = 16 from by decide] at h; omega; omega)]
  unfold mountP
  rw [if_neg (by omega), hf]
  dsimp only
  rw [if_neg (by simp), scan_dz]
  unfold mountL
  have h16 : (layL (((dz a b c).now.length : Nat) : Int)).toNat = 16 := by rw [hl]; decide
  rw [h16]
  have hpl : ((placeP 16 st.toNat [] : Nat) : Int) = st := by
    unfold placeP
    simp only [List.map_nil, List.sum_nil, Nat.add_zero]
    omega
  rw [if_neg (by rintro (h | h); exact h (by intro g hg; simp [allG] at hg); simp at h; omega)]
  rw [hpl]
  have hdo := do_empty (d := dz a b c) (dz_calm a b c) ⟨rfl, rfl⟩ (s := ⟨64, se + 1, sq + (([] : List G3).length : Nat), st⟩) ⟨by show (64 : Int) ≤ 64; decide, by show (64 : Int) ≤ 512; decide, by show 1 ≤ se + 1; omega, by show se + 1 ≤ 8388608; omega, by show 1 ≤ sq + ((0 : Nat) : Int); omega, by show sq + ((0 : Nat) : Int) ≤ 549755813888; omega, r7, r8⟩ (1 - slot) (by omega) (by omega)
  have hsl : ((1 - slot : Nat) : Int) = 1 - (slot : Int) := by omega
  rw [hsl] at hdo
  have hho : homeP (allG []) = [] := by
    have := homeP_len (allG [])
    simp [allG] at this
    exact this
  rw [hho, hdo]
  dsimp only
  rw [if_neg (by simp), hl]
  have hsq : sq + (([] : List G3).length : Int) = sq := by simp
  rw [hsq]
  rcases Nat.eq_or_lt_of_le hs with h | h
  · subst h
    simp only [if_true]
    rfl
  · obtain rfl : slot = 0 := by omega
    rw [if_neg (by decide), if_neg (by decide)]
    rfl
end Go.Proofs.YtegdcjnjnoeinaaGreat
namespace Go.Proofs.YtegdcjnjnoeinaaGreat
open Go.RowKit Go.Sl
set_option maxRecDepth 20000
end Go.Proofs.YtegdcjnjnoeinaaGreat
namespace Go.Proofs.YtegdcjnjnoeinaaGreat
open Go.RowKit Go.Sl
set_option maxRecDepth 20000

def sE (ep : Int) : Sup := ⟨64, ep, 1, 0⟩
theorem sE_right {ep : Int} (h : 1 ≤ ep ∧ ep ≤ 8388608) : RightS (sE ep) := ⟨by show (64 : Int) ≤ 64; decide, by show (64 : Int) ≤ 512; decide, h.1, h.2, by show (1 : Int) ≤ 1; decide, by show (1 : Int) ≤ 549755813888; decide, by show (0 : Int) ≤ 0; decide, by show (0 : Int) ≤ 511; decide⟩
theorem getS_noughts : getS noughts = none := by
  cases h : getS noughts with
  | none => rfl
  | some s =>
    have h2 := (getS_some.1 h).2
    have h3 := congrArg (·.head?) h2
    simp [supL, sup44, sup40, magicL, noughts] at h3
def v0 : VSt := ⟨openJ 64 2 1 0, 2, 0, [], false⟩
def dV : DSt := dz (supL (sE 1)) (supL (sE 2)) 24
theorem mount_first : mountP (dz (supL (sE 1)) noughts 23) = (dV, 0, some v0) := by
  have h := mount_dz (a := supL (sE 1)) (b := noughts) (c := 23) (s := sE 1) (slot := 0) (by rw [get_supL (sE_right (by omega)), getS_noughts]; rfl) (sE_right (by omega)) rfl (by show (0 : Int) < 16; decide) (by show (1 : Int) < 8388608; decide) (by omega)
  rw [if_neg (by decide), if_neg (by decide)] at h
  exact h
theorem v0_wf : v0.j.Wf := openJ_wf 64 (by omega) ⟨rfl, by omega, by omega, by omega, by omega, by omega, by rw [layL_64']; omega⟩
end Go.Proofs.YtegdcjnjnoeinaaGreat
namespace Go.Proofs.YtegdcjnjnoeinaaGreat
open Go.RowKit Go.Sl
set_option maxRecDepth 20000

/-- where the k-th block goes, of those from place o of a ring on -/
def rgAt (o : Nat) : Nat → Int := fun k => ((2 + (o + k) % 16 : Nat) : Int)
structure WE (ep t0 sq : Nat) (j : JSt) (d : DSt) (ls : List (List PImg)) (k : Nat) : Prop where
  lay : j.lay = layOf 64
  s : j.s = 16
  t : j.t = ((t0 % 16 : Nat) : Int)
  u : j.u = (usedP ls : Nat)
  h : j.h = 0
  epoch : j.epoch = ep
  epr : 1 ≤ ep ∧ ep ≤ 8388608
  next : j.next = ((sq + ls.length : Nat) : Int)
  pos : 1 ≤ sq
  groups : j.groups = grL sq ls
  broken : j.broken = false
  wf : j.Wf
  calm : d.Calm
  dwf : d.Wf
  len : d.now.length = 64
  few : d.Few k
  used : usedP ls ≤ 16
  right : ∀ (i : Nat) (h : i < ls.length), RightP ep ((sq + i : Nat) : Int) ls[i]
  ring : ∀ (o : Nat) (h : o < (ringB ep sq ls).length), rbP d 2 16 (t0 + o) = (ringB ep sq ls)[o]
section
variable {ep t0 sq : Nat} {j : JSt} {d : DSt} {ls : List (List PImg)} {k : Nat}
theorem WE.mono {m : Nat} (w : WE ep t0 sq j d ls k) (h : k ≤ m) : WE ep t0 sq j d ls m := { w with few := w.few.mono h }
theorem WE.room (w : WE ep t0 sq j d ls k) : Ok 16 ((t0 % 16 : Nat) : Int) (usedP ls : Nat) 0 := by
  have := w.wf.ring; rw [w.s, w.t, w.u, w.h] at this; exact this
theorem putP_lens {e s : Nat} {l : List PImg} (hR : RightP e s l) : ∀ b ∈ putP e s l, b.length = 4096 := putP_len (e := e) (s := s) hR.2.2.2.2.2.1 hR.lens
/-- a group that fits is appended -/
theorem WE.append (w : WE ep t0 sq j d ls k) {l : List PImg} (hR : RightP ep ((sq + ls.length : Nat) : Int) l) (hroom : usedP ls + (l.length + 1) ≤ 16) :
    ∃ j', j.appendB d l false = (j', wrD (rgAt (t0 + usedP ls)) (putP ep (sq + ls.length) l) 0 d, ((sq + ls.length : Nat) : Int), 0) ∧ WE ep t0 sq j' (wrD (rgAt (t0 + usedP ls)) (putP ep (sq + ls.length) l) 0 d) (ls ++ [l]) (k + 16) ∧ j'.synced = j.synced := by
  have hge := usedP_ge ls
  have hu := w.used
  have hll := hR.2.2.2.2.2.1
  have hR' : RightP j.epoch j.next l := by rw [w.epoch, w.next]; exact hR
  have hokd := w.room
  have hok := hokd
  unfold Ok at hok
  have hp : putS j.s j.t j.u j.h ((l.length : Int) + 1) (if false = true then (l.length : Int) + 1 else 0) = ((j.s, ((t0 % 16 : Nat) : Int), ((usedP ls : Nat) : Int) + ((l.length : Int) + 1), 0, 0), (((t0 % 16 : Nat) : Int) + (usedP ls : Nat)) % 16) := by
    rw [w.s, w.t, w.u, w.h]
    unfold putS
    rw [if_neg (by simp only [Bool.false_eq_true, if_false]; rintro (h | h | h | h | h); exact h hokd; omega; omega; omega; omega), if_neg (by simp only [Bool.false_eq_true, if_false]; omega)]
    simp only [Bool.false_eq_true, if_false, Int.sub_zero]
  have hlen16 : j.s + 2 ≤ d.now.length := by rw [w.s, w.len]; decide
  have hs1 : (l.length : Int) + 1 ≤ j.s := by rw [w.s]; omega
  have hgl : j.groups.length = ls.length := by rw [w.groups, grL_length]
  obtain ⟨j', a, f1, f2, f3, f4, f5, f6, f7, f8, f9, f10, w'⟩ := JSt.append_next w.wf (by rw [hgl]; omega) w.broken hR' hs1 w.calm hlen16 hp
  have hff : (fun k : Nat => (2 : Int) + ((((t0 % 16 : Nat) : Int) + (usedP ls : Nat)) % 16 + k) % j.s) = rgAt (t0 + usedP ls) := by
    funext k
    rw [w.s]; unfold rgAt; omega
  have he1 : j.epoch.toNat = ep := by rw [w.epoch]; rfl
  have he2 : j.next.toNat = sq + ls.length := by rw [w.next]; omega
  rw [hff, he1, he2, w.next] at a
  have hB := putP_lens (e := ep) (s := sq + ls.length) hR
  have hfl : ∀ k : Nat, (0 : Int) ≤ rgAt (t0 + usedP ls) k ∧ rgAt (t0 + usedP ls) k < d.now.length := by
    intro k
    rw [w.len]; unfold rgAt; omega
  refine ⟨j', a, ⟨by rw [f1, w.lay], by rw [f2, w.s], f3, by rw [f4, usedP_snoc]; omega, f5, by rw [f6, w.epoch], w.epr, by rw [f7, w.next, List.length_append]; show _ = (((sq + (ls.length + 1) : Nat)) : Int); omega, w.pos, by rw [f9, w.groups, w.next, grL_snoc], f10, w', wrD_calm _ _ _ _ w.calm, wrD_wf _ _ _ _ w.dwf w.calm hB hfl, by rw [wrD_len, w.len], ?_, by rw [usedP_snoc]; exact hroom, ?_, ?_⟩, f8⟩
  · have := wrD_few (rgAt (t0 + usedP ls)) (putP ep (sq + ls.length) l) 0 d _ w.few
    rw [putP_length] at this
    exact this.mono (by omega)
  · intro i hi
    rw [List.getElem_append]
    split
    · rename_i h; exact w.right i h
    · rename_i h
      simp only [List.length_append, List.length_singleton] at hi
      obtain rfl : i = ls.length := by omega
      simpa using hR
  · intro o ho
    have hrl := ringB_length ep ls sq
    have hsn := ringB_snoc ep ls sq l
    have hpl := putP_length ep (sq + ls.length) l
    obtain ⟨B, hBe⟩ : ∃ B, B = putP ep (sq + ls.length) l := ⟨_, rfl⟩
    rw [← hBe] at hpl hsn ⊢
    have ho2 : o < usedP ls + B.length := by rw [hsn, List.length_append, hrl] at ho; exact ho
    have e0 : (ringB ep sq (ls ++ [l]))[o]? = (ringB ep sq ls ++ B)[o]? := by rw [hsn]
    rw [List.getElem?_eq_getElem ho] at e0
    unfold rbP
    rw [List.getD_eq_getElem?_getD]
    have inj : ∀ k, k < B.length → (2 + (t0 + usedP ls + k) % 16 = 2 + (t0 + o) % 16 ↔ usedP ls + k = o) := by
      intro k hk; omega
    by_cases hin : usedP ls ≤ o
    · have := wrD_hit (fun k => 2 + (t0 + usedP ls + k) % 16) (2 + (t0 + o) % 16) B 0 d (o - usedP ls) (by omega) (by have := (inj (o - usedP ls) (by omega)).2 (by omega); simpa using this)
        (fun k' h1 h2 h3 => by have := (inj k' h2).1 (by simpa using h3); omega) (by rw [w.len]; omega)
      rw [show (rgAt (t0 + usedP ls)) = fun k => ((2 + (t0 + usedP ls + k) % 16 : Nat) : Int) from rfl, this]
      rw [List.getElem?_append_right (by omega), hrl, List.getElem?_eq_getElem (by omega)] at e0
      exact (Option.some.inj e0).symm
    · have := wrD_miss (fun k => 2 + (t0 + usedP ls + k) % 16) (2 + (t0 + o) % 16) B 0 d (fun k hk h3 => by have := (inj k hk).1 (by simpa using h3); omega)
      rw [show (rgAt (t0 + usedP ls)) = fun k => ((2 + (t0 + usedP ls + k) % 16 : Nat) : Int) from rfl, this]
      rw [List.getElem?_append_left (by omega), List.getElem?_eq_getElem (by omega)] at e0
      have hw := w.ring o (by omega)
      unfold rbP at hw
      rw [List.getD_eq_getElem?_getD] at hw
      rw [hw]
      exact (Option.some.inj e0).symm
theorem WE.flush (w : WE ep t0 sq j d ls k) :
    ∃ j', j.flush d = (j', { d with safe := d.now, writes := [] }, 0) ∧ WE ep t0 sq j' { d with safe := d.now, writes := [] } ls k ∧ j'.synced = j'.next - 1 := by
  obtain ⟨j', a, f1, f2, f3, f4, f5, f6, f7, f8, f9, f10, w'⟩ := JSt.flush_next w.wf w.broken w.calm
  have hc := w.calm
  have hdw : ({ d with safe := d.now, writes := [] } : DSt).Wf := by
    have := w.dwf.flush
    rwa [DSt.flush_calm w.calm] at this
  refine ⟨j', a, ⟨by rw [f1, w.lay], by rw [f2, w.s], by rw [f3, w.t], by rw [f4, w.u], by rw [f5, w.h], by rw [f6, w.epoch], w.epr, by rw [f7, w.next], w.pos, by rw [f9, w.groups], f10, w', hc, hdw, w.len, ?_, w.used, w.right, w.ring⟩, by rw [f8, f7]⟩
  obtain ⟨h1, h2, h3⟩ := w.few
  exact ⟨by simp, h2, h3⟩
/-- all groups are let go -/
theorem WE.release (w : WE ep t0 sq j d ls k) (hsy : j.synced = j.next - 1) :
    ∃ j', j.release j.synced = (j', 0) ∧ WE ep (t0 + usedP ls) (sq + ls.length) j' d [] k ∧ j'.synced = j.synced := by
  have hu := w.used
  cases ls with
  | nil =>
    have hr : relAll j.synced j.groups j.s j.t j.u j.h = ([], (16, ((t0 % 16 : Nat) : Int), 0, 0, 0)) := by
      rw [w.groups, w.s, w.t, w.u, w.h]; rfl
    obtain ⟨j', a, f1, f2, f3, f4, f5, f6, f7, f8, f9, f10, w'⟩ := JSt.release_next w.wf (seq := j.synced) w.broken (by omega) hr
    refine ⟨j', a, ⟨by rw [f1, w.lay], f2, by rw [f3]; simp [usedP], f4, f5, by rw [f6, w.epoch], w.epr, by rw [f7, w.next]; rfl, w.pos, f9, f10, w', w.calm, w.dwf, w.len, w.few, by simp [usedP], w.right, fun o ho => by simp [ringB] at ho⟩, f8⟩
  | cons l ls' =>
    have hm : ls'.length < (l :: ls').length := by simp
    have hle : (l :: ls').length = ls'.length + 1 := rfl
    have hr : relAll ((sq + ls'.length : Nat) : Int) j.groups j.s j.t j.u j.h = (grL (sq + (ls'.length + 1)) ((l :: ls').drop (ls'.length + 1)), (16, (((t0 + usedP ((l :: ls').take (ls'.length + 1))) % 16 : Nat) : Int), ((usedP ((l :: ls').drop (ls'.length + 1)) : Nat) : Int), 0, 0)) := by
      rw [w.groups, w.s, w.t, w.u, w.h]; exact rel_gr ls'.length (l :: ls') sq t0 ((usedP (l :: ls') : Nat) : Int) 0 hm rfl w.room
    rw [← hle, List.take_length, List.drop_length] at hr
    have hse : j.synced = ((sq + ls'.length : Nat) : Int) := by rw [hsy, w.next, hle]; omega
    rw [← hse] at hr
    obtain ⟨j', a, f1, f2, f3, f4, f5, f6, f7, f8, f9, f10, w'⟩ := JSt.release_next w.wf (seq := j.synced) w.broken (by omega) hr
    refine ⟨j', a, ⟨by rw [f1, w.lay], f2, f3, f4, f5, by rw [f6, w.epoch], w.epr, by rw [f7, w.next]; rfl, by have := w.pos; omega, f9, f10, w', w.calm, w.dwf, w.len, w.few, by simp [usedP], fun i hi => by simp at hi, fun o ho => by simp [ringB] at ho⟩, f8⟩
end
/-- doing images, with nothing in the way -/
theorem doP_calm {d : DSt} (hc : d.Calm) (hlen : d.now.length = 64) {l : List PImg} (hok : DoOk d l) {s : Sup} (hR : RightS s) {slot : Int} (hsl : 0 ≤ slot ∧ slot ≤ 1) :
    ∃ e, doP d l s slot = (e, 0) ∧ e.Calm ∧ e.writes = [] ∧ e.safe = e.now ∧ e.now = (wrC l d).now.set slot.toNat (supL s) ∧ e.now.length = 64 := by
  have hw := wrC_imgs l d hc hok
  have hcw := wrC_calm l d hc
  have hnl := (wrC_now l d (fun g hg => (hok g hg).1) (fun g hg => (hok g hg).2.1)).1
  have f1 := DSt.flush_calm hcw
  obtain ⟨e1, he1⟩ : ∃ e1, e1 = ({ wrC l d with safe := (wrC l d).now, writes := [] } : DSt) := ⟨_, rfl⟩
  rw [← he1] at f1
  have ce1 : e1.Calm := by rw [he1]; exact hcw
  have ne1 : e1.now = (wrC l d).now := by rw [he1]
  have w2 : e1.write slot (supL s) = (e1.put slot (supL s), 0) := DSt.write_calm ce1 ⟨hsl.1, by rw [ne1, hnl, hlen]; omega⟩ (supL_length _)
  have f2 : (e1.put slot (supL s)).flush = ({ e1.put slot (supL s) with safe := (e1.put slot (supL s)).now, writes := [] }, 0) := DSt.flush_calm ce1
  refine ⟨{ e1.put slot (supL s) with safe := (e1.put slot (supL s)).now, writes := [] }, ?_, ce1, rfl, rfl, ?_, ?_⟩
  · unfold doP lastWr
    rw [if_neg (by rintro (h | h | h | h); exact h hR; omega; omega; exact h hok), hw]
    simp [f1, w2, f2]
  · show e1.now.set _ _ = _; rw [ne1]
  · show (e1.now.set _ _).length = 64; rw [List.length_set, ne1, hnl, hlen]
theorem doP_wf {d : DSt} (h : d.Wf) (l : List PImg) (s : Sup) (slot : Int) : (doP d l s slot).1.Wf := by
  have h1 : ∀ (l : List PImg) (d : DSt), d.Wf → (wrImgs l d).1.Wf := by
    intro l
    induction l with
    | nil => intro d h; exact h
    | cons g l ih =>
      intro d h
      rw [wrImgs]
      split
      · exact h.write _ _
      · exact ih _ (h.write _ _)
  unfold doP
  split
  · exact h
  split
  · exact h1 l d h
  split
  · exact (h1 l d h).flush
  unfold lastWr
  split
  · exact ((h1 l d h).flush).write _ _
  · exact (((h1 l d h).flush).write _ _).flush
end Go.Proofs.YtegdcjnjnoeinaaGreat
namespace Go.Proofs.YtegdcjnjnoeinaaGreat
open Go.RowKit Go.Sl
set_option maxRecDepth 20000

/-- a block as it counts -/
def VSt.cur (v : VSt) (d : DSt) (n : Int) : Dat := match v.fresh.lookup n with
  | some b => b
  | none => d.now.getD n.toNat []
structure WV (ep t0 sq : Nat) (v : VSt) (d : DSt) (ls : List (List PImg)) (k : Nat) : Prop where
  e : WE ep t0 sq v.j d ls k
  epoch : v.epoch = ep
  slot : v.slot = 0 ∨ v.slot = 1
  fresh : v.fresh = lastP ls.flatten
  home : HomeOk (layOf 64) ls.flatten
  broken : v.broken = false
theorem home64 {l : List PImg} (h : HomeOk (layOf 64) l) : ∀ g ∈ l, 18 ≤ g.1 ∧ g.1 < 64 := by
  intro g hg
  have := h g hg
  have e1 : (layOf 64).bi = 18 := by decide
  have e2 : (layOf 64).b = 64 := rfl
  rw [e1, e2] at this; exact this
theorem of_home64 {l : List PImg} (h : ∀ g ∈ l, 18 ≤ g.1 ∧ g.1 < 64) : HomeOk (layOf 64) l := by
  intro g hg
  have := h g hg
  have e1 : (layOf 64).bi = 18 := by decide
  have e2 : (layOf 64).b = 64 := rfl
  rw [e1, e2]; exact this
section
variable {ep t0 sq : Nat} {v : VSt} {d : DSt} {ls : List (List PImg)} {k : Nat}
theorem WV.mono {m : Nat} (w : WV ep t0 sq v d ls k) (h : k ≤ m) : WV ep t0 sq v d ls m := { w with e := w.e.mono h }
theorem WV.lens (w : WV ep t0 sq v d ls k) : ∀ g ∈ ls.flatten, g.2.length = 4096 := by
  intro g hg
  obtain ⟨l, hl, hgl⟩ := List.mem_flatten.1 hg
  obtain ⟨i, hi⟩ := List.mem_iff_getElem?.1 hl
  have hlt := (List.getElem?_eq_some_iff.1 hi).1
  have hr := w.e.right i hlt
  have e : ls[i] = l := by rw [List.getElem?_eq_getElem hlt] at hi; exact Option.some.inj hi
  rw [e] at hr
  exact (hr.2.2.2.2.2.2.1 g hgl).2.2
theorem WV.lookup (w : WV ep t0 sq v d ls k) (n : Int) : v.fresh.lookup n = lastD ls.flatten n := by rw [w.fresh, lookup_lastP]
theorem WV.few_fresh (w : WV ep t0 sq v d ls k) : v.fresh.length ≤ 16 := by
  have h1 : (ls.flatten).length ≤ usedP ls := by
    unfold usedP
    rw [List.length_flatten]
    have : ∀ l : List (List PImg), (l.map List.length).sum ≤ (l.map fun g => g.length + 1).sum := by
      intro l
      induction l with
      | nil => simp
      | cons g l ih => simp; omega
    exact this ls
  have h2 : ∀ (l ms : List PImg), (l.foldl pput ms).length ≤ ms.length + l.length := by
    intro l
    induction l with
    | nil => intro ms; simp
    | cons g l ih =>
      intro ms
      have h1 := ih (pput ms g)
      have h2 : (pput ms g).length ≤ ms.length + 1 := by unfold pput; split <;> simp
      rw [List.foldl_cons, List.length_cons]; omega
  have h3 := h2 ls.flatten []
  have := w.e.used
  rw [w.fresh]
  unfold lastP
  rw [List.length_nil, Nat.zero_add] at h3
  omega
theorem WV.fresh_len (w : WV ep t0 sq v d ls k) : ∀ g ∈ v.fresh, g.2.length = 4096 := by
  intro g hg
  rw [w.fresh] at hg
  have h2 : ∀ (l ms : List PImg), (∀ g ∈ ms, g.2.length = 4096) → (∀ g ∈ l, g.2.length = 4096) → ∀ g ∈ l.foldl pput ms, g.2.length = 4096 := by
    intro l
    induction l with
    | nil => intro ms h _; exact h
    | cons x l ih =>
      intro ms h h' 
      refine ih (pput ms x) ?_ (fun g hg => h' g (by simp [hg]))
      intro g hg
      unfold pput at hg
      split at hg
      · obtain ⟨y, hy, rfl⟩ := List.mem_map.1 hg
        split
        · exact h' x (by simp)
        · exact h y hy
      · rcases List.mem_append.1 hg with hg | hg
        · exact h g hg
        · simp at hg; subst hg; exact h' g (by simp)
  exact h2 _ [] (by simp) w.lens g hg
theorem WV.read (w : WV ep t0 sq v d ls k) {n : Int} (h : 0 ≤ n ∧ n < 64) : v.read d n = (v.cur d n, 0) := by
  unfold VSt.read VSt.cur
  rw [if_neg (by rw [w.broken]; simp)]
  cases hl : v.fresh.lookup n with
  | some b => rfl
  | none =>
    have e : n = ((n.toNat : Nat) : Int) := by omega
    have := read_up w.e.dwf w.e.calm.1 (k := n.toNat) (by rw [w.e.len]; omega)
    rw [← e] at this
    exact this
theorem WV.cur_len (w : WV ep t0 sq v d ls k) (n : Int) : (v.cur d n).length ≤ 4096 := by
  unfold VSt.cur
  cases h : v.fresh.lookup n with
  | some b => 
    have hm : (n, b) ∈ v.fresh := by
      revert h
      generalize v.fresh = l
      induction l with
      | nil => intro h; simp at h
      | cons x l ih =>
        obtain ⟨m, c⟩ := x
        intro h
        rw [List.lookup_cons] at h
        by_cases hm : n = m
        · subst hm; simp at h; subst h; simp
        · have : (n == m) = false := by simp [hm]
          rw [this] at h
          exact List.mem_cons_of_mem _ (ih h)
    have := w.fresh_len _ hm
    dsimp only at this ⊢; omega
  | none =>
    dsimp only
    rw [List.getD_eq_getElem?_getD]
    cases hx : d.now[n.toNat]? with
    | none => simp
    | some b => have := w.e.dwf.now b (List.mem_of_getElem? hx); simp; omega
/-- a group is appended, there is room -/
theorem WV.app (w : WV ep t0 sq v d ls k) {l : List PImg} (hho : HomeOk (layOf 64) l) (hR : RightP ep ((sq + ls.length : Nat) : Int) l) (hroom : usedP ls + (l.length + 1) ≤ 16) :
    ∃ v' , v.app d l = (v', wrD (rgAt (t0 + usedP ls)) (putP ep (sq + ls.length) l) 0 d, ((sq + ls.length : Nat) : Int), 0) ∧ WV ep t0 sq v' (wrD (rgAt (t0 + usedP ls)) (putP ep (sq + ls.length) l) 0 d) (ls ++ [l]) (k + 16) ∧
      (∀ n, 18 ≤ n → n < 64 → v'.cur (wrD (rgAt (t0 + usedP ls)) (putP ep (sq + ls.length) l) 0 d) n = (lastD l n).getD (v.cur d n)) ∧ v'.j.synced = v.j.synced ∧ v'.slot = v.slot := by
  obtain ⟨j', a, w', hs⟩ := w.e.append hR hroom
  have hv : v.app d l = ({ v with j := j', fresh := l.foldl pput v.fresh }, wrD (rgAt (t0 + usedP ls)) (putP ep (sq + ls.length) l) 0 d, ((sq + ls.length : Nat) : Int), 0) := by
    unfold VSt.app
    rw [a]
    dsimp only
    rw [if_neg (by simp)]
  have hfr : l.foldl pput v.fresh = lastP (ls ++ [l]).flatten := by
    rw [w.fresh]; unfold lastP; rw [List.flatten_append, List.foldl_append]; simp
  refine ⟨_, hv, ⟨w', w.epoch, w.slot, hfr, ?_, w.broken⟩, fun n h1 h2 => ?_, hs, rfl⟩
  · intro g hg
    rw [List.flatten_append] at hg
    rcases List.mem_append.1 hg with hg | hg
    · exact w.home g hg
    · exact hho g (by simpa using hg)
  · unfold VSt.cur
    dsimp only
    rw [hfr, lookup_lastP, w.lookup, List.flatten_append, List.flatten_singleton]
    have hla : lastD (ls.flatten ++ l) n = (lastD l n).or (lastD ls.flatten n) := by
      refine snoc_ind (p := fun l : List PImg => lastD (ls.flatten ++ l) n = (lastD l n).or (lastD ls.flatten n)) ?_ ?_ l
      · rw [List.append_nil]; simp [lastD]
      · intro l g ih
        rw [← List.append_assoc, lastD_snoc, lastD_snoc]
        split
        · rfl
        · exact ih
    rw [hla]
    cases lastD l n with
    | some x => rfl
    | none =>
      simp only [Option.none_or, Option.getD_none]
      cases lastD ls.flatten n with
      | some x => rfl
      | none =>
        show List.getD _ _ _ = _
        rw [List.getD_eq_getElem?_getD, List.getD_eq_getElem?_getD, show (rgAt (t0 + usedP ls)) = fun k => ((2 + (t0 + usedP ls + k) % 16 : Nat) : Int) from rfl,
          wrD_miss (fun k => 2 + (t0 + usedP ls + k) % 16) n.toNat _ 0 d (fun k _ => by omega)]
theorem lastD_keys (f : Int → Dat) : ∀ (l : List Int) (n : Int), lastD (l.map fun m => (m, f m)) n = if n ∈ l then some (f n) else none := by
  refine fun l n => snoc_ind (p := fun l : List Int => lastD (l.map fun m => (m, f m)) n = if n ∈ l then some (f n) else none) ?_ ?_ l
  · simp [lastD]
  · intro l m ih
    rw [List.map_append, List.map_cons, List.map_nil, lastD_snoc]
    dsimp only
    by_cases h : m = n
    · subst h; simp
    · rw [if_neg h, ih]
      have h' : ¬ n = m := fun e => h e.symm
      simp [h']
theorem lookup_keys (l : List PImg) (n : Int) : (l.lookup n).isSome = true ↔ n ∈ l.map Prod.fst := by
  induction l with
  | nil => simp
  | cons x l ih =>
    obtain ⟨m, b⟩ := x
    rw [List.lookup_cons]
    by_cases h : n = m
    · subst h; simp
    · have : (n == m) = false := by simp [h]
      rw [this]
      simp only [List.map_cons, List.mem_cons]
      rw [ih]
      simp [h]
theorem lastD_sortP (l : List PImg) (n : Int) : lastD (sortP l) n = l.lookup n := by
  unfold sortP
  rw [lastD_keys]
  have hk := lookup_keys l n
  have hm : n ∈ sortI (l.map Prod.fst) ↔ n ∈ l.map Prod.fst := (sortI_perm _).mem_iff
  by_cases h : n ∈ l.map Prod.fst
  · rw [if_pos (hm.2 h)]
    cases hl : l.lookup n with
    | some b => rfl
    | none => rw [hl] at hk; exact absurd (hk.2 h) (by simp)
  · rw [if_neg (fun h' => h (hm.1 h'))]
    cases hl : l.lookup n with
    | none => rfl
    | some b => rw [hl] at hk; exact absurd (hk.1 rfl) h
theorem sortP_mem {l : List PImg} {g : PImg} (h : g ∈ sortP l) : g.1 ∈ l.map Prod.fst ∧ l.lookup g.1 = some g.2 := by
  unfold sortP at h
  obtain ⟨n, hn, rfl⟩ := List.mem_map.1 h
  have hn := (sortI_perm _).mem_iff.1 hn
  refine ⟨hn, ?_⟩
  have hk := (lookup_keys l n).2 hn
  dsimp only
  cases hl : l.lookup n with
  | some b => rfl
  | none => rw [hl] at hk; cases hk
theorem lookup_mem {l : List PImg} {n : Int} {b : Dat} (h : l.lookup n = some b) : (n, b) ∈ l := by
  induction l with
  | nil => simp at h
  | cons x l ih =>
    obtain ⟨m, c⟩ := x
    rw [List.lookup_cons] at h
    by_cases hm : n = m
    · subst hm; simp at h; subst h; simp
    · have : (n == m) = false := by simp [hm]
      rw [this] at h
      exact List.mem_cons_of_mem _ (ih h)
theorem WV.fresh_home (w : WV ep t0 sq v d ls k) : ∀ g ∈ sortP v.fresh, 18 ≤ g.1 ∧ g.1 < 64 ∧ g.2.length = 4096 := by
  intro g hg
  obtain ⟨_, h2⟩ := sortP_mem hg
  rw [w.lookup] at h2
  obtain ⟨x, hx, q1, q2⟩ := lastD_mem _ _ _ h2
  have h3 := home64 w.home x hx
  have h4 := w.lens x hx
  rw [← q1, ← q2]; exact ⟨h3.1, h3.2, h4⟩
theorem WV.sup (w : WV ep t0 sq v d ls k) : v.sup = ⟨64, ep, ((sq + ls.length : Nat) : Int), (((t0 + usedP ls) % 16 : Nat) : Int)⟩ := by
  unfold VSt.sup
  rw [w.e.lay, w.epoch, w.e.next, w.e.t, w.e.u, w.e.s]
  congr 1
  omega
/-- a checkpoint -/
theorem WV.ckpt (w : WV ep t0 sq v d ls k) (hsq : sq + ls.length ≤ 549755813888) :
    ∃ v' d', v.ckpt d = (v', d', 0) ∧ WV ep (t0 + usedP ls) (sq + ls.length) v' d' [] (k + 17) ∧ (∀ n, 18 ≤ n → n < 64 → v'.cur d' n = v.cur d n) ∧ v'.j.synced = v'.j.next - 1 ∧ v'.slot = 1 - v.slot ∧ v'.fresh = [] ∧ d'.writes = [] ∧ d'.safe = d'.now ∧
      d'.now = (wrC (sortP v.fresh) { d with safe := d.now, writes := [] }).now.set v.slot.toNat (supL v.sup) := by
  obtain ⟨j1, a1, w1, s1⟩ := w.e.flush
  have hsl : 0 ≤ v.slot ∧ v.slot ≤ 1 := by rcases w.slot with h | h <;> omega
  have hho := w.fresh_home
  have hep := w.e.epr
  have hpos := w.e.pos
  have hRs : RightS v.sup := by
    rw [w.sup]
    exact ⟨by show (64 : Int) ≤ 64; decide, by show (64 : Int) ≤ 512; decide, by show (1 : Int) ≤ (ep : Int); omega, by show (ep : Int) ≤ 8388608; omega, by show (1 : Int) ≤ ((sq + ls.length : Nat) : Int); omega, by show ((sq + ls.length : Nat) : Int) ≤ 549755813888; omega, by show (0 : Int) ≤ (((t0 + usedP ls) % 16 : Nat) : Int); omega, by show (((t0 + usedP ls) % 16 : Nat) : Int) ≤ 511; omega⟩
  have hok : DoOk ({ d with safe := d.now, writes := [] } : DSt) (sortP v.fresh) := fun g hg => by
    obtain ⟨h1, h2, h3⟩ := hho g hg
    exact ⟨by omega, by rw [w1.len]; exact h2, h3⟩
  obtain ⟨e, b1, b2, b3, b4, b5, b6⟩ := doP_calm w1.calm w1.len hok hRs hsl
  have hwf := doP_wf w1.dwf (sortP v.fresh) v.sup v.slot
  have hfew := doP_few w1.few (sortP v.fresh) v.sup v.slot
  rw [b1] at hwf hfew
  dsimp only at hwf hfew
  have hfl := w.few_fresh
  have hsl2 : (sortP v.fresh).length = v.fresh.length := sortP_length _
  have w2 : WE ep t0 sq j1 e ls (k + 17) := { w1 with calm := b2, dwf := hwf, len := b6, few := hfew.mono (by omega), ring := ?ring }
  case ring =>
    intro o ho
    have hw := w1.ring o ho
    unfold rbP at hw ⊢
    rw [b5, List.getD_eq_getElem?_getD]
    rw [List.getD_eq_getElem?_getD] at hw
    have hq := (wrC_now (sortP v.fresh) ({ d with safe := d.now, writes := [] } : DSt) (fun g hg => (hok g hg).1) (fun g hg => (hok g hg).2.1)).2 (2 + (t0 + o) % 16) (by rw [w1.len]; omega)
    rw [List.getElem?_set_ne (by omega), hq]
    have hno : lastD (sortP v.fresh) ((2 + (t0 + o) % 16 : Nat) : Int) = none := lastD_none fun hm => by
      obtain ⟨g, hg, he⟩ := List.mem_map.1 hm
      have := hho g hg; omega
    rw [hno]; exact hw
  obtain ⟨j2, a2, w3, s3⟩ := w2.release s1
  have hck : v.ckS d = (0, j2, e) := by
    unfold VSt.ckS
    rw [a1]
    dsimp only
    rw [if_neg (by simp), b1]
    dsimp only
    rw [if_neg (by simp), a2]
  have hv : v.ckpt d = ({ v with j := j2, slot := 1 - v.slot, fresh := [] }, e, 0) := by
    unfold VSt.ckpt
    rw [if_neg (by rw [w.broken]; simp), hck]
    dsimp only
    rw [if_neg (by simp)]
  refine ⟨_, e, hv, ⟨w3, w.epoch, by rcases w.slot with h | h <;> simp [h], rfl, by intro g hg; simp at hg, w.broken⟩, fun n h1 h2 => ?_, ?_, rfl, rfl, b3, b4, b5⟩
  · unfold VSt.cur
    show e.now.getD _ _ = _
    rw [b5, List.getD_eq_getElem?_getD, List.getElem?_set_ne (by omega)]
    have hq := (wrC_now (sortP v.fresh) ({ d with safe := d.now, writes := [] } : DSt) (fun g hg => (hok g hg).1) (fun g hg => (hok g hg).2.1)).2 n.toNat (by rw [w1.len]; omega)
    rw [hq, show ((n.toNat : Nat) : Int) = n by omega, lastD_sortP]
    cases v.fresh.lookup n with
    | some b => rfl
    | none => show _ = d.now.getD _ _; rw [List.getD_eq_getElem?_getD]
  · show j2.synced = j2.next - 1
    rw [s3, s1, w3.next, w1.next]; rfl
theorem WV.fits (w : WV ep t0 sq v d ls k) {n : Nat} (h : 1 ≤ n ∧ n + 1 ≤ 16) : v.fits n = true := by
  unfold VSt.fits
  have hb : blocksN (n : Int) = n + 1 := by unfold blocksN; rw [if_neg (by omega)]
  rw [hb, w.e.lay]
  exact decide_eq_true ⟨by omega, by show (n : Int) + 1 ≤ layL ((64 : Nat) : Int); rw [layL_64']; omega⟩
/-- a commit: the group is appended, behind a checkpoint if there is no room -/
theorem WV.commit (w : WV ep t0 sq v d ls k) {l : List PImg} (hho : HomeOk (layOf 64) l) (hR : RightP ep ((sq + ls.length : Nat) : Int) l) (hl : l.length + 1 ≤ 16) :
    ∃ v' d' t1 sq' ls', v.commit d l = (v', d', ((sq + ls.length : Nat) : Int), 0) ∧ WV ep t1 sq' v' d' ls' (k + 33) ∧ sq' + ls'.length = sq + ls.length + 1 ∧ (∀ n, 18 ≤ n → n < 64 → v'.cur d' n = (lastD l n).getD (v.cur d n)) := by
  have hll := hR.2.2.2.2.1
  have hsq : sq + ls.length ≤ 549755813888 := by have := hR.2.2.2.1; omega
  have hb : blocksN (l.length : Int) = l.length + 1 := by unfold blocksN; rw [if_neg (by omega)]
  have hu := w.e.used
  have hc : v.commit d l = if v.j.s - v.j.u - v.j.h < blocksN l.length then (if (v.ckpt d).2.2 ≠ 0 then ((v.ckpt d).1, (v.ckpt d).2.1, 0, (v.ckpt d).2.2) else (v.ckpt d).1.app (v.ckpt d).2.1 l) else v.app d l := by
    unfold VSt.commit
    rw [if_neg (by rw [w.broken]; simp), if_neg (by rw [w.e.lay]; exact fun h => h hho), if_neg (by rw [w.epoch, w.e.next]; exact fun h => h hR), if_neg (by rw [w.fits ⟨hll, hl⟩]; simp)]
  rw [hc, hb, w.e.s, w.e.u, w.e.h]
  by_cases hr : (16 : Int) - ((usedP ls : Nat) : Int) - 0 < (l.length : Int) + 1
  · rw [if_pos hr]
    obtain ⟨v1, d1, a1, w1, c1, _⟩ := w.ckpt hsq
    rw [a1]
    dsimp only
    rw [if_neg (by simp)]
    obtain ⟨v2, a2, w2, c2, _⟩ := w1.app hho (by simpa using hR) (by simp [usedP]; omega)
    refine ⟨v2, _, _, _, _, a2, w2.mono (by omega), by simp, fun n h1 h2 => ?_⟩
    rw [c2 n h1 h2, c1 n h1 h2]
  · rw [if_neg hr]
    obtain ⟨v2, a2, w2, c2, _⟩ := w.app hho hR (by omega)
    exact ⟨v2, _, _, _, _, a2, w2.mono (by omega), by simp; omega, c2⟩
end
end Go.Proofs.YtegdcjnjnoeinaaGreat
namespace Go.Proofs.YtegdcjnjnoeinaaGreat
open Go.RowKit Go.Sl
set_option maxRecDepth 20000

theorem rows_map (n : Nat) : (List.replicate n (none : Option BufM)).map ptrB = rows n [.pointer none] := by
  unfold rows
  induction n with
  | zero => rfl
  | succ n ih => rw [List.replicate_succ, List.replicate_succ, List.map_cons, ih, List.flatten_cons]; rfl
theorem bufs_rep (n : Nat) : bufs (List.replicate n none) = [] := by
  induction n with
  | zero => rfl
  | succ n ih => rw [List.replicate_succ, bufs_none, ih]
def newC (n : Nat) : CSt := ⟨List.replicate n none, 0⟩
theorem v_Layout2 (bV bD bJ bM : Nat) (x : Lay) (ep sl : Int) (br : Bool) (I : Imm) (S : St) (k : Nat) (hk : S[k]? = some (vChunk bV bD bJ bM x ep sl br)) : Tri Tryz.prog 29 #[.pointer (some ⟨bV, 0, none⟩)] I S fun v J S' => v = x.v ∧ I = J ∧ S' = S := by
  refine Tri.drop ?_ (fun _ _ _ _ h => h)
  have h0 := fun (S : St) (hk : S[k]? = some (vChunk bV bD bJ bM x ep sl br)) => v_none bV bD bJ bM x ep sl br I S k hk
  obtain ⟨l1, l2, l3, l4, l5, l6, l7⟩ := x
  refine Tri.of (args := [.pointer (some ⟨bV, 0, none⟩)]) tabOk Tryz.func29 rfl (by kernel_rfl) (by kernel_rfl) ?_
  conv => whnf
  intro b2
  have hk2 : ∀ y, (S ++ [y])[k]? = some (vChunk bV bD bJ bM ⟨l1, l2, l3, l4, l5, l6, l7⟩ ep sl br) := fun y => by
    rw [List.getElem?_append_left (List.getElem?_eq_some_iff.1 hk).1]; exact hk
  refine Tri.mono (h0 _ (hk2 _)) ?_
  rintro v _ _ hJ ⟨rfl, rfl, rfl⟩
  refine LoadD.own k (hk2 _) [.int .i64 l1, .int .i64 l2, .int .i64 l3, .int .i64 l4, .int .i64 l5, .int .i64 l6, .int .i64 l7] rfl rfl ?_
  refine StoreD.one S.length (last_get S _) (by show 0 + 7 ≤ 7; omega) (.inr (.inr (Nat.le_refl _))) ?_
  rw [last_set]
  refine LoadD.own S.length (last_get S _) [.int .i64 l1, .int .i64 l2, .int .i64 l3, .int .i64 l4, .int .i64 l5, .int .i64 l6, .int .i64 l7] rfl rfl ?_
  exact Done.mk ⟨_, Drop.init _ _, rfl, rfl, rfl⟩
theorem vk_Layout {I : Imm} {bV bD : Nat} {v : VSt} {ch : List Blk} (h : Vk I bV bD v ch) : Tri Tryz.prog 29 #[.pointer (some ⟨bV, 0, none⟩)] I [ch] fun r J S' => r = v.j.lay.v ∧ I = J ∧ S' = [ch] := by
  obtain ⟨bJ, bM, ob, chJ, gs, rfl, hj, hM, hg, hp⟩ := h
  refine Tri.abs (S2 := [vChunk bV bD bJ bM v.j.lay v.epoch v.slot v.broken, [(bM, ob)], chJ]) (vk_lay ..) (v_Layout2 bV bD bJ bM v.j.lay v.epoch v.slot v.broken I _ 0 rfl) ?_
  rintro r _ _ hJ ⟨rfl, rfl, rfl⟩
  exact ⟨_, Drop.flat (vk_lay ..).symm, rfl, rfl, rfl⟩
theorem newC_slots (n : Nat) : slotsOf (List.replicate n none) = (newC n).slots := by unfold slotsOf newC; rw [List.map_replicate]; rfl
theorem ck_New {I : Imm} {bV bD : Nat} {v : VSt} {chV : List Blk} (hV : Vk I bV bD v chV) (hlay : v.j.lay = layOf 64) (n : Int) :
    Tri Tryz.prog 59 #[.pointer (some ⟨bV, 0, none⟩), .int .i64 n] I [chV] fun r J S' => I = J ∧
      ((¬ (1 ≤ n ∧ n ≤ 64) ∧ r = .tuple #[.pointer none, .int .i64 2] ∧ S' = [chV]) ∨ (1 ≤ n ∧ n ≤ 64 ∧ ∃ bC ch, r = .tuple #[.pointer (some ⟨bC, 0, none⟩), .int .i64 0] ∧ Ck J bC bV (newC n.toNat) ch ∧ S' = [chV, ch])) := by
  refine Tri.drop ?_ (fun _ _ _ _ h => h)
  have hL := vk_Layout hV
  rw [hlay] at hL
  refine Tri.of (args := [.pointer (some ⟨bV, 0, none⟩), .int .i64 n]) tabOk Tryz.func59 rfl (by kernel_rfl) (by kernel_rfl) ?_
  refine Tri.nf hL ?_
  rintro r _ _ hJ ⟨rfl, rfl, rfl⟩
  refine lay_cmp (layOf 64) ⟨0, 0, 0, 0, 0, 0, 0⟩ rfl (.inl rfl) rfl rfl ?_
  refine CmpD.no (by decide) ?_
  refine CmpD.split (fun (c1 : n < 1) => ?_) (fun (c1 : ¬ n < 1) => ?_)
  · exact Done.mk ⟨_, Drop.refl _, rfl, .inl ⟨by omega, rfl, rfl⟩⟩
  refine CmpD.split (fun (c2 : 64 < n) => ?_) (fun (c2 : ¬ 64 < n) => ?_)
  · exact Done.mk ⟨_, Drop.refl _, rfl, .inl ⟨by omega, rfl, rfl⟩⟩
  obtain ⟨m, rfl⟩ : ∃ m : Nat, n = m := ⟨n.toNat, by omega⟩
  refine makeD tabOk rfl rfl rfl m m rfl rfl (Nat.le_refl _) (by show 8 * m ≤ _; omega) (by omega) (by show m * 1 ≤ _; omega) rfl (by decide) ?_
  intro bS
  conv => whnf
  intro bC
  have hl : (List.replicate m (none : Option BufM)).length = m := List.length_replicate
  refine Done.mk ⟨[chV, cChunk bC bV bS (List.replicate m (none : Option BufM)).length 0 ++ (sChunk bS (List.replicate m none) ++ bufs (List.replicate m none))], ?_, rfl, .inr ⟨by omega, by omega, bC, _, rfl, ⟨bS, List.replicate m none, by rw [Int.toNat_natCast]; rfl, by rw [Int.toNat_natCast]; exact newC_slots m, (fun x hx => by have := List.eq_of_mem_replicate hx; cases this), by rw [hl]; omega, by rw [hl]; omega, by rw [hl]; show 0 < m; omega⟩, rfl⟩⟩
  rw [hl, bufs_rep]
  unfold sChunk
  rw [rows_map]
  refine ⟨[], ?_⟩
  simp only [List.flatten_cons, List.flatten_nil, List.append_nil, List.append_assoc]
  refine List.Perm.append_left _ ?_
  exact List.Perm.swap _ _ _
theorem openJ_we {ep sq t0 : Nat} {d : DSt} {k : Nat} (hep : 1 ≤ ep ∧ ep ≤ 8388608) (hsq : 1 ≤ sq ∧ sq ≤ 549755813888) (ht : t0 < 16) (hc : d.Calm) (hw : d.Wf) (hl : d.now.length = 64) (hf : d.Few k) : WE ep t0 sq (openJ 64 ep sq t0) d [] k :=
  ⟨rfl, layL_64', by show (t0 : Int) = _; omega, rfl, rfl, rfl, hep, by show (sq : Int) = ((sq + 0 : Nat) : Int); simp, hsq.1, rfl, rfl, openJ_wf 64 (by omega) ⟨rfl, by omega, by omega, by omega, by omega, by omega, by rw [layL_64']; omega⟩, hc, hw, hl, hf, by simp [usedP], fun i hi => by simp at hi, fun o ho => by simp [ringB] at ho⟩
theorem v0_wv : WV 2 0 1 v0 dV [] 24 :=
  ⟨openJ_we (by omega) (by omega) (by omega) (dz_calm _ _ _) (dz_wf (supL_length _) (supL_length _) _) (zL_length _ _) (dz_few _ _ 24), rfl, .inl rfl, rfl, by intro g hg; simp at hg, rfl⟩
theorem v0_cur {n : Int} (h : 2 ≤ n ∧ n < 64) : v0.cur dV n = noughts := by
  show (zL _ _).getD n.toNat [] = _
  rw [List.getD_eq_getElem?_getD, zL_get _ _ _ (by omega) (by omega)]; rfl
/-- a cache upon a calm volume of 64 blocks -/
structure CWld (J : Imm) (bD bV bC : Nat) (c : CSt) (v : VSt) (d : DSt) (S : St) (k : Nat) : Prop where
  ex : ∃ chC chV chD, S = [chC, chV, chD] ∧ Ck J bC bV c chC ∧ Vk J bV bD v chV ∧ Dk J bD d chD
  w : ∃ ep t0 sq ls, WV ep t0 sq v d ls k
theorem law12_fresh (I : Imm) (n : Int) (hn : 1 ≤ n ∧ n ≤ 64) : Tri Tryz.prog 58 #[.int .i64 n] I [] fun r J S' => ∃ bD bV bC, r = .tuple #[.pointer (some ⟨bD, 0, none⟩), .pointer (some ⟨bV, 0, none⟩), .pointer (some ⟨bC, 0, none⟩), .bool true] ∧ ∃ chC chV chD, S' = [chC, chV, chD] ∧ Ck J bC bV (newC n.toNat) chC ∧ Vk J bV bD v0 chV ∧ Dk J bD dV chD := by
  refine Tri.drop ?_ (fun _ _ _ _ h => h)
  refine Tri.of (args := [.int .i64 n]) tabOk Tryz.func58 rfl (by kernel_rfl) (by kernel_rfl) ?_
  refine Tri.frameX (dk_New I 64 (by omega)) [] rfl rfl ?_
  rintro r J1 A' hJ1 ⟨bD, chD, rfl, hD, rfl⟩
  repeat (first | refine CmpD.yes rfl ?_)
  refine Tri.frame1 0 rfl (vk_Format hD ((DSt.of_few _).mono (by omega))) ?_
  rw [format_new]
  rintro r J2 A' hJ2 ⟨rfl, chD2, hD2, rfl⟩
  refine ⟨_, rfl, ?_⟩
  repeat (first | refine CmpD.yes rfl ?_)
  have hf : (dz (supL ⟨64, 1, 1, 0⟩) noughts 23).Few 700000 := (dz_few _ _ 23).mono (by omega)
  refine Tri.frameX (vk_Mount hD2 hf) [0] rfl rfl ?_
  rw [show mountP (dz (supL ⟨64, 1, 1, 0⟩) noughts 23) = (dV, 0, some v0) from mount_first]
  rintro r J3 A' hJ3 ⟨chD3, hD3, (⟨h, _⟩ | ⟨_, v, bV, chV, hv, rfl, hV, rfl⟩)⟩
  · exact absurd rfl h
  cases hv
  repeat (first | refine CmpD.yes rfl ?_)
  refine Tri.frameX (ck_New hV rfl n) [2] rfl rfl ?_
  rintro r _ A' hJ4 ⟨rfl, (⟨h, _⟩ | ⟨_, _, bC, chC, rfl, hC, rfl⟩)⟩
  · exact absurd hn h
  repeat (first | refine CmpD.yes rfl ?_)
  exact Done.mk ⟨_, Drop.pick [4, 3, 1] _ rfl, bD, bV, bC, rfl, chC, chV, chD3, rfl, hC, hV, hD3⟩
/-- is a block loaded, and what is held then so? -/
theorem law12_load {I : Imm} {bC bV bD : Nat} {c : CSt} {chC : List Blk} (hC : Ck I bC bV c chC) {v : VSt} {chV : List Blk} (hV : Vk I bV bD v chV) {d : DSt} {chD : List Blk} (hD : Dk I bD d chD) (hfew : ∀ g ∈ v.fresh, g.2.length ≤ 1000000) (n : Int)
    (hrd : (v.read d n).2 = 0 → 0 ≤ n ∧ n ≤ 1000000 ∧ (v.read d n).1.length ≤ 1000000) (hl2 : (c.load v d n).1.slots.length ≤ 12) (aH : Option Addr) (lH capH : Nat) (z : List Int) (hH : Rds I aH lH (ints z)) :
    Tri Tryz.prog 65 #[.pointer (some ⟨bC, 0, none⟩), .int .i64 n, .slice aH lH capH] I [chC, chV, chD] fun r J S' => r = .bool (decide ((c.load v d n).2.2 = 0 ∧ (c.load v d n).1.which (fun _ => true) = z)) ∧ I.le J ∧ ∃ chC', Ck J bC bV (c.load v d n).1 chC' ∧ S' = [chC', chV, chD] := by
  refine Tri.drop ?_ (fun _ _ _ _ h => h)
  refine Tri.of (args := [.pointer (some ⟨bC, 0, none⟩), .int .i64 n, .slice aH lH capH]) tabOk Tryz.func65 rfl (by kernel_rfl) (by kernel_rfl) ?_
  refine Tri.nf (ck_Load hC hV hD hfew n hrd) ?_
  generalize c.load v d n = L at *
  obtain ⟨c2, x, e⟩ := L
  dsimp only at hl2 ⊢
  rintro r J A' hJ ⟨a, cap, chB, chC2, rfl, hB, hle, hC2, rfl⟩
  skip
  refine CmpD.split (fun (c1 : e = 0) => ?_) (fun (c1 : ¬ e = 0) => ?_)
  rotate_left
  · rw [decide_eq_false (fun h => c1 h.1)]
    skip
    exact Done.mk ⟨_, Drop.pick [0, 1, 2] _ rfl, rfl, hle, chC2, hC2, rfl⟩
  skip
  refine Tri.frame (ck_Held hC2 hl2) [0] rfl rfl ?_
  rintro r _ A' hJ2 ⟨rfl, a2, cap2, chO, rfl, hO, rfl⟩
  refine ⟨by simp, ?_⟩
  skip
  refine Tri.pack ?_
  refine Tri.mono (same_ints _ J a2 aH _ lH cap2 capH _ z ((hO.slC1 4 rfl).pack) ((hH.mono hle).slC) ?_) ?_
  · have : (c2.which (fun _ => true)).length ≤ 12 := by
      unfold CSt.which
      rw [(sortI_perm _).length_eq, List.length_map]
      have h1 := List.length_filter_le (fun _ : Buf => true) c2.held
      have h2 : c2.held.length ≤ c2.slots.length := List.length_filterMap_le ..
      omega
    omega
  rintro r _ _ hJ3 ⟨b, rfl, hb, rfl, rfl⟩
  refine ⟨[], by simp, ?_⟩
  have e1 : b = decide (e = 0 ∧ c2.which (fun _ => true) = z) := by
    cases b with
    | true => exact (decide_eq_true ⟨c1, hb.1 rfl⟩).symm
    | false => exact (decide_eq_false (fun h => by have := hb.2 h.2; cases this)).symm
  rw [← e1]
  skip
  exact Done.mk ⟨_, Drop.pick [0, 1, 2] _ rfl, rfl, hle, chC2, hC2, rfl⟩
end Go.Proofs.YtegdcjnjnoeinaaGreat
namespace Go.Proofs.YtegdcjnjnoeinaaGreat
open Go.RowKit Go.Sl
set_option maxRecDepth 20000

theorem load_miss {c c' : CSt} {v : VSt} {d : DSt} {n : Int} {x : Dat} {i : Nat} (hg : c.got n = none) (hr : v.read d n = (x, 0)) (hroom : c.room = (c', some i)) :
    c.load v d n = (⟨c'.slots.set i (some ⟨n, x, 0, false, true⟩), c'.hand⟩, x, 0) := by
  unfold CSt.load
  rw [hg, hr, hroom]
  simp
theorem load_busy {c c' : CSt} {v : VSt} {d : DSt} {n : Int} {x : Dat} (hg : c.got n = none) (hr : v.read d n = (x, 0)) (hroom : c.room = (c', none)) : c.load v d n = (c', [], 130) := by
  unfold CSt.load
  rw [hg, hr, hroom]
  simp
theorem which_eq {c : CSt} {p : Buf → Bool} {z : List Int} (h : ((c.held.filter p).map Buf.n).Perm z) (hs : z.Pairwise (· ≤ ·)) : c.which p = z := by
  unfold CSt.which
  exact List.Perm.eq_of_pairwise (le := fun a b => a ≤ b) (fun _ _ _ _ h1 h2 => Int.le_antisymm h1 h2) (sortI_le _) hs ((sortI_perm _).trans h)
section
variable {I : Imm} {bC bV bD : Nat} {c : CSt} {chC : List Blk} (hC : Ck I bC bV c chC) (hl : c.slots.length ≤ 12) {v : VSt} {chV : List Blk} (hV : Vk I bV bD v chV) {d : DSt} {chD : List Blk} (hD : Dk I bD d chD)
include hC hl hV hD
/-- a block loaded that is there: the slice of what is held lies in a chunk of its own -/
theorem load_ok {ep t0 sq k : Nat} {ls : List (List PImg)} (hw : WV ep t0 sq v d ls k) {n : Int} (hn : 18 ≤ n ∧ n < 64) {c2 : CSt} {x : Dat} (hL : c.load v d n = (c2, x, 0)) (hl2 : c2.slots.length ≤ 12) {z : List Int} (_hz : z.length ≤ 12) (hwh : c2.which (fun _ => true) = z)
    (bH : Nat) {T : TypeId} : Tri Tryz.prog 65 #[.pointer (some ⟨bC, 0, none⟩), .int .i64 n, .slice (some ⟨bH, 0, none⟩) z.length z.length] I [chC, chV, chD, [(bH, row (ints z) T)]] fun r J S' => r = .bool true ∧ I.le J ∧ ∃ chC', Ck J bC bV c2 chC' ∧ S' = [chC', chV, chD, []] := by
  have _h12 := hl
  refine Tri.fix 3 rfl fun I2 hI2 hm => ?_
  have hH : Rds I2 (some ⟨bH, 0, none⟩) z.length (ints z) := ⟨by simp [ints], .inr ⟨bH, 0, _, _, _, rfl, hm _ (List.mem_singleton.2 rfl), by rw [List.drop_zero, List.take_of_length_le (by simp [ints])]⟩⟩
  have hr := hw.read (n := n) (by omega)
  have hfew : ∀ g ∈ v.fresh, g.2.length ≤ 1000000 := fun g hg => by have := hw.fresh_len g hg; omega
  have hcur : (v.cur d n).length ≤ 1000000 := by
    unfold VSt.cur
    cases h : v.fresh.lookup n with
    | some b => have := hw.fresh_len _ (lookup_mem h); dsimp only at this ⊢; omega
    | none =>
      have : n.toNat < d.now.length := by rw [hw.e.len]; omega
      have := hw.e.dwf.now (d.now.getD n.toNat []) (by rw [List.getD_eq_getElem?_getD, List.getElem?_eq_getElem this]; exact List.getElem_mem _)
      dsimp only; omega
  have hT := law12_load (hC.mono hI2) (hV.mono hI2) (hD.mono hI2) hfew n (fun _ => ⟨by omega, by omega, by rw [hr]; exact hcur⟩) (by rw [hL]; exact hl2) (some ⟨bH, 0, none⟩) z.length z.length z hH
  rw [hL] at hT
  dsimp only at hT
  rw [decide_eq_true ⟨rfl, hwh⟩] at hT
  refine Tri.frame hT [0, 1, 2] rfl rfl ?_
  rintro r J A' hJ ⟨rfl, hle, chC', hC', rfl⟩
  exact ⟨Nat.le_refl _, rfl, Imm.le_trans hI2 hle, chC', hC', rfl⟩
end
/-- a buffer of a block -/
@[reducible] def bf (n : Int) (x : Dat) (p : Int) (dd m : Bool) : Option Buf := some ⟨n, x, p, dd, m⟩
set_option maxHeartbeats 4000000 in
theorem awake12 (I : Imm) (S : St) : Tri Tryz.prog 72 #[] I S fun v _ _ => v = .bool true := by
  refine Tri.free (Q := fun v _ _ => v = .bool true) ?_ (fun v J _ _ h => h)
  refine Tri.of (args := []) tabOk Tryz.func72 rfl (by kernel_rfl) (by kernel_rfl) ?_
  refine Tri.frameX (law12_fresh I 2 (by omega)) [] rfl rfl ?_
  rintro r J1 A' hJ1 ⟨bD, bV, bC, rfl, chC, chV, chD, rfl, hC, hV, hD⟩
  have hrd : ∀ n : Int, 18 ≤ n ∧ n < 64 → v0.read dV n = (noughts, 0) := fun n hn => by rw [v0_wv.read (by omega), v0_cur (by omega)]
  obtain ⟨N, hN⟩ : ∃ N, N = noughts := ⟨_, rfl⟩
  rw [← hN] at hrd
  skip
  have hle0 : J1.le J1 := Imm.le_refl _
  have L1 : CSt.load (newC (Int.toNat 2)) v0 dV 30 = (⟨[bf 30 N 0 false true, none], 0⟩, N, 0) := load_miss (c' := ⟨[none, none], 0⟩) (i := 0) (by kernel_rfl) (hrd 30 (by omega)) (by kernel_rfl)
  conv => whnf
  intro bH1
  refine Tri.frame (load_ok hC (by show 2 ≤ 12; decide) (hV.mono hle0) (hD.mono hle0) v0_wv (n := 30) (by omega) L1 (by show 2 ≤ 12; decide) (z := [30]) (by decide) (which_eq (by show [30].Perm [30]; decide) (by decide)) bH1) [0, 1, 2, 3] rfl rfl ?_
  rintro r J A' hJ ⟨rfl, hle, chC1, hC1, rfl⟩
  have hle1 := Imm.le_trans hle0 hle
  clear hle hJ
  refine ⟨Nat.le_refl _, ?_⟩
  skip
  have L2 : CSt.load ⟨[bf 30 N 0 false true, none], 0⟩ v0 dV 31 = (⟨[bf 30 N 0 false true, bf 31 N 0 false true], 0⟩, N, 0) := load_miss (c' := ⟨[bf 30 N 0 false true, none], 0⟩) (i := 1) (by kernel_rfl) (hrd 31 (by omega)) (by kernel_rfl)
  conv => whnf
  intro bH2
  refine Tri.frame (load_ok hC1 (by show 2 ≤ 12; decide) (hV.mono hle1) (hD.mono hle1) v0_wv (n := 31) (by omega) L2 (by show 2 ≤ 12; decide) (z := [30, 31]) (by decide) (which_eq (by show [30, 31].Perm [30, 31]; decide) (by decide)) bH2) [0, 1, 2, 4] rfl rfl ?_
  rintro r J A' hJ ⟨rfl, hle, chC2, hC2, rfl⟩
  have hle2 := Imm.le_trans hle1 hle
  clear hle hJ
  refine ⟨Nat.le_refl _, ?_⟩
  skip
  have L3 : CSt.load ⟨[bf 30 N 0 false true, bf 31 N 0 false true], 0⟩ v0 dV 32 = (⟨[bf 32 N 0 false true, bf 31 N 0 false false], 1⟩, N, 0) := load_miss (c' := ⟨[none, bf 31 N 0 false false], 1⟩) (i := 0) (by kernel_rfl) (hrd 32 (by omega)) (by kernel_rfl)
  conv => whnf
  intro bH3
  refine Tri.frame (load_ok hC2 (by show 2 ≤ 12; decide) (hV.mono hle2) (hD.mono hle2) v0_wv (n := 32) (by omega) L3 (by show 2 ≤ 12; decide) (z := [31, 32]) (by decide) (which_eq (by show [32, 31].Perm [31, 32]; decide) (by decide)) bH3) [0, 1, 2, 5] rfl rfl ?_
  rintro r J A' hJ ⟨rfl, hle, chC3, hC3, rfl⟩
  have hle3 := Imm.le_trans hle2 hle
  clear hle hJ
  refine ⟨Nat.le_refl _, ?_⟩
  skip
  refine Tri.frame1 0 rfl (ck_Pin hC3 31) ?_
  rw [show CSt.pin ⟨[bf 32 N 0 false true, bf 31 N 0 false false], 1⟩ 31 = (⟨[bf 32 N 0 false true, bf 31 N 1 false false], 1⟩, 0) from by kernel_rfl]
  rintro r J4 A' hJ4 ⟨rfl, chC4, hC4, rfl⟩
  refine ⟨_, rfl, ?_⟩
  have hle4 := Imm.le_trans hle3 hJ4
  repeat (first | refine CmpD.yes rfl ?_)
  have L5 : CSt.load ⟨[bf 32 N 0 false true, bf 31 N 1 false false], 1⟩ v0 dV 33 = (⟨[bf 33 N 0 false true, bf 31 N 1 false false], 1⟩, N, 0) := load_miss (c' := ⟨[none, bf 31 N 1 false false], 1⟩) (i := 0) (by kernel_rfl) (hrd 33 (by omega)) (by kernel_rfl)
  conv => whnf
  intro bH5
  refine Tri.frame (load_ok hC4 (by show 2 ≤ 12; decide) (hV.mono hle4) (hD.mono hle4) v0_wv (n := 33) (by omega) L5 (by show 2 ≤ 12; decide) (z := [31, 33]) (by decide) (which_eq (by show [33, 31].Perm [31, 33]; decide) (by decide)) bH5) [0, 1, 2, 6] rfl rfl ?_
  rintro r J A' hJ ⟨rfl, hle, chC5, hC5, rfl⟩
  have hle5 := Imm.le_trans hle4 hle
  clear hle hJ
  refine ⟨Nat.le_refl _, ?_⟩
  skip
  refine Tri.free (made 1 4096 (by omega) _) ?_
  rintro r J6 _ hJ6 ⟨aM, rfl, hM⟩
  obtain ⟨M, hMe⟩ : ∃ M, M = madeL 1 4096 := ⟨_, rfl⟩
  have hMl : M.length = 4096 := by rw [hMe]; exact madeL_length _ _
  rw [← hMe] at hM
  skip
  refine Tri.frame1 0 rfl (ck_Put (hC5.mono hJ6) 33 aM 4096 4096 M hM) ?_
  have P6 : CSt.putD ⟨[bf 33 N 0 false true, bf 31 N 1 false false], 1⟩ 33 M = (⟨[bf 33 M 0 true true, bf 31 N 1 false false], 1⟩, 0) := by
    show (if M.length ≠ 4096 then _ else _) = _
    rw [if_neg (by omega)]; kernel_rfl
  rw [P6]
  rintro r J7 A' hJ7 ⟨rfl, chC7, hC7, rfl⟩
  refine ⟨_, rfl, ?_⟩
  have hle7 := Imm.le_trans hle5 (Imm.le_trans hJ6 hJ7)
  repeat (first | refine CmpD.yes rfl ?_)
  have L8 : CSt.load ⟨[bf 33 M 0 true true, bf 31 N 1 false false], 1⟩ v0 dV 34 = (⟨[bf 33 M 0 true true, bf 31 N 1 false false], 1⟩, [], 130) := load_busy (c' := ⟨[bf 33 M 0 true true, bf 31 N 1 false false], 1⟩) (by kernel_rfl) (hrd 34 (by omega)) (by kernel_rfl)
  refine Tri.frame (ck_Load hC7 (hV.mono hle7) (hD.mono hle7) (by intro g hg; simp [v0] at hg) 34 (fun _ => ⟨by omega, by omega, by rw [hrd 34 (by omega), hN, noughts_length]; omega⟩)) [0, 1, 2] rfl rfl ?_
  rw [L8]
  rintro r J8 A' hJ8 ⟨a8, cap8, chB8, chC8, rfl, _, _, hC8, rfl⟩
  refine ⟨by simp, ?_⟩
  have hle8 := Imm.le_trans hle7 hJ8
  skip
  obtain ⟨v9, d9, t9, s9, l9, hcm, w9, _, hcur9⟩ := v0_wv.commit (l := [(33, M)]) (of_home64 (by intro g hg; simp at hg; subst hg; dsimp only; omega)) ⟨by omega, by omega, by decide, by decide, by show 1 ≤ 1; decide, by show 1 ≤ 32; decide, by intro g hg; simp at hg; subst hg; dsimp only; omega, by simp⟩ (by show 1 + 1 ≤ 16; decide)
  refine Tri.frame (ck_Commit hC8 (by show 2 ≤ 12; decide) (by show [(33 : Int), 31].Nodup; decide) (hV.mono hle8) v0_wf rfl (by show (0 : Int) ≤ 0 ∧ (0 : Int) ≤ 1; omega) (by show 0 ≤ 1000; omega) (by show 0 ≤ _; omega) (hD.mono hle8) ((dz_few _ _ 24).mono (by omega))) [0, 1, 2] rfl rfl ?_
  have C9 : CSt.commit ⟨[bf 33 M 0 true true, bf 31 N 1 false false], 1⟩ v0 dV = (⟨[bf 33 M 0 false true, bf 31 N 1 false false], 1⟩, v9, d9, 1, 0) := by
    have hd : CSt.dirtyL ⟨[bf 33 M 0 true true, bf 31 N 1 false false], 1⟩ = [⟨33, M, 0, true, true⟩] := List.mergeSort_singleton _
    unfold CSt.commit
    rw [hd]
    simp only [List.map_cons, List.map_nil]
    rw [hcm]
    simp
    rfl
  rw [C9]
  dsimp only
  rintro r J9 A' hJ9 ⟨rfl, hle9', chC9, chV9, chD9, hC9, hV9, hD9, rfl⟩
  refine ⟨by simp, ?_⟩
  have hrd9 : ∀ n : Int, n = 34 → v9.read d9 n = (N, 0) := by
    rintro n rfl
    rw [w9.read (by omega), hcur9 34 (by omega) (by omega), v0_cur (by omega), hN]; rfl
  have hle9 := Imm.le_refl J9
  repeat (first | refine CmpD.yes rfl ?_)
  have L10 : CSt.load ⟨[bf 33 M 0 false true, bf 31 N 1 false false], 1⟩ v9 d9 34 = (⟨[bf 34 N 0 false true, bf 31 N 1 false false], 1⟩, N, 0) := load_miss (c' := ⟨[none, bf 31 N 1 false false], 1⟩) (i := 0) (by kernel_rfl) (hrd9 34 rfl) (by kernel_rfl)
  conv => whnf
  intro bH10
  refine Tri.frame (load_ok hC9 (by show 2 ≤ 12; decide) (hV9.mono hle9) (hD9.mono hle9) w9 (n := 34) (by omega) L10 (by show 2 ≤ 12; decide) (z := [31, 34]) (by decide) (which_eq (by show [34, 31].Perm [31, 34]; decide) (by decide)) bH10) [0, 1, 2, 8] rfl rfl ?_
  rintro r J A' hJ ⟨rfl, hle, chC10, hC10, rfl⟩
  have hle10 := Imm.le_trans hle9 hle
  clear hle hJ
  refine ⟨Nat.le_refl _, ?_⟩
  skip
  refine Tri.frame1 0 rfl (ck_Unpin hC10 30) ?_
  rw [show CSt.unpin ⟨[bf 34 N 0 false true, bf 31 N 1 false false], 1⟩ 30 = (⟨[bf 34 N 0 false true, bf 31 N 1 false false], 1⟩, 2) from by kernel_rfl]
  rintro r J11 A' hJ11 ⟨rfl, chC11, hC11, rfl⟩
  refine ⟨_, rfl, ?_⟩
  repeat (first | refine CmpD.yes rfl ?_)
  exact Done.mk rfl
end Go.Proofs.YtegdcjnjnoeinaaGreat
namespace Go.Proofs.YtegdcjnjnoeinaaGreat
open Go.RowKit Go.Sl
set_option maxRecDepth 20000

theorem held_at {c : CSt} {i : Nat} {o : Option Buf} (h : c.slots[i]? = some o) : ∃ A B, c.held = A ++ o.toList ++ B ∧ ∀ (x : Option Buf) (hd : Nat), (⟨c.slots.set i x, hd⟩ : CSt).held = A ++ x.toList ++ B := by
  obtain ⟨h1, h2⟩ := split_at h
  refine ⟨(c.slots.take i).filterMap id, (c.slots.drop (i + 1)).filterMap id, ?_, fun x hd => ?_⟩
  · unfold CSt.held
    conv => lhs; rw [h1]
    rw [List.filterMap_append, List.append_assoc]
    congr 1
    cases o <;> rfl
  · unfold CSt.held
    dsimp only
    rw [h2, List.filterMap_append, List.append_assoc]
    congr 1
    cases x <;> rfl
theorem held_mem {c : CSt} {b : Buf} : b ∈ c.held ↔ some b ∈ c.slots := by simp [CSt.held]
theorem cgot_some {c : CSt} {n : Int} {i : Nat} {b : Buf} (h : c.got n = some (i, b)) : c.slots[i]? = some (some b) ∧ b.n = n ∧ b ∈ c.held := by
  unfold CSt.got CSt.find at h
  cases hf : c.slots.findIdx? (isN n) with
  | none => rw [hf] at h; cases h
  | some k =>
    rw [hf] at h
    rw [List.findIdx?_eq_some_iff_getElem] at hf
    obtain ⟨h1, h2, _⟩ := hf
    have hk : c.slots[k]? = some c.slots[k] := List.getElem?_eq_getElem h1
    dsimp only at h
    rw [hk] at h
    cases hx : c.slots[k] with
    | none => rw [hx] at h2; simp [isN] at h2
    | some y =>
      rw [hx] at h h2 hk
      simp only [Option.some.injEq, Prod.mk.injEq] at h
      obtain ⟨rfl, rfl⟩ := h
      exact ⟨hk, by simpa [isN] using h2, held_mem.2 (List.mem_of_getElem? hk)⟩
theorem cgot_none {c : CSt} {n : Int} : c.got n = none ↔ n ∉ c.held.map Buf.n := by
  constructor
  · intro h hm
    obtain ⟨b, hb, hn⟩ := List.mem_map.1 hm
    unfold CSt.got CSt.find at h
    cases hf : c.slots.findIdx? (isN n) with
    | none =>
      rw [List.findIdx?_eq_none_iff] at hf
      have := hf _ (held_mem.1 hb)
      simp [isN, hn] at this
    | some k =>
      rw [hf] at h
      rw [List.findIdx?_eq_some_iff_getElem] at hf
      obtain ⟨h1, h2, _⟩ := hf
      have hk : c.slots[k]? = some c.slots[k] := List.getElem?_eq_getElem h1
      dsimp only at h
      rw [hk] at h
      cases hx : c.slots[k] with
      | none => rw [hx] at h2; simp [isN] at h2
      | some y => rw [hx] at h; cases h
  · intro h
    cases hg : c.got n with
    | none => rfl
    | some p =>
      obtain ⟨i, b⟩ := p
      obtain ⟨_, h1, h2⟩ := cgot_some hg
      exact absurd (List.mem_map.2 ⟨b, h2, h1⟩) h
structure CI (room : Nat) (c : CSt) (puts : Int → Dat) (pins : Int → Int) (cur : Int → Dat) : Prop where
  len : c.slots.length = room
  hand : c.hand < room
  nodup : (c.held.map Buf.n).Nodup
  rng : ∀ b ∈ c.held, 30 ≤ b.n ∧ b.n < 40
  pin : ∀ b ∈ c.held, pins b.n = b.pins
  dat : ∀ b ∈ c.held, (b.dirty = true → puts b.n = b.data ∧ b.data.length = 4096) ∧ (b.dirty = false → puts b.n = [] ∧ b.data = cur b.n)
  off : ∀ n, n ∉ c.held.map Buf.n → pins n = 0 ∧ puts n = []
section
variable {room : Nat} {c : CSt} {puts : Int → Dat} {pins : Int → Int} {cur : Int → Dat}
theorem CI.turn (h : CI room c puts pins cur) {hd : Nat} (hh : hd < room) : CI room ⟨c.slots, hd⟩ puts pins cur := ⟨h.len, hh, h.nodup, h.rng, h.pin, h.dat, h.off⟩
theorem CI.upd (h : CI room c puts pins cur) {i : Nat} {b : Buf} (hi : c.slots[i]? = some (some b)) (b' : Buf) (hn : b'.n = b.n) {puts' : Int → Dat} {pins' : Int → Int} (hp : ∀ m, m ≠ b.n → puts' m = puts m ∧ pins' m = pins m)
    (h1 : pins' b.n = b'.pins) (h2 : (b'.dirty = true → puts' b.n = b'.data ∧ b'.data.length = 4096) ∧ (b'.dirty = false → puts' b.n = [] ∧ b'.data = cur b.n)) {hd : Nat} (hh : hd < room) : CI room ⟨c.slots.set i (some b'), hd⟩ puts' pins' cur := by
  obtain ⟨A, B, e1, e2⟩ := held_at hi
  have e2 := e2 (some b') hd
  simp only [Option.toList] at e1 e2
  have hnd := h.nodup
  rw [e1] at hnd
  have hmap : ((⟨c.slots.set i (some b'), hd⟩ : CSt).held.map Buf.n) = c.held.map Buf.n := by rw [e1, e2]; simp [hn]
  have hne : ∀ x ∈ A ++ B, x.n ≠ b.n := by
    intro x hx e
    have hp : (A ++ [b] ++ B).Perm (b :: (A ++ B)) := by simp
    have hnd2 := (hp.map Buf.n).nodup_iff.1 hnd
    rw [List.map_cons, List.nodup_cons] at hnd2
    exact hnd2.1 (by rw [← e]; exact List.mem_map_of_mem hx)
  have mem : ∀ x, x ∈ (⟨c.slots.set i (some b'), hd⟩ : CSt).held → x = b' ∨ (x ∈ c.held ∧ x.n ≠ b.n) := by
    intro x hx
    rw [e2] at hx
    have hx : x ∈ A ++ [b'] ++ B := hx
    simp only [List.mem_append, List.mem_singleton] at hx
    rcases hx with (hx | hx) | hx
    · exact .inr ⟨by rw [e1]; simp [hx], hne x (by simp [hx])⟩
    · exact .inl hx
    · exact .inr ⟨by rw [e1]; simp [hx], hne x (by simp [hx])⟩
  have hbm : b ∈ c.held := by rw [e1]; simp
  refine ⟨by simp [h.len], hh, by rw [hmap]; exact h.nodup, fun x hx => ?_, fun x hx => ?_, fun x hx => ?_, fun n hn' => ?_⟩
  · rcases mem x hx with rfl | ⟨hx, _⟩
    · rw [hn]; exact h.rng b hbm
    · exact h.rng x hx
  · rcases mem x hx with rfl | ⟨hx, hxn⟩
    · rw [hn]; exact h1
    · rw [(hp _ hxn).2]; exact h.pin x hx
  · rcases mem x hx with rfl | ⟨hx, hxn⟩
    · rw [hn]; exact h2
    · rw [(hp _ hxn).1]; exact h.dat x hx
  · rw [hmap] at hn'
    have hne : n ≠ b.n := fun e => hn' (by rw [e]; exact List.mem_map_of_mem hbm)
    rw [(hp _ hne).1, (hp _ hne).2]; exact h.off n hn'
theorem CI.away (h : CI room c puts pins cur) {i : Nat} {b : Buf} (hi : c.slots[i]? = some (some b)) {puts' : Int → Dat} (hp : ∀ m, m ≠ b.n → puts' m = puts m) (h1 : b.pins = 0) (h2 : puts' b.n = []) {hd : Nat} (hh : hd < room) :
    CI room ⟨c.slots.set i none, hd⟩ puts' pins cur ∧ ∀ n, n ∉ c.held.map Buf.n → n ∉ (⟨c.slots.set i none, hd⟩ : CSt).held.map Buf.n := by
  obtain ⟨A, B, e1, e2⟩ := held_at hi
  have e2 := e2 none hd
  simp only [Option.toList, List.append_nil] at e1 e2
  have hnd := h.nodup
  rw [e1] at hnd
  have hp2 : (A ++ [b] ++ B).Perm (b :: (A ++ B)) := by simp
  have hnd2 := (hp2.map Buf.n).nodup_iff.1 hnd
  rw [List.map_cons, List.nodup_cons] at hnd2
  have mem : ∀ x, x ∈ (⟨c.slots.set i none, hd⟩ : CSt).held → x ∈ c.held ∧ x.n ≠ b.n := by
    intro x hx
    rw [e2] at hx
    refine ⟨by rw [e1]; rcases List.mem_append.1 hx with hx | hx <;> simp [hx], fun e => hnd2.1 (by rw [← e]; exact List.mem_map_of_mem hx)⟩
  have hbm : b ∈ c.held := by rw [e1]; simp
  refine ⟨⟨by simp [h.len], hh, by rw [e2]; exact hnd2.2, fun x hx => h.rng x (mem x hx).1, fun x hx => h.pin x (mem x hx).1, fun x hx => ?_, fun n hn => ?_⟩, fun n hn hm => ?_⟩
  · obtain ⟨hx1, hx2⟩ := mem x hx
    rw [hp _ hx2]; exact h.dat x hx1
  · by_cases hnb : n = b.n
    · subst hnb
      exact ⟨by rw [h.pin b hbm, h1], h2⟩
    · have : n ∉ c.held.map Buf.n := by
        intro hm
        obtain ⟨x, hx, rfl⟩ := List.mem_map.1 hm
        refine hn (List.mem_map_of_mem ?_)
        rw [e2]
        rw [e1] at hx
        simp only [List.mem_append, List.mem_singleton] at hx ⊢
        rcases hx with (hx | hx) | hx
        · exact .inl hx
        · exact absurd (by rw [hx]) hnb
        · exact .inr hx
      rw [hp _ hnb]; exact h.off n this
  · obtain ⟨x, hx, rfl⟩ := List.mem_map.1 hm
    exact hn (List.mem_map_of_mem (mem x hx).1)
theorem CI.new (h : CI room c puts pins cur) {i : Nat} (hi : c.slots[i]? = some none) {n : Int} (hn : n ∉ c.held.map Buf.n) (hr : 30 ≤ n ∧ n < 40) (m : Bool) : CI room ⟨c.slots.set i (some ⟨n, cur n, 0, false, m⟩), c.hand⟩ puts pins cur := by
  obtain ⟨A, B, e1, e2⟩ := held_at hi
  have e2 := e2 (some ⟨n, cur n, 0, false, m⟩) c.hand
  simp only [Option.toList, List.append_nil] at e1 e2
  have mem : ∀ x, x ∈ (⟨c.slots.set i (some ⟨n, cur n, 0, false, m⟩), c.hand⟩ : CSt).held ↔ x = ⟨n, cur n, 0, false, m⟩ ∨ x ∈ c.held := by
    intro x
    rw [e2, e1]
    simp only [List.mem_append, List.mem_singleton]
    constructor
    · rintro ((hx | hx) | hx)
      · exact .inr (.inl hx)
      · exact .inl hx
      · exact .inr (.inr hx)
    · rintro (hx | hx | hx)
      · exact .inl (.inr hx)
      · exact .inl (.inl hx)
      · exact .inr hx
  have hoff := h.off n hn
  refine ⟨by simp [h.len], h.hand, ?_, fun x hx => ?_, fun x hx => ?_, fun x hx => ?_, fun k hk => ?_⟩
  · have hp : ((⟨c.slots.set i (some ⟨n, cur n, 0, false, m⟩), c.hand⟩ : CSt).held).Perm (⟨n, cur n, 0, false, m⟩ :: c.held) := by rw [e2, e1]; simp
    rw [(hp.map Buf.n).nodup_iff, List.map_cons, List.nodup_cons]
    exact ⟨hn, h.nodup⟩
  · rcases (mem x).1 hx with rfl | hx
    · exact hr
    · exact h.rng x hx
  · rcases (mem x).1 hx with rfl | hx
    · exact hoff.1
    · exact h.pin x hx
  · rcases (mem x).1 hx with rfl | hx
    · exact ⟨(fun h => by cases h), fun _ => ⟨hoff.2, rfl⟩⟩
    · exact h.dat x hx
  · refine h.off k fun hm => hk ?_
    obtain ⟨x, hx, rfl⟩ := List.mem_map.1 hm
    exact List.mem_map_of_mem ((mem x).2 (.inr hx))
theorem CI.roomK : ∀ (f : Nat) (c : CSt), CI room c puts pins cur → (∀ n, 0 ≤ pins n) → CI room (Go.Proofs.YtegdcjnjnoeinaaGreat.roomK f c).1 puts pins cur ∧ (∀ i, (Go.Proofs.YtegdcjnjnoeinaaGreat.roomK f c).2 = some i → (Go.Proofs.YtegdcjnjnoeinaaGreat.roomK f c).1.slots[i]? = some none) ∧ ∀ n, n ∉ c.held.map Buf.n → n ∉ (Go.Proofs.YtegdcjnjnoeinaaGreat.roomK f c).1.held.map Buf.n
  | 0, c, h, _ => ⟨h, (fun i hi => by cases hi), fun n hn => hn⟩
  | f + 1, c, h, hpos => by
    have hl := h.len
    have hh := h.hand
    have hmod : (c.hand + 1) % c.slots.length < room := by rw [hl]; exact Nat.mod_lt _ (by omega)
    rw [Go.Proofs.YtegdcjnjnoeinaaGreat.roomK]
    split
    · rename_i b hb
      by_cases h1 : 0 < b.pins ∨ b.dirty = true
      · rw [if_pos h1]
        exact CI.roomK f _ (h.turn hmod) hpos
      rw [if_neg h1]
      have hbm : b ∈ c.held := held_mem.2 (List.mem_of_getElem? hb)
      have hbp : b.pins = 0 := by have := hpos b.n; rw [h.pin b hbm] at this; omega
      have hbd : b.dirty = false := by
        cases hd : b.dirty with
        | false => rfl
        | true => exact absurd (.inr hd) h1
      have hdat := h.dat b hbm
      by_cases h2 : b.mark = true
      · rw [if_pos h2]
        have h3 := h.upd hb { b with mark := false } rfl (puts' := puts) (pins' := pins) (fun _ _ => ⟨rfl, rfl⟩) (h.pin b hbm) hdat hmod
        obtain ⟨q1, q2, q3⟩ := CI.roomK f _ h3 hpos
        refine ⟨q1, q2, fun n hn => q3 n ?_⟩
        obtain ⟨A, B, e1, e2⟩ := held_at hb
        rw [e1] at hn
        rw [e2]
        simpa using hn
      · rw [if_neg h2]
        obtain ⟨q1, q2⟩ := h.away hb (puts' := puts) (fun _ _ => rfl) hbp (hdat.2 hbd).1 hmod
        refine ⟨q1, fun i hi => ?_, q2⟩
        cases hi
        exact List.getElem?_set_self (by omega)
    · exact ⟨h, (fun i hi => by cases hi), fun n hn => hn⟩
theorem CI.roomC (h : CI room c puts pins cur) (hpos : ∀ n, 0 ≤ pins n) : CI room c.room.1 puts pins cur ∧ (∀ i, c.room.2 = some i → c.room.1.slots[i]? = some none) ∧ ∀ n, n ∉ c.held.map Buf.n → n ∉ c.room.1.held.map Buf.n := by
  unfold CSt.room
  cases hf : c.slots.findIdx? Option.isNone with
  | none => exact CI.roomK _ c h hpos
  | some i =>
    refine ⟨h, fun j hj => ?_, fun n hn => hn⟩
    cases hj
    rw [List.findIdx?_eq_some_iff_getElem] at hf
    obtain ⟨h1, h2, _⟩ := hf
    rw [List.getElem?_eq_getElem h1]
    cases hx : c.slots[i] with
    | none => rfl
    | some y => rw [hx] at h2; cases h2
end
def StuckB (b : Buf) : Prop := 0 < b.pins ∨ b.dirty = true
/-- what is not stuck is found within two rounds -/
theorem stuckK : ∀ (f : Nat) (c : CSt), c.hand < c.slots.length → (∀ (j : Nat) (x : Option Buf), c.slots[j]? = some x → x.isSome = true) → (roomK f c).2 = none →
    ∀ (j : Nat) (b : Buf), c.slots[j]? = some (some b) → (if c.hand ≤ j then j - c.hand else j + c.slots.length - c.hand) < f → StuckB b ∨ (b.mark = true ∧ f ≤ (if c.hand ≤ j then j - c.hand else j + c.slots.length - c.hand) + c.slots.length)
  | 0, _, _, _, _, _, _, _, h => by omega
  | f + 1, c, hh, hall, hn, j, b, hj, hlt => by
    have hjl : j < c.slots.length := (List.getElem?_eq_some_iff.1 hj).1
    have hx : c.slots[c.hand]? = some (c.slots[c.hand]) := List.getElem?_eq_getElem hh
    rw [roomK] at hn
    cases hs : c.slots[c.hand] with
    | none => have := hall _ _ hx; rw [hs] at this; cases this
    | some y =>
      rw [hs] at hx
      rw [hx] at hn
      dsimp only at hn
      have hnx : (c.hand + 1) % c.slots.length = if c.hand + 1 = c.slots.length then 0 else c.hand + 1 := by
        split
        · rename_i h; rw [h, Nat.mod_self]
        · exact Nat.mod_eq_of_lt (by omega)
      have hmod : (c.hand + 1) % c.slots.length < c.slots.length := Nat.mod_lt _ (by omega)
      by_cases h1 : 0 < y.pins ∨ y.dirty = true
      · rw [if_pos h1] at hn
        by_cases hjh : j = c.hand
        · subst hjh; rw [hx] at hj; cases hj; exact .inl h1
        · have ih := stuckK f ⟨c.slots, (c.hand + 1) % c.slots.length⟩ hmod hall hn j b hj
          dsimp only at ih
          rw [hnx] at ih
          have hd : (if (if c.hand + 1 = c.slots.length then 0 else c.hand + 1) ≤ j then j - (if c.hand + 1 = c.slots.length then 0 else c.hand + 1) else j + c.slots.length - (if c.hand + 1 = c.slots.length then 0 else c.hand + 1)) + 1 = (if c.hand ≤ j then j - c.hand else j + c.slots.length - c.hand) := by
            split <;> split <;> split <;> omega
          rcases ih (by omega) with h | ⟨h, h'⟩
          · exact .inl h
          · exact .inr ⟨h, by omega⟩
      rw [if_neg h1] at hn
      by_cases h2 : y.mark = true
      · rw [if_pos h2] at hn
        have hln : (c.slots.set c.hand (some { y with mark := false })).length = c.slots.length := List.length_set
        have hall2 : ∀ (j : Nat) (x : Option Buf), (c.slots.set c.hand (some { y with mark := false }))[j]? = some x → x.isSome = true := by
          intro j x hx
          by_cases hjh : c.hand = j
          · subst hjh
            rw [List.getElem?_set_self hh] at hx
            cases hx; rfl
          · rw [List.getElem?_set_ne hjh] at hx
            exact hall j x hx
        have ih := fun b hb => stuckK f ⟨c.slots.set c.hand (some { y with mark := false }), (c.hand + 1) % c.slots.length⟩ (by rw [hln]; exact hmod) hall2 hn j b hb
        dsimp only at ih
        rw [hln, hnx] at ih
        by_cases hjh : j = c.hand
        · subst hjh
          rw [hx] at hj
          cases hj
          refine .inr ⟨h2, ?_⟩
          rw [if_pos (Nat.le_refl _)]
          rcases Nat.lt_or_ge c.slots.length (f + 1) with g | g
          · exfalso
            have hd : (if (if c.hand + 1 = c.slots.length then 0 else c.hand + 1) ≤ c.hand then c.hand - (if c.hand + 1 = c.slots.length then 0 else c.hand + 1) else c.hand + c.slots.length - (if c.hand + 1 = c.slots.length then 0 else c.hand + 1)) + 1 = c.slots.length := by
              split <;> split <;> omega
            rcases ih _ (List.getElem?_set_self hh) (by omega) with h | ⟨h, _⟩
            · exact h1 h
            · cases h
          · omega
        · have hd : (if (if c.hand + 1 = c.slots.length then 0 else c.hand + 1) ≤ j then j - (if c.hand + 1 = c.slots.length then 0 else c.hand + 1) else j + c.slots.length - (if c.hand + 1 = c.slots.length then 0 else c.hand + 1)) + 1 = (if c.hand ≤ j then j - c.hand else j + c.slots.length - c.hand) := by
            split <;> split <;> split <;> omega
          rcases ih b (by rw [List.getElem?_set_ne (fun e => hjh e.symm)]; exact hj) (by omega) with h | ⟨h, h'⟩
          · exact .inl h
          · exact .inr ⟨h, by omega⟩
      · rw [if_neg h2] at hn; cases hn
theorem room_stuck {c : CSt} (hh : c.hand < c.slots.length) (hn : c.room.2 = none) : c.held.length = c.slots.length ∧ ∀ b ∈ c.held, StuckB b := by
  unfold CSt.room at hn
  cases hf : c.slots.findIdx? Option.isNone with
  | some i => rw [hf] at hn; cases hn
  | none =>
    rw [hf] at hn
    dsimp only at hn
    rw [List.findIdx?_eq_none_iff] at hf
    have hall : ∀ (j : Nat) (x : Option Buf), c.slots[j]? = some x → x.isSome = true := by
      intro j x hx
      have := hf x (List.mem_of_getElem? hx)
      cases x with
      | none => cases this
      | some y => rfl
    refine ⟨?_, fun b hb => ?_⟩
    · unfold CSt.held
      have : ∀ l : List (Option Buf), (∀ x ∈ l, x.isSome = true) → (l.filterMap id).length = l.length := by
        intro l
        induction l with
        | nil => intro _; rfl
        | cons x l ih =>
          intro h
          have hx := h x (by simp)
          cases x with
          | none => cases hx
          | some y =>
            have := ih (fun z hz => h z (by simp [hz]))
            simpa using this
      exact this _ fun x hx => by
        obtain ⟨j, hj⟩ := List.mem_iff_getElem?.1 hx
        exact hall j x hj
    · obtain ⟨j, hj⟩ := List.mem_iff_getElem?.1 (held_mem.1 hb)
      have hjl : j < c.slots.length := (List.getElem?_eq_some_iff.1 hj).1
      have hd : (if c.hand ≤ j then j - c.hand else j + c.slots.length - c.hand) < c.slots.length := by split <;> omega
      rcases stuckK (2 * c.slots.length) c hh hall hn j b hj (by omega) with h | ⟨_, h⟩
      · exact h
      · omega
theorem roomK_same : ∀ (f : Nat) (c : CSt), (roomK f c).2 = none → (roomK f c).1.held.map Buf.n = c.held.map Buf.n
  | 0, _, _ => rfl
  | f + 1, c, h => by
    rw [roomK] at h ⊢
    split at h
    · rename_i b hb
      by_cases h1 : 0 < b.pins ∨ b.dirty = true
      · rw [if_pos h1] at h ⊢
        exact roomK_same f _ h
      rw [if_neg h1] at h ⊢
      by_cases h2 : b.mark = true
      · rw [if_pos h2] at h ⊢
        rw [roomK_same f _ h]
        obtain ⟨A, B, e1, e2⟩ := held_at hb
        rw [e1, e2]; simp
      · rw [if_neg h2] at h; cases h
    · rfl
theorem room_same {c : CSt} (h : c.room.2 = none) : c.room.1.held.map Buf.n = c.held.map Buf.n := by
  unfold CSt.room at h ⊢
  cases hf : c.slots.findIdx? Option.isNone with
  | some i => simp [hf] at h
  | none => simp only [hf] at h; exact roomK_same _ c h
end Go.Proofs.YtegdcjnjnoeinaaGreat
namespace Go.Proofs.YtegdcjnjnoeinaaGreat
open Go.RowKit Go.Sl
set_option maxRecDepth 20000

theorem law12_has (I : Imm) (S : St) (a : Option Addr) (n cap : Nat) (z : List Int) (hz : z.length = n) (hn : n ≤ 1000000) (hs : SlC I S a n (ints z)) (x : Int) :
    Tri Tryz.prog 73 #[.slice a n cap, .int .i64 x] I S fun v J S' => v = .bool (decide (x ∈ z)) ∧ I = J ∧ S' = S := by
  refine Tri.of (args := [.slice a n cap, .int .i64 x]) tabOk Tryz.func73 rfl (by kernel_rfl) (by kernel_rfl) ?_
  refine CodeF.loopD [0, 1, 5] (fun vs J' S' => ∃ i : Nat, i ≤ n ∧ (∀ (j : Nat) (y : Int), j < i → z[j]? = some y → y ≠ x) ∧ vs = [.slice a n cap, .int .i64 x, .int .i64 i] ∧ I = J' ∧ S' = S)
    (fun vs _ _ => match vs with | [_, _, .int _ i] => ((n : Int) - i).toNat | _ => 0) ?_ ?_
  · exact ⟨_, Drop.refl _, 0, by omega, by omega, rfl, rfl, rfl⟩
  rintro vs gE J S' hJ ⟨i, hi, hno, rfl, rfl, rfl⟩
  refine CmpD.split (fun (c1 : (i : Int) < n) => ?_) (fun (c1 : ¬ (i : Int) < n) => ?_)
  · obtain ⟨b, off, rfl, hc⟩ := hs.cells (by omega)
    obtain ⟨y, hy⟩ : ∃ y, z[i]? = some y := ⟨_, List.getElem?_eq_getElem (by omega)⟩
    refine Chk.mk (by omega) ?_
    refine LoadD.mk [.int .i64 y] (hc.at (by rw [Int.toNat_natCast]; exact ints_get hy)) ?_
    refine CmpD.split (fun (c2 : y = x) => ?_) (fun (c2 : ¬ y = x) => ?_)
    · rw [decide_eq_true (by rw [← c2]; exact List.mem_of_getElem? hy)]
      exact Done.mk ⟨rfl, rfl, rfl⟩
    · refine ToD.to (((i + 1 : Nat)) : Int) (by rw [wrap_i64 (by omega) (by omega)]; omega) ?_
      refine ⟨_, Drop.refl _, ⟨i + 1, by omega, fun j w hj hw => ?_, rfl, rfl, rfl⟩, ?_⟩
      · rcases Nat.lt_or_ge j i with g | g
        · exact hno j w g hw
        · obtain rfl : j = i := by omega
          rw [hy] at hw; cases hw; exact c2
      · show ((n : Int) - ((i + 1 : Nat) : Int)).toNat < ((n : Int) - (i : Int)).toNat; omega
  · rw [decide_eq_false (fun hm => by
      obtain ⟨j, hj⟩ := List.mem_iff_getElem?.1 hm
      have := (List.getElem?_eq_some_iff.1 hj).1
      exact hno j x (by omega) hj rfl)]
    exact Done.mk ⟨rfl, rfl, rfl⟩
theorem law12_stuck (I : Imm) (S : St) (aH aP aQ : Option Addr) (n capH : Nat) (z : List Int) (hz : z.length = n) (hn : n ≤ 1000) (hs : SlC I S aH n (ints z)) (pl : List Bs) (hp : SlC I S aP 10 (pl.map Bs.cell)) (ql : List Int) (hq : SlC I S aQ 10 (ints ql)) (room : Int)
    (hst : ∀ x ∈ z, 30 ≤ x ∧ x < 40 ∧ ∀ (q : Int) (p : Bs), ql[(x - 30).toNat]? = some q → pl[(x - 30).toNat]? = some p → q ≠ 0 ∨ p.len ≠ 0) :
    Tri Tryz.prog 74 #[.slice aH n capH, .slice aP 10 10, .slice aQ 10 10, .int .i64 room] I S fun v J S' => v = .bool (decide ((n : Int) = room)) ∧ I = J ∧ S' = S := by
  have hpl : pl.length = 10 := by have := hp.len; simpa using this
  have hql : ql.length = 10 := by have := hq.len; simpa [ints] using this
  refine Tri.of (args := [.slice aH n capH, .slice aP 10 10, .slice aQ 10 10, .int .i64 room]) tabOk Tryz.func74 rfl (by kernel_rfl) (by kernel_rfl) ?_
  refine CodeF.loopD [0, 1, 2, 3, 9] (fun vs J' S' => ∃ i : Nat, i ≤ n ∧ vs = [.slice aH n capH, .slice aP 10 10, .slice aQ 10 10, .int .i64 room, .int .i64 i] ∧ I = J' ∧ S' = S)
    (fun vs _ _ => match vs with | [_, _, _, _, .int _ i] => ((n : Int) - i).toNat | _ => 0) ?_ ?_
  · exact ⟨_, Drop.refl _, 0, by omega, rfl, rfl, rfl⟩
  rintro vs gE J S' hJ ⟨i, hi, rfl, rfl, rfl⟩
  refine CmpD.split (fun (c1 : (i : Int) < n) => ?_) (fun (c1 : ¬ (i : Int) < n) => ?_)
  · obtain ⟨b, off, rfl, hc⟩ := hs.cells (by omega)
    obtain ⟨bP, oP, rfl, hcP⟩ := hp.cells (by omega)
    obtain ⟨bQ, oQ, rfl, hcQ⟩ := hq.cells (by omega)
    obtain ⟨y, hy⟩ : ∃ y, z[i]? = some y := ⟨_, List.getElem?_eq_getElem (by omega)⟩
    obtain ⟨h1, h2, h3⟩ := hst y (List.mem_of_getElem? hy)
    obtain ⟨k, rfl⟩ : ∃ k : Nat, y = 30 + k := ⟨(y - 30).toNat, by omega⟩
    have hk : (30 + (k : Int) - 30).toNat = k := by omega
    obtain ⟨q, hqk⟩ : ∃ q, ql[k]? = some q := ⟨_, List.getElem?_eq_getElem (by omega)⟩
    obtain ⟨p, hpk⟩ : ∃ p, pl[k]? = some p := ⟨_, List.getElem?_eq_getElem (by omega)⟩
    have h3 := h3 q p (by rw [hk]; exact hqk) (by rw [hk]; exact hpk)
    refine Chk.mk (by omega) ?_
    refine LoadD.mk [.int .i64 (30 + (k : Int))] (hc.at (by rw [Int.toNat_natCast]; exact ints_get hy)) ?_
    refine ToD.to (k : Int) (by rw [wrap_i64 (by omega) (by omega)]; omega) ?_
    refine Chk.mk (by omega) ?_
    refine LoadD.mk [.int .i64 q] (hcQ.at (by rw [Int.toNat_natCast]; exact ints_get hqk)) ?_
    have mu : ((n : Int) - ((i + 1 : Nat) : Int)).toNat < ((n : Int) - (i : Int)).toNat := by omega
    refine CmpD.split (fun (c2 : q = 0) => ?_) (fun (c2 : ¬ q = 0) => ?_)
    · refine Chk.mk (by omega) ?_
      refine LoadD.mk [p.cell] (hcP.at (by rw [Int.toNat_natCast, List.getElem?_map, hpk]; rfl)) ?_
      refine CmpD.no (by show ¬ (p.len : Int) = 0; omega) ?_
      refine ToD.to (((i + 1 : Nat)) : Int) (by rw [wrap_i64 (by omega) (by omega)]; omega) ?_
      exact ⟨_, Drop.refl _, ⟨i + 1, by omega, rfl, rfl, rfl⟩, mu⟩
    · refine ToD.to (((i + 1 : Nat)) : Int) (by rw [wrap_i64 (by omega) (by omega)]; omega) ?_
      exact ⟨_, Drop.refl _, ⟨i + 1, by omega, rfl, rfl, rfl⟩, mu⟩
  · refine CmpD.split (fun (c2 : (n : Int) = room) => ?_) (fun (c2 : ¬ (n : Int) = room) => ?_)
    · rw [decide_eq_true c2]; exact Done.mk ⟨rfl, rfl, rfl⟩
    · rw [decide_eq_false c2]; exact Done.mk ⟨rfl, rfl, rfl⟩
theorem which_mem {c : CSt} {p : Buf → Bool} {n : Int} : n ∈ c.which p ↔ ∃ b ∈ c.held, p b = true ∧ b.n = n := by
  unfold CSt.which
  rw [(sortI_perm _).mem_iff]
  simp [List.mem_map, List.mem_filter, and_assoc]
theorem which_len {c : CSt} {p : Buf → Bool} : (c.which p).length ≤ c.slots.length := by
  unfold CSt.which
  rw [(sortI_perm _).length_eq, List.length_map]
  have h1 := List.length_filter_le p c.held
  have h2 : c.held.length ≤ c.slots.length := List.length_filterMap_le ..
  omega
/-- all of it: the cache, its volume and disk, what was put, the pins -/
def SW (J : Imm) (bD bV bC room i : Nat) (vp vq : Value) (S' : St) : Prop := ∃ (c : CSt) (v : VSt) (d : DSt) (puts : Int → Dat) (pins : Int → Int) (chC chV chD : List Blk) (bP bQ : Nat) (pl : List Bs) (ql : List Int) (ep t0 sq : Nat) (ls : List (List PImg)),
  Ck J bC bV c chC ∧ Vk J bV bD v chV ∧ Dk J bD d chD ∧ WV ep t0 sq v d ls (24 + 33 * i) ∧ sq + ls.length ≤ 1 + i ∧ CI room c puts pins (v.cur d) ∧ (∀ n, 0 ≤ pins n ∧ pins n ≤ i) ∧
  pl.length = 10 ∧ ql.length = 10 ∧ (∀ (k : Nat) (p : Bs), pl[k]? = some p → p.data = puts (30 + k) ∧ Rds J p.a p.len (bts p.data)) ∧ (∀ (k : Nat) (q : Int), ql[k]? = some q → q = pins (30 + k)) ∧
  vp = .slice (some ⟨bP, 0, none⟩) 10 10 ∧ vq = .slice (some ⟨bQ, 0, none⟩) 10 10 ∧ S' = [chC, chV, chD, [(bP, row (pl.map Bs.cell) 32)], [(bQ, row (ints ql) 3)]]
theorem clean_held (c : CSt) : c.clean.held = c.held.map fun b => { b with dirty := false } := by
  unfold CSt.clean CSt.held
  dsimp only
  rw [List.filterMap_map, List.map_filterMap]
  congr 1
theorem dirtyL_len (c : CSt) : c.dirtyL.length ≤ c.slots.length := by
  rw [(dirtyL_perm c).length_eq]
  have h1 := List.length_filter_le Buf.dirty c.held
  have h2 : c.held.length ≤ c.slots.length := List.length_filterMap_le ..
  omega
theorem dirtyL_mem {c : CSt} {b : Buf} : b ∈ c.dirtyL ↔ b ∈ c.held ∧ b.dirty = true := by
  rw [(dirtyL_perm c).mem_iff, List.mem_filter]
theorem lastD_of {l : List Buf} (hnd : (l.map Buf.n).Nodup) {b : Buf} (hb : b ∈ l) : lastD (l.map fun b => (b.n, b.data)) b.n = some b.data := by
  cases h : lastD (l.map fun b => (b.n, b.data)) b.n with
  | some x =>
    obtain ⟨g, hg, h1, h2⟩ := lastD_mem _ _ _ h
    obtain ⟨y, hy, rfl⟩ := List.mem_map.1 hg
    have := nodup_inj Buf.n hnd hy hb h1
    subst this
    rw [← h2]
  | none =>
    exfalso
    have key : ∀ (l : List PImg) (g : PImg), g ∈ l → lastD l g.1 ≠ none := by
      intro l
      refine snoc_ind (p := fun l : List PImg => ∀ g ∈ l, lastD l g.1 ≠ none) (by simp) ?_ l
      intro l y ih g hg
      rw [lastD_snoc]
      split
      · simp
      · rename_i hne
        rcases List.mem_append.1 hg with hg | hg
        · exact ih g hg
        · simp only [List.mem_singleton] at hg
          subst hg; exact absurd rfl hne
    exact key _ (b.n, b.data) (List.mem_map.2 ⟨b, hb, rfl⟩) h
/-- all that is dirty is committed -/
theorem commit_stays {room i : Nat} {c : CSt} {puts : Int → Dat} {pins : Int → Int} {v : VSt} {d : DSt} {ep t0 sq : Nat} {ls : List (List PImg)} (hw : WV ep t0 sq v d ls (24 + 33 * i)) (hsq : sq + ls.length ≤ 1 + i) (hi : i ≤ 80) (hCI : CI room c puts pins (v.cur d)) (hr : 1 ≤ room ∧ room ≤ 6) :
    ∃ (c2 : CSt) (v2 : VSt) (d2 : DSt) (k e : Int) (ep2 t2 sq2 : Nat) (ls2 : List (List PImg)), c.commit v d = (c2, v2, d2, k, e) ∧ WV ep2 t2 sq2 v2 d2 ls2 (24 + 33 * (i + 1)) ∧ sq2 + ls2.length ≤ 1 + (i + 1) ∧ CI room c2 (fun _ => []) pins (v2.cur d2) ∧ e = 0 := by
  have hmapn : c.clean.held.map Buf.n = c.held.map Buf.n := by rw [clean_held, List.map_map]; rfl
  have hcl : c.clean.slots.length = c.slots.length := by simp [CSt.clean]
  by_cases h0 : c.dirtyL = []
  · refine ⟨c, v, d, 0, 0, ep, t0, sq, ls, by unfold CSt.commit; rw [if_pos h0], hw.mono (by omega), by omega, ⟨hCI.len, hCI.hand, hCI.nodup, hCI.rng, hCI.pin, fun b hb => ?_, fun n hn => ⟨(hCI.off n hn).1, rfl⟩⟩, rfl⟩
    have hnd : b.dirty = false := by
      cases h : b.dirty with
      | false => rfl
      | true => have := dirtyL_mem.2 ⟨hb, h⟩; rw [h0] at this; cases this
    exact ⟨fun h => by (rw [hnd] at h; cases h), fun _ => ⟨rfl, ((hCI.dat b hb).2 hnd).2⟩⟩
  have hdn : (c.dirtyL.map Buf.n).Nodup := by
    have h1 : (c.held.filter Buf.dirty).Sublist c.held := List.filter_sublist
    rw [((dirtyL_perm c).map Buf.n).nodup_iff]
    exact (h1.map Buf.n).nodup hCI.nodup
  have hl := dirtyL_len c
  rw [hCI.len] at hl
  have hpos : 1 ≤ c.dirtyL.length := by
    cases hd : c.dirtyL with
    | nil => exact absurd hd h0
    | cons x l => simp
  have hdat : ∀ g ∈ c.dirtyL.map (fun b => (b.n, b.data)), 30 ≤ g.1 ∧ g.1 < 40 ∧ g.2.length = 4096 := by
    intro g hg
    obtain ⟨b, hb, rfl⟩ := List.mem_map.1 hg
    obtain ⟨h1, h2⟩ := dirtyL_mem.1 hb
    exact ⟨(hCI.rng b h1).1, (hCI.rng b h1).2, ((hCI.dat b h1).1 h2).2⟩
  have hepr := hw.e.epr
  have hpo := hw.e.pos
  have hll : (c.dirtyL.map fun b => (b.n, b.data)).length = c.dirtyL.length := List.length_map _
  obtain ⟨v2, d2, t2, sq2, ls2, hcm, hw2, hsq2, hcur2⟩ := hw.commit (l := c.dirtyL.map fun b => (b.n, b.data)) (of_home64 fun g hg => by have := hdat g hg; omega)
    ⟨by omega, by omega, by omega, by omega, by omega, by omega, fun g hg => by have := hdat g hg; exact ⟨by omega, by omega, this.2.2⟩, by rw [List.map_map]; exact hdn⟩ (by omega)
  refine ⟨c.clean, v2, d2, ((sq + ls.length : Nat) : Int), 0, ep, t2, sq2, ls2, ?_, hw2.mono (by omega), by omega, ?_, rfl⟩
  · unfold CSt.commit
    rw [if_neg h0, hcm]
    simp
  · refine ⟨by rw [hcl]; exact hCI.len, hCI.hand, by rw [hmapn]; exact hCI.nodup, fun b hb => ?_, fun b hb => ?_, fun b hb => ?_, fun n hn => ⟨(hCI.off n (by rw [hmapn] at hn; exact hn)).1, rfl⟩⟩
    all_goals
      rw [clean_held] at hb
      obtain ⟨b0, hb0, rfl⟩ := List.mem_map.1 hb
    · exact hCI.rng b0 hb0
    · exact hCI.pin b0 hb0
    · refine ⟨(fun h => by cases h), fun _ => ⟨rfl, ?_⟩⟩
      have hrg := hCI.rng b0 hb0
      show b0.data = v2.cur d2 b0.n
      rw [hcur2 b0.n (by omega) (by omega)]
      cases hd : b0.dirty with
      | true => rw [lastD_of hdn (dirtyL_mem.2 ⟨hb0, hd⟩)]; rfl
      | false =>
        have hno : lastD (c.dirtyL.map fun b => (b.n, b.data)) b0.n = none := lastD_none fun hm => by
          obtain ⟨g, hg, h1⟩ := List.mem_map.1 hm
          obtain ⟨y, hy, rfl⟩ := List.mem_map.1 hg
          obtain ⟨h2, h3⟩ := dirtyL_mem.1 hy
          have := nodup_inj Buf.n hCI.nodup h2 hb0 h1
          subst this
          rw [hd] at h3; cases h3
        rw [hno]
        exact ((hCI.dat b0 hb0).2 hd).2
end Go.Proofs.YtegdcjnjnoeinaaGreat
namespace Go.Proofs.YtegdcjnjnoeinaaGreat
open Go.RowKit Go.Sl
set_option maxRecDepth 20000

theorem take_at {c : List Value} {k : Nat} {v : Value} (h : c[k]? = some v) : (c.drop k).take 1 = [v] := by
  obtain ⟨h1, rfl⟩ := List.getElem?_eq_some_iff.1 h
  rw [List.drop_eq_getElem_cons h1]; rfl
theorem quoN (a b : Nat) (h : a ≤ 9223372036854775807) : IntKind.i64.wrap (((a : Int)).tdiv (b : Int)) = ((a / b : Nat) : Int) := by
  have h1 : a / b ≤ a := Nat.div_le_self _ _
  rw [Int.tdiv_eq_ediv_of_nonneg (by omega), ← Int.natCast_ediv]
  generalize a / b = q at *
  exact wrap_i64 (by omega) (by omega)
theorem splice_ints (l : List Int) {k : Nat} (hk : k < l.length) (x : Int) : splice (ints l) k [.int .i64 x] = ints (l.set k x) := by
  have := splice_set [] (ints l) [] k (.int .i64 x) (by simpa [ints] using hk)
  simp only [List.nil_append, List.append_nil, List.length_nil, Nat.zero_add] at this
  rw [this]; simp [ints, List.map_set]
theorem splice_cells (l : List Bs) {k : Nat} (hk : k < l.length) (x : Bs) : splice (l.map Bs.cell) k [x.cell] = (l.set k x).map Bs.cell := by
  have := splice_set [] (l.map Bs.cell) [] k x.cell (by simpa using hk)
  simp only [List.nil_append, List.append_nil, List.length_nil, Nat.zero_add] at this
  rw [this, List.map_set]
def upF {α : Type} (f : Int → α) (n : Int) (x : α) : Int → α := fun m => if m = n then x else f m
theorem upF_self {α : Type} (f : Int → α) (n : Int) (x : α) : upF f n x n = x := by simp [upF]
theorem upF_ne {α : Type} (f : Int → α) {n m : Int} (x : α) (h : m ≠ n) : upF f n x m = f m := by simp [upF, h]
theorem ql_set {ql : List Int} {pins : Int → Int} (h : ∀ (k : Nat) (q : Int), ql[k]? = some q → q = pins (30 + k)) (k : Nat) (x : Int) : ∀ (j : Nat) (q : Int), (ql.set k x)[j]? = some q → q = upF pins (30 + k) x (30 + j) := by
  intro j q hj
  by_cases hkj : k = j
  · subst hkj
    have hlt : k < ql.length := by have := (List.getElem?_eq_some_iff.1 hj).1; simpa using this
    rw [List.getElem?_set_self hlt] at hj
    rw [upF_self]; exact (Option.some.inj hj).symm
  · rw [List.getElem?_set_ne hkj] at hj
    rw [upF_ne _ _ (by omega)]; exact h j q hj
theorem pl_set {J : Imm} {pl : List Bs} {puts : Int → Dat} (h : ∀ (k : Nat) (p : Bs), pl[k]? = some p → p.data = puts (30 + k) ∧ Rds J p.a p.len (bts p.data)) (k : Nat) (x : Bs) (hx : Rds J x.a x.len (bts x.data)) : ∀ (j : Nat) (p : Bs), (pl.set k x)[j]? = some p → p.data = upF puts (30 + k) x.data (30 + j) ∧ Rds J p.a p.len (bts p.data) := by
  intro j p hj
  by_cases hkj : k = j
  · subst hkj
    have hlt : k < pl.length := by have := (List.getElem?_eq_some_iff.1 hj).1; simpa using this
    rw [List.getElem?_set_self hlt] at hj
    obtain rfl := (Option.some.inj hj).symm
    rw [upF_self]; exact ⟨rfl, hx⟩
  · rw [List.getElem?_set_ne hkj] at hj
    rw [upF_ne _ _ (by omega)]; exact h j p hj
theorem pl_mono {I J : Imm} {pl : List Bs} {puts : Int → Dat} (h : ∀ (k : Nat) (p : Bs), pl[k]? = some p → p.data = puts (30 + k) ∧ Rds I p.a p.len (bts p.data)) (hJ : I.le J) : ∀ (k : Nat) (p : Bs), pl[k]? = some p → p.data = puts (30 + k) ∧ Rds J p.a p.len (bts p.data) :=
  fun k p hk => ⟨(h k p hk).1, (h k p hk).2.mono hJ⟩
theorem held_iff {c : CSt} {n : Int} : (30 : Int) + n ∈ c.which (fun _ => true) ↔ ∃ i b, c.got (30 + n) = some (i, b) := by
  rw [which_mem]
  constructor
  · rintro ⟨b, hb, _, hn⟩
    cases hg : c.got (30 + n) with
    | none => exact absurd (List.mem_map.2 ⟨b, hb, hn⟩) (cgot_none.1 hg)
    | some p => exact ⟨p.1, p.2, rfl⟩
  · rintro ⟨i, b, hg⟩
    obtain ⟨_, h1, h2⟩ := cgot_some hg
    exact ⟨b, h2, rfl, h1⟩
set_option maxHeartbeats 16000000 in
theorem cacheStays_walk {I : Imm} (room0 : Int) (hroom : In64 room0) (aZ : Option Addr) (nZ capZ : Nat) (z : List Int) (hzl : z.length = nZ) (hZ : Rds I aZ nZ (ints z)) (hz2 : ∀ x ∈ z, (Lit.int .i64 x).wf = true) :
    Tri Tryz.prog 12 #[.int .i64 room0, .slice aZ nZ capZ] I [] fun v _ _ => v = .bool true := by
  refine Tri.ofF (args := [.int .i64 room0, .slice aZ nZ capZ]) tabOk Tryz.func12 rfl (by kernel_rfl) (by kernel_rfl) ?_
  refine CodeF.stepD ?_
  refine CodeF.stepD ?_
  have hpt := pickS_range (n := room0) (m := 6) (by decide)
  refine Tri.free (low_Pick room0 6 I hroom (by unfold In64; omega)) ?_
  rintro v _ _ hJ ⟨rfl, rfl⟩
  obtain ⟨room, hrm⟩ : ∃ room : Nat, 1 + pickS room0 6 = room := ⟨(1 + pickS room0 6).toNat, by omega⟩
  refine ToD.to (room : Int) (by rw [wrap_i64 (by omega) (by omega)]; omega) ?_
  have hroom6 : 1 ≤ room ∧ room ≤ 6 := by omega
  refine CodeF.stepD ?_
  refine Tri.frameX (law12_fresh I room (by omega)) [] rfl rfl ?_
  rintro r J1 A' hJ1 ⟨bD, bV, bC, rfl, chC, chV, chD, rfl, hC, hV, hD⟩
  rw [Int.toNat_natCast] at hC
  skip
  refine CodeF.stepD ?_
  skip
  refine CodeF.stepD ?_
  refine makeD tabOk rfl rfl rfl 10 10 rfl rfl (Nat.le_refl _) (by show 24 * 10 ≤ _; decide) (by decide) (by show 10 * 1 ≤ _; decide) rfl (by decide) ?_
  intro bP
  refine CodeF.stepD ?_
  refine makeD tabOk rfl rfl rfl 10 10 rfl rfl (Nat.le_refl _) (by show 8 * 10 ≤ _; decide) (by decide) (by show 10 * 1 ≤ _; decide) rfl (by decide) ?_
  intro bQ
  refine CodeF.stepD ?_
  skip
  have hC0 : CI room (newC room) (fun _ => []) (fun _ => 0) (v0.cur dV) := by
    have hh : (newC room).held = [] := by
      unfold CSt.held newC
      simp
    exact ⟨by simp [newC], by show 0 < room; omega, by rw [hh]; simp, by rw [hh]; simp, by rw [hh]; simp, by rw [hh]; simp, fun _ _ => ⟨rfl, rfl⟩⟩
  have hsw0 : SW J1 bD bV bC room 0 (.slice (some ⟨bP, 0, none⟩) 10 10) (.slice (some ⟨bQ, 0, none⟩) 10 10) [chC, chV, chD, [(bP, row ((List.replicate 10 (⟨none, 0, 0, []⟩ : Bs)).map Bs.cell) 32)], [(bQ, row (ints (List.replicate 10 0)) 3)]] := by
    refine ⟨newC room, v0, dV, fun _ => [], fun _ => 0, chC, chV, chD, bP, bQ, List.replicate 10 ⟨none, 0, 0, []⟩, List.replicate 10 0, 2, 0, 1, [], hC, hV, hD, v0_wv, by simp, hC0, fun n => ⟨by show (0 : Int) ≤ 0; omega, by show (0 : Int) ≤ ((0 : Nat) : Int); omega⟩, rfl, rfl, fun k p hk => ?_, fun k q hk => ?_, rfl, rfl, rfl⟩
    · have := List.eq_of_mem_replicate (List.mem_of_getElem? hk)
      subst this
      exact ⟨rfl, ⟨rfl, .inl rfl⟩⟩
    · exact List.eq_of_mem_replicate (List.mem_of_getElem? hk)
  refine CodeF.loopF [0, 1, 6, 7, 9, 10, 11] (fun vs J' S' => ∃ (i : Nat) (vp vq : Value), i ≤ 80 ∧ SW J' bD bV bC room i vp vq S' ∧ J1.le J' ∧
      vs = [.int .i64 room, .slice aZ nZ capZ, .pointer (some ⟨bV, 0, none⟩), .pointer (some ⟨bC, 0, none⟩), vp, vq, .int .i64 i])
    (fun vs _ _ => match vs with | [_, _, _, _, _, _, .int _ i] => ((80 : Int) - i).toNat | _ => 0) ?_ ?_
  · exact ⟨_, Drop.refl _, 0, _, _, by omega, hsw0, Imm.le_refl _, rfl⟩
  clear hsw0 hC hV hD hC0
  rintro vs gE J' S' hJ' ⟨i, vp, vq, hi, hW, hle1, rfl⟩
  have hwake : Tri Tryz.prog 72 #[] J' S' fun v _ _ => v = .bool true := awake12 J' S'
  refine CodeF.stepD ?_
  refine CmpD.split (fun (c1 : (i : Int) < nZ) => ?_) (fun (c1 : ¬ (i : Int) < nZ) => ?_)
  rotate_left
  · refine CodeF.den ?_
    refine Tri.mono hwake ?_
    rintro v J4 S4 hJ4 rfl
    exact Done.mk rfl
  refine CmpD.split (fun (c2 : (i : Int) < 80) => ?_) (fun (c2 : ¬ (i : Int) < 80) => ?_)
  rotate_left
  · refine CodeF.den ?_
    refine Tri.mono hwake ?_
    rintro v J4 S4 hJ4 rfl
    exact Done.mk rfl
  clear hwake
  refine CodeF.seqF (CodeF.blockF ?_ rfl)
  have hlt : i < z.length := by omega
  have hcell : (ints z)[i]? = some (.int .i64 z[i]) := ints_get (List.getElem?_eq_getElem hlt)
  have hz64 : In64 z[i] := int_of_wf (hz2 _ (List.getElem_mem hlt))
  rcases hZ.mem with q0 | ⟨bZ, oZ, cZ, TZ, fZ, rfl, hIZ, hcZ⟩
  · omega
  have hIZ2 := (Imm.le_trans hJ1 hle1) _ _ hIZ
  have hpx := pickS_range (n := z[i]) (m := 1000003) (by decide)
  generalize z[i] = x at *
  obtain ⟨p, hp⟩ : ∃ p : Nat, pickS x 1000003 = p := ⟨(pickS x 1000003).toNat, by omega⟩
  refine CodeF.stepD ?_
  refine Chk.mk (by omega) ?_
  refine LoadD.imm hIZ2 [.int .i64 x] (take_get hcZ hcell) rfl ?_
  refine Tri.free (low_Pick x 1000003 J' hz64 (by unfold In64; omega)) ?_
  rintro v _ _ hJ4 ⟨rfl, rfl⟩
  rw [hp] at hpx ⊢
  have hpl : p < 1000003 := by omega
  refine CodeF.stepD ?_
  refine Chk.mk (by decide) ?_
  refine ToD.to ((p / 7 : Nat) : Int) (quoN p 7 (by omega)) ?_
  refine Chk.mk (by decide) ?_
  refine ToD.to ((p / 7 % 10 : Nat) : Int) (tmod_nat (p / 7) 10) ?_
  obtain ⟨k, hk⟩ : ∃ k, k = p / 7 % 10 := ⟨_, rfl⟩
  have hk10 : k < 10 := by omega
  rw [← hk]
  clear hk
  obtain ⟨c, v, d, puts, pins, chC, chV, chD, bP, bQ, pl, ql, ep, t0, sq, ls, hC, hV, hD, hw, hsq, hCI, hpi, hpl10, hql10, hpd, hqd, rfl, rfl, rfl⟩ := hW
  have hcl : c.slots.length ≤ 12 := by rw [hCI.len]; omega
  refine CodeF.stepD ?_
  refine Tri.frame (ck_Held hC hcl) [0] rfl rfl ?_
  rintro r _ A' hJ ⟨rfl, aH, capH, chO, rfl, hO, rfl⟩
  refine ⟨by simp, ?_⟩
  skip
  refine ToD.to (30 + (k : Int)) (wrap_i64 (by omega) (by omega)) ?_
  have hwl := which_len (c := c) (p := fun _ => true)
  refine Tri.mono (law12_has J' _ aH _ capH _ rfl (by omega) (hO.slC1 5 rfl) (30 + (k : Int))) ?_
  rintro r _ _ hJ ⟨rfl, rfl, rfl⟩
  have hpi1 : ∀ n, 0 ≤ pins n ∧ pins n ≤ ((i + 1 : Nat) : Int) := fun n => by have := hpi n; omega
  have hlen4 : ∀ n : Int, (v.cur d n).length ≤ 1000000 := fun n => by
    have := (WV.cur_len hw n); omega
  obtain ⟨p3, hp3⟩ : ∃ p3, pl[k]? = some p3 := ⟨_, List.getElem?_eq_getElem (by omega)⟩
  obtain ⟨q3, hq3⟩ : ∃ q3, ql[k]? = some q3 := ⟨_, List.getElem?_eq_getElem (by omega)⟩
  have hpdk := hpd k p3 hp3
  have hqdk := hqd k q3 hq3
  have hpik := hpi (30 + k)
  have hfr : ∀ g ∈ v.fresh, g.2.length ≤ 1000000 := fun g hg => by have := hw.fresh_len g hg; omega
  have hread : v.read d (30 + (k : Int)) = (v.cur d (30 + (k : Int)), 0) := hw.read (by omega)
  have hposs : ∀ n, 0 ≤ pins n := fun n => (hpi n).1
  refine CodeF.join [0, 1, 6, 7, 9, 10, 11] (fun vs J2 S' => ∃ (vp vq : Value), SW J2 bD bV bC room (i + 1) vp vq S' ∧ J1.le J2 ∧
      vs = [.int .i64 room, .slice (some ⟨bZ, oZ, none⟩) nZ capZ, .pointer (some ⟨bV, 0, none⟩), .pointer (some ⟨bC, 0, none⟩), vp, vq, .int .i64 i]) ?_ ?_
  · refine CodeF.den ?_
    refine Chk.mk (by decide) ?_
    refine ToD.to ((p % 7 : Nat) : Int) (tmod_nat p 7) ?_
    have h7 : p % 7 < 7 := Nat.mod_lt _ (by omega)
    obtain ⟨r7, hr7⟩ : ∃ r7, r7 = p % 7 := ⟨_, rfl⟩
    rw [← hr7] at h7 ⊢
    clear hr7
    by_cases hr4 : r7 = 4
    · skip
      refine CmpD.no (by show ¬ (((r7 : Nat)) : Int) = 0; omega) ?_
      refine CmpD.no (by show ¬ (((r7 : Nat)) : Int) = 1; omega) ?_
      refine CmpD.no (by show ¬ (((r7 : Nat)) : Int) = 2; omega) ?_
      refine CmpD.no (by show ¬ (((r7 : Nat)) : Int) = 3; omega) ?_
      refine CmpD.yes (by show (((r7 : Nat)) : Int) = 4; omega) ?_
      have hgl : v.j.groups.length ≤ 800000 := by rw [hw.e.groups, grL_length]; have := usedP_ge ls; have := hw.e.used; omega
      refine Tri.frame (ck_Commit hC hcl hCI.nodup hV hw.e.wf (by rw [hw.epoch, hw.e.epoch]) (by rcases hw.slot with h | h <;> omega) (by have := hw.few_fresh; omega) hgl hD (hw.e.few.mono (by omega))) [0, 1, 2] rfl rfl ?_
      obtain ⟨c2, v2, d2, kk, e2, ep2, t2, sq2, ls2, hcm, hw2, hsq2, hCI2, he2⟩ := commit_stays hw hsq hi hCI hroom6
      rw [hcm]
      dsimp only
      subst he2
      rintro r J2 A' hJ2 ⟨rfl, hle2, chC2, chV2, chD2, hC2, hV2, hD2, rfl⟩
      refine ⟨by simp, ?_⟩
      repeat (first | refine CmpD.yes rfl ?_)
      refine makeD tabOk rfl rfl rfl 10 10 rfl rfl (Nat.le_refl _) (by show 24 * 10 ≤ _; decide) (by decide) (by show 10 * 1 ≤ _; decide) rfl (by decide) ?_
      intro bP2
      exact ⟨_, Drop.pick [0, 1, 2, 6, 4] _ rfl, ⟨_, _, ⟨c2, v2, d2, (fun _ => []), pins, chC2, chV2, chD2, bP2, bQ, (List.replicate 10 ⟨none, 0, 0, []⟩), ql, ep2, t2, sq2, ls2, hC2, hV2, hD2, (hw2.mono (by omega)), by omega, hCI2, hpi1, rfl, hql10, (fun k p hk => by have := List.eq_of_mem_replicate (List.mem_of_getElem? hk); subst this; exact ⟨rfl, ⟨rfl, .inl rfl⟩⟩), hqd, rfl, rfl, rfl⟩, Imm.le_trans hle1 hle2, rfl⟩⟩
    cases hgot : c.got (30 + (k : Int)) with
    | none =>
      have hH : (30 + (k : Int)) ∉ c.which (fun _ => true) := fun h => by obtain ⟨i0, b, hg⟩ := held_iff.1 h; rw [hgot] at hg; cases hg
      rw [decide_eq_false hH]
      have hnh := cgot_none.1 hgot
      have hoff := hCI.off _ hnh
      have hrr : r7 = 0 ∨ r7 = 1 ∨ r7 = 2 ∨ r7 = 3 ∨ (r7 ≠ 0 ∧ r7 ≠ 1 ∧ r7 ≠ 2 ∧ r7 ≠ 3) := by omega
      rcases hrr with hq | hq | hq | hq | hq
      · skip
        refine CmpD.yes (by show (((r7 : Nat)) : Int) = 0; omega) ?_
        refine ToD.to (30 + (k : Int)) (wrap_i64 (by omega) (by omega)) ?_
        refine Tri.frame1 0 rfl (ck_Pin hC (30 + (k : Int))) ?_
        rw [show CSt.pin c (30 + (k : Int)) = (c, 2) from by unfold CSt.pin; rw [hgot]]
        rintro r J2 A' hJ2 ⟨rfl, chC2, hC2, rfl⟩
        refine ⟨_, rfl, ?_⟩
        refine CmpD.no (by show ¬ (2 : Int) = 0; decide) ?_
        skip
        exact ⟨_, Drop.pick [0, 1, 2, 3, 4] _ rfl, ⟨_, _, ⟨c, v, d, puts, pins, chC2, chV, chD, bP, bQ, pl, ql, ep, t0, sq, ls, hC2, (hV.mono hJ2), (hD.mono hJ2), (hw.mono (by omega)), by omega, hCI, hpi1, hpl10, hql10, (pl_mono hpd hJ2), hqd, rfl, rfl, rfl⟩, Imm.le_trans hle1 hJ2, rfl⟩⟩
      · skip
        refine CmpD.no (by show ¬ (((r7 : Nat)) : Int) = 0; omega) ?_
        refine CmpD.yes (by show (((r7 : Nat)) : Int) = 1; omega) ?_
        refine ToD.to (30 + (k : Int)) (wrap_i64 (by omega) (by omega)) ?_
        refine Tri.frame1 0 rfl (ck_Unpin hC (30 + (k : Int))) ?_
        rw [show CSt.unpin c (30 + (k : Int)) = (c, 2) from by unfold CSt.unpin; rw [hgot]]
        rintro r J2 A' hJ2 ⟨rfl, chC2, hC2, rfl⟩
        refine ⟨_, rfl, ?_⟩
        refine CmpD.no (by show ¬ (2 : Int) = 0; decide) ?_
        skip
        exact ⟨_, Drop.pick [0, 1, 2, 3, 4] _ rfl, ⟨_, _, ⟨c, v, d, puts, pins, chC2, chV, chD, bP, bQ, pl, ql, ep, t0, sq, ls, hC2, (hV.mono hJ2), (hD.mono hJ2), (hw.mono (by omega)), by omega, hCI, hpi1, hpl10, hql10, (pl_mono hpd hJ2), hqd, rfl, rfl, rfl⟩, Imm.le_trans hle1 hJ2, rfl⟩⟩
      · skip
        refine CmpD.no (by show ¬ (((r7 : Nat)) : Int) = 0; omega) ?_
        refine CmpD.no (by show ¬ (((r7 : Nat)) : Int) = 1; omega) ?_
        refine CmpD.yes (by show (((r7 : Nat)) : Int) = 2; omega) ?_
        refine Tri.free (made p 4096 (by omega) J') ?_
        rintro r J3 _ hJ3 ⟨aM, rfl, hM⟩
        obtain ⟨M, hMe⟩ : ∃ M, M = madeL p 4096 := ⟨_, rfl⟩
        have hMl : M.length = 4096 := by rw [hMe]; exact madeL_length _ _
        rw [← hMe] at hM
        skip
        refine ToD.to (30 + (k : Int)) (wrap_i64 (by omega) (by omega)) ?_
        refine Tri.frame1 0 rfl (ck_Put (hC.mono hJ3) (30 + (k : Int)) aM 4096 4096 M hM) ?_
        rw [show CSt.putD c (30 + (k : Int)) M = (c, 2) from by unfold CSt.putD; rw [hgot]]
        rintro r J2 A' hJ2 ⟨rfl, chC2, hC2, rfl⟩
        refine ⟨_, rfl, ?_⟩
        refine CmpD.no (by show ¬ (2 : Int) = 0; decide) ?_
        skip
        exact ⟨_, Drop.pick [0, 1, 2, 3, 4] _ rfl, ⟨_, _, ⟨c, v, d, puts, pins, chC2, chV, chD, bP, bQ, pl, ql, ep, t0, sq, ls, hC2, (hV.mono (Imm.le_trans hJ3 hJ2)), (hD.mono (Imm.le_trans hJ3 hJ2)), (hw.mono (by omega)), by omega, hCI, hpi1, hpl10, hql10, (pl_mono hpd (Imm.le_trans hJ3 hJ2)), hqd, rfl, rfl, rfl⟩, Imm.le_trans hle1 (Imm.le_trans hJ3 hJ2), rfl⟩⟩
      · skip
        refine CmpD.no (by show ¬ (((r7 : Nat)) : Int) = 0; omega) ?_
        refine CmpD.no (by show ¬ (((r7 : Nat)) : Int) = 1; omega) ?_
        refine CmpD.no (by show ¬ (((r7 : Nat)) : Int) = 2; omega) ?_
        refine CmpD.yes (by show (((r7 : Nat)) : Int) = 3; omega) ?_
        refine ToD.to (30 + (k : Int)) (wrap_i64 (by omega) (by omega)) ?_
        refine Tri.frame1 0 rfl (ck_Drop hC (30 + (k : Int))) ?_
        rw [show CSt.drop c (30 + (k : Int)) = (c, 2) from by unfold CSt.drop; rw [hgot]]
        rintro r J2 A' hJ2 ⟨rfl, chC2, hC2, rfl⟩
        refine ⟨_, rfl, ?_⟩
        refine CmpD.no (by show ¬ (2 : Int) = 0; decide) ?_
        skip
        exact ⟨_, Drop.pick [0, 1, 2, 3, 4] _ rfl, ⟨_, _, ⟨c, v, d, puts, pins, chC2, chV, chD, bP, bQ, pl, ql, ep, t0, sq, ls, hC2, (hV.mono hJ2), (hD.mono hJ2), (hw.mono (by omega)), by omega, hCI, hpi1, hpl10, hql10, (pl_mono hpd hJ2), hqd, rfl, rfl, rfl⟩, Imm.le_trans hle1 hJ2, rfl⟩⟩
      · skip
        refine CmpD.no (by show ¬ (((r7 : Nat)) : Int) = 0; omega) ?_
        refine CmpD.no (by show ¬ (((r7 : Nat)) : Int) = 1; omega) ?_
        refine CmpD.no (by show ¬ (((r7 : Nat)) : Int) = 2; omega) ?_
        refine CmpD.no (by show ¬ (((r7 : Nat)) : Int) = 3; omega) ?_
        refine CmpD.no (by show ¬ (((r7 : Nat)) : Int) = 4; omega) ?_
        refine ToD.to (30 + (k : Int)) (wrap_i64 (by omega) (by omega)) ?_
        have hput : p3.len = 0 := by
          have h1 := hpdk.1
          rw [hoff.2] at h1
          have := hpdk.2.len
          rw [h1] at this
          exact this.symm
        obtain ⟨hR1, hR2, hR3⟩ := hCI.roomC hposs
        have hstk := room_stuck (c := c) (by rw [hCI.len]; exact hCI.hand)
        have hsame := room_same (c := c)
        refine Tri.frame (ck_Load hC hV hD hfr (30 + (k : Int)) (fun _ => ⟨by omega, by omega, by rw [hread]; exact hlen4 _⟩)) [0, 1, 2] rfl rfl ?_
        unfold CSt.load
        rw [hgot, hread]
        dsimp only
        rw [if_neg (by simp)]
        generalize c.room = rm at *
        obtain ⟨c2, oi⟩ := rm
        cases oi with
        | some i1 =>
          dsimp only at hR1 hR2 hR3 ⊢
          have hCI2 := hR1.new (hR2 i1 rfl) (hR3 _ hnh) (by omega) true
          rintro r J2 A' hJ2 ⟨aL, capL, chB, chC2, rfl, hB, hle2, hC2, rfl⟩
          refine ⟨by simp, ?_⟩
          skip
          refine ToD.to (30 + (k : Int)) (wrap_i64 (by omega) (by omega)) ?_
          refine Tri.frame (vk_Read (hV.mono hle2) (hD.mono hle2) hfr (30 + (k : Int))) [1, 2] rfl rfl ?_
          rw [hread]
          dsimp only
          rintro r _ A' hJ ⟨aW, capW, chW, rfl, hWo, rfl, rfl⟩
          refine ⟨by simp, ?_⟩
          skip
          refine Chk.mk (by omega) ?_
          refine LoadD.own 3 rfl [p3.cell] (take_at (by show (pl.map Bs.cell)[0 + ((k : Nat) : Int).toNat]? = _; rw [Nat.zero_add, Int.toNat_natCast, List.getElem?_map, hp3]; rfl)) rfl ?_
          refine CmpD.no (by show ¬ (0 : Int) < (p3.len : Int); omega) ?_
          repeat (first | refine CmpD.yes rfl ?_)
          refine Tri.mono (same_bytes (hB.slC1 6 rfl) (hWo.slC1 7 rfl)) ?_
          rw [decide_eq_true rfl]
          rintro r _ _ hJ ⟨rfl, rfl, rfl⟩
          repeat (first | refine CmpD.yes rfl ?_)
          exact ⟨_, Drop.pick [0, 1, 2, 3, 4] _ rfl, ⟨_, _, ⟨_, v, d, puts, pins, chC2, chV, chD, bP, bQ, pl, ql, ep, t0, sq, ls, hC2, (hV.mono hle2), (hD.mono hle2), (hw.mono (by omega)), by omega, hCI2, hpi1, hpl10, hql10, (pl_mono hpd hle2), hqd, rfl, rfl, rfl⟩, Imm.le_trans hle1 hle2, rfl⟩⟩
        | none =>
          dsimp only at hR1 hR2 hR3 hstk hsame ⊢
          obtain ⟨hst1, hst2⟩ := hstk rfl
          have hsm := hsame rfl
          have hcl2 : c2.slots.length ≤ 12 := by rw [hR1.len]; omega
          rintro r J2 A' hJ2 ⟨aL, capL, chB, chC2, rfl, hB, hle2, hC2, rfl⟩
          refine ⟨by simp, ?_⟩
          skip
          refine ToD.to (30 + (k : Int)) (wrap_i64 (by omega) (by omega)) ?_
          refine Tri.frame (vk_Read (hV.mono hle2) (hD.mono hle2) hfr (30 + (k : Int))) [1, 2] rfl rfl ?_
          rw [hread]
          dsimp only
          rintro r _ A' hJ ⟨aW, capW, chW, rfl, hWo, rfl, rfl⟩
          refine ⟨by simp, ?_⟩
          skip
          refine Chk.mk (by omega) ?_
          refine LoadD.own 3 rfl [p3.cell] (take_at (by show (pl.map Bs.cell)[0 + ((k : Nat) : Int).toNat]? = _; rw [Nat.zero_add, Int.toNat_natCast, List.getElem?_map, hp3]; rfl)) rfl ?_
          refine CmpD.no (by show ¬ (0 : Int) < (p3.len : Int); omega) ?_
          repeat (first | refine CmpD.yes rfl ?_ | refine CmpD.no (by decide) ?_)
          refine Tri.frame (ck_Held hC2 hcl2) [0] rfl rfl ?_
          rintro r _ A' hJ ⟨rfl, aH2, capH2, chO2, rfl, hO2, rfl⟩
          refine ⟨by simp, ?_⟩
          skip
          have hslP : ∀ (S : St), S[3]? = some [(bP, row (pl.map Bs.cell) 32)] → SlC J2 S (some ⟨bP, 0, none⟩) 10 (pl.map Bs.cell) := fun S h => ⟨by simp [hpl10], .inr ⟨bP, 0, rfl, ⟨_, _, _, .one 3 h, by rw [List.drop_zero, List.take_of_length_le (by simp [hpl10])], by simp [hpl10]⟩⟩⟩
          have hslQ : ∀ (S : St), S[4]? = some [(bQ, row (ints ql) 3)] → SlC J2 S (some ⟨bQ, 0, none⟩) 10 (ints ql) := fun S h => ⟨by simp [ints, hql10], .inr ⟨bQ, 0, rfl, ⟨_, _, _, .one 4 h, by rw [List.drop_zero, List.take_of_length_le (by simp [ints, hql10])], by simp [ints, hql10]⟩⟩⟩
          have hwl2 := which_len (c := c2) (p := fun _ => true)
          have hst : ∀ x ∈ c2.which (fun _ => true), 30 ≤ x ∧ x < 40 ∧ ∀ (q : Int) (p : Bs), ql[(x - 30).toNat]? = some q → pl[(x - 30).toNat]? = some p → q ≠ 0 ∨ p.len ≠ 0 := by
            intro x hx
            obtain ⟨b2, hb2, _, hbn⟩ := which_mem.1 hx
            have hrg := hR1.rng b2 hb2
            have hxm : x ∈ c.held.map Buf.n := by rw [← hsm, ← hbn]; exact List.mem_map_of_mem hb2
            obtain ⟨b3, hb3, hbn3⟩ := List.mem_map.1 hxm
            have he : ((x - 30).toNat : Int) = x - 30 := by omega
            refine ⟨by omega, by omega, fun q p hq' hp' => ?_⟩
            have hq2 := hqd _ q hq'
            have hp2 := hpd _ p hp'
            rw [he, show 30 + (x - 30) = x by omega] at hq2 hp2
            rcases hst2 b3 hb3 with h | h
            · left
              have := hCI.pin b3 hb3
              rw [hbn3] at this
              omega
            · right
              have := ((hCI.dat b3 hb3).1 h)
              rw [hbn3] at this
              have h3 := hp2.2.len
              rw [hp2.1, this.1, bts_length, this.2] at h3
              omega
          have hwr : ((c2.which (fun _ => true)).length : Int) = (room : Int) := by
            have h1 : (c2.which (fun _ => true)).length = c2.held.length := by
              unfold CSt.which
              rw [(sortI_perm _).length_eq, List.length_map]
              simp
            have h2 := congrArg List.length hsm
            rw [List.length_map, List.length_map] at h2
            rw [h1, h2, hst1, hCI.len]
          refine Tri.mono (law12_stuck J2 _ aH2 (some ⟨bP, 0, none⟩) (some ⟨bQ, 0, none⟩) _ capH2 _ rfl (by omega) (hO2.slC1 8 rfl) pl (hslP _ rfl) ql (hslQ _ rfl) room hst) ?_
          rw [decide_eq_true hwr]
          rintro r _ _ hJ ⟨rfl, rfl, rfl⟩
          skip
          exact ⟨_, Drop.pick [0, 1, 2, 3, 4] _ rfl, ⟨_, _, ⟨_, v, d, puts, pins, chC2, chV, chD, bP, bQ, pl, ql, ep, t0, sq, ls, hC2, (hV.mono hle2), (hD.mono hle2), (hw.mono (by omega)), by omega, hR1, hpi1, hpl10, hql10, (pl_mono hpd hle2), hqd, rfl, rfl, rfl⟩, Imm.le_trans hle1 hle2, rfl⟩⟩
    | some pr =>
      obtain ⟨i0, b⟩ := pr
      have hH : (30 + (k : Int)) ∈ c.which (fun _ => true) := held_iff.2 ⟨i0, b, hgot⟩
      rw [decide_eq_true hH]
      obtain ⟨hs0, hbn, hbm⟩ := cgot_some hgot
      have hbp := hCI.pin b hbm
      have hbd := hCI.dat b hbm
      rw [hbn] at hbp hbd
      have hrr : r7 = 0 ∨ r7 = 1 ∨ r7 = 2 ∨ r7 = 3 ∨ (r7 ≠ 0 ∧ r7 ≠ 1 ∧ r7 ≠ 2 ∧ r7 ≠ 3) := by omega
      rcases hrr with hq | hq | hq | hq | hq
      · skip
        refine CmpD.yes (by show (((r7 : Nat)) : Int) = 0; omega) ?_
        refine ToD.to (30 + (k : Int)) (wrap_i64 (by omega) (by omega)) ?_
        refine Tri.frame1 0 rfl (ck_Pin hC (30 + (k : Int))) ?_
        rw [show CSt.pin c (30 + (k : Int)) = (c.put i0 { b with pins := b.pins + 1 }, 0) from by unfold CSt.pin; rw [hgot]; dsimp only; rw [if_neg (by omega)]]
        rintro r J2 A' hJ2 ⟨rfl, chC2, hC2, rfl⟩
        refine ⟨_, rfl, ?_⟩
        repeat (first | refine CmpD.yes rfl ?_)
        refine Chk.mk (by omega) ?_
        refine LoadD.own 4 rfl [.int .i64 q3] (take_at (by show (ints ql)[0 + ((k : Nat) : Int).toNat]? = _; rw [Nat.zero_add, Int.toNat_natCast]; exact ints_get hq3)) rfl ?_
        refine ToD.to (q3 + 1) (wrap_i64 (by omega) (by omega)) ?_
        refine Chk.mk (by omega) ?_
        refine StoreD.to 4 rfl (ints (ql.set k (q3 + 1))) (by show splice _ (0 + ((k : Nat) : Int).toNat) _ = _; rw [Nat.zero_add, Int.toNat_natCast]; exact splice_ints ql (by omega) _) (by show 0 + ((k : Nat) : Int).toNat + 1 ≤ (ints ql).length; simp [ints, hql10]; omega) (.inr (.inr (Nat.le_refl _))) _ rfl ?_
        skip
        have hCI2 := hCI.upd hs0 { b with pins := b.pins + 1 } rfl (puts' := puts) (pins' := upF pins (30 + k) (q3 + 1)) (fun m hm => ⟨rfl, upF_ne _ _ (by rw [← hbn]; exact hm)⟩) (by rw [hbn, upF_self]; show q3 + 1 = b.pins + 1; omega) (by rw [hbn]; exact hbd) hCI.hand
        exact ⟨_, Drop.pick [0, 1, 2, 3, 4] _ rfl, ⟨_, _, ⟨_, v, d, puts, (upF pins (30 + k) (q3 + 1)), chC2, chV, chD, bP, bQ, pl, (ql.set k (q3 + 1)), ep, t0, sq, ls, hC2, (hV.mono hJ2), (hD.mono hJ2), (hw.mono (by omega)), by omega, hCI2, (fun n => by unfold upF; split <;> (have := hpi n; omega)), hpl10, by rw [List.length_set]; exact hql10, (pl_mono hpd hJ2), (ql_set hqd k (q3 + 1)), rfl, rfl, rfl⟩, Imm.le_trans hle1 hJ2, rfl⟩⟩
      · skip
        refine CmpD.no (by show ¬ (((r7 : Nat)) : Int) = 0; omega) ?_
        refine CmpD.yes (by show (((r7 : Nat)) : Int) = 1; omega) ?_
        refine ToD.to (30 + (k : Int)) (wrap_i64 (by omega) (by omega)) ?_
        refine Tri.frame1 0 rfl (ck_Unpin hC (30 + (k : Int))) ?_
        by_cases hp0 : b.pins = 0
        · rw [show CSt.unpin c (30 + (k : Int)) = (c, 2) from by unfold CSt.unpin; rw [hgot]; dsimp only; rw [if_pos hp0]]
          rintro r J2 A' hJ2 ⟨rfl, chC2, hC2, rfl⟩
          refine ⟨_, rfl, ?_⟩
          refine CmpD.no (by show ¬ (2 : Int) = 0; decide) ?_
          skip
          exact ⟨_, Drop.pick [0, 1, 2, 3, 4] _ rfl, ⟨_, _, ⟨c, v, d, puts, pins, chC2, chV, chD, bP, bQ, pl, ql, ep, t0, sq, ls, hC2, (hV.mono hJ2), (hD.mono hJ2), (hw.mono (by omega)), by omega, hCI, hpi1, hpl10, hql10, (pl_mono hpd hJ2), hqd, rfl, rfl, rfl⟩, Imm.le_trans hle1 hJ2, rfl⟩⟩
        rw [show CSt.unpin c (30 + (k : Int)) = (c.put i0 { b with pins := b.pins - 1 }, 0) from by unfold CSt.unpin; rw [hgot]; dsimp only; rw [if_neg hp0]]
        rintro r J2 A' hJ2 ⟨rfl, chC2, hC2, rfl⟩
        refine ⟨_, rfl, ?_⟩
        repeat (first | refine CmpD.yes rfl ?_)
        refine Chk.mk (by omega) ?_
        refine LoadD.own 4 rfl [.int .i64 q3] (take_at (by show (ints ql)[0 + ((k : Nat) : Int).toNat]? = _; rw [Nat.zero_add, Int.toNat_natCast]; exact ints_get hq3)) rfl ?_
        refine ToD.to (q3 - 1) (wrap_i64 (by omega) (by omega)) ?_
        refine Chk.mk (by omega) ?_
        refine StoreD.to 4 rfl (ints (ql.set k (q3 - 1))) (by show splice _ (0 + ((k : Nat) : Int).toNat) _ = _; rw [Nat.zero_add, Int.toNat_natCast]; exact splice_ints ql (by omega) _) (by show 0 + ((k : Nat) : Int).toNat + 1 ≤ (ints ql).length; simp [ints, hql10]; omega) (.inr (.inr (Nat.le_refl _))) _ rfl ?_
        skip
        have hCI2 := hCI.upd hs0 { b with pins := b.pins - 1 } rfl (puts' := puts) (pins' := upF pins (30 + k) (q3 - 1)) (fun m hm => ⟨rfl, upF_ne _ _ (by rw [← hbn]; exact hm)⟩) (by rw [hbn, upF_self]; show q3 - 1 = b.pins - 1; omega) (by rw [hbn]; exact hbd) hCI.hand
        exact ⟨_, Drop.pick [0, 1, 2, 3, 4] _ rfl, ⟨_, _, ⟨_, v, d, puts, (upF pins (30 + k) (q3 - 1)), chC2, chV, chD, bP, bQ, pl, (ql.set k (q3 - 1)), ep, t0, sq, ls, hC2, (hV.mono hJ2), (hD.mono hJ2), (hw.mono (by omega)), by omega, hCI2, (fun n => by unfold upF; split <;> (have := hpi n; omega)), hpl10, by rw [List.length_set]; exact hql10, (pl_mono hpd hJ2), (ql_set hqd k (q3 - 1)), rfl, rfl, rfl⟩, Imm.le_trans hle1 hJ2, rfl⟩⟩
      · skip
        refine CmpD.no (by show ¬ (((r7 : Nat)) : Int) = 0; omega) ?_
        refine CmpD.no (by show ¬ (((r7 : Nat)) : Int) = 1; omega) ?_
        refine CmpD.yes (by show (((r7 : Nat)) : Int) = 2; omega) ?_
        refine Tri.free (made p 4096 (by omega) J') ?_
        rintro r J3 _ hJ3 ⟨aM, rfl, hM⟩
        obtain ⟨M, hMe⟩ : ∃ M, M = madeL p 4096 := ⟨_, rfl⟩
        have hMl : M.length = 4096 := by rw [hMe]; exact madeL_length _ _
        rw [← hMe] at hM
        skip
        refine ToD.to (30 + (k : Int)) (wrap_i64 (by omega) (by omega)) ?_
        refine Tri.frame1 0 rfl (ck_Put (hC.mono hJ3) (30 + (k : Int)) aM 4096 4096 M hM) ?_
        rw [show CSt.putD c (30 + (k : Int)) M = (c.put i0 ⟨b.n, M, b.pins, true, true⟩, 0) from by unfold CSt.putD; rw [hgot]; dsimp only; rw [if_neg (by omega)]]
        rintro r J2 A' hJ2 ⟨rfl, chC2, hC2, rfl⟩
        refine ⟨_, rfl, ?_⟩
        repeat (first | refine CmpD.yes rfl ?_)
        refine Chk.mk (by omega) ?_
        refine StoreD.to 3 rfl ((pl.set k (⟨aM, 4096, 4096, M⟩ : Bs)).map Bs.cell) (by show splice _ (0 + ((k : Nat) : Int).toNat) _ = _; rw [Nat.zero_add, Int.toNat_natCast]; exact splice_cells pl (by omega) (⟨aM, 4096, 4096, M⟩ : Bs)) (by show 0 + ((k : Nat) : Int).toNat + 1 ≤ (pl.map Bs.cell).length; simp [hpl10]; omega) (.inr (.inr (Nat.le_refl _))) _ rfl ?_
        skip
        have hCI2 := hCI.upd hs0 ⟨b.n, M, b.pins, true, true⟩ rfl (puts' := upF puts (30 + k) M) (pins' := pins) (fun m hm => ⟨upF_ne _ _ (by rw [← hbn]; exact hm), rfl⟩) (by rw [hbn]; exact hbp) ⟨fun _ => ⟨by rw [hbn, upF_self], hMl⟩, fun h => by cases h⟩ hCI.hand
        exact ⟨_, Drop.pick [0, 1, 2, 3, 4] _ rfl, ⟨_, _, ⟨_, v, d, (upF puts (30 + k) M), pins, chC2, chV, chD, bP, bQ, (pl.set k ⟨aM, 4096, 4096, M⟩), ql, ep, t0, sq, ls, hC2, (hV.mono (Imm.le_trans hJ3 hJ2)), (hD.mono (Imm.le_trans hJ3 hJ2)), (hw.mono (by omega)), by omega, hCI2, hpi1, by rw [List.length_set]; exact hpl10, hql10, (pl_set (pl_mono hpd (Imm.le_trans hJ3 hJ2)) k ⟨aM, 4096, 4096, M⟩ (hM.mono hJ2)), hqd, rfl, rfl, rfl⟩, Imm.le_trans hle1 (Imm.le_trans hJ3 hJ2), rfl⟩⟩
      · skip
        refine CmpD.no (by show ¬ (((r7 : Nat)) : Int) = 0; omega) ?_
        refine CmpD.no (by show ¬ (((r7 : Nat)) : Int) = 1; omega) ?_
        refine CmpD.no (by show ¬ (((r7 : Nat)) : Int) = 2; omega) ?_
        refine CmpD.yes (by show (((r7 : Nat)) : Int) = 3; omega) ?_
        refine ToD.to (30 + (k : Int)) (wrap_i64 (by omega) (by omega)) ?_
        refine Tri.frame1 0 rfl (ck_Drop hC (30 + (k : Int))) ?_
        by_cases hp0 : 0 < b.pins
        · rw [show CSt.drop c (30 + (k : Int)) = (c, 130) from by unfold CSt.drop; rw [hgot]; dsimp only; rw [if_pos hp0]]
          rintro r J2 A' hJ2 ⟨rfl, chC2, hC2, rfl⟩
          refine ⟨_, rfl, ?_⟩
          refine CmpD.no (by show ¬ (130 : Int) = 0; decide) ?_
          skip
          exact ⟨_, Drop.pick [0, 1, 2, 3, 4] _ rfl, ⟨_, _, ⟨c, v, d, puts, pins, chC2, chV, chD, bP, bQ, pl, ql, ep, t0, sq, ls, hC2, (hV.mono hJ2), (hD.mono hJ2), (hw.mono (by omega)), by omega, hCI, hpi1, hpl10, hql10, (pl_mono hpd hJ2), hqd, rfl, rfl, rfl⟩, Imm.le_trans hle1 hJ2, rfl⟩⟩
        rw [show CSt.drop c (30 + (k : Int)) = (⟨c.slots.set i0 none, c.hand⟩, 0) from by unfold CSt.drop; rw [hgot]; dsimp only; rw [if_neg hp0]]
        rintro r J2 A' hJ2 ⟨rfl, chC2, hC2, rfl⟩
        refine ⟨_, rfl, ?_⟩
        repeat (first | refine CmpD.yes rfl ?_)
        refine Chk.mk (by omega) ?_
        refine StoreD.to 3 rfl ((pl.set k (⟨none, 0, 0, []⟩ : Bs)).map Bs.cell) (by show splice _ (0 + ((k : Nat) : Int).toNat) _ = _; rw [Nat.zero_add, Int.toNat_natCast]; exact splice_cells pl (by omega) (⟨none, 0, 0, []⟩ : Bs)) (by show 0 + ((k : Nat) : Int).toNat + 1 ≤ (pl.map Bs.cell).length; simp [hpl10]; omega) (.inr (.inr (Nat.le_refl _))) _ rfl ?_
        skip
        have hCI2 := (hCI.away hs0 (puts' := upF puts (30 + k) []) (fun m hm => upF_ne _ _ (by rw [← hbn]; exact hm)) (by omega) (by rw [hbn, upF_self]) hCI.hand).1
        exact ⟨_, Drop.pick [0, 1, 2, 3, 4] _ rfl, ⟨_, _, ⟨_, v, d, (upF puts (30 + k) []), pins, chC2, chV, chD, bP, bQ, (pl.set k ⟨none, 0, 0, []⟩), ql, ep, t0, sq, ls, hC2, (hV.mono hJ2), (hD.mono hJ2), (hw.mono (by omega)), by omega, hCI2, hpi1, by rw [List.length_set]; exact hpl10, hql10, (pl_set (pl_mono hpd hJ2) k ⟨none, 0, 0, []⟩ ⟨rfl, .inl rfl⟩), hqd, rfl, rfl, rfl⟩, Imm.le_trans hle1 hJ2, rfl⟩⟩
      · skip
        refine CmpD.no (by show ¬ (((r7 : Nat)) : Int) = 0; omega) ?_
        refine CmpD.no (by show ¬ (((r7 : Nat)) : Int) = 1; omega) ?_
        refine CmpD.no (by show ¬ (((r7 : Nat)) : Int) = 2; omega) ?_
        refine CmpD.no (by show ¬ (((r7 : Nat)) : Int) = 3; omega) ?_
        refine CmpD.no (by show ¬ (((r7 : Nat)) : Int) = 4; omega) ?_
        refine ToD.to (30 + (k : Int)) (wrap_i64 (by omega) (by omega)) ?_
        refine Tri.frame (ck_Load hC hV hD hfr (30 + (k : Int)) (fun _ => ⟨by omega, by omega, by rw [hread]; exact hlen4 _⟩)) [0, 1, 2] rfl rfl ?_
        rw [show CSt.load c v d (30 + (k : Int)) = (c.put i0 { b with mark := true }, b.data, 0) from by unfold CSt.load; rw [hgot]]
        dsimp only
        have hCI2 := hCI.upd hs0 { b with mark := true } rfl (puts' := puts) (pins' := pins) (fun m hm => ⟨rfl, rfl⟩) (by rw [hbn]; exact hbp) (by rw [hbn]; exact hbd) hCI.hand
        rintro r J2 A' hJ2 ⟨aL, capL, chB, chC2, rfl, hB, hle2, hC2, rfl⟩
        refine ⟨by simp, ?_⟩
        skip
        refine ToD.to (30 + (k : Int)) (wrap_i64 (by omega) (by omega)) ?_
        refine Tri.frame (vk_Read (hV.mono hle2) (hD.mono hle2) hfr (30 + (k : Int))) [1, 2] rfl rfl ?_
        rw [hread]
        dsimp only
        rintro r _ A' hJ ⟨aW, capW, chW, rfl, hWo, rfl, rfl⟩
        refine ⟨by simp, ?_⟩
        skip
        refine Chk.mk (by omega) ?_
        refine LoadD.own 3 rfl [p3.cell] (take_at (by show (pl.map Bs.cell)[0 + ((k : Nat) : Int).toNat]? = _; rw [Nat.zero_add, Int.toNat_natCast, List.getElem?_map, hp3]; rfl)) rfl ?_
        have hp3l := hpdk.2.len
        rw [bts_length] at hp3l
        cases hdt : b.dirty
        · have hbd2 := hbd.2 hdt
          refine CmpD.no (by show ¬ (0 : Int) < (p3.len : Int); rw [hpdk.1, hbd2.1] at hp3l; simp at hp3l; omega) ?_
          repeat (first | refine CmpD.yes rfl ?_)
          refine Tri.mono (same_bytes (hB.slC1 6 rfl) (hWo.slC1 7 rfl)) ?_
          rw [decide_eq_true hbd2.2]
          rintro r _ _ hJ ⟨rfl, rfl, rfl⟩
          repeat (first | refine CmpD.yes rfl ?_)
          exact ⟨_, Drop.pick [0, 1, 2, 3, 4] _ rfl, ⟨_, _, ⟨_, v, d, puts, pins, chC2, chV, chD, bP, bQ, pl, ql, ep, t0, sq, ls, hC2, (hV.mono hle2), (hD.mono hle2), (hw.mono (by omega)), by omega, hCI2, hpi1, hpl10, hql10, (pl_mono hpd hle2), hqd, rfl, rfl, rfl⟩, Imm.le_trans hle1 hle2, rfl⟩⟩
        · have hbd2 := hbd.1 hdt
          refine CmpD.yes (by show (0 : Int) < (p3.len : Int); rw [hpdk.1, hbd2.1, hbd2.2] at hp3l; omega) ?_
          refine Chk.mk (by omega) ?_
          refine LoadD.own 3 rfl [p3.cell] (take_at (by show (pl.map Bs.cell)[0 + ((k : Nat) : Int).toNat]? = _; rw [Nat.zero_add, Int.toNat_natCast, List.getElem?_map, hp3]; rfl)) rfl ?_
          repeat (first | refine CmpD.yes rfl ?_)
          refine Tri.mono (same_bytes (hB.slC1 6 rfl) (hpdk.2.mono hle2).slC) ?_
          rw [decide_eq_true (by rw [hpdk.1, hbd2.1])]
          rintro r _ _ hJ ⟨rfl, rfl, rfl⟩
          repeat (first | refine CmpD.yes rfl ?_)
          exact ⟨_, Drop.pick [0, 1, 2, 3, 4] _ rfl, ⟨_, _, ⟨_, v, d, puts, pins, chC2, chV, chD, bP, bQ, pl, ql, ep, t0, sq, ls, hC2, (hV.mono hle2), (hD.mono hle2), (hw.mono (by omega)), by omega, hCI2, hpi1, hpl10, hql10, (pl_mono hpd hle2), hqd, rfl, rfl, rfl⟩, Imm.le_trans hle1 hle2, rfl⟩⟩
  rintro vs gE2 J2 S' hJ2 ⟨vp, vq, hW, hle2, rfl⟩
  clear hC hV hD hw hsq hCI hpi hpl10 hql10 hpd hqd hO hcl hwl hpi1 hlen4 hp3 hq3 hpdk hqdk hpik hfr hread hposs
  obtain ⟨c, v, d, puts, pins, chC, chV, chD, bP, bQ, pl, ql, ep, t0, sq, ls, hC, hV, hD, hw, hsq, hCI, hpi, hpl10, hql10, hpd, hqd, rfl, rfl, rfl⟩ := hW
  have hcl : c.slots.length ≤ 12 := by rw [hCI.len]; omega
  refine CodeF.stepD ?_
  refine Tri.frame (ck_Held hC hcl) [0] rfl rfl ?_
  rintro r _ A' hJ ⟨rfl, aH, capH, chO, rfl, hO, rfl⟩
  refine ⟨by simp, ?_⟩
  have hwl := which_len (c := c) (p := fun _ => true)
  have hwlr : (c.which (fun _ => true)).length ≤ room := by rw [← hCI.len]; exact hwl
  refine CodeF.stepD ?_
  refine CmpD.no (by show ¬ (room : Int) < ((c.which (fun _ => true)).length : Int); omega) ?_
  skip
  refine CodeF.den ?_
  skip
  refine CodeF.loopD [0, 1, 6, 7, 9, 10, 11, 22, 23] (fun vs J' S' => ∃ m : Nat, m ≤ 10 ∧ J2 = J' ∧
      vs = [.int .i64 room, .slice (some ⟨bZ, oZ, none⟩) nZ capZ, .pointer (some ⟨bV, 0, none⟩), .pointer (some ⟨bC, 0, none⟩), .slice (some ⟨bP, 0, none⟩) 10 10, .slice (some ⟨bQ, 0, none⟩) 10 10, .int .i64 i, .slice aH (c.which (fun _ => true)).length capH, .int .i64 m] ∧
      S' = [chC, chV, chD, [(bP, row (pl.map Bs.cell) 32)], [(bQ, row (ints ql) 3)], chO])
    (fun vs _ _ => match vs with | [_, _, _, _, _, _, _, _, .int _ m] => ((10 : Int) - m).toNat | _ => 0) ?_ ?_
  · exact ⟨_, Drop.refl _, 0, by omega, rfl, rfl, rfl⟩
  rintro vs gE3 J3 S' hJ3 ⟨m, hm, rfl, rfl, rfl⟩
  refine CmpD.split (fun (c3 : (m : Int) < 10) => ?_) (fun (c3 : ¬ (m : Int) < 10) => ?_)
  rotate_left
  · refine CodeF.den ?_
    refine ToD.to (((i + 1 : Nat)) : Int) (by rw [wrap_i64 (by omega) (by omega)]; omega) ?_
    refine ⟨_, Drop.pick [0, 1, 2, 3, 4] _ rfl, ⟨i + 1, _, _, by omega, ⟨c, v, d, puts, pins, chC, chV, chD, bP, bQ, pl, ql, ep, t0, sq, ls, hC, hV, hD, hw, hsq, hCI, hpi, hpl10, hql10, hpd, hqd, rfl, rfl, rfl⟩, hle2, rfl⟩, ?_⟩
    show ((80 : Int) - ((i + 1 : Nat) : Int)).toNat < ((80 : Int) - (i : Int)).toNat; omega
  obtain ⟨p3, hp3⟩ : ∃ p3, pl[m]? = some p3 := ⟨_, List.getElem?_eq_getElem (by omega)⟩
  obtain ⟨q3, hq3⟩ : ∃ q3, ql[m]? = some q3 := ⟨_, List.getElem?_eq_getElem (by omega)⟩
  have hpdk := hpd m p3 hp3
  have hqdk := hqd m q3 hq3
  have hpik := hpi (30 + m)
  have hp3l := hpdk.2.len
  rw [bts_length, hpdk.1] at hp3l
  -- what is pinned, dirty, held
  have hPin : (30 + (m : Int)) ∈ c.which (fun b => decide (0 < b.pins)) ↔ 0 < q3 := by
    rw [which_mem, hqdk]
    constructor
    · rintro ⟨b, hb, h1, h2⟩
      have h3 := hCI.pin b hb
      rw [h2] at h3
      have h1 := of_decide_eq_true h1
      omega
    · intro h
      cases hg : c.got (30 + (m : Int)) with
      | none => have := hCI.off _ (cgot_none.1 hg); omega
      | some pr =>
        obtain ⟨_, h2, h3⟩ := cgot_some (i := pr.1) (b := pr.2) hg
        have h4 := hCI.pin _ h3
        rw [h2] at h4
        exact ⟨pr.2, h3, decide_eq_true (by omega), h2⟩
  have hDir : (30 + (m : Int)) ∈ c.which Buf.dirty ↔ 0 < p3.len := by
    rw [which_mem]
    constructor
    · rintro ⟨b, hb, h1, h2⟩
      have h3 := (hCI.dat b hb).1 h1
      rw [h2] at h3
      rw [h3.1, h3.2] at hp3l
      omega
    · intro h
      cases hg : c.got (30 + (m : Int)) with
      | none =>
        have h5 := (hCI.off _ (cgot_none.1 hg)).2
        rw [h5] at hp3l
        simp at hp3l
        omega
      | some pr =>
        obtain ⟨_, h2, h3⟩ := cgot_some (i := pr.1) (b := pr.2) hg
        have h4 := hCI.dat _ h3
        rw [h2] at h4
        refine ⟨pr.2, h3, ?_, h2⟩
        cases hd : pr.2.dirty with
        | true => rfl
        | false =>
          have := (h4.2 hd).1
          rw [this] at hp3l
          simp at hp3l
          omega
  have hHel : 0 < q3 ∨ 0 < p3.len → (30 + (m : Int)) ∈ c.which (fun _ => true) := by
    intro h
    have : ∃ b ∈ c.held, b.n = 30 + (m : Int) := by
      rcases h with h | h
      · obtain ⟨b, h1, _, h2⟩ := which_mem.1 (hPin.2 h); exact ⟨b, h1, h2⟩
      · obtain ⟨b, h1, _, h2⟩ := which_mem.1 (hDir.2 h); exact ⟨b, h1, h2⟩
    obtain ⟨b, h1, h2⟩ := this
    exact which_mem.2 ⟨b, h1, rfl, h2⟩
  have ldQ : ((ints ql).drop (0 + ((m : Nat) : Int).toNat)).take 1 = [.int .i64 q3] := take_at (by rw [Nat.zero_add, Int.toNat_natCast]; exact ints_get hq3)
  have ldP : ((pl.map Bs.cell).drop (0 + ((m : Nat) : Int).toNat)).take 1 = [p3.cell] := take_at (by rw [Nat.zero_add, Int.toNat_natCast, List.getElem?_map, hp3]; rfl)
  refine CodeF.sched [[], [], [0, 1], [0, 1, 2], [0, 1, 2, 3], [0, 1, 2, 3, 4], [0, 1, 2, 3, 4, 5], [0, 1, 2, 3, 4, 5], [0, 1, 2, 3, 4, 5, 6, 7], [0, 1, 2, 3, 4, 5, 6, 7, 8], [0, 1, 2, 3, 4, 5, 6, 7, 8, 9], [0, 1, 2, 3, 4, 5, 6, 7, 8, 9, 10], [0, 1, 2, 3, 4, 5, 6, 7, 8, 9, 10, 11], [0, 1, 2, 3, 4, 5, 6, 7, 8, 9, 10, 11, 12], [0, 1, 2, 3, 4, 5, 6, 7, 8, 9, 10, 11, 12, 13], [0, 1, 2, 3, 4, 5, 6, 7, 8, 9, 10, 11, 12, 13], [0, 1, 2, 3, 4, 5, 6, 7, 8, 9, 10, 11, 12, 13, 15], [0, 1, 2, 3, 4, 5, 6, 7, 8, 9, 10, 11, 12, 13, 14, 15, 16], [0, 1, 2, 3, 4, 5, 6, 7, 8, 9, 10, 11, 12, 13, 14, 15, 16, 17], [0, 1, 2, 3, 4, 5, 6, 7, 8, 9, 10, 11, 12, 13, 14, 15, 16, 17, 18], [0, 1, 2, 3, 4, 5, 6, 7, 8, 9, 10, 11, 12, 13, 14, 15, 16, 17, 18, 19], [0, 1, 2, 3, 4, 5, 6, 7, 8, 9, 10, 11, 12, 13, 14, 15, 16, 17, 18, 19, 20], [0, 1, 2, 3, 4, 5, 6, 7, 8, 9, 10, 11, 12, 13, 14, 15, 16, 17, 18, 19, 20], [0, 1, 2, 3, 4, 5, 6, 7, 8, 9, 10, 11, 12, 13, 14, 15, 16, 17, 18, 19, 20, 21, 22], [0, 1, 2, 3, 4, 5, 6, 7, 8, 9, 10, 11, 12, 13, 14, 15, 16, 17, 18, 19, 20, 21, 22, 23], [0, 1, 2, 3, 4, 5, 6, 7, 8, 9, 10, 11, 12, 13, 14, 15, 16, 17, 18, 19, 20, 21, 22, 23, 24], [0, 1, 2, 3, 4, 5, 6, 7, 8, 9, 10, 11, 12, 13, 14, 15, 16, 17, 18, 19, 20, 21, 22, 23, 24, 25], [0, 1, 2, 3, 4, 5, 6, 7, 8, 9, 10, 11, 12, 13, 14, 15, 16, 17, 18, 19, 20, 21, 22, 23, 24, 25, 26], [0, 1, 2, 3, 4, 5, 6, 7, 8, 9, 10, 11, 12, 13, 14, 15, 16, 17, 18, 19, 20, 21, 22, 23, 24, 25, 26, 27], [0, 1, 2, 3, 4, 5, 6, 7, 8, 9, 10, 11, 12, 13, 14, 15, 16, 17, 18, 19, 20, 21, 22, 23, 24, 25, 26, 27, 28], [0, 1, 2, 3, 4, 5, 6, 7, 8, 9, 10, 11, 12, 13, 14, 15, 16, 17, 18, 19, 20, 21, 22, 23, 24, 25, 26, 27], [0, 1, 2, 3, 4, 5, 6, 7, 8, 9, 10, 11, 12, 13, 14, 15, 16, 17, 18, 19, 20, 21, 22, 23, 24, 25, 26, 27, 30], [0, 1, 2, 3, 4, 5, 6, 7, 8, 9, 10, 11, 12, 13, 14, 15, 16, 17, 18, 19, 20, 21, 22, 23, 24, 25, 26, 27, 28, 29, 30, 31], [0, 1, 2, 3, 4, 5, 6, 7, 8, 9, 10, 11, 12, 13, 14, 15, 16, 17, 18, 19, 20, 21, 22, 23, 24, 25, 26, 27], [0, 1, 2, 3, 4, 5, 6, 7, 8, 9, 10, 11, 12, 13, 14, 15, 16, 17, 18, 19, 20, 21, 22, 23, 24, 25, 26, 27], [0, 1, 2, 3, 4, 5, 6, 7, 8, 9, 10, 11, 12, 13, 14, 15, 16, 17, 18, 19, 20, 21, 22, 23, 24, 25, 26, 27, 33, 34], [0, 1, 2, 3, 4, 5, 6, 7, 8, 9, 10, 11, 12, 13, 14, 15, 16, 17, 18, 19, 20, 21, 22, 23, 24, 25, 26, 27, 33, 34, 35], [0, 1, 2, 3, 4, 5, 6, 7, 8, 9, 10, 11, 12, 13, 14, 15, 16, 17, 18, 19, 20, 21, 22, 23, 24, 25, 26, 27, 33, 34, 35, 36], [0, 1, 2, 3, 4, 5, 6, 7, 8, 9, 10, 11, 12, 13, 14, 15, 16, 17, 18, 19, 20, 21, 22, 23, 24, 25, 26, 27, 28, 29, 30, 31, 32, 33, 34, 35, 36, 37], [0, 1, 2, 3, 4, 5, 6, 7, 8, 9, 10, 11, 12, 13, 14, 15, 16, 17, 18, 19, 20, 21, 22, 23, 24, 25, 26, 27, 28, 29, 30, 31, 32, 33, 34, 35, 36, 37, 38], [0, 1, 2, 3, 4, 5, 6, 7, 8, 9, 10, 11, 12, 13, 14, 15, 16, 17, 18, 19, 20, 21, 22, 23, 24, 25, 26, 27, 28, 29, 30, 31, 32, 33, 34, 35, 36, 37, 38, 39], [0, 1, 2, 3, 4, 5, 6, 7, 8, 9, 10, 11, 12, 13, 14, 15, 16, 17, 18, 19, 20, 21, 22, 23, 24, 25, 26, 27, 28, 29, 30, 31, 32, 33, 34, 35, 36, 37, 38, 39, 40], [0, 1, 2, 3, 4, 5, 6, 7, 8, 9, 10, 11, 12, 13, 14, 15, 16, 17, 18, 19, 20, 21, 22, 23, 24, 25, 26, 27, 28, 29, 30, 31, 32, 33, 34, 35, 36, 37, 38, 39, 40, 41], [0, 1, 2, 3, 4, 5, 6, 7, 8, 9, 10, 11, 12, 13, 14, 15, 16, 17, 18, 19, 20, 21, 22, 23, 24, 25, 26, 27, 28, 29, 30, 31, 32, 33, 34, 35, 36, 37, 38, 39, 40], [0, 1, 2, 3, 4, 5, 6, 7, 8, 9, 10, 11, 12, 13, 14, 15, 16, 17, 18, 19, 20, 21, 22, 23, 24, 25, 26, 27, 28, 29, 30, 31, 32, 33, 34, 35, 36, 37, 38, 39, 40, 43], [0, 1, 2, 3, 4, 5, 6, 7, 8, 9, 10, 11, 12, 13, 14, 15, 16, 17, 18, 19, 20, 21, 22, 23, 24, 25, 26, 27, 28, 29, 30, 31, 32, 33, 34, 35, 36, 37, 38, 39, 40, 41, 42, 43, 44], [0, 1, 2, 3, 4, 5, 6, 7, 8, 9, 10, 11, 12, 13, 14, 15, 16, 17, 18, 19, 20, 21, 22, 23, 24, 25, 26, 27, 28, 29, 30, 31, 32, 33, 34, 35, 36, 37, 38, 39, 40], [0, 1, 2, 3, 4, 5, 6, 7, 8, 9, 10, 11, 12, 13, 14, 15, 16, 17, 18, 19, 20, 21, 22, 23, 24, 25, 26, 27, 28, 29, 30, 31, 32, 33, 34, 35, 36, 37, 38, 39, 40], [0, 1, 2, 3, 4, 5, 6, 7, 8, 9, 10, 11, 12, 13, 14, 15, 16, 17, 18, 19, 20, 21, 22, 23, 24, 25, 26, 27, 28, 29, 30, 31, 32, 33, 34, 35, 36, 37, 38, 39, 40, 46, 47], [0, 1, 2, 3, 4, 5, 6, 7, 8, 9, 10, 11, 12, 13, 14, 15, 16, 17, 18, 19, 20, 21, 22, 23, 24, 25, 26, 27, 28, 29, 30, 31, 32, 33, 34, 35, 36, 37, 38, 39, 40, 46, 47, 48], [0, 1, 2, 3, 4, 5, 6, 7, 8, 9, 10, 11, 12, 13, 14, 15, 16, 17, 18, 19, 20, 21, 22, 23, 24, 25, 26, 27, 28, 29, 30, 31, 32, 33, 34, 35, 36, 37, 38, 39, 40, 46, 47, 48, 49], [0, 1, 2, 3, 4, 5, 6, 7, 8, 9, 10, 11, 12, 13, 14, 15, 16, 17, 18, 19, 20, 21, 22, 23, 24, 25, 26, 27, 28, 29, 30, 31, 32, 33, 34, 35, 36, 37, 38, 39, 40, 46, 47, 48, 49, 50], [0, 1, 2, 3, 4, 5, 6, 7, 8, 9, 10, 11, 12, 13, 14, 15, 16, 17, 18, 19, 20, 21, 22, 23, 24, 25, 26, 27, 28, 29, 30, 31, 32, 33, 34, 35, 36, 37, 38, 39, 40, 41, 42, 43, 44, 45, 46, 47, 48, 49, 50, 51], [0, 1, 2, 3, 4, 5, 6, 7, 8, 9, 10, 11, 12, 13, 14, 15, 16, 17, 18, 19, 20, 21, 22, 23, 24, 25, 26, 27, 28, 29, 30, 31, 32, 33, 34, 35, 36, 37, 38, 39, 40, 41, 42, 43, 44, 45, 46, 47, 48, 49, 50, 51, 52]] [0, 1, 2, 3, 4, 5, 6, 7, 8, 9, 10, 11, 12, 13, 14, 15, 16, 17, 18, 19, 20, 21, 22, 23, 24, 25, 26, 27, 28, 30, 31, 33, 34, 35, 36, 37, 29, 32, 38, 39, 40, 41, 43, 44, 46, 47, 48, 49, 50, 51, 42, 45, 52, 53] (by kernel_rfl) ?_
  refine Chk.mk (by omega) ?_
  refine LoadP.at 4 rfl [.int .i64 q3] ldQ rfl ?_
  have mu : ((10 : Int) - ((m + 1 : Nat) : Int)).toNat < ((10 : Int) - (m : Int)).toNat := by omega
  by_cases hq0 : 0 < q3
  · have hhel := hHel (.inl hq0)
    refine CmpD.yes hq0 ?_
    refine ToD.to (30 + (m : Int)) (wrap_i64 (by omega) (by omega)) ?_
    refine Tri.mono (law12_has J2 _ aH _ capH _ rfl (by omega) (hO.slC1 5 rfl) (30 + (m : Int))) ?_
    rw [decide_eq_true hhel]
    rintro r _ _ hJ ⟨rfl, rfl, rfl⟩
    skip
    refine Chk.mk (by omega) ?_
    refine LoadP.at 4 rfl [.int .i64 q3] ldQ rfl ?_
    refine CmpD.no (by show ¬ q3 < 0; omega) ?_
    refine ToD.to (30 + (m : Int)) (wrap_i64 (by omega) (by omega)) ?_
    refine Chk.mk (by omega) ?_
    refine LoadP.at 4 rfl [.int .i64 q3] ldQ rfl ?_
    refine CmpD.yes hq0 ?_
    refine Tri.frame (ck_Pinned hC hcl) [0] rfl rfl ?_
    rintro r _ A' hJ ⟨rfl, aP2, capP2, chP2, rfl, hP2, rfl⟩
    refine ⟨by simp, ?_⟩
    repeat (first | refine Chk.mk ⟨rfl, trivial⟩ ?_)
    refine Tri.mono (law12_has J2 _ aP2 _ capP2 _ rfl (by have := which_len (c := c) (p := fun b => decide (0 < b.pins)); omega) (hP2.slC1 6 rfl) (30 + (m : Int))) ?_
    rw [decide_eq_true (hPin.2 hq0)]
    rintro r _ _ hJ ⟨rfl, rfl, rfl⟩
    repeat (first | refine Chk.mk ⟨rfl, trivial⟩ ?_)
    refine ToD.to (30 + (m : Int)) (wrap_i64 (by omega) (by omega)) ?_
    refine Chk.mk (by omega) ?_
    refine LoadP.at 3 rfl [p3.cell] ldP rfl ?_
    by_cases hpl0 : (0 : Int) < (p3.len : Int)
    · refine CmpD.yes hpl0 ?_
      refine Tri.frame (ck_Dirty hC hcl) [0] rfl rfl ?_
      rintro r _ A' hJ ⟨rfl, aP3, capP3, chP3, rfl, hP3, rfl⟩
      refine ⟨by simp, ?_⟩
      repeat (first | refine Chk.mk ⟨rfl, trivial⟩ ?_)
      refine Tri.mono (law12_has J2 _ aP3 _ capP3 _ rfl (by have := which_len (c := c) (p := Buf.dirty); omega) (hP3.slC1 7 rfl) (30 + (m : Int))) ?_
      rw [decide_eq_true (hDir.2 (by omega))]
      rintro r _ _ hJ ⟨rfl, rfl, rfl⟩
      repeat (first | refine Chk.mk ⟨rfl, trivial⟩ ?_)
      refine ToD.to (((m + 1 : Nat)) : Int) (by rw [wrap_i64 (by omega) (by omega)]; omega) ?_
      exact ⟨_, Drop.pick [0, 1, 2, 3, 4, 5] _ rfl, ⟨m + 1, by omega, rfl, rfl, rfl⟩, mu⟩
    · refine CmpD.no hpl0 ?_
      refine Tri.frame (ck_Dirty hC hcl) [0] rfl rfl ?_
      rintro r _ A' hJ ⟨rfl, aP3, capP3, chP3, rfl, hP3, rfl⟩
      refine ⟨by simp, ?_⟩
      repeat (first | refine Chk.mk ⟨rfl, trivial⟩ ?_)
      refine Tri.mono (law12_has J2 _ aP3 _ capP3 _ rfl (by have := which_len (c := c) (p := Buf.dirty); omega) (hP3.slC1 7 rfl) (30 + (m : Int))) ?_
      rw [decide_eq_false (fun h => hpl0 (by have := hDir.1 h; omega))]
      rintro r _ _ hJ ⟨rfl, rfl, rfl⟩
      repeat (first | refine Chk.mk ⟨rfl, trivial⟩ ?_)
      refine ToD.to (((m + 1 : Nat)) : Int) (by rw [wrap_i64 (by omega) (by omega)]; omega) ?_
      exact ⟨_, Drop.pick [0, 1, 2, 3, 4, 5] _ rfl, ⟨m + 1, by omega, rfl, rfl, rfl⟩, mu⟩
  · refine CmpD.no hq0 ?_
    refine Chk.mk (by omega) ?_
    refine LoadP.at 3 rfl [p3.cell] ldP rfl ?_
    by_cases hp0 : (0 : Int) < (p3.len : Int)
    · have hhel := hHel (.inr (by omega))
      refine CmpD.yes hp0 ?_
      refine ToD.to (30 + (m : Int)) (wrap_i64 (by omega) (by omega)) ?_
      refine Tri.mono (law12_has J2 _ aH _ capH _ rfl (by omega) (hO.slC1 5 rfl) (30 + (m : Int))) ?_
      rw [decide_eq_true hhel]
      rintro r _ _ hJ ⟨rfl, rfl, rfl⟩
      skip
      refine Chk.mk (by omega) ?_
      refine LoadP.at 4 rfl [.int .i64 q3] ldQ rfl ?_
      refine CmpD.no (by show ¬ q3 < 0; omega) ?_
      refine ToD.to (30 + (m : Int)) (wrap_i64 (by omega) (by omega)) ?_
      refine Chk.mk (by omega) ?_
      refine LoadP.at 4 rfl [.int .i64 q3] ldQ rfl ?_
      refine CmpD.no hq0 ?_
      refine Tri.frame (ck_Pinned hC hcl) [0] rfl rfl ?_
      rintro r _ A' hJ ⟨rfl, aP2, capP2, chP2, rfl, hP2, rfl⟩
      refine ⟨by simp, ?_⟩
      repeat (first | refine Chk.mk ⟨rfl, trivial⟩ ?_)
      refine Tri.mono (law12_has J2 _ aP2 _ capP2 _ rfl (by have := which_len (c := c) (p := fun b => decide (0 < b.pins)); omega) (hP2.slC1 6 rfl) (30 + (m : Int))) ?_
      rw [decide_eq_false (fun h => hq0 (hPin.1 h))]
      rintro r _ _ hJ ⟨rfl, rfl, rfl⟩
      repeat (first | refine Chk.mk ⟨rfl, trivial⟩ ?_)
      refine ToD.to (30 + (m : Int)) (wrap_i64 (by omega) (by omega)) ?_
      refine Chk.mk (by omega) ?_
      refine LoadP.at 3 rfl [p3.cell] ldP rfl ?_
      by_cases hpl0 : (0 : Int) < (p3.len : Int)
      · refine CmpD.yes hpl0 ?_
        refine Tri.frame (ck_Dirty hC hcl) [0] rfl rfl ?_
        rintro r _ A' hJ ⟨rfl, aP3, capP3, chP3, rfl, hP3, rfl⟩
        refine ⟨by simp, ?_⟩
        repeat (first | refine Chk.mk ⟨rfl, trivial⟩ ?_)
        refine Tri.mono (law12_has J2 _ aP3 _ capP3 _ rfl (by have := which_len (c := c) (p := Buf.dirty); omega) (hP3.slC1 7 rfl) (30 + (m : Int))) ?_
        rw [decide_eq_true (hDir.2 (by omega))]
        rintro r _ _ hJ ⟨rfl, rfl, rfl⟩
        repeat (first | refine Chk.mk ⟨rfl, trivial⟩ ?_)
        refine ToD.to (((m + 1 : Nat)) : Int) (by rw [wrap_i64 (by omega) (by omega)]; omega) ?_
        exact ⟨_, Drop.pick [0, 1, 2, 3, 4, 5] _ rfl, ⟨m + 1, by omega, rfl, rfl, rfl⟩, mu⟩
      · refine CmpD.no hpl0 ?_
        refine Tri.frame (ck_Dirty hC hcl) [0] rfl rfl ?_
        rintro r _ A' hJ ⟨rfl, aP3, capP3, chP3, rfl, hP3, rfl⟩
        refine ⟨by simp, ?_⟩
        repeat (first | refine Chk.mk ⟨rfl, trivial⟩ ?_)
        refine Tri.mono (law12_has J2 _ aP3 _ capP3 _ rfl (by have := which_len (c := c) (p := Buf.dirty); omega) (hP3.slC1 7 rfl) (30 + (m : Int))) ?_
        rw [decide_eq_false (fun h => hpl0 (by have := hDir.1 h; omega))]
        rintro r _ _ hJ ⟨rfl, rfl, rfl⟩
        repeat (first | refine Chk.mk ⟨rfl, trivial⟩ ?_)
        refine ToD.to (((m + 1 : Nat)) : Int) (by rw [wrap_i64 (by omega) (by omega)]; omega) ?_
        exact ⟨_, Drop.pick [0, 1, 2, 3, 4, 5] _ rfl, ⟨m + 1, by omega, rfl, rfl, rfl⟩, mu⟩
    · refine CmpD.no hp0 ?_
      refine Chk.mk (by omega) ?_
      refine LoadP.at 4 rfl [.int .i64 q3] ldQ rfl ?_
      refine CmpD.no (by show ¬ q3 < 0; omega) ?_
      refine ToD.to (30 + (m : Int)) (wrap_i64 (by omega) (by omega)) ?_
      refine Chk.mk (by omega) ?_
      refine LoadP.at 4 rfl [.int .i64 q3] ldQ rfl ?_
      refine CmpD.no hq0 ?_
      refine Tri.frame (ck_Pinned hC hcl) [0] rfl rfl ?_
      rintro r _ A' hJ ⟨rfl, aP2, capP2, chP2, rfl, hP2, rfl⟩
      refine ⟨by simp, ?_⟩
      repeat (first | refine Chk.mk ⟨rfl, trivial⟩ ?_)
      refine Tri.mono (law12_has J2 _ aP2 _ capP2 _ rfl (by have := which_len (c := c) (p := fun b => decide (0 < b.pins)); omega) (hP2.slC1 6 rfl) (30 + (m : Int))) ?_
      rw [decide_eq_false (fun h => hq0 (hPin.1 h))]
      rintro r _ _ hJ ⟨rfl, rfl, rfl⟩
      repeat (first | refine Chk.mk ⟨rfl, trivial⟩ ?_)
      refine ToD.to (30 + (m : Int)) (wrap_i64 (by omega) (by omega)) ?_
      refine Chk.mk (by omega) ?_
      refine LoadP.at 3 rfl [p3.cell] ldP rfl ?_
      by_cases hpl0 : (0 : Int) < (p3.len : Int)
      · refine CmpD.yes hpl0 ?_
        refine Tri.frame (ck_Dirty hC hcl) [0] rfl rfl ?_
        rintro r _ A' hJ ⟨rfl, aP3, capP3, chP3, rfl, hP3, rfl⟩
        refine ⟨by simp, ?_⟩
        repeat (first | refine Chk.mk ⟨rfl, trivial⟩ ?_)
        refine Tri.mono (law12_has J2 _ aP3 _ capP3 _ rfl (by have := which_len (c := c) (p := Buf.dirty); omega) (hP3.slC1 7 rfl) (30 + (m : Int))) ?_
        rw [decide_eq_true (hDir.2 (by omega))]
        rintro r _ _ hJ ⟨rfl, rfl, rfl⟩
        repeat (first | refine Chk.mk ⟨rfl, trivial⟩ ?_)
        refine ToD.to (((m + 1 : Nat)) : Int) (by rw [wrap_i64 (by omega) (by omega)]; omega) ?_
        exact ⟨_, Drop.pick [0, 1, 2, 3, 4, 5] _ rfl, ⟨m + 1, by omega, rfl, rfl, rfl⟩, mu⟩
      · refine CmpD.no hpl0 ?_
        refine Tri.frame (ck_Dirty hC hcl) [0] rfl rfl ?_
        rintro r _ A' hJ ⟨rfl, aP3, capP3, chP3, rfl, hP3, rfl⟩
        refine ⟨by simp, ?_⟩
        repeat (first | refine Chk.mk ⟨rfl, trivial⟩ ?_)
        refine Tri.mono (law12_has J2 _ aP3 _ capP3 _ rfl (by have := which_len (c := c) (p := Buf.dirty); omega) (hP3.slC1 7 rfl) (30 + (m : Int))) ?_
        rw [decide_eq_false (fun h => hpl0 (by have := hDir.1 h; omega))]
        rintro r _ _ hJ ⟨rfl, rfl, rfl⟩
        repeat (first | refine Chk.mk ⟨rfl, trivial⟩ ?_)
        refine ToD.to (((m + 1 : Nat)) : Int) (by rw [wrap_i64 (by omega) (by omega)]; omega) ?_
        exact ⟨_, Drop.pick [0, 1, 2, 3, 4, 5] _ rfl, ⟨m + 1, by omega, rfl, rfl, rfl⟩, mu⟩
end Go.Proofs.YtegdcjnjnoeinaaGreat

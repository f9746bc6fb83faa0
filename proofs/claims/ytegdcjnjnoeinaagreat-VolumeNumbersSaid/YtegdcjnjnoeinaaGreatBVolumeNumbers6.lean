/- Texts of this claim laid together: Wv, KeptW, Cr1, Cr2, Cr3, Cr4, Cr5, Img11, Awake11, Cr6, Cr7, Tw1, Rf11, VolumeMounts, Tw2, Copy, Tw3, Kp1, Kp2, Kp3, Kept1, Kept2, Nm1, Nm2, Nm3, Nm4. -/
import Derived.Test.YtegdcjnjnoeinaaGreatBVolumeNumbers5
import Derived.Test.YtegdcjnjnoeinaaGreatBVolumeNumbers4
import Derived.Test.YtegdcjnjnoeinaaGreatBVolumeNumbers1
import Derived.Test.YtegdcjnjnoeinaaGreatBVolumeNumbers2
import Derived.Test.YtegdcjnjnoeinaaGreatBVolumeNumbers3
namespace Go.Proofs.YtegdcjnjnoeinaaGreat
open Go.RowKit Go.Sl
set_option maxRecDepth 20000

/-- a block as it counts -/
def VSt.cur (v : VSt) (d : DSt) (n : Int) : Dat := match v.fresh.lookup n with
  | some b => b
  | none => d.now.getD n.toNat []
structure WV (ep t0 sq : Nat) (v : VSt) (d : DSt) (ls : List (List PImg)) (k : Nat) : Prop where
  e : WE ep t0 sq v.j d ls k
  epoch : v.epoch = ep
  slot : v.slot = 0 ∨ v.slot = 1
  fresh : v.fresh = lastP ls.flatten
  home : HomeOk (layOf 64) ls.flatten
  broken : v.broken = false
theorem home64 {l : List PImg} (h : HomeOk (layOf 64) l) : ∀ g ∈ l, 18 ≤ g.1 ∧ g.1 < 64 := by
  intro g hg
  have := h g hg
  have e1 : (layOf 64).bi = 18 := by decide
  have e2 : (layOf 64).b = 64 := rfl
  rw [e1, e2] at this; exact this
theorem of_home64 {l : List PImg} (h : ∀ g ∈ l, 18 ≤ g.1 ∧ g.1 < 64) : HomeOk (layOf 64) l := by
  intro g hg
  have := h g hg
  have e1 : (layOf 64).bi = 18 := by decide
  have e2 : (layOf 64).b = 64 := rfl
  rw [e1, e2]; exact this
section
variable {ep t0 sq : Nat} {v : VSt} {d : DSt} {ls : List (List PImg)} {k : Nat}
theorem WV.mono {m : Nat} (w : WV ep t0 sq v d ls k) (h : k ≤ m) : WV ep t0 sq v d ls m := { w with e := w.e.mono h }
theorem WV.lens (w : WV ep t0 sq v d ls k) : ∀ g ∈ ls.flatten, g.2.length = 4096 := by
  intro g hg
  obtain ⟨l, hl, hgl⟩ := List.mem_flatten.1 hg
  obtain ⟨i, hi⟩ := List.mem_iff_getElem?.1 hl
  have hlt := (List.getElem?_eq_some_iff.1 hi).1
  have hr := w.e.right i hlt
  have e : ls[i] = l := by rw [List.getElem?_eq_getElem hlt] at hi; exact Option.some.inj hi
  rw [e] at hr
  exact (hr.2.2.2.2.2.2.1 g hgl).2.2
theorem WV.lookup (w : WV ep t0 sq v d ls k) (n : Int) : v.fresh.lookup n = lastD ls.flatten n := by rw [w.fresh, lookup_lastP]
theorem WV.few_fresh (w : WV ep t0 sq v d ls k) : v.fresh.length ≤ 16 := by
  have h1 : (ls.flatten).length ≤ usedP ls := by
    unfold usedP
    rw [List.length_flatten]
    have : ∀ l : List (List PImg), (l.map List.length).sum ≤ (l.map fun g => g.length + 1).sum := by
      intro l
      induction l with
      | nil => simp
      | cons g l ih => simp; omega
    exact this ls
  have h2 : ∀ (l ms : List PImg), (l.foldl pput ms).length ≤ ms.length + l.length := by
    intro l
    induction l with
    | nil => intro ms; simp
    | cons g l ih =>
      intro ms
      have h1 := ih (pput ms g)
      have h2 : (pput ms g).length ≤ ms.length + 1 := by unfold pput; split <;> simp
      rw [List.foldl_cons, List.length_cons]; omega
  have h3 := h2 ls.flatten []
  have := w.e.used
  rw [w.fresh]
  unfold lastP
  rw [List.length_nil, Nat.zero_add] at h3
  omega
theorem WV.fresh_len (w : WV ep t0 sq v d ls k) : ∀ g ∈ v.fresh, g.2.length = 4096 := by
  intro g hg
  rw [w.fresh] at hg
  have h2 : ∀ (l ms : List PImg), (∀ g ∈ ms, g.2.length = 4096) → (∀ g ∈ l, g.2.length = 4096) → ∀ g ∈ l.foldl pput ms, g.2.length = 4096 := by
    intro l
    induction l with
    | nil => intro ms h _; exact h
    | cons x l ih =>
      intro ms h h' 
      refine ih (pput ms x) ?_ (fun g hg => h' g (by simp [hg]))
      intro g hg
      unfold pput at hg
      split at hg
      · obtain ⟨y, hy, rfl⟩ := List.mem_map.1 hg
        split
        · exact h' x (by simp)
        · exact h y hy
      · rcases List.mem_append.1 hg with hg | hg
        · exact h g hg
        · simp at hg; subst hg; exact h' g (by simp)
  exact h2 _ [] (by simp) w.lens g hg
theorem WV.read (w : WV ep t0 sq v d ls k) {n : Int} (h : 0 ≤ n ∧ n < 64) : v.read d n = (v.cur d n, 0) := by
  unfold VSt.read VSt.cur
  rw [if_neg (by rw [w.broken]; simp)]
  cases hl : v.fresh.lookup n with
  | some b => rfl
  | none =>
    have e : n = ((n.toNat : Nat) : Int) := by omega
    have := read_up w.e.dwf w.e.calm.1 (k := n.toNat) (by rw [w.e.len]; omega)
    rw [← e] at this
    exact this
/-- a group is appended, there is room -/
theorem WV.app (w : WV ep t0 sq v d ls k) {l : List PImg} (hho : HomeOk (layOf 64) l) (hR : RightP ep ((sq + ls.length : Nat) : Int) l) (hroom : usedP ls + (l.length + 1) ≤ 16) :
    ∃ v' , v.app d l = (v', wrD (rgAt (t0 + usedP ls)) (putP ep (sq + ls.length) l) 0 d, ((sq + ls.length : Nat) : Int), 0) ∧ WV ep t0 sq v' (wrD (rgAt (t0 + usedP ls)) (putP ep (sq + ls.length) l) 0 d) (ls ++ [l]) (k + 16) ∧
      (∀ n, 18 ≤ n → n < 64 → v'.cur (wrD (rgAt (t0 + usedP ls)) (putP ep (sq + ls.length) l) 0 d) n = (lastD l n).getD (v.cur d n)) ∧ v'.j.synced = v.j.synced ∧ v'.slot = v.slot := by
  obtain ⟨j', a, w', hs⟩ := w.e.append hR hroom
  have hv : v.app d l = ({ v with j := j', fresh := l.foldl pput v.fresh }, wrD (rgAt (t0 + usedP ls)) (putP ep (sq + ls.length) l) 0 d, ((sq + ls.length : Nat) : Int), 0) := by
    unfold VSt.app
    rw [a]
    dsimp only
    rw [if_neg (by simp)]
  have hfr : l.foldl pput v.fresh = lastP (ls ++ [l]).flatten := by
    rw [w.fresh]; unfold lastP; rw [List.flatten_append, List.foldl_append]; simp
  refine ⟨_, hv, ⟨w', w.epoch, w.slot, hfr, ?_, w.broken⟩, fun n h1 h2 => ?_, hs, rfl⟩
  · intro g hg
    rw [List.flatten_append] at hg
    rcases List.mem_append.1 hg with hg | hg
    · exact w.home g hg
    · exact hho g (by simpa using hg)
  · unfold VSt.cur
    dsimp only
    rw [hfr, lookup_lastP, w.lookup, List.flatten_append, List.flatten_singleton]
    have hla : lastD (ls.flatten ++ l) n = (lastD l n).or (lastD ls.flatten n) := by
      refine snoc_ind (p := fun l : List PImg => lastD (ls.flatten ++ l) n = (lastD l n).or (lastD ls.flatten n)) ?_ ?_ l
      · rw [List.append_nil]; simp [lastD]
      · intro l g ih
        rw [← List.append_assoc, lastD_snoc, lastD_snoc]
        split
        · rfl
        · exact ih
    rw [hla]
    cases lastD l n with
    | some x => rfl
    | none =>
      simp only [Option.none_or, Option.getD_none]
      cases lastD ls.flatten n with
      | some x => rfl
      | none =>
        show List.getD _ _ _ = _
        rw [List.getD_eq_getElem?_getD, List.getD_eq_getElem?_getD, show (rgAt (t0 + usedP ls)) = fun k => ((2 + (t0 + usedP ls + k) % 16 : Nat) : Int) from rfl,
          wrD_miss (fun k => 2 + (t0 + usedP ls + k) % 16) n.toNat _ 0 d (fun k _ => by omega)]
theorem lastD_keys (f : Int → Dat) : ∀ (l : List Int) (n : Int), lastD (l.map fun m => (m, f m)) n = if n ∈ l then some (f n) else none := by
  refine fun l n => snoc_ind (p := fun l : List Int => lastD (l.map fun m => (m, f m)) n = if n ∈ l then some (f n) else none) ?_ ?_ l
  · simp [lastD]
  · intro l m ih
    rw [List.map_append, List.map_cons, List.map_nil, lastD_snoc]
    dsimp only
    by_cases h : m = n
    · subst h; simp
    · rw [if_neg h, ih]
      have h' : ¬ n = m := fun e => h e.symm
      simp [h']
theorem lookup_keys (l : List PImg) (n : Int) : (l.lookup n).isSome = true ↔ n ∈ l.map Prod.fst := by
  induction l with
  | nil => simp
  | cons x l ih =>
    obtain ⟨m, b⟩ := x
    rw [List.lookup_cons]
    by_cases h : n = m
    · subst h; simp
    · have : (n == m) = false := by simp [h]
      rw [this]
      simp only [List.map_cons, List.mem_cons]
      rw [ih]
      simp [h]
theorem lastD_sortP (l : List PImg) (n : Int) : lastD (sortP l) n = l.lookup n := by
  unfold sortP
  rw [lastD_keys]
  have hk := lookup_keys l n
  have hm : n ∈ sortI (l.map Prod.fst) ↔ n ∈ l.map Prod.fst := (sortI_perm _).mem_iff
  by_cases h : n ∈ l.map Prod.fst
  · rw [if_pos (hm.2 h)]
    cases hl : l.lookup n with
    | some b => rfl
    | none => rw [hl] at hk; exact absurd (hk.2 h) (by simp)
  · rw [if_neg (fun h' => h (hm.1 h'))]
    cases hl : l.lookup n with
    | none => rfl
    | some b => rw [hl] at hk; exact absurd (hk.1 rfl) h
theorem sortP_mem {l : List PImg} {g : PImg} (h : g ∈ sortP l) : g.1 ∈ l.map Prod.fst ∧ l.lookup g.1 = some g.2 := by
  unfold sortP at h
  obtain ⟨n, hn, rfl⟩ := List.mem_map.1 h
  have hn := (sortI_perm _).mem_iff.1 hn
  refine ⟨hn, ?_⟩
  have hk := (lookup_keys l n).2 hn
  dsimp only
  cases hl : l.lookup n with
  | some b => rfl
  | none => rw [hl] at hk; cases hk
theorem lookup_mem {l : List PImg} {n : Int} {b : Dat} (h : l.lookup n = some b) : (n, b) ∈ l := by
  induction l with
  | nil => simp at h
  | cons x l ih =>
    obtain ⟨m, c⟩ := x
    rw [List.lookup_cons] at h
    by_cases hm : n = m
    · subst hm; simp at h; subst h; simp
    · have : (n == m) = false := by simp [hm]
      rw [this] at h
      exact List.mem_cons_of_mem _ (ih h)
theorem WV.fresh_home (w : WV ep t0 sq v d ls k) : ∀ g ∈ sortP v.fresh, 18 ≤ g.1 ∧ g.1 < 64 ∧ g.2.length = 4096 := by
  intro g hg
  obtain ⟨_, h2⟩ := sortP_mem hg
  rw [w.lookup] at h2
  obtain ⟨x, hx, q1, q2⟩ := lastD_mem _ _ _ h2
  have h3 := home64 w.home x hx
  have h4 := w.lens x hx
  rw [← q1, ← q2]; exact ⟨h3.1, h3.2, h4⟩
theorem WV.sup (w : WV ep t0 sq v d ls k) : v.sup = ⟨64, ep, ((sq + ls.length : Nat) : Int), (((t0 + usedP ls) % 16 : Nat) : Int)⟩ := by
  unfold VSt.sup
  rw [w.e.lay, w.epoch, w.e.next, w.e.t, w.e.u, w.e.s]
  congr 1
  omega
/-- a checkpoint -/
theorem WV.ckpt (w : WV ep t0 sq v d ls k) (hsq : sq + ls.length ≤ 549755813888) :
    ∃ v' d', v.ckpt d = (v', d', 0) ∧ WV ep (t0 + usedP ls) (sq + ls.length) v' d' [] (k + 17) ∧ (∀ n, 18 ≤ n → n < 64 → v'.cur d' n = v.cur d n) ∧ v'.j.synced = v'.j.next - 1 ∧ v'.slot = 1 - v.slot ∧ v'.fresh = [] ∧ d'.writes = [] ∧ d'.safe = d'.now ∧
      d'.now = (wrC (sortP v.fresh) { d with safe := d.now, writes := [] }).now.set v.slot.toNat (supL v.sup) := by
  obtain ⟨j1, a1, w1, s1⟩ := w.e.flush
  have hsl : 0 ≤ v.slot ∧ v.slot ≤ 1 := by rcases w.slot with h | h <;> omega
  have hho := w.fresh_home
  have hep := w.e.epr
  have hpos := w.e.pos
  have hRs : RightS v.sup := by
    rw [w.sup]
    exact ⟨by show (64 : Int) ≤ 64; decide, by show (64 : Int) ≤ 512; decide, by show (1 : Int) ≤ (ep : Int); omega, by show (ep : Int) ≤ 8388608; omega, by show (1 : Int) ≤ ((sq + ls.length : Nat) : Int); omega, by show ((sq + ls.length : Nat) : Int) ≤ 549755813888; omega, by show (0 : Int) ≤ (((t0 + usedP ls) % 16 : Nat) : Int); omega, by show (((t0 + usedP ls) % 16 : Nat) : Int) ≤ 511; omega⟩
  have hok : DoOk ({ d with safe := d.now, writes := [] } : DSt) (sortP v.fresh) := fun g hg => by
    obtain ⟨h1, h2, h3⟩ := hho g hg
    exact ⟨by omega, by rw [w1.len]; exact h2, h3⟩
  obtain ⟨e, b1, b2, b3, b4, b5, b6⟩ := doP_calm w1.calm w1.len hok hRs hsl
  have hwf := doP_wf w1.dwf (sortP v.fresh) v.sup v.slot
  have hfew := doP_few w1.few (sortP v.fresh) v.sup v.slot
  rw [b1] at hwf hfew
  dsimp only at hwf hfew
  have hfl := w.few_fresh
  have hsl2 : (sortP v.fresh).length = v.fresh.length := sortP_length _
  have w2 : WE ep t0 sq j1 e ls (k + 17) := { w1 with calm := b2, dwf := hwf, len := b6, few := hfew.mono (by omega), ring := ?ring }
  case ring =>
    intro o ho
    have hw := w1.ring o ho
    unfold rbP at hw ⊢
    rw [b5, List.getD_eq_getElem?_getD]
    rw [List.getD_eq_getElem?_getD] at hw
    have hq := (wrC_now (sortP v.fresh) ({ d with safe := d.now, writes := [] } : DSt) (fun g hg => (hok g hg).1) (fun g hg => (hok g hg).2.1)).2 (2 + (t0 + o) % 16) (by rw [w1.len]; omega)
    rw [List.getElem?_set_ne (by omega), hq]
    have hno : lastD (sortP v.fresh) ((2 + (t0 + o) % 16 : Nat) : Int) = none := lastD_none fun hm => by
      obtain ⟨g, hg, he⟩ := List.mem_map.1 hm
      have := hho g hg; omega
    rw [hno]; exact hw
  obtain ⟨j2, a2, w3, s3⟩ := w2.release s1
  have hck : v.ckS d = (0, j2, e) := by
    unfold VSt.ckS
    rw [a1]
    dsimp only
    rw [if_neg (by simp), b1]
    dsimp only
    rw [if_neg (by simp), a2]
  have hv : v.ckpt d = ({ v with j := j2, slot := 1 - v.slot, fresh := [] }, e, 0) := by
    unfold VSt.ckpt
    rw [if_neg (by rw [w.broken]; simp), hck]
    dsimp only
    rw [if_neg (by simp)]
  refine ⟨_, e, hv, ⟨w3, w.epoch, by rcases w.slot with h | h <;> simp [h], rfl, by intro g hg; simp at hg, w.broken⟩, fun n h1 h2 => ?_, ?_, rfl, rfl, b3, b4, b5⟩
  · unfold VSt.cur
    show e.now.getD _ _ = _
    rw [b5, List.getD_eq_getElem?_getD, List.getElem?_set_ne (by omega)]
    have hq := (wrC_now (sortP v.fresh) ({ d with safe := d.now, writes := [] } : DSt) (fun g hg => (hok g hg).1) (fun g hg => (hok g hg).2.1)).2 n.toNat (by rw [w1.len]; omega)
    rw [hq, show ((n.toNat : Nat) : Int) = n by omega, lastD_sortP]
    cases v.fresh.lookup n with
    | some b => rfl
    | none => show _ = d.now.getD _ _; rw [List.getD_eq_getElem?_getD]
  · show j2.synced = j2.next - 1
    rw [s3, s1, w3.next, w1.next]; rfl
theorem WV.fits (w : WV ep t0 sq v d ls k) {n : Nat} (h : 1 ≤ n ∧ n + 1 ≤ 16) : v.fits n = true := by
  unfold VSt.fits
  have hb : blocksN (n : Int) = n + 1 := by unfold blocksN; rw [if_neg (by omega)]
  rw [hb, w.e.lay]
  exact decide_eq_true ⟨by omega, by show (n : Int) + 1 ≤ layL ((64 : Nat) : Int); rw [layL_64']; omega⟩
/-- a commit: the group is appended, behind a checkpoint if there is no room -/
theorem WV.commit (w : WV ep t0 sq v d ls k) {l : List PImg} (hho : HomeOk (layOf 64) l) (hR : RightP ep ((sq + ls.length : Nat) : Int) l) (hl : l.length + 1 ≤ 16) :
    ∃ v' d' t1 sq' ls', v.commit d l = (v', d', ((sq + ls.length : Nat) : Int), 0) ∧ WV ep t1 sq' v' d' ls' (k + 33) ∧ sq' + ls'.length = sq + ls.length + 1 ∧ (∀ n, 18 ≤ n → n < 64 → v'.cur d' n = (lastD l n).getD (v.cur d n)) := by
  have hll := hR.2.2.2.2.1
  have hsq : sq + ls.length ≤ 549755813888 := by have := hR.2.2.2.1; omega
  have hb : blocksN (l.length : Int) = l.length + 1 := by unfold blocksN; rw [if_neg (by omega)]
  have hu := w.e.used
  have hc : v.commit d l = if v.j.s - v.j.u - v.j.h < blocksN l.length then (if (v.ckpt d).2.2 ≠ 0 then ((v.ckpt d).1, (v.ckpt d).2.1, 0, (v.ckpt d).2.2) else (v.ckpt d).1.app (v.ckpt d).2.1 l) else v.app d l := by
    unfold VSt.commit
    rw [if_neg (by rw [w.broken]; simp), if_neg (by rw [w.e.lay]; exact fun h => h hho), if_neg (by rw [w.epoch, w.e.next]; exact fun h => h hR), if_neg (by rw [w.fits ⟨hll, hl⟩]; simp)]
  rw [hc, hb, w.e.s, w.e.u, w.e.h]
  by_cases hr : (16 : Int) - ((usedP ls : Nat) : Int) - 0 < (l.length : Int) + 1
  · rw [if_pos hr]
    obtain ⟨v1, d1, a1, w1, c1, _⟩ := w.ckpt hsq
    rw [a1]
    dsimp only
    rw [if_neg (by simp)]
    obtain ⟨v2, a2, w2, c2, _⟩ := w1.app hho (by simpa using hR) (by simp [usedP]; omega)
    refine ⟨v2, _, _, _, _, a2, w2.mono (by omega), by simp, fun n h1 h2 => ?_⟩
    rw [c2 n h1 h2, c1 n h1 h2]
  · rw [if_neg hr]
    obtain ⟨v2, a2, w2, c2, _⟩ := w.app hho hR (by omega)
    exact ⟨v2, _, _, _, _, a2, w2.mono (by omega), by simp; omega, c2⟩
end
theorem openJ_we {ep sq t0 : Nat} {d : DSt} {k : Nat} (hep : 1 ≤ ep ∧ ep ≤ 8388608) (hsq : 1 ≤ sq ∧ sq ≤ 549755813888) (ht : t0 < 16) (hc : d.Calm) (hw : d.Wf) (hl : d.now.length = 64) (hf : d.Few k) : WE ep t0 sq (openJ 64 ep sq t0) d [] k :=
  ⟨rfl, layL_64', by show (t0 : Int) = _; omega, rfl, rfl, rfl, hep, by show (sq : Int) = ((sq + 0 : Nat) : Int); simp, hsq.1, rfl, rfl, openJ_wf 64 (by omega) ⟨rfl, by omega, by omega, by omega, by omega, by omega, by rw [layL_64']; omega⟩, hc, hw, hl, hf, by simp [usedP], fun i hi => by simp at hi, fun o ho => by simp [ringB] at ho⟩
end Go.Proofs.YtegdcjnjnoeinaaGreat
namespace Go.Proofs.YtegdcjnjnoeinaaGreat
open Go.RowKit Go.Sl
set_option maxRecDepth 20000

def wL (tail : Nat) : Nat → List Dat → List (Int × Dat)
  | _, [] => []
  | o, b :: bs => (((2 + (tail + o) % 16 : Nat) : Int), b) :: wL tail (o + 1) bs
theorem wL_append (tail : Nat) : ∀ (a b : List Dat) (o : Nat), wL tail o (a ++ b) = wL tail o a ++ wL tail (o + a.length) b
  | [], b, o => by simp [wL]
  | x :: a, b, o => by rw [List.cons_append, wL, wL_append tail a b, wL, List.length_cons, show o + 1 + a.length = o + (a.length + 1) by omega]; rfl
theorem wrD_wL (tail u : Nat) : ∀ (bs : List Dat) (i : Nat) (d : DSt), (wrD (fun k : Nat => ((2 + (tail + u + k) % 16 : Nat) : Int)) bs i d).writes = d.writes ++ wL tail (u + i) bs
  | [], _, _ => by simp [wrD, wL]
  | b :: bs, i, d => by
    rw [wrD, wrD_wL tail u bs (i + 1), wL, show u + (i + 1) = u + i + 1 by omega]
    show (d.writes ++ [_]) ++ _ = _
    rw [List.append_assoc, show tail + u + i = tail + (u + i) by omega]; rfl
theorem WI.wr {ep tail : Nat} {z : Nat → Dat} {j : JSt} {d : DSt} {all : List (List PImg)} (w : WI ep tail z j d all) (hw : d.writes = wL tail 0 (ringB ep 1 all)) {l : List PImg} (hR : RightP ep ((all.length + 1 : Nat) : Int) l) (hf : usedP all + (l.length + 1) ≤ 16) :
    (j.appendB d l false).2.1.writes = wL tail 0 (ringB ep 1 (all ++ [l])) := by
  have hge := usedP_ge all
  have hR' : RightP j.epoch j.next l := by rw [w.epoch, w.next]; exact hR
  have hok := w.wf.ring
  have hokd : Ok 16 tail (usedP all : Nat) 0 := by have := hok; rw [w.s, w.t, w.u, w.h] at this; exact this
  have htl : (tail : Int) < 16 := hokd.2.2.2.1
  have hp : putS j.s j.t j.u j.h ((l.length : Int) + 1) (if false = true then (l.length : Int) + 1 else 0) = ((j.s, (tail : Int), ((usedP all : Nat) : Int) + ((l.length : Int) + 1), 0, 0), ((tail : Int) + (usedP all : Nat)) % 16) := by
    rw [w.s, w.t, w.u, w.h]
    unfold putS
    rw [if_neg (by simp only [Bool.false_eq_true, if_false]; rintro (h | h | h | h | h); exact h hokd; omega; omega; omega; omega), if_neg (by simp only [Bool.false_eq_true, if_false]; omega)]
    simp only [Bool.false_eq_true, if_false, Int.sub_zero]
  have hlen16 : j.s + 2 ≤ d.now.length := by rw [w.s, w.len]; decide
  have hs1 : (l.length : Int) + 1 ≤ j.s := by rw [w.s]; omega
  obtain ⟨j', a, _⟩ := JSt.append_next w.wf (by rw [w.groups]; omega) w.broken hR' hs1 w.calm hlen16 hp
  rw [a]
  have hff : (fun k : Nat => (2 : Int) + (((tail : Int) + (usedP all : Nat)) % 16 + k) % j.s) = fun k : Nat => ((2 + (tail + usedP all + k) % 16 : Nat) : Int) := by
    funext k
    rw [w.s]; omega
  have he1 : j.epoch.toNat = ep := by rw [w.epoch]; rfl
  have he2 : j.next.toNat = 1 + all.length := by rw [w.next]; omega
  show (wrD _ _ 0 d).writes = _
  rw [hff, he1, he2, wrD_wL, hw, ringB_snoc, wL_append, ringB_length, Nat.zero_add, Nat.add_zero]
theorem crash1_get (keep : List Bool) (tn : Int) (sec i n : Nat) (b : Dat) (s : List Dat) (p : Nat) (hn : n < s.length) :
    (n ≠ p → (crash1 keep tn sec i n b s).getD p [] = s.getD p []) ∧ (n = p → (crash1 keep tn sec i n b s).getD p [] = s.getD p [] ∨ (crash1 keep tn sec i n b s).getD p [] = b ∨ (crash1 keep tn sec i n b s).getD p [] = tornP (s.getD p []) b sec) := by
  have h1 : ∀ y : Dat, n ≠ p → (s.set n y).getD p [] = s.getD p [] := fun y h => by
    rw [List.getD_eq_getElem?_getD, List.getD_eq_getElem?_getD, List.getElem?_set_ne h]
  have h2 : ∀ y : Dat, n = p → (s.set n y).getD p [] = y := fun y h => by
    subst h
    rw [List.getD_eq_getElem?_getD, List.getElem?_set_self hn]; rfl
  unfold crash1
  constructor
  · intro h
    split
    · exact h1 _ h
    · split
      · exact h1 _ h
      · rfl
  · intro h
    split
    · right; right; rw [h2 _ h, h]
    · split
      · right; left; exact h2 _ h
      · left; rfl
theorem crash_wL (keep : List Bool) (tn : Int) (sec tail : Nat) : ∀ (bs : List Dat) (u i : Nat) (s : List Dat), s.length = 64 → u + bs.length ≤ 16 → ∀ o, o < 16 →
    (∀ (_ : u ≤ o) (h : o - u < bs.length), (crashK keep tn sec i (wL tail u bs) s).getD (2 + (tail + o) % 16) [] = s.getD (2 + (tail + o) % 16) [] ∨ (crashK keep tn sec i (wL tail u bs) s).getD (2 + (tail + o) % 16) [] = bs[o - u] ∨ (crashK keep tn sec i (wL tail u bs) s).getD (2 + (tail + o) % 16) [] = tornP (s.getD (2 + (tail + o) % 16) []) bs[o - u] sec) ∧
    (¬ (u ≤ o ∧ o - u < bs.length) → (crashK keep tn sec i (wL tail u bs) s).getD (2 + (tail + o) % 16) [] = s.getD (2 + (tail + o) % 16) [])
  | [], u, i, s, _, _, o, _ => ⟨fun _ h => by simp at h, fun _ => rfl⟩
  | b :: bs, u, i, s, hs, hu, o, ho => by
    rw [wL, crashK]
    dsimp only
    rw [Int.toNat_natCast]
    simp only [List.length_cons] at hu
    obtain ⟨g1, g2⟩ := crash1_get keep tn sec i (2 + (tail + u) % 16) b s (2 + (tail + o) % 16) (by omega)
    obtain ⟨r1, r2⟩ := crash_wL keep tn sec tail bs (u + 1) (i + 1) (crash1 keep tn sec i (2 + (tail + u) % 16) b s) (by rw [crash1_length]; exact hs) (by omega) o ho
    by_cases huo : u = o
    · subst huo
      have hr := r2 (by omega)
      rw [hr]
      refine ⟨fun _ h => ?_, fun h => absurd ⟨Nat.le_refl _, by simp⟩ h⟩
      simp only [Nat.sub_self, List.getElem_cons_zero]
      exact g2 rfl
    · have hg := g1 (by omega)
      rw [hg] at r1 r2
      refine ⟨fun h1 h => ?_, fun h => r2 (fun h' => h ⟨by omega, by simp; omega⟩)⟩
      have e : o - u = (o - (u + 1)) + 1 := by omega
      have := r1 (by omega) (by simp only [List.length_cons] at h; omega)
      simp only [e, List.getElem_cons_succ]
      exact this
theorem foreign_not {m b : Dat} (h : Foreign m b) : ¬ Bears m b := fun hb => h 0 (by omega) (hb 0 (by omega))
end Go.Proofs.YtegdcjnjnoeinaaGreat
namespace Go.Proofs.YtegdcjnjnoeinaaGreat
open Go.RowKit Go.Sl
set_option maxRecDepth 20000

/-! ### stamps that are not there -/
theorem stamp_ne2 {e e' s s' : Nat} (he : e ≤ 8388608) (he' : e' ≤ 8388608) (hs : s ≤ 549755813888) (hs' : s' ≤ 549755813888) (h : e ≠ e' ∨ s ≠ s') : stampB e s ≠ stampB e' s' := by
  intro hh
  have := congrArg nb hh
  rw [stamp_num he hs, stamp_num he' hs'] at this
  omega
/-- bytes of an older time: no sector bears a stamp of this epoch from this number on, or of a later epoch -/
def Old (ep sq : Nat) (b : Dat) : Prop := b.length = 4096 ∧ ∀ e s : Nat, (ep < e ∨ (e = ep ∧ sq ≤ s)) → e ≤ 8388608 → s ≤ 549755813888 → Foreign (stampB e s) b
theorem Old.mono {ep sq ep' sq' : Nat} {b : Dat} (h : Old ep sq b) (hle : ep < ep' ∨ (ep = ep' ∧ sq ≤ sq')) : Old ep' sq' b :=
  ⟨h.1, fun e s he h1 h2 => h.2 e s (by omega) h1 h2⟩
theorem old_noughts {ep sq : Nat} (hep : 1 ≤ ep) : Old ep sq noughts := ⟨noughts_length, fun e s he h1 h2 => noughts_foreign ⟨by omega, h1⟩ h2⟩
theorem old_bears {ep s0 sq : Nat} {b : Dat} (hl : b.length = 4096) (hb : Bears (stampB ep s0) b) (hep : ep ≤ 8388608) (hs0 : s0 ≤ 549755813888) (h : s0 < sq) : Old ep sq b :=
  ⟨hl, fun e s he h1 h2 => bears_foreign hb (stamp_ne2 hep h1 hs0 h2 (by omega))⟩
theorem torn_foreign {m old new : Dat} (h1 : old.length = 4096) (h2 : new.length = 4096) (hf1 : Foreign m old) (hf2 : Foreign m new) (sec : Nat) : Foreign m (tornP old new sec) := by
  have hl : (tornP old new sec).length = 4096 := tornK_length h1 h2 sec 8 (by omega)
  have hat := tornK_at h1 h2 sec 8 (by omega)
  intro k hk he
  by_cases hb : sec / 2 ^ k % 2 = 1
  · refine hf2 k hk ?_
    rw [← he]
    refine extN 8 (by rw [List.length_take, List.length_drop]; omega) (by rw [List.length_take, List.length_drop]; omega) fun i hi => ?_
    rw [List.getElem?_take, if_pos hi, List.getElem?_drop, List.getElem?_take, if_pos hi, List.getElem?_drop, tornP, hat _ (by omega), if_pos ⟨by omega, by rw [show (k * 512 + i) / 512 = k by omega]; exact hb⟩]
  · refine hf1 k hk ?_
    rw [← he]
    refine extN 8 (by rw [List.length_take, List.length_drop]; omega) (by rw [List.length_take, List.length_drop]; omega) fun i hi => ?_
    rw [List.getElem?_take, if_pos hi, List.getElem?_drop, List.getElem?_take, if_pos hi, List.getElem?_drop, tornP, hat _ (by omega), if_neg (by rw [show (k * 512 + i) / 512 = k by omega]; exact fun h => hb h.2)]
theorem old_torn {ep sq : Nat} {old new : Dat} (h1 : Old ep sq old) (h2 : Old ep sq new) (sec : Nat) : Old ep sq (tornP old new sec) :=
  ⟨tornK_length h1.1 h2.1 sec 8 (by omega), fun e s he g1 g2 => torn_foreign h1.1 h2.1 (h1.2 e s he g1 g2) (h2.2 e s he g1 g2) sec⟩
/-! ### a crash, block by block -/
/-- what may lie at a block behind a crash -/
def Out (sec : Nat) (old new x : Dat) : Prop := x = old ∨ x = new ∨ x = tornP old new sec
theorem crashK_at (keep : List Bool) (tn : Int) (sec : Nat) : ∀ (ws : List (Int × Dat)) (i : Nat) (s : List Dat), (ws.map fun w => w.1.toNat).Nodup → (∀ w ∈ ws, w.1.toNat < s.length) → ∀ p : Nat,
    (p ∉ (ws.map fun w => w.1.toNat) → (crashK keep tn sec i ws s).getD p [] = s.getD p []) ∧ (∀ w ∈ ws, w.1.toNat = p → Out sec (s.getD p []) w.2 ((crashK keep tn sec i ws s).getD p []))
  | [], _, _, _, _, _ => ⟨fun _ => rfl, fun w hw => by cases hw⟩
  | w :: ws, i, s, hnd, hl, p => by
    rw [List.map_cons, List.nodup_cons] at hnd
    obtain ⟨g1, g2⟩ := crash1_get keep tn sec i w.1.toNat w.2 s p (hl w (by simp))
    obtain ⟨r1, r2⟩ := crashK_at keep tn sec ws (i + 1) (crash1 keep tn sec i w.1.toNat w.2 s) hnd.2 (fun x hx => by rw [crash1_length]; exact hl x (by simp [hx])) p
    rw [crashK]
    constructor
    · intro hp
      simp only [List.map_cons, List.mem_cons, not_or] at hp
      rw [r1 hp.2, g1 (fun e => hp.1 e.symm)]
    · intro x hx hxp
      rcases List.mem_cons.1 hx with rfl | hx
      · rw [r1 (by rw [← hxp]; exact hnd.1)]
        rcases g2 hxp with h | h | h
        · exact .inl h
        · exact .inr (.inl h)
        · exact .inr (.inr h)
      · have := r2 x hx hxp
        have hne : w.1.toNat ≠ p := fun e => hnd.1 (by rw [e, ← hxp]; exact List.mem_map_of_mem hx)
        rw [g1 hne] at this
        exact this
/-! ### scanning -/
/-- as 'scan_kept', of stamps from this number on alone -/
theorem scan_kept2 {rb : Nat → Dat} {ep : Nat} : ∀ (l : List (List PImg)) (f at_ sq room : Nat), (∀ (i : Nat) (h : i < l.length), RightP ep ((sq + i : Nat) : Int) l[i]) → usedP l ≤ room → sq + l.length ≤ 549755813889 →
    (∀ (k : Nat) (h : k < (ringB ep sq l).length) (s : Nat), sq ≤ s → s ≤ 549755813888 → Bears (stampB ep s) (rb (at_ + k)) → rb (at_ + k) = (ringB ep sq l)[k]) →
    (∀ k s, usedP l ≤ k → k < room → sq ≤ s → s ≤ 549755813888 → ¬ Bears (stampB ep s) (rb (at_ + k))) →
    ∃ n, n ≤ l.length ∧ scanK rb ep f at_ sq room = gsP ep sq (l.take n)
  | [], f, at_, sq, room, _, _, hsq, _, h2 => by
    refine ⟨0, by simp, ?_⟩
    rw [scan_stop]; · rfl
    intro e s l hg h'
    have hr := (grpP_room hg).1
    obtain ⟨l', hd, _, _⟩ := grpP_hd hg
    have hb := (hdP_some hd).2.2.2.2.2.2
    have hR := (hdP_some hd).2.2.2.1
    have hs : (s : Int) = sq := h'.2
    have he : (e : Int) = ep := h'.1
    obtain rfl : e = ep := by omega
    have h549 := hR.2.2.2.1
    exact h2 0 s (by simp [usedP]) (by omega) (by omega) (by omega) (by rw [Nat.add_zero]; exact hb)
  | g :: l, 0, at_, sq, room, _, _, _, _, _ => ⟨0, by simp, rfl⟩
  | g :: l, f + 1, at_, sq, room, hR, hu, hsq, h1, h2 => by
    have e : usedP (g :: l) = g.length + 1 + usedP l := by simp [usedP]
    have hpl := putP_length ep sq g
    have hrl := ringB_length ep l (sq + 1)
    have hRl : ringB ep sq (g :: l) = putP ep sq g ++ ringB ep (sq + 1) l := rfl
    have hlen : (ringB ep sq (g :: l)).length = usedP (g :: l) := ringB_length ep (g :: l) sq
    have h0 : RightP ep ((sq : Nat) : Int) g := by have := hR 0 (by simp); rw [Nat.add_zero] at this; exact this
    have h549 : sq ≤ 549755813888 := by have := h0.2.2.2.1; omega
    have hat : ∀ (k : Nat) (hk : k < (putP ep sq g).length), Bears (stampB ep sq) (rb (at_ + k)) → rb (at_ + k) = (putP ep sq g)[k] := by
      intro k hk hb
      have := h1 k (by rw [hlen]; omega) sq (Nat.le_refl _) h549 hb
      rw [this]
      simp only [hRl]
      rw [List.getElem_append_left hk]
    rw [scanK]
    cases hg : grpP rb at_ room with
    | none => exact ⟨0, by simp, rfl⟩
    | some p =>
      obtain ⟨e2, s2, l2⟩ := p
      dsimp only
      by_cases hc : (e2 : Int) = ep ∧ (s2 : Int) = sq
      · rw [if_pos hc]
        obtain ⟨he, hs⟩ := hc
        obtain rfl : e2 = ep := by omega
        obtain rfl : s2 = sq := by omega
        obtain ⟨l', hd, hll, hroom⟩ := grpP_hd hg
        have hb0 := (hdP_some hd).2.2.2.2.2.2
        have hr0 := hat 0 (by omega) (by rw [Nat.add_zero]; exact hb0)
        rw [Nat.add_zero] at hr0
        have hr0' : rb at_ = hblk e2 s2 g := by rw [hr0]; rfl
        have hd' := hd
        rw [hr0', hdP_put h0, Option.some.injEq] at hd'
        have hl'g : l'.length = g.length := by
          have := congrArg (fun x => x.2.2.length) hd'
          simpa using this.symm
        rw [grpP_get hd (by omega)] at hg
        have hbs : ∀ i, i < l'.length → Bears (stampB e2 s2) (rb (at_ + (i + 1))) := by
          rw [List.range_succ_eq_map, List.map_cons, Nat.add_zero] at hg
          by_cases hrest : ((List.map Nat.succ (List.range l'.length)).map fun i => rb (at_ + i)).length = l'.length ∧ RestOk e2 s2 ((List.map Nat.succ (List.range l'.length)).map fun i => rb (at_ + i))
          · intro i hi
            exact (hrest.2 (rb (at_ + (i + 1))) (by
              rw [List.map_map]
              exact List.mem_map.2 ⟨i, List.mem_range.2 hi, rfl⟩)).2
          · rw [getP_bad hd hrest] at hg
            cases hg
        have hall : ((List.range (l'.length + 1)).map fun i => rb (at_ + i)) = putP e2 s2 g := by
          refine getElem_eq_of (by simp [hpl, hl'g]) fun i i1 i2 => ?_
          simp only [List.getElem_map, List.getElem_range]
          rw [List.length_map, List.length_range] at i1
          cases i with
          | zero => exact hr0
          | succ i => exact hat (i + 1) i2 (hbs i (by omega))
        rw [hall, getP_put h0, Option.some.injEq] at hg
        have hl2 : g = l2 := by
          have := congrArg (fun x => x.2.2) hg
          exact this
        subst hl2
        obtain ⟨n, hn, hrec⟩ := scan_kept2 l f (at_ + (g.length + 1)) (s2 + 1) (room - (g.length + 1)) (fun i hi => by
            have := hR (i + 1) (by simpa using hi)
            rw [show s2 + (i + 1) = s2 + 1 + i by omega] at this
            simpa using this) (by omega) (by simp at hsq; omega) (fun k hk s hs0 hs hb => by
            rw [show at_ + (g.length + 1) + k = at_ + (g.length + 1 + k) by omega] at hb ⊢
            have := h1 (g.length + 1 + k) (by rw [hlen, e]; omega) s (by omega) hs hb
            rw [this]
            simp only [hRl]
            rw [List.getElem_append_right (by omega)]
            congr 1
            omega) (fun k s hk1 hk2 hs0 hs hb => by
            rw [show at_ + (g.length + 1) + k = at_ + (g.length + 1 + k) by omega] at hb
            exact h2 (g.length + 1 + k) s (by omega) (by omega) (by omega) hs hb)
        refine ⟨n + 1, by simp; omega, ?_⟩
        rw [show ((s2 : Nat) : Int) + 1 = ((s2 + 1 : Nat) : Int) by omega, hrec]
        rfl
      · rw [if_neg hc]
        exact ⟨0, by simp, rfl⟩
/-- the groups up to a place are whole, what lies behind is kept or not: a beginning is told, those at least -/
theorem scan_from {rb : Nat → Dat} {ep t0 sq m : Nat} {ls : List (List PImg)} (hm : m ≤ ls.length) (hR : ∀ (i : Nat) (h : i < ls.length), RightP ep ((sq + i : Nat) : Int) ls[i]) (hu : usedP ls ≤ 16) (hsq : sq + ls.length ≤ 549755813889)
    (hw : ∀ (o : Nat) (h : o < (ringB ep sq ls).length), o < usedP (ls.take m) → rb (t0 + o) = (ringB ep sq ls)[o])
    (hk : ∀ (o : Nat) (h : o < (ringB ep sq ls).length), usedP (ls.take m) ≤ o → ∀ s, sq + m ≤ s → s ≤ 549755813888 → Bears (stampB ep s) (rb (t0 + o)) → rb (t0 + o) = (ringB ep sq ls)[o])
    (hf : ∀ o, usedP ls ≤ o → o < 16 → ∀ s, sq + m ≤ s → s ≤ 549755813888 → ¬ Bears (stampB ep s) (rb (t0 + o))) :
    ∃ n, m ≤ n ∧ n ≤ ls.length ∧ scanK rb ep 17 t0 sq 16 = gsP ep sq (ls.take n) := by
  have hge := usedP_ge ls
  have hsp := usedP_split ls m
  have hrl := ringB_length ep ls sq
  have htl : (ls.take m).length = m := by rw [List.length_take]; omega
  have hrt := ringB_length ep (ls.take m) sq
  have happ : ∀ (a b : List (List PImg)) (q : Nat), ringB ep q (a ++ b) = ringB ep q a ++ ringB ep (q + a.length) b := by
    intro a
    induction a with
    | nil => intro b q; simp [ringB]
    | cons x a ih => intro b q; rw [List.cons_append, ringB, ih, ringB, List.append_assoc, List.length_cons, show q + 1 + a.length = q + (a.length + 1) by omega]
  have hrsp : ringB ep sq ls = ringB ep sq (ls.take m) ++ ringB ep (sq + m) (ls.drop m) := by
    conv => lhs; rw [← List.take_append_drop m ls]
    rw [happ, htl]
  have hp := scan_prefix rb ep (ls.take m) 17 t0 sq 16 (fun i hi => by rw [List.getElem_take]; exact hR i (by rw [List.length_take] at hi; omega)) (by omega) (by omega) (fun k hk' => by
    have h2 : k < (ringB ep sq ls).length := by omega
    rw [hw k h2 (by omega)]
    simp only [hrsp]
    rw [List.getElem_append_left hk'])
  rw [htl] at hp
  obtain ⟨n, hn, hs⟩ := scan_kept2 (rb := rb) (ls.drop m) (17 - m) (t0 + usedP (ls.take m)) (sq + m) (16 - usedP (ls.take m)) (fun i hi => by
      rw [List.getElem_drop]
      have := hR (m + i) (by rw [List.length_drop] at hi; omega)
      rwa [show sq + (m + i) = sq + m + i by omega] at this) (by omega) (by rw [List.length_drop]; omega) (fun k hk' s hs0 hs hb => by
      have hkl := ringB_length ep (ls.drop m) (sq + m)
      rw [show t0 + usedP (ls.take m) + k = t0 + (usedP (ls.take m) + k) by omega] at hb ⊢
      rw [hk (usedP (ls.take m) + k) (by omega) (by omega) s hs0 hs hb]
      simp only [hrsp]
      rw [List.getElem_append_right (by omega)]
      congr 1; omega) (fun k s hk1 hk2 hs0 hs hb => by
      rw [show t0 + usedP (ls.take m) + k = t0 + (usedP (ls.take m) + k) by omega] at hb
      exact hf (usedP (ls.take m) + k) (by omega) (by omega) s hs0 hs hb)
  rw [List.length_drop] at hn
  refine ⟨m + n, by omega, by omega, ?_⟩
  rw [hp, hs]
  have hg : ∀ (a b : List (List PImg)) (q : Nat), gsP ep q (a ++ b) = gsP ep q a ++ gsP ep (q + a.length) b := by
    intro a
    induction a with
    | nil => intro b q; simp [gsP]
    | cons x a ih => intro b q; rw [List.cons_append, gsP, ih, gsP, List.cons_append, List.length_cons, show q + 1 + a.length = q + (a.length + 1) by omega]
  have ht : ls.take (m + n) = ls.take m ++ (ls.drop m).take n := by rw [List.take_add]
  rw [ht, hg, htl]
end Go.Proofs.YtegdcjnjnoeinaaGreat
namespace Go.Proofs.YtegdcjnjnoeinaaGreat
open Go.RowKit Go.Sl
set_option maxRecDepth 20000

/-- noughts, or a superblock -/
def SupForm (b : Dat) : Prop := b = noughts ∨ ∃ s, RightS s ∧ b = supL s
theorem SupForm.len {b : Dat} (h : SupForm b) : b.length = 4096 := by
  rcases h with rfl | ⟨s, _, rfl⟩
  · exact noughts_length
  · exact supL_length _
theorem SupForm.rest {b : Dat} (h : SupForm b) {j : Nat} (h1 : 512 ≤ j) (h2 : j < 4096) : b[j]? = some 0 := by
  rcases h with rfl | ⟨s, _, rfl⟩
  · exact noughts_get h2
  · exact supL_rest _ (by omega) h2
theorem torn_form {old new : Dat} (h1 : SupForm old) (h2 : SupForm new) (sec : Nat) : tornP old new sec = old ∨ tornP old new sec = new := by
  have hat := tornK_at h1.len h2.len sec 8 (by omega)
  have hl : (tornP old new sec).length = 4096 := tornK_length h1.len h2.len sec 8 (by omega)
  have hz : ∀ j, 512 ≤ j → j < 4096 → (tornP old new sec)[j]? = some 0 := by
    intro j g1 g2
    rw [tornP, hat j g2]
    split
    · exact h2.rest g1 g2
    · exact h1.rest g1 g2
  by_cases h0 : sec / 2 ^ 0 % 2 = 1
  · right
    refine ext4096 hl h2.len fun j hj => ?_
    rcases Nat.lt_or_ge j 512 with g | g
    · rw [tornP, hat j hj, show j / 512 = 0 by omega, if_pos ⟨by omega, h0⟩]
    · rw [hz j g hj]; exact (h2.rest g hj).symm
  · left
    refine ext4096 hl h1.len fun j hj => ?_
    rcases Nat.lt_or_ge j 512 with g | g
    · rw [tornP, hat j hj, show j / 512 = 0 by omega, if_neg (fun h => h0 h.2)]
    · rw [hz j g hj]; exact (h1.rest g hj).symm
theorem out_form {sec : Nat} {old new x : Dat} (h1 : SupForm old) (h2 : SupForm new) (h : Out sec old new x) : x = old ∨ x = new := by
  rcases h with h | h | h
  · exact .inl h
  · exact .inr h
  · rw [h]; exact torn_form h1 h2 sec
/-- the superblock that counts, beside another one -/
def Older (a b : Sup) : Prop := a = b ∨ a.epoch < b.epoch ∨ (a.epoch = b.epoch ∧ a.seq < b.seq)
/-- the one at place sl counts -/
structure SupAt (B : List Dat) (sl : Nat) (s : Sup) : Prop where
  at' : sl = 0 ∨ sl = 1
  right : RightS s
  cur : B.getD sl [] = supL s
  other : B.getD (1 - sl) [] = noughts ∨ ∃ s', RightS s' ∧ B.getD (1 - sl) [] = supL s' ∧ Older s' s
theorem SupAt.form {B : List Dat} {sl : Nat} {s : Sup} (h : SupAt B sl s) : SupForm (B.getD 0 []) ∧ SupForm (B.getD 1 []) := by
  have h1 : SupForm (B.getD sl []) := .inr ⟨s, h.right, h.cur⟩
  have h2 : SupForm (B.getD (1 - sl) []) := by
    rcases h.other with h | ⟨s', hr, h, _⟩
    · exact .inl h
    · exact .inr ⟨s', hr, h⟩
  rcases h.at' with e | e
  · subst e; exact ⟨h1, h2⟩
  · subst e; exact ⟨h2, h1⟩
/-- it is chosen (or its like at the other place) -/
theorem SupAt.choose {B : List Dat} {sl : Nat} {s : Sup} (h : SupAt B sl s) : ∃ sl' : Nat, SupAt B sl' s ∧ chooseP (getS (B.getD 0 [])) (getS (B.getD 1 [])) = (s, (sl' : Int), true) := by
  have hcur : getS (B.getD sl []) = some s := by rw [h.cur]; exact get_supL h.right
  rcases h.other with ho | ⟨s', hr, ho, hold⟩
  · have hoth : getS (B.getD (1 - sl) []) = none := by rw [ho]; exact get_zeros
    refine ⟨sl, h, ?_⟩
    rcases h.at' with e | e
    · subst e
      rw [hcur, show (1 : Nat) = 1 - 0 from rfl, hoth]; rfl
    · subst e
      rw [hcur, show B.getD 0 [] = B.getD (1 - 1) [] from rfl, hoth]; rfl
  · have hoth : getS (B.getD (1 - sl) []) = some s' := by rw [ho]; exact get_supL hr
    rcases h.at' with e | e
    · subst e
      refine ⟨0, h, ?_⟩
      rw [hcur, show B.getD 1 [] = B.getD (1 - 0) [] from rfl, hoth]
      unfold chooseP
      dsimp only
      rw [if_pos (by rcases hold with e | e | e; exact .inr (by rw [e]; exact ⟨rfl, Int.le_refl _⟩); exact .inl e; exact .inr ⟨e.1, by omega⟩)]
      rfl
    · subst e
      rw [hcur, show B.getD 0 [] = B.getD (1 - 1) [] from rfl, hoth]
      unfold chooseP
      dsimp only
      by_cases hc : s.epoch < s'.epoch ∨ (s.epoch = s'.epoch ∧ s.seq ≤ s'.seq)
      · have e : s' = s := by
          rcases hold with e | e | e
          · exact e
          · omega
          · omega
        rw [if_pos hc, e]
        refine ⟨0, ⟨.inl rfl, h.right, by rw [show B.getD 0 [] = B.getD (1 - 1) [] from rfl, ho, e], .inr ⟨s, h.right, h.cur, .inl rfl⟩⟩, rfl⟩
      · rw [if_neg hc]
        exact ⟨1, h, rfl⟩
/-- a disk's blocks that can be mounted: the superblock, the groups that are told, what is shown -/
structure RBx (B : List Dat) (ep t0 sq : Nat) (ls : List (List PImg)) (vw : Int → Dat) : Prop where
  len : B.length = 64
  all : ∀ b ∈ B, b.length = 4096
  sup : ∃ sl, SupAt B sl ⟨64, ep, sq, t0⟩
  t : t0 < 16
  scan : scanK (fun i => B.getD (2 + i % 16) []) ep 17 t0 sq 16 = gsP ep sq ls
  right : ∀ (i : Nat) (h : i < ls.length), RightP ep ((sq + i : Nat) : Int) ls[i]
  used : usedP ls ≤ 16
  home : HomeOk (layOf 64) ls.flatten
  old : ∀ o, o < 16 → Old (ep + 1) 0 (B.getD (2 + o) [])
  view : ∀ n : Int, 18 ≤ n → n < 64 → vw n = (lastD ls.flatten n).getD (B.getD n.toNat [])
theorem allG_gsP (ep : Nat) : ∀ (ls : List (List PImg)) (sq : Nat), allG (gsP ep sq ls) = ls.flatten
  | [], _ => rfl
  | l :: ls, sq => by
    have ih := allG_gsP ep ls (sq + 1)
    unfold allG at ih ⊢
    rw [gsP, List.flatMap_cons, ih, List.flatten_cons]
/-- what the superblock that counts is -/
theorem RBx.bounds {B : List Dat} {ep t0 sq : Nat} {ls : List (List PImg)} {vw : Int → Dat} (h : RBx B ep t0 sq ls vw) : 1 ≤ ep ∧ 1 ≤ sq := by
  obtain ⟨sl, hs⟩ := h.sup
  obtain ⟨_, _, h3, _, h5, _⟩ := hs.right
  have h3 : (1 : Int) ≤ (ep : Int) := h3
  have h5 : (1 : Int) ≤ (sq : Int) := h5
  omega
end Go.Proofs.YtegdcjnjnoeinaaGreat
namespace Go.Proofs.YtegdcjnjnoeinaaGreat
open Go.RowKit Go.Sl
set_option maxRecDepth 20000

theorem homeP_nodup (l : List PImg) : ((homeP l).map Prod.fst).Nodup := by
  unfold homeP
  rw [List.map_map]
  have : ((sortI ((lastP l).map Prod.fst)).map (Prod.fst ∘ fun n => (n, ((lastP l).lookup n).getD []))) = sortI ((lastP l).map Prod.fst) := by
    conv => rhs; rw [← List.map_id (sortI ((lastP l).map Prod.fst))]
    exact List.map_congr_left fun x _ => rfl
  rw [this, (sortI_perm _).nodup_iff]
  exact lastP_nodup l
section
variable {ep t0 sq : Nat} {ls : List (List PImg)} {vw : Int → Dat}
theorem RBx.lens {B : List Dat} (h : RBx B ep t0 sq ls vw) : ∀ g ∈ ls.flatten, 18 ≤ g.1 ∧ g.1 < 64 ∧ g.2.length = 4096 := by
  intro g hg
  obtain ⟨l, hl, hgl⟩ := List.mem_flatten.1 hg
  obtain ⟨i, hi⟩ := List.mem_iff_getElem?.1 hl
  have hlt := (List.getElem?_eq_some_iff.1 hi).1
  have hr := h.right i hlt
  have e : ls[i] = l := by rw [List.getElem?_eq_getElem hlt] at hi; exact Option.some.inj hi
  rw [e] at hr
  have h3 := home64 h.home g hg
  exact ⟨h3.1, h3.2, (hr.2.2.2.2.2.2.1 g hgl).2.2⟩
/-- what is told of a disk that can be mounted -/
theorem RBx.found {d : DSt} (hdn : d.down = false) (h : RBx d.now ep t0 sq ls vw) (hep : ep < 8388608) : ∃ sl : Nat, SupAt d.now sl ⟨64, ep, sq, t0⟩ ∧ foundP d = (⟨64, ep, sq, t0⟩, (sl : Int), 0) ∧ scanL d ⟨64, ep, sq, t0⟩ = gsP ep sq ls := by
  obtain ⟨sl0, hs0⟩ := h.sup
  obtain ⟨sl, hs, hch⟩ := hs0.choose
  refine ⟨sl, hs, ?_, ?_⟩
  · unfold foundP
    rw [if_neg (by rw [hdn]; simp), hch, h.len]
    dsimp only
    have ht := h.t
    rw [if_neg]
    rintro (h | h | h | h)
    · exact Bool.noConfusion h
    · exact h rfl
    · rw [layL_64'] at h; omega
    · omega
  · rw [scanL64 h.len]
    have := h.scan
    rw [Int.toNat_natCast]
    exact this
/-- mounting, with nothing in the way -/
theorem mount_calm {d : DSt} (hc : d.Calm) (hw : d.Wf) (h : RBx d.now ep t0 sq ls vw) (hep : ep < 8388608) (hsq : sq + ls.length ≤ 549755813888) {k : Nat} (hf : d.Few k) :
    ∃ (sl : Nat) (e : DSt) (v : VSt), SupAt d.now sl ⟨64, ep, sq, t0⟩ ∧ mountP d = (e, 0, some v) ∧ WV (ep + 1) ((t0 + usedP ls) % 16) (sq + ls.length) v e [] (k + 17) ∧ v.slot = sl ∧ e.writes = [] ∧ e.safe = e.now ∧ v.fresh = [] ∧ v.j.synced = v.j.next - 1 ∧
      (∀ n : Int, 18 ≤ n → n < 64 → v.cur e n = vw n) ∧ e.now = (wrC (homeP ls.flatten) d).now.set (1 - sl) (supL ⟨64, ((ep + 1 : Nat) : Int), ((sq + ls.length : Nat) : Int), (((t0 + usedP ls) % 16 : Nat) : Int)⟩) := by
  obtain ⟨sl, hs, hfd, hsc⟩ := h.found hc.1 hep
  obtain ⟨hep1, hsq1⟩ := h.bounds
  have hsl := hs.at'
  have hlens := h.lens
  have hhl := home_homL hlens
  have hok : DoOk d (homeP ls.flatten) := fun g hg => by obtain ⟨h1, h2, h3⟩ := hhl.ok g hg; exact ⟨by omega, by rw [h.len]; exact h2, h3⟩
  have hpl : placeP 16 t0 (gsP ep sq ls) = (t0 + usedP ls) % 16 := by unfold placeP; rw [gsP_sum]
  have hgl := gsP_length ep ls sq
  have hag := allG_gsP ep ls sq
  have hRS : RightS ⟨64, ((ep + 1 : Nat) : Int), ((sq + ls.length : Nat) : Int), (((t0 + usedP ls) % 16 : Nat) : Int)⟩ :=
    ⟨by show (64 : Int) ≤ 64; decide, by show (64 : Int) ≤ 512; decide, by show (1 : Int) ≤ ((ep + 1 : Nat) : Int); omega, by show ((ep + 1 : Nat) : Int) ≤ 8388608; omega, by show (1 : Int) ≤ ((sq + ls.length : Nat) : Int); omega, by show ((sq + ls.length : Nat) : Int) ≤ 549755813888; omega, by show (0 : Int) ≤ (((t0 + usedP ls) % 16 : Nat) : Int); omega, by show (((t0 + usedP ls) % 16 : Nat) : Int) ≤ 511; omega⟩
  have hsl1 : (1 : Int) - (sl : Int) = ((1 - sl : Nat) : Int) := by omega
  obtain ⟨e, b1, b2, b3, b4, b5, b6⟩ := doP_calm hc h.len hok hRS (slot := ((1 - sl : Nat) : Int)) (by omega)
  have hwf := doP_wf hw (homeP ls.flatten) ⟨64, ((ep + 1 : Nat) : Int), ((sq + ls.length : Nat) : Int), (((t0 + usedP ls) % 16 : Nat) : Int)⟩ ((1 - sl : Nat) : Int)
  have hfew := doP_few hf (homeP ls.flatten) ⟨64, ((ep + 1 : Nat) : Int), ((sq + ls.length : Nat) : Int), (((t0 + usedP ls) % 16 : Nat) : Int)⟩ ((1 - sl : Nat) : Int)
  rw [b1] at hwf hfew
  dsimp only at hwf hfew
  have hll : (homeP ls.flatten).length ≤ 16 := by
    have h1 := homeP_len ls.flatten
    have h2 : (ls.flatten).length ≤ usedP ls := by
      rw [List.length_flatten]
      have : ∀ l : List (List PImg), (l.map List.length).sum ≤ usedP l := by
        intro l
        induction l with
        | nil => simp [usedP]
        | cons g l ih => simp [usedP] at ih ⊢; omega
      exact this ls
    have := h.used
    omega
  have e1 : (((ep : Nat) : Int) + 1) = ((ep + 1 : Nat) : Int) := by omega
  have e2 : (((sq : Nat) : Int) + (((gsP ep sq ls).length : Nat) : Int)) = ((sq + ls.length : Nat) : Int) := by rw [hgl]; omega
  refine ⟨sl, e, ⟨openJ 64 ((ep + 1 : Nat) : Int) ((sq + ls.length : Nat) : Int) (((t0 + usedP ls) % 16 : Nat) : Int), ((ep + 1 : Nat) : Int), sl, [], false⟩, hs, ?_, ⟨openJ_we (by omega) (by omega) (by omega) b2 hwf b6 (hfew.mono (by omega)), rfl, by rcases hsl with h | h <;> simp [h], rfl, by intro g hg; simp at hg, rfl⟩, rfl, b3, b4, rfl, rfl, fun n h1 h2 => ?_, ?_⟩
  · unfold mountP
    rw [h.len, if_neg (by decide), hfd]
    dsimp only
    rw [if_neg (by simp), hsc]
    unfold mountL
    rw [show (layL ((64 : Nat) : Int)).toNat = 16 by rw [layL_64']; rfl]
    dsimp only
    rw [Int.toNat_natCast, hpl, hag, e1, e2, hsl1]
    rw [if_neg (by rintro (h' | h'); exact h' h.home; rw [hgl] at h'; omega), b1]
    dsimp only
    rw [if_neg (by simp)]
  · unfold VSt.cur
    show e.now.getD _ _ = _
    rw [b5, Int.toNat_natCast, List.getD_eq_getElem?_getD, List.getElem?_set_ne (by omega)]
    have hq := (wrC_now (homeP ls.flatten) d (fun g hg => (hok g hg).1) (fun g hg => (hok g hg).2.1)).2 n.toNat (by rw [h.len]; omega)
    rw [hq, show ((n.toNat : Nat) : Int) = n by omega, hhl.last, h.view n h1 h2]
    cases lastD ls.flatten n with
    | some x => rfl
    | none => show _ = d.now.getD _ _; rw [List.getD_eq_getElem?_getD]
  · rw [b5, Int.toNat_natCast]
end
end Go.Proofs.YtegdcjnjnoeinaaGreat
namespace Go.Proofs.YtegdcjnjnoeinaaGreat
open Go.RowKit Go.Sl
set_option maxRecDepth 20000

def wrB (l : List PImg) (B : List Dat) : List Dat := l.foldl (fun B g => B.set g.1.toNat g.2) B
theorem wrB_len : ∀ (l : List PImg) (B : List Dat), (wrB l B).length = B.length
  | [], _ => rfl
  | g :: l, B => by
    have := wrB_len l (B.set g.1.toNat g.2)
    rw [List.length_set] at this
    exact this
theorem wrC_wrB : ∀ (l : List PImg) (d : DSt), (wrC l d).now = wrB l d.now
  | [], _ => rfl
  | g :: l, d => wrC_wrB l (d.put g.1 g.2)
theorem wrB_get {l : List PImg} {B : List Dat} (h : ∀ g ∈ l, 2 ≤ g.1 ∧ g.1 < (B.length : Int)) (n : Nat) (hn : n < B.length) : (wrB l B).getD n [] = (lastD l n).getD (B.getD n []) := by
  have hq := (wrC_now l ⟨B, B, [], 0, false, ⟨false, 0⟩, ⟨false, 0⟩⟩ (fun g hg => (h g hg).1) (fun g hg => (h g hg).2)).2 n hn
  rw [wrC_wrB] at hq
  rw [List.getD_eq_getElem?_getD]
  show ((wrB l B)[n]?).getD [] = _
  have hq : (wrB l B)[n]? = match lastD l n with | some x => some x | none => B[n]? := hq
  rw [hq]
  cases lastD l n with
  | some x => rfl
  | none => show _ = B.getD n []; rw [List.getD_eq_getElem?_getD]
theorem wrB_all {l : List PImg} {B : List Dat} (h : ∀ g ∈ l, g.2.length = 4096) (hB : ∀ b ∈ B, b.length = 4096) : ∀ b ∈ wrB l B, b.length = 4096 := by
  induction l generalizing B with
  | nil => exact hB
  | cons g l ih =>
    refine ih (fun x hx => h x (by simp [hx])) (B := B.set g.1.toNat g.2) fun b hb => ?_
    rcases List.mem_or_eq_of_mem_set hb with hb | rfl
    · exact hB b hb
    · exact h g (by simp)
/-- what lies on the disk while images are done -/
inductive DoSt (B : List Dat) (l : List PImg) (slot : Nat) (s : Sup) : List Dat → List (Int × Dat) → Prop
  | one (k : Nat) : DoSt B l slot s B (l.take k)
  | two : DoSt B l slot s (wrB l B) []
  | sup : DoSt B l slot s (wrB l B) [((slot : Int), supL s)]
  | done : DoSt B l slot s ((wrB l B).set slot (supL s)) []
theorem write_any {d : DSt} {n : Int} {b : Dat} (hl : 1 ≤ d.now.length) (hn : 0 ≤ n ∧ n < d.now.length) (hb : b.length = 4096) :
    ((d.write n b).2 = 0 ∧ (d.write n b).1.safe = d.safe ∧ (d.write n b).1.writes = d.writes ++ [(n, b)] ∧ (d.write n b).1.now = d.now.set n.toNat b) ∨
    ((d.write n b).2 ≠ 0 ∧ (d.write n b).1.safe = d.safe ∧ (d.write n b).1.writes = d.writes ∧ (d.write n b).1.now = d.now) := by
  obtain ⟨e1, e2, e3, _⟩ := d.stop_same
  unfold DSt.write
  have hw : wrongE d.now.length n = 0 := (wrongE_dec _ hl n).2 hn
  rw [if_neg (by omega), if_neg (by omega)]
  by_cases h : d.stop.2 ≠ 0
  · rw [if_pos h]; exact .inr ⟨h, e1, e3, e2⟩
  · rw [if_neg h]; exact .inl ⟨rfl, e1, rfl, rfl⟩
theorem flush_any (d : DSt) : (d.flush.2 = 0 ∧ d.flush.1.safe = d.now ∧ d.flush.1.writes = [] ∧ d.flush.1.now = d.now) ∨ (d.flush.2 ≠ 0 ∧ d.flush.1.safe = d.safe ∧ d.flush.1.writes = d.writes ∧ d.flush.1.now = d.now) := by
  obtain ⟨e1, e2, e3, _⟩ := d.stop_same
  unfold DSt.flush
  by_cases h : d.stop.2 ≠ 0
  · rw [if_pos h]; exact .inr ⟨h, e1, e3, e2⟩
  · rw [if_neg h]; exact .inl ⟨rfl, rfl, rfl, e2⟩
theorem wrImgs_any : ∀ (l : List PImg) (d : DSt), 1 ≤ d.now.length → DoOk d l → ∃ k, k ≤ l.length ∧ (wrImgs l d).1.safe = d.safe ∧ (wrImgs l d).1.writes = d.writes ++ l.take k ∧ (wrImgs l d).1.now = wrB (l.take k) d.now ∧ ((wrImgs l d).2 = 0 → k = l.length)
  | [], d, _, _ => ⟨0, Nat.le_refl _, rfl, by simp [wrImgs], rfl, fun _ => rfl⟩
  | g :: l, d, hl, hok => by
    obtain ⟨h1, h2, h3⟩ := hok g (by simp)
    rw [wrImgs]
    rcases write_any hl (n := g.1) (b := g.2) ⟨by omega, h2⟩ h3 with ⟨a0, a1, a2, a3⟩ | ⟨a0, a1, a2, a3⟩
    · rw [if_neg (by simp [a0])]
      have hln : (d.write g.1 g.2).1.now.length = d.now.length := by rw [a3, List.length_set]
      obtain ⟨k, hk, b1, b2, b3, b4⟩ := wrImgs_any l (d.write g.1 g.2).1 (by rw [hln]; exact hl) (fun x hx => by rw [hln]; exact hok x (by simp [hx]))
      refine ⟨k + 1, by simp; omega, by rw [b1, a1], by rw [b2, a2]; simp, by rw [b3, a3]; rfl, fun h => by rw [b4 h]; rfl⟩
    · rw [if_pos a0]
      exact ⟨0, by omega, a1, by rw [a2]; simp, by rw [a3]; rfl, fun h => absurd h a0⟩
/-- images done on whatever disk -/
theorem do_any {d : DSt} (hw : d.writes = []) (hsn : d.safe = d.now) (hlen : d.now.length = 64) {l : List PImg} (hok : DoOk d l) {s : Sup} (hR : RightS s) {slot : Nat} (hsl : slot ≤ 1) :
    DoSt d.now l slot s (doP d l s (slot : Int)).1.safe (doP d l s (slot : Int)).1.writes ∧ ((doP d l s (slot : Int)).2 = 0 → (doP d l s (slot : Int)).1.safe = (wrB l d.now).set slot (supL s) ∧ (doP d l s (slot : Int)).1.writes = [] ∧ (doP d l s (slot : Int)).1.now = (wrB l d.now).set slot (supL s)) := by
  unfold doP
  rw [if_neg (by rintro (h | h | h | h); exact h hR; omega; omega; exact h hok)]
  obtain ⟨k, hk, b1, b2, b3, b4⟩ := wrImgs_any l d (by omega) hok
  by_cases h1 : (wrImgs l d).2 ≠ 0
  · rw [if_pos h1, b1, b2, hw, hsn, List.nil_append]
    exact ⟨.one k, fun h => absurd h h1⟩
  rw [if_neg h1]
  have hkl := b4 (by omega)
  subst hkl
  rw [List.take_length] at b2 b3
  rcases flush_any (wrImgs l d).1 with ⟨f0, f1, f2, f3⟩ | ⟨f0, f1, f2, f3⟩
  rotate_left
  · rw [if_pos f0, f1, f2, b1, b2, hw, hsn, List.nil_append]
    refine ⟨?_, fun h => absurd h f0⟩
    have := DoSt.one (B := d.now) (l := l) (slot := slot) (s := s) l.length
    rwa [List.take_length] at this
  rw [if_neg (by simp [f0])]
  rw [b3] at f1 f3
  have hln : (wrImgs l d).1.flush.1.now.length = 64 := by rw [f3, wrB_len, hlen]
  generalize (wrImgs l d).1.flush.1 = e at *
  unfold lastWr
  rcases write_any (d := e) (n := (slot : Int)) (b := supL s) (by omega) ⟨by omega, by omega⟩ (supL_length _) with ⟨a0, a1, a2, a3⟩ | ⟨a0, a1, a2, a3⟩
  rotate_left
  · rw [if_pos a0, a1, a2, f1, f2]
    exact ⟨.two, fun h => absurd h a0⟩
  rw [if_neg (by simp [a0])]
  rw [Int.toNat_natCast, f3] at a3
  rw [f2, List.nil_append] at a2
  rcases flush_any (e.write slot (supL s)).1 with ⟨g0, g1, g2, g3⟩ | ⟨g0, g1, g2, g3⟩
  · rw [g1, g2, a3]
    exact ⟨.done, fun _ => ⟨rfl, rfl, by rw [g3, a3]⟩⟩
  · rw [g1, g2, a1, a2, f1]
    exact ⟨.sup, fun h => absurd h g0⟩
/-! ### a crash -/
section
variable {B C : List Dat} {ep t0 sq : Nat} {ls : List (List PImg)} {vw : Int → Dat}
theorem scan_none {rb : Nat → Dat} {ep sq t : Nat} (hold : ∀ i, Old ep sq (rb i)) : scanK rb ep 17 t sq 16 = [] := by
  refine scan_stop fun e s l hg h' => ?_
  obtain ⟨l', hd, _, _⟩ := grpP_hd hg
  have hb := (hdP_some hd).2.2.2.2.2.2
  have hR := (hdP_some hd).2.2.2.1
  have hs : (s : Int) = sq := h'.2
  have he : (e : Int) = ep := h'.1
  have h1 := hR.2.1
  have h2 := hR.2.2.2.1
  exact foreign_not ((hold t).2 e s (by omega) (by omega) (by omega)) hb
theorem rb_old (h : RBx B ep t0 sq ls vw) (hlen : C.length = 64) (hall : ∀ b ∈ C, b.length = 4096) (h0 : C.getD 0 [] = B.getD 0 []) (h1 : C.getD 1 [] = B.getD 1 []) (hring : ∀ p, 2 ≤ p → p < 18 → C.getD p [] = B.getD p [])
    (hdata : ∀ n : Nat, 18 ≤ n → n < 64 → lastD ls.flatten n = none → C.getD n [] = B.getD n []) : RBx C ep t0 sq ls vw := by
  obtain ⟨sl, hs⟩ := h.sup
  refine ⟨hlen, hall, ⟨sl, ?_⟩, h.t, ?_, h.right, h.used, h.home, fun o ho => by rw [hring _ (by omega) (by omega)]; exact h.old o ho, fun n g1 g2 => ?_⟩
  · have e : ∀ p, p = 0 ∨ p = 1 → C.getD p [] = B.getD p [] := by rintro p (rfl | rfl) <;> assumption
    have hsl := hs.at'
    refine ⟨hsl, hs.right, by rw [e sl hsl]; exact hs.cur, ?_⟩
    rw [e (1 - sl) (by omega)]
    exact hs.other
  · rw [← h.scan]
    congr 1
    funext i
    exact hring _ (by omega) (by omega)
  · rw [h.view n g1 g2]
    cases hl : lastD ls.flatten n with
    | some x => rfl
    | none =>
      have := hdata n.toNat (by omega) (by omega) (by rw [show ((n.toNat : Nat) : Int) = n by omega]; exact hl)
      rw [this]
theorem rb_new (h : RBx B ep t0 sq ls vw) {ep' t' sq' : Nat} (hlen : C.length = 64) (hall : ∀ b ∈ C, b.length = 4096) {sl : Nat} (hs : SupAt C sl ⟨64, ep', sq', t'⟩) (ht : t' < 16) (hring : ∀ p, 2 ≤ p → p < 18 → C.getD p [] = B.getD p [])
    (hold : ∀ o, o < 16 → Old ep' sq' (B.getD (2 + o) []) ∧ Old (ep' + 1) 0 (B.getD (2 + o) [])) (hdata : ∀ n : Nat, 18 ≤ n → n < 64 → C.getD n [] = (lastD ls.flatten n).getD (B.getD n [])) : RBx C ep' t' sq' [] vw := by
  refine ⟨hlen, hall, ⟨sl, hs⟩, ht, ?_, fun i hi => by simp at hi, by simp [usedP], by intro g hg; simp at hg, fun o ho => by rw [hring _ (by omega) (by omega)]; exact (hold o ho).2, fun n g1 g2 => ?_⟩
  · refine scan_none fun i => ?_
    have h16 := Nat.mod_lt i (show 16 > 0 by decide)
    rw [hring _ (by omega) (by omega)]
    exact (hold (i % 16) h16).1
  · rw [h.view n g1 g2]
    have := hdata n.toNat (by omega) (by omega)
    rw [show ((n.toNat : Nat) : Int) = n by omega] at this
    show _ = Option.getD (lastD [] n) (C.getD n.toNat [])
    rw [this]; rfl
theorem lastD_of_mem {l : List PImg} (hnd : (l.map Prod.fst).Nodup) {g : PImg} (hg : g ∈ l) : lastD l g.1 = some g.2 := by
  cases h : lastD l g.1 with
  | some x =>
    obtain ⟨y, hy, h1, h2⟩ := lastD_mem _ _ _ h
    have : ∀ {l : List PImg}, (l.map Prod.fst).Nodup → ∀ {a b : PImg}, a ∈ l → b ∈ l → a.1 = b.1 → a = b := by
      intro l
      induction l with
      | nil => intro _ a b ha; cases ha
      | cons x l ih =>
        intro hnd a b ha hb he
        rw [List.map_cons, List.nodup_cons] at hnd
        rcases List.mem_cons.1 ha with h1 | h1
        · rcases List.mem_cons.1 hb with h2 | h2
          · rw [h1, h2]
          · exact absurd (List.mem_map.2 ⟨b, h2, by rw [← he, h1]⟩) hnd.1
        · rcases List.mem_cons.1 hb with h2 | h2
          · exact absurd (List.mem_map.2 ⟨a, h1, by rw [he, h2]⟩) hnd.1
          · exact ih hnd.2 h1 h2 he
    have := this hnd hy hg h1
    rw [← h2, this]
  | none =>
    exfalso
    have key : ∀ (l : List PImg) (g : PImg), g ∈ l → lastD l g.1 ≠ none := by
      intro l
      refine snoc_ind (p := fun l : List PImg => ∀ g ∈ l, lastD l g.1 ≠ none) (by simp) ?_ l
      intro l y ih g hg
      rw [lastD_snoc]
      split
      · simp
      · rename_i hne
        rcases List.mem_append.1 hg with hg | hg
        · exact ih g hg
        · simp only [List.mem_singleton] at hg
          subst hg; exact absurd rfl hne
    exact key l g hg h
/-- images done, cut by a crash: what was there can be mounted, or what was to be; the same is shown -/
theorem do_crash (h : RBx B ep t0 sq ls vw) {sl : Nat} (hs : SupAt B sl ⟨64, ep, sq, t0⟩) {imgs : List PImg} (hi : ∀ g ∈ imgs, 18 ≤ g.1 ∧ g.1 < 64 ∧ g.2.length = 4096) (hnd : (imgs.map Prod.fst).Nodup) (hlast : ∀ n, lastD imgs n = lastD ls.flatten n)
    {ep' t' sq' : Nat} (hR : RightS ⟨64, ep', sq', t'⟩) (holder : Older ⟨64, ep, sq, t0⟩ ⟨64, ep', sq', t'⟩) (ht : t' < 16) (hold : ∀ o, o < 16 → Old ep' sq' (B.getD (2 + o) []) ∧ Old (ep' + 1) 0 (B.getD (2 + o) []))
    {safe : List Dat} {writes : List (Int × Dat)} (hd : DoSt B imgs (1 - sl) ⟨64, ep', sq', t'⟩ safe writes) (keep : List Bool) (tn : Int) (sec : Nat) :
    RBx (crashK keep tn sec 0 writes safe) ep t0 sq ls vw ∨ RBx (crashK keep tn sec 0 writes safe) ep' t' sq' [] vw := by
  have hBl := h.len
  have hsl := hs.at'
  have hi2 : ∀ g ∈ imgs, 2 ≤ g.1 ∧ g.1 < (B.length : Int) := fun g hg => by have := hi g hg; omega
  have hWl : (wrB imgs B).length = 64 := by rw [wrB_len, hBl]
  have hWa := wrB_all (fun g hg => (hi g hg).2.2) h.all
  have hWg : ∀ p, p < 64 → (wrB imgs B).getD p [] = (lastD ls.flatten p).getD (B.getD p []) := fun p hp => by rw [wrB_get hi2 p (by omega), hlast]
  have hlow : ∀ p : Nat, p < 18 → lastD ls.flatten (p : Int) = none := fun p hp => by
    rw [← hlast]
    exact lastD_none fun hm => by
      obtain ⟨g, hg, he⟩ := List.mem_map.1 hm
      have := hi g hg; omega
  have hWlow : ∀ p, p < 18 → (wrB imgs B).getD p [] = B.getD p [] := fun p hp => by rw [hWg p (by omega), hlow p hp]; rfl
  have hform := hs.form
  -- the new superblock in its place
  have newSup : ∀ C : List Dat, C.getD (1 - sl) [] = supL ⟨64, ep', sq', t'⟩ → C.getD sl [] = B.getD sl [] → SupAt C (1 - sl) ⟨64, ep', sq', t'⟩ := by
    intro C h1 h2
    refine ⟨by omega, hR, h1, .inr ⟨⟨64, ep, sq, t0⟩, hs.right, ?_, holder⟩⟩
    rw [show 1 - (1 - sl) = sl by omega, h2]; exact hs.cur
  cases hd with
  | one k =>
    left
    have hmem : ∀ w ∈ imgs.take k, w ∈ imgs := fun w hw => List.mem_of_mem_take hw
    have hndk : ((imgs.take k).map fun w => w.1.toNat).Nodup := by
      have h1 : ((imgs.map Prod.fst).map Int.toNat).Nodup := by
        rw [List.nodup_iff_pairwise_ne, List.pairwise_map]
        have hp := List.nodup_iff_pairwise_ne.1 hnd
        rw [List.pairwise_iff_forall_sublist] at hp ⊢
        intro a b hab hne
        have ha : a ∈ imgs.map Prod.fst := hab.subset (by simp)
        have hb : b ∈ imgs.map Prod.fst := hab.subset (by simp)
        obtain ⟨x, hx, rfl⟩ := List.mem_map.1 ha
        obtain ⟨y, hy, rfl⟩ := List.mem_map.1 hb
        have hx := hi x hx
        have hy := hi y hy
        exact hp hab (by omega)
      rw [List.map_map] at h1
      have hsub : ((imgs.take k).map (Int.toNat ∘ Prod.fst)).Sublist (imgs.map (Int.toNat ∘ Prod.fst)) := (List.take_sublist k imgs).map _
      exact hsub.nodup h1
    have hcr := crashK_at keep tn sec (imgs.take k) 0 B hndk (fun w hw => by have := hi w (hmem w hw); omega)
    have hno : ∀ p : Nat, lastD ls.flatten (p : Int) = none → p ∉ ((imgs.take k).map fun w => w.1.toNat) := by
      intro p hp hm
      obtain ⟨w, hw, he⟩ := List.mem_map.1 hm
      have h1 := lastD_of_mem hnd (hmem w hw)
      have h2 := hi w (hmem w hw)
      rw [hlast, show w.1 = (p : Int) by omega, hp] at h1
      cases h1
    have hsame : ∀ p : Nat, lastD ls.flatten (p : Int) = none → (crashK keep tn sec 0 (imgs.take k) B).getD p [] = B.getD p [] := fun p hp => (hcr p).1 (hno p hp)
    refine rb_old h (by rw [crashK_length]; exact hBl) (crashK_mem _ _ _ (fun w hw => by have := hi w (hmem w hw); exact ⟨by omega, this.2.2⟩) h.all) (hsame 0 (hlow 0 (by omega))) (hsame 1 (hlow 1 (by omega))) (fun p h1 h2 => hsame p (hlow p h2)) (fun n h1 h2 h3 => hsame n h3)
  | two =>
    left
    show RBx (wrB imgs B) ep t0 sq ls vw
    exact rb_old h hWl hWa (hWlow 0 (by omega)) (hWlow 1 (by omega)) (fun p _ h2 => hWlow p h2) (fun n h1 h2 h3 => by rw [hWg n h2, h3]; rfl)
  | sup =>
    have hcr := crashK_at keep tn sec [(((1 - sl : Nat) : Int), supL ⟨64, ep', sq', t'⟩)] 0 (wrB imgs B) (by simp) (fun w hw => by simp at hw; subst hw; dsimp only; omega)
    obtain ⟨C, hC⟩ : ∃ C, C = crashK keep tn sec 0 [(((1 - sl : Nat) : Int), supL ⟨64, ep', sq', t'⟩)] (wrB imgs B) := ⟨_, rfl⟩
    rw [← hC] at hcr ⊢
    have hCl : C.length = 64 := by rw [hC, crashK_length]; exact hWl
    have hCa : ∀ b ∈ C, b.length = 4096 := by rw [hC]; exact crashK_mem _ _ _ (fun w hw => by simp at hw; subst hw; exact ⟨by dsimp only; omega, supL_length _⟩) hWa
    have hoth : ∀ p, p ≠ 1 - sl → C.getD p [] = (wrB imgs B).getD p [] := fun p hp => (hcr p).1 (by simp; exact hp)
    have hslot := (hcr (1 - sl)).2 _ (List.mem_singleton.2 rfl) (by show (((1 - sl : Nat) : Int)).toNat = 1 - sl; omega)
    have hf1 : SupForm ((wrB imgs B).getD (1 - sl) []) := by
      rw [hWlow _ (by omega)]
      rcases hsl with e | e
      · subst e; exact hform.2
      · subst e; exact hform.1
    rcases out_form hf1 (.inr ⟨_, hR, rfl⟩) hslot with hx | hx
    · left
      have hall : ∀ p, p < 64 → C.getD p [] = (wrB imgs B).getD p [] := fun p hp => by
        by_cases e : p = 1 - sl
        · rw [e]; exact hx
        · exact hoth p e
      exact rb_old h hCl hCa (by rw [hall 0 (by omega)]; exact hWlow 0 (by omega)) (by rw [hall 1 (by omega)]; exact hWlow 1 (by omega)) (fun p _ h2 => by rw [hall p (by omega)]; exact hWlow p h2) (fun n h1 h2 h3 => by rw [hall n h2, hWg n h2, h3]; rfl)
    · right
      exact rb_new h hCl hCa (newSup C hx (by rw [hoth sl (by omega)]; exact hWlow _ (by omega))) ht (fun p h1 h2 => by rw [hoth p (by omega)]; exact hWlow p h2) hold (fun n h1 h2 => by rw [hoth n (by omega)]; exact hWg n h2)
  | done =>
    right
    show RBx ((wrB imgs B).set (1 - sl) (supL ⟨64, ep', sq', t'⟩)) ep' t' sq' [] vw
    have hoth : ∀ p, p ≠ 1 - sl → ((wrB imgs B).set (1 - sl) (supL ⟨64, ep', sq', t'⟩)).getD p [] = (wrB imgs B).getD p [] := fun p hp => by
      rw [List.getD_eq_getElem?_getD, List.getElem?_set_ne (fun e => hp e.symm), List.getD_eq_getElem?_getD]
    have hx : ((wrB imgs B).set (1 - sl) (supL ⟨64, ep', sq', t'⟩)).getD (1 - sl) [] = supL ⟨64, ep', sq', t'⟩ := by
      rw [List.getD_eq_getElem?_getD, List.getElem?_set_self (by omega)]; rfl
    refine rb_new h (by rw [List.length_set]; exact hWl) (fun b hb => ?_) (newSup _ hx (by rw [hoth sl (by omega)]; exact hWlow _ (by omega))) ht (fun p h1 h2 => by rw [hoth p (by omega)]; exact hWlow p h2) hold (fun n h1 h2 => by rw [hoth n (by omega)]; exact hWg n h2)
    rcases List.mem_or_eq_of_mem_set hb with hb | rfl
    · exact hWa b hb
    · exact supL_length _
end
end Go.Proofs.YtegdcjnjnoeinaaGreat
namespace Go.Proofs.YtegdcjnjnoeinaaGreat
open Go.RowKit Go.Sl
set_option maxRecDepth 20000

theorem ringB_bears2 {ep : Nat} : ∀ (l : List (List PImg)) (sq : Nat), (∀ (i : Nat) (h : i < l.length), RightP ep ((sq + i : Nat) : Int) l[i]) → ∀ b ∈ ringB ep sq l, b.length = 4096 ∧ ∃ s', s' < sq + l.length ∧ s' ≤ 549755813888 ∧ Bears (stampB ep s') b
  | [], _, _, b, hb => by simp [ringB] at hb
  | g :: l, sq, hR, b, hb => by
    rw [ringB] at hb
    have h0 : RightP ep ((sq : Nat) : Int) g := by have := hR 0 (by simp); rw [Nat.add_zero] at this; exact this
    rcases List.mem_append.1 hb with hb | hb
    · have hl := h0.lens
      have h32 := h0.2.2.2.2.2.1
      have hsq : (sq : Int) ≤ 549755813888 := h0.2.2.2.1
      rw [putP_eq] at hb
      rcases List.mem_cons.1 hb with rfl | hb
      · exact ⟨hblk_length h32 hl, sq, by simp, by omega, hblk_bears h32 hl⟩
      · obtain ⟨x, hx, rfl⟩ := List.mem_map.1 hb
        have hx4 := hl x hx
        exact ⟨by rw [markK_length (stampB_length _ _) 8 (by omega) (by omega)]; exact hx4, sq, by simp, by omega, mark_bears (stampB_length _ _) hx4⟩
    · obtain ⟨h1, s', h2, h3, h4⟩ := ringB_bears2 l (sq + 1) (fun i hi => by
        have := hR (i + 1) (by simpa using hi)
        rw [show sq + (i + 1) = sq + 1 + i by omega] at this
        simpa using this) b hb
      exact ⟨h1, s', by simp; omega, h3, h4⟩
theorem crash_out (keep : List Bool) (tn : Int) (sec tail p : Nat) (hp : p < 2 ∨ 18 ≤ p) : ∀ (bs : List Dat) (u i : Nat) (s : List Dat), s.length = 64 → (crashK keep tn sec i (wL tail u bs) s).getD p [] = s.getD p []
  | [], _, _, _, _ => rfl
  | b :: bs, u, i, s, hs => by
    rw [wL, crashK]
    dsimp only
    rw [Int.toNat_natCast, crash_out keep tn sec tail p hp bs (u + 1) (i + 1) _ (by rw [crash1_length]; exact hs)]
    exact (crash1_get keep tn sec i (2 + (tail + u) % 16) b s p (by omega)).1 (by omega)
theorem wL_mem (tail : Nat) : ∀ (bs : List Dat) (u : Nat) (w : Int × Dat), w ∈ wL tail u bs → (2 ≤ w.1 ∧ w.1 < 18) ∧ w.2 ∈ bs
  | [], _, _, h => by simp [wL] at h
  | b :: bs, u, w, h => by
    rw [wL] at h
    rcases List.mem_cons.1 h with rfl | h
    · refine ⟨by dsimp only; omega, by simp⟩
    · obtain ⟨h1, h2⟩ := wL_mem tail bs (u + 1) w h
      exact ⟨h1, by simp [h2]⟩
/-- what lies safe on a disk, and what is pending: groups, of which the first m are safe -/
structure KC (ep t0 sq : Nat) (safe : List Dat) (writes : List (Int × Dat)) (ls : List (List PImg)) (m : Nat) : Prop where
  len : safe.length = 64
  all : ∀ b ∈ safe, b.length = 4096
  sup : ∃ sl, SupAt safe sl ⟨64, ep, sq, ((t0 % 16 : Nat) : Int)⟩
  le : m ≤ ls.length
  wr : ∃ c, writes = wL t0 (usedP (ls.take m)) ((ringB ep (sq + m) (ls.drop m)).take c)
  used : usedP ls ≤ 16
  right : ∀ (i : Nat) (h : i < ls.length), RightP ep ((sq + i : Nat) : Int) ls[i]
  home : HomeOk (layOf 64) ls.flatten
  ring : ∀ (o : Nat) (h : o < (ringB ep sq ls).length), o < usedP (ls.take m) → safe.getD (2 + (t0 + o) % 16) [] = (ringB ep sq ls)[o]
  rest : ∀ o, usedP (ls.take m) ≤ o → o < 16 → Old ep (sq + m) (safe.getD (2 + (t0 + o) % 16) [])
theorem ringB_app (ep : Nat) : ∀ (a b : List (List PImg)) (q : Nat), ringB ep q (a ++ b) = ringB ep q a ++ ringB ep (q + a.length) b
  | [], b, q => by simp [ringB]
  | x :: a, b, q => by rw [List.cons_append, ringB, ringB_app ep a, ringB, List.append_assoc, List.length_cons, show q + 1 + a.length = q + (a.length + 1) by omega]
section
variable {ep t0 sq m : Nat} {safe : List Dat} {writes : List (Int × Dat)} {ls : List (List PImg)}
theorem right_bounds {l : List PImg} (h : RightP ep ((sq : Nat) : Int) l) : ep ≤ 8388608 ∧ sq ≤ 549755813888 := by
  have h1 := h.2.1
  have h2 := h.2.2.2.1
  omega
theorem bears_old1 {s : Nat} {b : Dat} (hl : b.length = 4096) (hb : Bears (stampB ep s) b) (hep : ep ≤ 8388608) (hs : s ≤ 549755813888) : Old (ep + 1) 0 b :=
  ⟨hl, fun e s' he h1 h2 => bears_foreign hb (stamp_ne2 hep h1 hs h2 (by omega))⟩
theorem KC.crash (h : KC ep t0 sq safe writes ls m) (hep : ep ≤ 8388608) (hsq : sq + ls.length ≤ 549755813889) (keep : List Bool) (tn : Int) (sec : Nat) :
    ∃ n, m ≤ n ∧ n ≤ ls.length ∧ RBx (crashK keep tn sec 0 writes safe) ep (t0 % 16) sq (ls.take n) (fun x => (lastD (ls.take n).flatten x).getD (safe.getD x.toNat [])) := by
  obtain ⟨c, hc⟩ := h.wr
  have hlen := h.len
  have hm := h.le
  have hu := h.used
  have hsp := usedP_split ls m
  have hrl := ringB_length ep ls sq
  have hrd := ringB_length ep (ls.drop m) (sq + m)
  have hrt := ringB_length ep (ls.take m) sq
  have htl : (ls.take m).length = m := by rw [List.length_take]; omega
  have hrsp : ringB ep sq ls = ringB ep sq (ls.take m) ++ ringB ep (sq + m) (ls.drop m) := by
    conv => lhs; rw [← List.take_append_drop m ls]
    rw [ringB_app, htl]
  obtain ⟨R, hRd⟩ : ∃ R, R = (ringB ep (sq + m) (ls.drop m)).take c := ⟨_, rfl⟩
  obtain ⟨u, hud⟩ : ∃ u, u = usedP (ls.take m) := ⟨_, rfl⟩
  have hRl : R.length ≤ usedP (ls.drop m) := by rw [hRd, List.length_take]; omega
  have hRg : ∀ (k : Nat) (h1 : k < R.length) (h2 : u + k < (ringB ep sq ls).length), R[k] = (ringB ep sq ls)[u + k] := by
    intro k h1 h2
    have e1 : (ringB ep sq ls)[u + k]? = R[k]? := by
      rw [hrsp, List.getElem?_append_right (by omega), hRd, List.getElem?_take, if_pos (by rw [hRd, List.length_take] at h1; omega)]
      congr 1; omega
    rw [List.getElem?_eq_getElem h2, List.getElem?_eq_getElem h1] at e1
    exact (Option.some.inj e1).symm
  rw [← hud, ← hRd] at hc
  have hcl := crash_wL keep tn sec t0 R u 0 safe hlen (by omega)
  have hrest := h.rest
  rw [← hud] at hrest
  have hring := h.ring
  rw [← hud] at hring
  have hrb2 := fun (o : Nat) (ho : o < (ringB ep sq ls).length) => ringB_bears2 ls sq h.right _ (List.getElem_mem ho)
  obtain ⟨C, hC⟩ : ∃ C, C = crashK keep tn sec 0 writes safe := ⟨_, rfl⟩
  have hCe : C = crashK keep tn sec 0 (wL t0 u R) safe := by rw [hC, hc]
  rw [← hCe] at hcl
  have hout := fun p hp => crash_out keep tn sec t0 p hp R u 0 safe hlen
  rw [← hCe] at hout
  have hold0 : ∀ o, o < 16 → Old (ep + 1) 0 (safe.getD (2 + (t0 + o) % 16) []) := by
    intro o ho
    by_cases hou : o < u
    · have h2 : o < (ringB ep sq ls).length := by omega
      rw [hring o h2 hou]
      obtain ⟨q1, s', _, q3, q4⟩ := hrb2 o h2
      exact bears_old1 q1 q4 hep q3
    · exact (hrest o (by omega) ho).mono (by omega)
  rw [← hC]
  obtain ⟨n, n1, n2, hs⟩ := scan_from (rb := fun i => C.getD (2 + i % 16) []) (ep := ep) (t0 := t0 % 16) (sq := sq) (m := m) (ls := ls) hm h.right hu hsq
    (fun o ho hlt => by
      rw [show (t0 % 16 + o) % 16 = (t0 + o) % 16 by omega, (hcl o (by omega)).2 (by omega), hring o ho (by omega)])
    (fun o ho hge s hs1 hs2 hb => by
      rw [show (t0 % 16 + o) % 16 = (t0 + o) % 16 by omega] at hb ⊢
      have ho2 := hrest o (by omega) (by omega)
      have hfo := ho2.2 ep s (by omega) hep hs2
      by_cases hin : o - u < R.length
      · have hget := hRg (o - u) hin (by omega)
        have hnl : R[o - u].length = 4096 := by rw [hget]; exact (hrb2 _ _).1
        have e : (ringB ep sq ls)[o] = R[o - u] := by rw [hget]; congr 1; omega
        rw [e]
        rcases (hcl o (by omega)).1 (by omega) hin with g | g | g
        · rw [g] at hb; exact absurd hb (foreign_not hfo)
        · exact g
        · rw [g] at hb ⊢
          exact torn_bears ho2.1 hnl (stampB_length _ _) hfo hb
      · rw [(hcl o (by omega)).2 (by omega)] at hb
        exact absurd hb (foreign_not hfo))
    (fun o ho1 ho2 s hs1 hs2 hb => by
      rw [show (t0 % 16 + o) % 16 = (t0 + o) % 16 by omega, (hcl o (by omega)).2 (by omega)] at hb
      exact foreign_not ((hrest o (by omega) (by omega)).2 ep s (by omega) hep hs2) hb)
  have hsn := usedP_split ls n
  have hCl : C.length = 64 := by rw [hC, crashK_length]; exact hlen
  refine ⟨n, n1, n2, hCl, ?_, ?_, by omega, hs, fun i hi => ?_, by omega, fun g hg => ?_, fun o ho => ?_, fun x h1 h2 => ?_⟩
  · rw [hCe]
    refine crashK_mem _ _ _ (fun w hw => ?_) h.all
    obtain ⟨q1, q2⟩ := wL_mem t0 R u w hw
    refine ⟨by omega, ?_⟩
    obtain ⟨k, hk⟩ := List.mem_iff_getElem?.1 q2
    have hk1 := (List.getElem?_eq_some_iff.1 hk).1
    rw [List.getElem?_eq_getElem hk1] at hk
    rw [← Option.some.inj hk, hRg k hk1 (by omega)]
    exact (hrb2 _ _).1
  · obtain ⟨sl, hs0⟩ := h.sup
    have hsl := hs0.at'
    refine ⟨sl, hsl, hs0.right, ?_, ?_⟩
    · rw [hout sl (by omega)]; exact hs0.cur
    · rw [hout (1 - sl) (by omega)]; exact hs0.other
  · rw [List.getElem_take]; exact h.right i (by rw [List.length_take] at hi; omega)
  · refine h.home g ?_
    obtain ⟨l, hl, hgl⟩ := List.mem_flatten.1 hg
    exact List.mem_flatten.2 ⟨l, List.mem_of_mem_take hl, hgl⟩
  · -- the ring
    obtain ⟨o', ho', he⟩ : ∃ o', o' < 16 ∧ (t0 + o') % 16 = o := ⟨(o + 16 - t0 % 16) % 16, by omega, by omega⟩
    have h0 := hold0 o' ho'
    rw [← he]
    by_cases hin : u ≤ o' ∧ o' - u < R.length
    · have hget := hRg (o' - u) hin.2 (by omega)
      have hnew : Old (ep + 1) 0 R[o' - u] := by
        rw [hget]
        obtain ⟨q1, s', _, q3, q4⟩ := hrb2 (u + (o' - u)) (by omega)
        exact bears_old1 q1 q4 hep q3
      rcases (hcl o' ho').1 hin.1 hin.2 with g | g | g
      · rw [g]; exact h0
      · rw [g]; exact hnew
      · rw [g]; exact old_torn h0 hnew sec
    · rw [(hcl o' ho').2 hin]; exact h0
  · show _ = Option.getD _ (C.getD x.toNat [])
    rw [hout x.toNat (by omega)]
end
end Go.Proofs.YtegdcjnjnoeinaaGreat
namespace Go.Proofs.YtegdcjnjnoeinaaGreat
open Go.RowKit Go.Sl
set_option maxRecDepth 20000
theorem images11_of (aL : Option Addr) (capL : Nat) (z : List Int) (hz : z.length ≤ 40) (hz2 : ∀ x ∈ z, In64 x) (k : Int) (hk : In64 k) (I : Imm) (hL : Rds I aL z.length (ints z)) :
    Tri Tryz.prog 15 #[.slice aL z.length capL, .int .i64 k] I [] fun v J S' => ∃ a cap ch gs, v = .slice a z.length cap ∧ OwnC ch 2 a z.length cap (imgCells gs) ∧ gs.map Img.pr = imgsP z k 0 ∧ (∀ g ∈ gs, ImgOk J g ∧ g.len = 4096) ∧ S' = [ch] := by
  refine Tri.of (args := [.slice aL z.length capL, .int .i64 k]) tabOk Tryz.func15 rfl (by kernel_rfl) (by kernel_rfl) ?_
  refine CodeF.loopD [0, 1, 5, 6] (fun vs J S' => ∃ (i : Nat) (kk : Int) (a : Option Addr) (cap : Nat) (ch : List Blk) (gs : List Img), i ≤ z.length ∧ In64 kk ∧ OwnC ch 2 a i cap (imgCells gs) ∧ gs.length = i ∧ gs.map Img.pr ++ imgsP (z.drop i) kk i = imgsP z k 0 ∧ (∀ g ∈ gs, ImgOk J g ∧ g.len = 4096) ∧ I.le J ∧
      vs = [.slice aL z.length capL, .int .i64 kk, .slice a i cap, .int .i64 i] ∧ S' = [ch])
    (fun vs _ _ => match vs with | [_, _, _, .int _ i] => ((z.length : Int) - i).toNat | _ => 0) ?_ ?_
  · exact ⟨_, Drop.and (Drop.refl _), 0, k, none, 0, [], [], by omega, hk, OwnC.nil _ _, rfl, rfl, by simp, I.le_refl, rfl, rfl⟩
  rintro vs g J S' hJ ⟨i, kk, a, cap, ch, gs, hi, hkk, hown, hgs, hbl, hok, hle, rfl, rfl⟩
  refine CmpD.split (fun c1 => ?_) (fun c1 => ?_)
  · refine CmpD.yes (by omega) ?_
    have hil : i < z.length := by omega
    rcases hL.mem with q0 | ⟨bL, oL, cL, TL, fL, rfl, hIL, hcL⟩
    · omega
    refine CodeF.sched [[], [], [], [1, 2], [1, 2, 3], [], [5], [1, 2, 3, 4, 5, 6], [1, 2, 3, 4, 5, 6, 7], [0, 1, 2, 3, 4, 5, 6, 7, 8], [0, 1, 2, 3, 4, 5, 6, 7, 8, 9]] [0, 1, 2, 3, 4, 5, 6, 7, 8, 9, 10] (by kernel_rfl) ?_
    refine Chk.mk (by omega) ?_
    refine LoadP.imm [.int .i64 z[i]] ⟨cL, TL, fL, .imm (hle _ _ hIL), take_get hcL (ints_get (List.getElem?_eq_getElem hil)), rfl⟩ ?_
    refine Tri.free (made kk 4096 (by omega) J) ?_
    have hdr : z.drop i = z[i] :: z.drop (i + 1) := List.drop_eq_getElem_cons hil
    rw [hdr, imgsP] at hbl
    rintro v J1 _ hJ1 ⟨aD, rfl, hrD⟩
    conv => whnf
    intro bN
    refine appendD tabOk rfl rfl rfl rfl rfl rfl rfl 0 rfl hown (SrcOk.slice (n := 1) (news := imgCells [⟨z[i], aD, 4096, 4096, madeL kk 4096⟩]) tabOk rfl ((OwnC.whole (len := 1) (size := 2) rfl).slC 1 rfl) (by intro v hv; simp [imgCells] at hv; rcases hv with rfl | rfl <;> rfl)) rfl (by show (i + 1) * 32 ≤ _; omega) (by omega) ?_
    intro a2 cap2 ch2 hown2
    refine Chk.mk (by omega) ?_
    have hk2 := tdiv2_range hkk
    refine ToD.i64 (by omega) (by omega) ?_
    refine ToD.i64 (by omega) (by omega) ?_
    refine ToD.i64 (by omega) (by omega) ?_
    refine ⟨_, Drop.pick [0] _ rfl, ⟨i + 1, _, a2, cap2, ch2, gs ++ [⟨z[i], aD, 4096, 4096, madeL kk 4096⟩], by omega, ?_, by rw [imgCells_snoc]; exact hown2, ?_, ?_, ?_, Imm.le_trans hle hJ1, rfl, rfl⟩, ?_⟩
    · unfold In64; omega
    · simp [hgs]
    · rw [List.map_append, List.append_assoc]; exact hbl
    · intro g hg
      rcases List.mem_append.1 hg with hg | hg
      · exact ⟨(hok g hg).1.mono hJ1, (hok g hg).2⟩
      · simp only [List.mem_singleton] at hg
        subst hg
        exact ⟨⟨hz2 _ (List.getElem_mem hil), hrD⟩, rfl⟩
    · show ((z.length : Int) - ((i : Int) + 1)).toNat < ((z.length : Int) - (i : Int)).toNat
      omega
  · obtain rfl : i = z.length := by omega
    refine Done.mk ⟨a, cap, ch, gs, rfl, hown, by rw [← hbl, List.drop_length, imgsP, List.append_nil], hok, rfl⟩
theorem images11_fix (aL : Option Addr) (capL : Nat) (z : List Int) (hz : z.length ≤ 40) (hz2 : ∀ x ∈ z, In64 x) (k : Int) (hk : In64 k) (I : Imm) (hL : Rds I aL z.length (ints z)) :
    Tri Tryz.prog 15 #[.slice aL z.length capL, .int .i64 k] I [] fun v J _ => ∃ a cap gs, v = .slice a gs.length cap ∧ ImgsOk J a gs ∧ gs.map Img.pr = imgsP z k 0 := by
  refine Tri.fixed (images11_of aL capL z hz hz2 k hk I hL) ?_
  rintro v J S' hJ ⟨a, cap, ch, gs, rfl, hown, hgs, hok, rfl⟩
  have hl : gs.length = z.length := by have := congrArg List.length hgs; rw [List.length_map, imgsP_length] at this; exact this
  refine ⟨0, ch, rfl, fun J' hJ' hm => ⟨a, cap, gs, by rw [hl], ⟨?_, fun g hg => (hok g hg).1.mono hJ'⟩, hgs⟩⟩
  rw [hl]
  exact Rds.of_ownS hown hm
end Go.Proofs.YtegdcjnjnoeinaaGreat
namespace Go.Proofs.YtegdcjnjnoeinaaGreat
open Go.RowKit Go.Sl
set_option maxRecDepth 20000

def sE (ep : Int) : Sup := ⟨64, ep, 1, 0⟩
theorem sE_right {ep : Int} (h : 1 ≤ ep ∧ ep ≤ 8388608) : RightS (sE ep) := ⟨by show (64 : Int) ≤ 64; decide, by show (64 : Int) ≤ 512; decide, h.1, h.2, by show (1 : Int) ≤ 1; decide, by show (1 : Int) ≤ 549755813888; decide, by show (0 : Int) ≤ 0; decide, by show (0 : Int) ≤ 511; decide⟩
theorem getS_noughts : getS noughts = none := by
  cases h : getS noughts with
  | none => rfl
  | some s =>
    have h2 := (getS_some.1 h).2
    have h3 := congrArg (·.head?) h2
    simp [supL, sup44, sup40, magicL, noughts] at h3
def v0 : VSt := ⟨openJ 64 2 1 0, 2, 0, [], false⟩
def dV : DSt := dz (supL (sE 1)) (supL (sE 2)) 24
theorem mount_first : mountP (dz (supL (sE 1)) noughts 23) = (dV, 0, some v0) := by
  have h := mount_dz (a := supL (sE 1)) (b := noughts) (c := 23) (s := sE 1) (slot := 0) (by rw [get_supL (sE_right (by omega)), getS_noughts]; rfl) (sE_right (by omega)) rfl (by show (0 : Int) < 16; decide) (by show (1 : Int) < 8388608; decide) (by omega)
  rw [if_neg (by decide), if_neg (by decide)] at h
  exact h
theorem mount_again (c : Int) : mountP (dz (supL (sE 1)) (supL (sE 2)) c) = (dz (supL (sE 3)) (supL (sE 2)) (c + 1), 0, some ⟨openJ 64 3 1 0, 3, 1, [], false⟩) := by
  have h := mount_dz (a := supL (sE 1)) (b := supL (sE 2)) (c := c) (s := sE 2) (slot := 1) (by rw [get_supL (sE_right (by omega)), get_supL (sE_right (by omega))]; rfl) (sE_right (by omega)) rfl (by show (0 : Int) < 16; decide) (by show (2 : Int) < 8388608; decide) (by omega)
  rw [if_pos rfl, if_pos rfl] at h
  exact h
theorem v0_wf : v0.j.Wf := openJ_wf 64 (by omega) ⟨rfl, by omega, by omega, by omega, by omega, by omega, by rw [layL_64']; omega⟩
theorem law_fresh (I : Imm) : Tri Tryz.prog 14 #[] I [] fun r J S' => ∃ bD bV chD chV, r = .tuple #[.pointer (some ⟨bD, 0, none⟩), .pointer (some ⟨bV, 0, none⟩), .bool true] ∧ Dk J bD dV chD ∧ Vk J bV bD v0 chV ∧ S' = [chV, chD] := by
  refine Tri.drop ?_ (fun _ _ _ _ h => h)
  refine Tri.of (args := []) tabOk Tryz.func14 rfl (by kernel_rfl) (by kernel_rfl) ?_
  refine Tri.frameX (dk_New I 64 (by omega)) [] rfl rfl ?_
  rintro r J1 A' hJ1 ⟨bD, chD, rfl, hD, rfl⟩
  repeat (first | refine CmpD.yes rfl ?_)
  refine Tri.frame1 0 rfl (vk_Format hD ((DSt.of_few _).mono (by omega))) ?_
  rw [format_new]
  rintro r J2 A' hJ2 ⟨rfl, chD2, hD2, rfl⟩
  refine ⟨_, rfl, ?_⟩
  repeat (first | refine CmpD.yes rfl ?_)
  have hf : (dz (supL ⟨64, 1, 1, 0⟩) noughts 23).Few 700000 := (dz_few _ _ 23).mono (by omega)
  refine Tri.frameX (vk_Mount hD2 hf) [0] rfl rfl ?_
  rw [show mountP (dz (supL ⟨64, 1, 1, 0⟩) noughts 23) = (dV, 0, some v0) from mount_first]
  rintro r J3 A' hJ3 ⟨chD3, hD3, (⟨h, _⟩ | ⟨_, v, bV, chV, hv, rfl, hV, rfl⟩)⟩
  · exact absurd rfl h
  cases hv
  repeat (first | refine CmpD.yes rfl ?_)
  exact Done.mk ⟨_, Drop.pick [2, 1] _ rfl, bD, bV, chD3, chV, rfl, hD3, hV, rfl⟩
theorem law_has {bV bD : Nat} {v : VSt} {ch : List Blk} {I : Imm} (h : Vk I bV bD v ch) {d : DSt} {chD : List Blk} (hD : Dk I bD d chD) (hfew : ∀ g ∈ v.fresh, g.2.length ≤ 1000000) (n : Int) (aB : Option Addr) (lB capB : Nat) (b : Dat) (hB : Rds I aB lB (bts b)) :
    Tri Tryz.prog 21 #[.pointer (some ⟨bV, 0, none⟩), .int .i64 n, .slice aB lB capB] I [ch, chD] fun r J S' => r = .bool (decide ((v.read d n).2 = 0 ∧ (v.read d n).1 = b)) ∧ I = J ∧ S' = [ch, chD] := by
  refine Tri.drop ?_ (fun _ _ _ _ h => h)
  refine Tri.of (args := [.pointer (some ⟨bV, 0, none⟩), .int .i64 n, .slice aB lB capB]) tabOk Tryz.func21 rfl (by kernel_rfl) (by kernel_rfl) ?_
  refine Tri.nf (vk_Read h hD hfew n) ?_
  generalize v.read d n = rd
  obtain ⟨x, e⟩ := rd
  dsimp only
  rintro r _ A' hJ ⟨a, cap, chB, rfl, hO, rfl, rfl⟩
  skip
  refine CmpD.split (fun (c1 : e = 0) => ?_) (fun (c1 : ¬ e = 0) => ?_)
  · skip
    refine Tri.mono (same_bytes (hO.slC1 2 rfl) hB.slC) ?_
    rintro r _ _ hJ ⟨rfl, rfl, rfl⟩
    by_cases hx : x = b
    · rw [decide_eq_true hx, decide_eq_true ⟨c1, hx⟩]
      exact Done.mk ⟨_, Drop.pick [0, 1] _ rfl, rfl, rfl, rfl⟩
    · rw [decide_eq_false hx, decide_eq_false (fun h => hx h.2)]
      exact Done.mk ⟨_, Drop.pick [0, 1] _ rfl, rfl, rfl, rfl⟩
  · rw [decide_eq_false (fun h => c1 h.1)]
    skip
    exact Done.mk ⟨_, Drop.pick [0, 1] _ rfl, rfl, rfl, rfl⟩
theorem wrD_rest (f : Nat → Int) : ∀ (bs : List Dat) (i : Nat) (d : DSt), (wrD f bs i d).safe = d.safe ∧ (wrD f bs i d).count = d.count + bs.length
  | [], _, _ => by simp [wrD]
  | b :: bs, i, d => by
    obtain ⟨h1, h2⟩ := wrD_rest f bs (i + 1) (d.put (f i) b)
    rw [wrD, h1, h2]
    refine ⟨rfl, ?_⟩
    show d.count + 1 + (bs.length : Int) = d.count + ((bs.length + 1 : Nat) : Int)
    omega
theorem commit_first {d : DSt} (hc : d.Calm) (hlen : d.now.length = 64) {l : List PImg} (hR : RightP 2 1 l) (hho : HomeOk (layOf 64) l) (hl : l.length + 1 ≤ 16) :
    ∃ (j : JSt) (f : Nat → Int), v0.commit d l = (⟨j, 2, 0, l.foldl pput [], false⟩, wrD f (putP 2 1 l) 0 d, 1, 0) := by
  have h1 := hR.2.2.2.2.1
  have hs : v0.j.s = 16 := layL_64'
  obtain ⟨j', a, _⟩ := JSt.append_next (j := v0.j) (held := false) v0_wf (by show 0 ≤ _; omega) rfl (d := d) (l := l) hR (by rw [hs]; omega) hc (by rw [hs, hlen]; decide) (t := 0) (u := (l.length : Int) + 1) (h := 0) (at_ := 0) (by
    rw [hs]
    show putS 16 0 0 0 ((l.length : Int) + 1) (if false = true then (l.length : Int) + 1 else 0) = _
    unfold putS
    have hok : Ok 16 0 0 0 := by unfold Ok; omega
    rw [if_neg (by simp only [Bool.false_eq_true, if_false]; rintro (h | h | h | h | h); exact h hok; omega; omega; omega; omega), if_neg (by simp only [Bool.false_eq_true, if_false]; omega)]
    simp)
  have hbn : blocksN (l.length : Int) = (l.length : Int) + 1 := by unfold blocksN; rw [if_neg (by omega)]
  refine ⟨j', fun i => 2 + (0 + (i : Int)) % v0.j.s, ?_⟩
  unfold VSt.commit
  rw [if_neg (by show ¬ false = true; simp), if_neg (fun h => h hho), if_neg (fun h => h hR)]
  have hft : v0.fits (l.length : Int) = true := by
    unfold VSt.fits
    rw [hbn]
    exact decide_eq_true ⟨by omega, by show (l.length : Int) + 1 ≤ layL ((64 : Nat) : Int); rw [layL_64']; omega⟩
  rw [if_neg (by rw [hft]; simp), hbn, if_neg (by rw [hs]; show ¬ (16 : Int) - 0 - 0 < _; omega)]
  unfold VSt.app
  rw [a]
  dsimp only
  rw [if_neg (by simp)]
  rfl
set_option maxHeartbeats 4000000 in
theorem awake11 (I : Imm) (S : St) : Tri Tryz.prog 22 #[] I S fun v _ _ => v = .bool true := by
  refine Tri.free (Q := fun v _ _ => v = .bool true) ?_ (fun v J _ _ h => h)
  refine Tri.of (args := []) tabOk Tryz.func22 rfl (by kernel_rfl) (by kernel_rfl) ?_
  refine Tri.frameX (law_fresh I) [] rfl rfl ?_
  rintro r J1 A' hJ1 ⟨bD, bV, chD, chV, rfl, hD, hV, rfl⟩
  skip
  refine Tri.frame1 0 rfl (vk_Next hV) ?_
  rintro r _ A' hJ ⟨rfl, rfl, rfl⟩
  refine ⟨_, rfl, ?_⟩
  repeat (first | refine CmpD.yes rfl ?_)
  refine Tri.frame1 0 rfl (vk_Synced hV) ?_
  rintro r _ A' hJ ⟨rfl, rfl, rfl⟩
  refine ⟨_, rfl, ?_⟩
  repeat (first | refine CmpD.yes rfl ?_)
  conv => whnf
  intro bR
  refine Tri.fix 2 rfl fun I2 hI2 hRm => ?_
  have hz : Rds I2 (some ⟨bR, 0, none⟩) 2 (ints (rowL 2)) := ⟨rfl, .inr ⟨bR, 0, _, _, _, rfl, hRm _ (List.mem_singleton.2 rfl), rfl⟩⟩
  refine Tri.free (images11_fix (some ⟨bR, 0, none⟩) 2 (rowL 2) (by decide) (rowL_in 2 (by omega)) 5 (by unfold In64; omega) I2 hz) ?_
  rintro r J3 _ hJ3 ⟨aI, capI, gs, rfl, hI, hgs⟩
  have hgl : gs.length = 2 := by have := congrArg List.length hgs; rwa [List.length_map, imgsP_length, rowL_length] at this
  have hle3 := Imm.le_trans hI2 hJ3
  have hR := right_row (e := 2) (s := 1) (by omega) (by omega) 2 (by omega) 5
  have hho : HomeOk (layOf 64) (imgsP (rowL 2) 5 0) := by
    intro g hg
    have : g.1 ∈ rowL 2 := by rw [← imgsP_fst (rowL 2) 5 0]; exact List.mem_map_of_mem hg
    simp [rowL] at this
    obtain ⟨i, hi, hgi⟩ := this
    show (18 : Int) ≤ g.1 ∧ g.1 < 64
    omega
  obtain ⟨j1, f, hcm⟩ := commit_first (d := dV) (dz_calm _ _ _) (zL_length _ _) hR hho (by rw [imgsP_length, rowL_length]; decide)
  refine Tri.frame (vk_Commit (hV.mono hle3) v0_wf rfl (by show (0 : Int) ≤ 0 ∧ (0 : Int) ≤ 1; omega) (by show 0 ≤ 1000; omega) (by show 0 ≤ _; omega) (hD.mono hle3) ((dz_few _ _ 24).mono (by omega)) aI capI gs hI (by omega)) [0, 1] rfl rfl ?_
  rw [hgs, hcm]
  dsimp only
  rintro r J4 A' hJ4 ⟨rfl, chV4, chD4, hV4, hD4, rfl⟩
  refine ⟨Nat.le_refl _, ?_⟩
  repeat (first | refine CmpD.yes rfl ?_)
  refine Tri.free (made 5 4096 (by omega) J4) ?_
  rintro r J5 _ hJ5 ⟨aM, rfl, hM⟩
  skip
  have hrow : imgsP (rowL 2) 5 0 = [(30, madeL 5 4096), (31, madeL ((5 : Int).tdiv 2 + (0 : Nat)) 4096)] := rfl
  have hfr : (imgsP (rowL 2) 5 0).foldl pput [] = imgsP (rowL 2) 5 0 := by rw [hrow]; simp [pput]
  have hfew : ∀ g ∈ (imgsP (rowL 2) 5 0).foldl pput [], g.2.length ≤ 1000000 := by rw [hfr]; intro g hg; have := imgsP_snd _ _ _ g hg; omega
  refine Tri.frame (law_has (hV4.mono hJ5) (hD4.mono hJ5) hfew 30 aM 4096 4096 (madeL 5 4096) hM) [0, 1] rfl rfl ?_
  have hrd : VSt.read ⟨j1, 2, 0, (imgsP (rowL 2) 5 0).foldl pput [], false⟩ (wrD f (putP 2 1 (imgsP (rowL 2) 5 0)) 0 dV) 30 = (madeL 5 4096, 0) := by
    unfold VSt.read
    rw [if_neg (by simp), hfr, hrow]
    rfl
  rw [hrd, decide_eq_true ⟨rfl, rfl⟩]
  rintro r _ A' hJ6 ⟨rfl, rfl, rfl⟩
  refine ⟨Nat.le_refl _, ?_⟩
  skip
  obtain ⟨hsafe, hcount⟩ := wrD_rest f (putP 2 1 (imgsP (rowL 2) 5 0)) 0 dV
  have hfew4 : (wrD f (putP 2 1 (imgsP (rowL 2) 5 0)) 0 dV).Few 1000000 := (wrD_few f _ 0 dV 24 (dz_few _ _ 24)).mono (by rw [putP_length, imgsP_length, rowL_length]; omega)
  refine Tri.frame1 1 rfl (dk_Crash (hD4.mono hJ5) hfew4 none 0 0 [] ⟨rfl, .inl rfl⟩ (-1) 0 (by omega)) ?_
  have hcr : (wrD f (putP 2 1 (imgsP (rowL 2) 5 0)) 0 dV).crash [] (-1) 0 = dz (supL (sE 1)) (supL (sE 2)) 27 := by
    unfold DSt.crash
    rw [crash_none, hsafe, hcount, putP_length, imgsP_length, rowL_length]
    rfl
  rw [hcr]
  rintro r J7 A' hJ7 ⟨rfl, chD7, hD7, rfl⟩
  refine ⟨_, rfl, ?_⟩
  repeat (first | refine CmpD.yes rfl ?_)
  refine Tri.frameX (vk_Mount hD7 ((dz_few _ _ 27).mono (by omega))) [1] rfl rfl ?_
  rw [mount_again]
  rintro r J8 A' hJ8 ⟨chD8, hD8, (⟨h, _⟩ | ⟨_, v, bV8, chV8, hv, rfl, hV8, rfl⟩)⟩
  · exact absurd rfl h
  cases hv
  repeat (first | refine CmpD.yes rfl ?_)
  refine makeH tabOk rfl rfl rfl 4096 4096 rfl rfl (Nat.le_refl _) (by show 1 * 4096 ≤ _; decide) (by decide) (by show 4096 * 1 ≤ _; decide) rfl (by decide) ?_
  intro bN NB hNB
  skip
  refine Tri.fix 5 rfl fun I9 hI9 hNm => ?_
  have hN : Rds I9 (some ⟨bN, 0, none⟩) 4096 (bts noughts) := by
    rw [noughts_bts]
    exact Rds.of_own (cap := 4096) (by rw [hNB]; show OwnC [(bN, row (rows 4096 [Value.int .u8 0]) _)] 1 _ _ _ _; exact OwnC.whole (by rw [rows_length]; rfl)) hNm
  refine Tri.frame (law_has (hV8.mono hI9) (hD8.mono hI9) (by intro g hg; simp at hg) 30 (some ⟨bN, 0, none⟩) 4096 4096 noughts hN) [4, 3] rfl rfl ?_
  have hrd2 : VSt.read ⟨openJ 64 3 1 0, 3, 1, [], false⟩ (dz (supL (sE 3)) (supL (sE 2)) (27 + 1)) 30 = (noughts, 0) := by
    unfold VSt.read
    rw [if_neg (by simp)]
    show (dz (supL (sE 3)) (supL (sE 2)) (27 + 1)).read ((30 : Nat) : Int) = _
    rw [read_up (dz_wf (supL_length _) (supL_length _) _) rfl (by show 30 < (zL _ _).length; rw [zL_length]; omega)]
    show ((zL _ _).getD 30 [], (0 : Int)) = _
    rw [List.getD_eq_getElem?_getD, zL_get _ _ 30 (by omega) (by omega)]; rfl
  rw [hrd2, decide_eq_true ⟨rfl, rfl⟩]
  rintro r _ A' hJ10 ⟨rfl, rfl, rfl⟩
  refine ⟨Nat.le_refl _, ?_⟩
  skip
  refine Tri.frame1 4 rfl (vk_Next (hV8.mono hI9)) ?_
  rintro r _ A' hJ11 ⟨rfl, rfl, rfl⟩
  refine ⟨_, rfl, ?_⟩
  repeat (first | refine CmpD.yes rfl ?_)
  exact Done.mk rfl
end Go.Proofs.YtegdcjnjnoeinaaGreat
namespace Go.Proofs.YtegdcjnjnoeinaaGreat
open Go.RowKit Go.Sl
set_option maxRecDepth 20000

structure KV (ep t0 sq : Nat) (v : VSt) (d : DSt) (ls : List (List PImg)) (m k : Nat) : Prop where
  w : WV ep t0 sq v d ls k
  sup : SupAt d.safe (1 - v.slot.toNat) ⟨64, ep, sq, ((t0 % 16 : Nat) : Int)⟩
  le : m ≤ ls.length
  wr : d.writes = wL t0 (usedP (ls.take m)) (ringB ep (sq + m) (ls.drop m))
  ring : ∀ (o : Nat) (h : o < (ringB ep sq ls).length), o < usedP (ls.take m) → d.safe.getD (2 + (t0 + o) % 16) [] = (ringB ep sq ls)[o]
  rest : ∀ o, usedP (ls.take m) ≤ o → o < 16 → Old ep (sq + m) (d.safe.getD (2 + (t0 + o) % 16) [])
  nowrest : ∀ o, usedP ls ≤ o → o < 16 → d.now.getD (2 + (t0 + o) % 16) [] = d.safe.getD (2 + (t0 + o) % 16) []
  same : ∀ p, p < 64 → (p < 2 ∨ 18 ≤ p) → d.now.getD p [] = d.safe.getD p []
  sy : v.j.synced = ((sq + m : Nat) : Int) - 1
section
variable {ep t0 sq m k : Nat} {v : VSt} {d : DSt} {ls : List (List PImg)}
theorem KV.mono {n : Nat} (w : KV ep t0 sq v d ls m k) (h : k ≤ n) : KV ep t0 sq v d ls m n := { w with w := w.w.mono h }
theorem KV.safe_len (w : KV ep t0 sq v d ls m k) : d.safe.length = 64 := by rw [w.w.e.dwf.len, w.w.e.len]
theorem KV.kc (w : KV ep t0 sq v d ls m k) : KC ep t0 sq d.safe d.writes ls m :=
  ⟨w.safe_len, w.w.e.dwf.safe, ⟨_, w.sup⟩, w.le, ⟨(ringB ep (sq + m) (ls.drop m)).length, by rw [w.wr, List.take_length]⟩, w.w.e.used, w.w.e.right, w.w.home, w.ring, w.rest⟩
theorem SupAt.same {B C : List Dat} {sl : Nat} {s : Sup} (h : SupAt B sl s) (h0 : C.getD 0 [] = B.getD 0 []) (h1 : C.getD 1 [] = B.getD 1 []) : SupAt C sl s := by
  have e : ∀ p, p = 0 ∨ p = 1 → C.getD p [] = B.getD p [] := by rintro p (rfl | rfl) <;> assumption
  have hsl := h.at'
  refine ⟨hsl, h.right, by rw [e sl hsl]; exact h.cur, ?_⟩
  rw [e (1 - sl) (by omega)]
  exact h.other
theorem getD_eq' {a b : List Dat} {p : Nat} (h : a[p]? = b[p]?) : a.getD p [] = b.getD p [] := by
  rw [List.getD_eq_getElem?_getD, List.getD_eq_getElem?_getD, h]
theorem KV.app (w : KV ep t0 sq v d ls m k) {l : List PImg} (hho : HomeOk (layOf 64) l) (hR : RightP ep ((sq + ls.length : Nat) : Int) l) (hroom : usedP ls + (l.length + 1) ≤ 16) :
    ∃ v' d', v.app d l = (v', d', ((sq + ls.length : Nat) : Int), 0) ∧ KV ep t0 sq v' d' (ls ++ [l]) m (k + 16) ∧ (∀ n, 18 ≤ n → n < 64 → v'.cur d' n = (lastD l n).getD (v.cur d n)) := by
  obtain ⟨v', a, w', hcur, hsy, hsl⟩ := w.w.app hho hR hroom
  have hle := w.le
  have hge := usedP_ge ls
  have hsp := usedP_split ls m
  have hrd := ringB_length ep (ls.drop m) (sq + m)
  have hpl := putP_length ep (sq + ls.length) l
  obtain ⟨r1, r2⟩ := wrD_rest (rgAt (t0 + usedP ls)) (putP ep (sq + ls.length) l) 0 d
  have hwr := wrD_wL t0 (usedP ls) (putP ep (sq + ls.length) l) 0 d
  have hmiss := fun p hp => wrD_miss (fun k => 2 + (t0 + usedP ls + k) % 16) p (putP ep (sq + ls.length) l) 0 d hp
  have hfe : rgAt (t0 + usedP ls) = fun k => ((2 + (t0 + usedP ls + k) % 16 : Nat) : Int) := rfl
  rw [← hfe] at hwr hmiss
  obtain ⟨d', hd'⟩ : ∃ d', d' = wrD (rgAt (t0 + usedP ls)) (putP ep (sq + ls.length) l) 0 d := ⟨_, rfl⟩
  rw [← hd'] at a w' hcur r1 r2 hwr hmiss
  have htk : (ls ++ [l]).take m = ls.take m := by rw [List.take_append_of_le_length hle]
  have hdr : (ls ++ [l]).drop m = ls.drop m ++ [l] := by rw [List.drop_append_of_le_length hle]
  have hrdl : (ls.drop m).length = ls.length - m := List.length_drop
  refine ⟨v', d', a, ⟨w', by rw [hsl, r1]; exact w.sup, by simp; omega, ?_, ?_, ?_, ?_, ?_, by rw [hsy, w.sy]⟩, hcur⟩
  · rw [hwr, w.wr, htk, hdr, ringB_snoc, wL_append, hrd, ← hsp, hrdl, Nat.add_zero, show sq + m + (ls.length - m) = sq + ls.length by omega]
  · intro o ho hlt
    rw [htk] at hlt
    have hrl := ringB_length ep ls sq
    have hlt2 : o < (ringB ep sq ls).length := by omega
    rw [r1, w.ring o hlt2 hlt]
    have e0 : (ringB ep sq (ls ++ [l]))[o]? = (ringB ep sq ls)[o]? := by rw [ringB_snoc, List.getElem?_append_left hlt2]
    rw [List.getElem?_eq_getElem ho, List.getElem?_eq_getElem hlt2] at e0
    exact (Option.some.inj e0).symm
  · intro o h1 h2
    rw [htk] at h1
    rw [r1]; exact w.rest o h1 h2
  · intro o h1 h2
    rw [usedP_snoc] at h1
    rw [r1, ← w.nowrest o (by omega) h2]
    exact getD_eq' (hmiss _ (fun k hk => by omega))
  · intro p h1 h2
    rw [r1, ← w.same p h1 h2]
    exact getD_eq' (hmiss _ (fun k hk => by omega))
theorem KV.sync (w : KV ep t0 sq v d ls m k) : ∃ v' d', v.sync d = (v', d', 0) ∧ KV ep t0 sq v' d' ls ls.length k ∧ (∀ n, v'.cur d' n = v.cur d n) ∧ d'.now = d.now := by
  obtain ⟨j', a, w', hs⟩ := w.w.e.flush
  have hle := w.le
  have hv : v.sync d = ({ v with j := j', broken := false }, { d with safe := d.now, writes := [] }, 0) := by
    unfold VSt.sync
    rw [if_neg (by rw [w.w.broken]; simp), a]
    rfl
  refine ⟨_, _, hv, ⟨⟨w', w.w.epoch, w.w.slot, w.w.fresh, w.w.home, rfl⟩, ?_, Nat.le_refl _, ?_, ?_, ?_, fun _ _ _ => rfl, fun _ _ _ => rfl, ?_⟩, fun n => rfl, rfl⟩
  · exact w.sup.same (w.same 0 (by omega) (by omega)) (w.same 1 (by omega) (by omega))
  · rw [List.drop_length]; rfl
  · intro o ho _
    exact w.w.e.ring o ho
  · intro o h1 h2
    rw [List.take_length] at h1
    show Old ep _ (d.now.getD _ [])
    rw [w.nowrest o h1 h2]
    exact (w.rest o (by have := usedP_split ls m; omega) h2).mono (by omega)
  · rw [hs, w'.next]
theorem KV.ckpt (w : KV ep t0 sq v d ls m k) (hsq : sq + ls.length ≤ 549755813888) :
    ∃ v' d', v.ckpt d = (v', d', 0) ∧ KV ep (t0 + usedP ls) (sq + ls.length) v' d' [] 0 (k + 17) ∧ (∀ n, 18 ≤ n → n < 64 → v'.cur d' n = v.cur d n) := by
  obtain ⟨v', d', a, w', hcur, hsy, hsl, hfr, hw, hsn, hnow⟩ := w.w.ckpt hsq
  have hho := w.w.fresh_home
  have hlen := w.w.e.len
  have hslot := w.w.slot
  have hle := w.le
  have hu := w.w.e.used
  have hrl := ringB_length ep ls sq
  have hq := fun (n : Nat) (hn : n < 64) => (wrC_now (sortP v.fresh) ({ d with safe := d.now, writes := [] } : DSt) (fun g hg => by have := hho g hg; omega) (fun g hg => by have := hho g hg; show _ < (d.now.length : Int); omega)).2 n (by show n < d.now.length; omega)
  have hln := (wrC_now (sortP v.fresh) ({ d with safe := d.now, writes := [] } : DSt) (fun g hg => by have := hho g hg; omega) (fun g hg => by have := hho g hg; show _ < (d.now.length : Int); omega)).1
  have hlow : ∀ p, p < 18 → p ≠ v.slot.toNat → d'.now.getD p [] = d.now.getD p [] := by
    intro p hp hne
    refine getD_eq' ?_
    rw [hnow, List.getElem?_set_ne (fun e => hne e.symm), hq p (by omega)]
    have hno : lastD (sortP v.fresh) (p : Int) = none := lastD_none fun hm => by
      obtain ⟨g, hg, he⟩ := List.mem_map.1 hm
      have := hho g hg; omega
    rw [hno]
  have hsup := w.sup
  have hbear : ∀ (o : Nat) (ho : o < (ringB ep sq ls).length), Old ep (sq + ls.length) (ringB ep sq ls)[o] := by
    intro o ho
    obtain ⟨q1, s', q2, q3, q4⟩ := ringB_bears2 ls sq w.w.e.right _ (List.getElem_mem ho)
    exact old_bears q1 q4 w.w.e.epr.2 q3 q2
  have hold : ∀ o, o < 16 → Old ep (sq + ls.length) (d.now.getD (2 + (t0 + o) % 16) []) := by
    intro o ho
    by_cases hou : o < usedP ls
    · have := w.w.e.ring o (by omega)
      unfold rbP at this
      rw [this]
      exact hbear o (by omega)
    · rw [w.nowrest o (by omega) ho]
      exact (w.rest o (by have := usedP_split ls m; omega) ho).mono (by omega)
  have hep := w.w.e.epr
  have hpos := w.w.e.pos
  have hRs : RightS ⟨64, (ep : Int), ((sq + ls.length : Nat) : Int), (((t0 + usedP ls) % 16 : Nat) : Int)⟩ :=
    ⟨by show (64 : Int) ≤ 64; decide, by show (64 : Int) ≤ 512; decide, by show (1 : Int) ≤ (ep : Int); omega, by show (ep : Int) ≤ 8388608; omega, by show (1 : Int) ≤ ((sq + ls.length : Nat) : Int); omega, by show ((sq + ls.length : Nat) : Int) ≤ 549755813888; omega, by show (0 : Int) ≤ (((t0 + usedP ls) % 16 : Nat) : Int); omega, by show (((t0 + usedP ls) % 16 : Nat) : Int) ≤ 511; omega⟩
  have hs0 : v.slot.toNat = 0 ∨ v.slot.toNat = 1 := by rcases hslot with h | h <;> simp [h]
  have hs1 : 1 - v'.slot.toNat = v.slot.toNat := by rw [hsl]; rcases hslot with h | h <;> simp [h]
  refine ⟨v', d', a, ⟨w', ?_, Nat.le_refl _, ?_, ?_, ?_, fun _ _ _ => by rw [hsn], fun _ _ _ => by rw [hsn], ?_⟩, hcur⟩
  · rw [hs1, hsn]
    refine ⟨hs0, hRs, ?_, .inr ⟨⟨64, ep, sq, ((t0 % 16 : Nat) : Int)⟩, hsup.right, ?_, ?_⟩⟩
    · rw [hnow, w.w.sup, List.getD_eq_getElem?_getD, List.getElem?_set_self (by rw [hln]; show _ < d.now.length; omega)]; rfl
    · rw [hlow _ (by omega) (by omega), w.same _ (by omega) (by omega)]
      exact hsup.cur
    · by_cases h0 : ls = []
      · left; subst h0; simp [usedP]
      · right; right
        have : 0 < ls.length := List.length_pos_iff.2 h0
        exact ⟨rfl, by show (sq : Int) < ((sq + ls.length : Nat) : Int); omega⟩
  · rw [hw]; rfl
  · intro o ho _; simp [ringB] at ho
  · intro o _ h2
    rw [hsn]
    obtain ⟨o', ho', he⟩ : ∃ o', o' < 16 ∧ (t0 + o') % 16 = (t0 + usedP ls + o) % 16 := ⟨(usedP ls + o) % 16, by omega, by omega⟩
    rw [hlow _ (by omega) (by omega), ← he]
    exact hold o' ho'
  · rw [hsy, w'.e.next]; rfl
/-- a commit, calm -/
theorem KV.commit (w : KV ep t0 sq v d ls m k) {l : List PImg} (hho : HomeOk (layOf 64) l) (hR : RightP ep ((sq + ls.length : Nat) : Int) l) (hl : l.length + 1 ≤ 16) :
    ∃ v' d' t1 sq' ls' m', v.commit d l = (v', d', ((sq + ls.length : Nat) : Int), 0) ∧ KV ep t1 sq' v' d' ls' m' (k + 33) ∧ sq' + ls'.length = sq + ls.length + 1 ∧ (∀ n, 18 ≤ n → n < 64 → v'.cur d' n = (lastD l n).getD (v.cur d n)) := by
  have hll := hR.2.2.2.2.1
  have hsq : sq + ls.length ≤ 549755813888 := by have := hR.2.2.2.1; omega
  have hb : blocksN (l.length : Int) = l.length + 1 := by unfold blocksN; rw [if_neg (by omega)]
  have hu := w.w.e.used
  have hc : v.commit d l = if v.j.s - v.j.u - v.j.h < blocksN l.length then (if (v.ckpt d).2.2 ≠ 0 then ((v.ckpt d).1, (v.ckpt d).2.1, 0, (v.ckpt d).2.2) else (v.ckpt d).1.app (v.ckpt d).2.1 l) else v.app d l := by
    unfold VSt.commit
    rw [if_neg (by rw [w.w.broken]; simp), if_neg (by rw [w.w.e.lay]; exact fun h => h hho), if_neg (by rw [w.w.epoch, w.w.e.next]; exact fun h => h hR), if_neg (by rw [w.w.fits ⟨hll, hl⟩]; simp)]
  rw [hc, hb, w.w.e.s, w.w.e.u, w.w.e.h]
  by_cases hr : (16 : Int) - ((usedP ls : Nat) : Int) - 0 < (l.length : Int) + 1
  · rw [if_pos hr]
    obtain ⟨v1, d1, a1, w1, c1⟩ := w.ckpt hsq
    rw [a1]
    dsimp only
    rw [if_neg (by simp)]
    obtain ⟨v2, d2, a2, w2, c2⟩ := w1.app hho (by simpa using hR) (by simp [usedP]; omega)
    refine ⟨v2, d2, _, _, _, _, a2, w2.mono (by omega), by simp, fun n h1 h2 => ?_⟩
    rw [c2 n h1 h2, c1 n h1 h2]
  · rw [if_neg hr]
    obtain ⟨v2, d2, a2, w2, c2⟩ := w.app hho hR (by omega)
    exact ⟨v2, d2, _, _, _, _, a2, w2.mono (by omega), by simp; omega, c2⟩
end
end Go.Proofs.YtegdcjnjnoeinaaGreat
namespace Go.Proofs.YtegdcjnjnoeinaaGreat
open Go.RowKit Go.Sl
set_option maxRecDepth 20000

theorem v0_kv : KV 2 0 1 v0 dV [] 0 24 := by
  have h1 : (dV.safe.getD 1 []) = supL (sE 2) := rfl
  have h0 : (dV.safe.getD 0 []) = supL (sE 1) := rfl
  refine ⟨⟨openJ_we (by omega) (by omega) (by omega) (dz_calm _ _ _) (dz_wf (supL_length _) (supL_length _) _) (zL_length _ _) (dz_few _ _ 24), rfl, .inl rfl, rfl, by intro g hg; simp at hg, rfl⟩, ?_, Nat.le_refl _, rfl, fun o ho => by simp [ringB] at ho, fun o _ h2 => ?_, fun _ _ _ => rfl, fun _ _ _ => rfl, rfl⟩
  · exact ⟨.inr rfl, sE_right (by omega), h1, .inr ⟨sE 1, sE_right (by omega), h0, .inr (.inl (by show (1 : Int) < 2; decide))⟩⟩
  · have : dV.safe.getD (2 + (0 + o) % 16) [] = noughts := by
      show (zL _ _).getD _ _ = _
      rw [List.getD_eq_getElem?_getD, zL_get _ _ _ (by omega) (by omega)]; rfl
    rw [this]
    exact old_noughts (by omega)
section
variable {ep t0 sq m k : Nat} {v : VSt} {d : DSt} {ls : List (List PImg)} {vw : Int → Dat}
theorem KV.view (w : KV ep t0 sq v d ls m k) {n : Int} (h1 : 18 ≤ n) (h2 : n < 64) : v.cur d n = (lastD ls.flatten n).getD (d.safe.getD n.toNat []) := by
  unfold VSt.cur
  rw [w.w.lookup]
  cases lastD ls.flatten n with
  | some x => rfl
  | none => exact w.same n.toNat (by omega) (by omega)
theorem KV.crash (w : KV ep t0 sq v d ls m k) (keep : List Bool) (tn : Int) (sec : Nat) :
    ∃ n, m ≤ n ∧ n ≤ ls.length ∧ RBx (d.crash keep tn sec).now ep (t0 % 16) sq (ls.take n) (fun x => (lastD (ls.take n).flatten x).getD (d.safe.getD x.toNat [])) := by
  refine w.kc.crash w.w.e.epr.2 ?_ keep tn sec
  by_cases h0 : ls = []
  · subst h0
    have h := w.sup.right.2.2.2.2.2.1
    have h : (sq : Int) ≤ 549755813888 := h
    simp; omega
  · have hl : 0 < ls.length := List.length_pos_iff.2 h0
    have := (right_bounds (w.w.e.right (ls.length - 1) (by omega))).2
    omega
/-- what lies on the disk, nothing pending -/
theorem KV.rbx (w : KV ep t0 sq v d ls m k) (hm : m = ls.length) : RBx d.safe ep (t0 % 16) sq ls (fun x => (lastD ls.flatten x).getD (d.safe.getD x.toNat [])) := by
  have hw : d.writes = [] := by
    rw [w.wr, hm, List.drop_length]; rfl
  obtain ⟨n, h1, h2, h⟩ := w.crash [] (-1) 0
  obtain rfl : n = ls.length := by omega
  rw [List.take_length] at h
  have e : (d.crash [] (-1) 0).now = d.safe := by
    show crashK [] (-1) 0 0 d.writes d.safe = _
    rw [hw]; rfl
  rw [e] at h
  exact h
theorem mount_kv (hc : d.Calm) (hw : d.Wf) (h : RBx d.now ep t0 sq ls vw) (hep : ep < 8388608) (hsq : sq + ls.length ≤ 549755813888) (hf : d.Few k) :
    ∃ e v t1, mountP d = (e, 0, some v) ∧ KV (ep + 1) t1 (sq + ls.length) v e [] 0 (k + 17) ∧ (∀ n : Int, 18 ≤ n → n < 64 → v.cur e n = vw n) ∧ e.writes = [] ∧ e.safe = e.now := by
  obtain ⟨sl, e, v, hs, a, w', hsl, hwr, hsn, hfr, hsy, hcur, hnow⟩ := mount_calm hc hw h hep hsq hf
  have hlens := h.lens
  have hhl := home_homL hlens
  have hok : ∀ g ∈ homeP ls.flatten, 2 ≤ g.1 ∧ g.1 < d.now.length := fun g hg => by obtain ⟨h1, h2, _⟩ := hhl.ok g hg; exact ⟨by omega, by rw [h.len]; exact h2⟩
  have hq := wrC_now (homeP ls.flatten) d (fun g hg => (hok g hg).1) (fun g hg => (hok g hg).2)
  have hsl1 := hs.at'
  have hll := h.len
  have hlow : ∀ p, p < 18 → p ≠ 1 - sl → e.now.getD p [] = d.now.getD p [] := by
    intro p hp hne
    refine getD_eq' ?_
    rw [hnow, List.getElem?_set_ne (fun e => hne e.symm), hq.2 p (by omega)]
    have hno : lastD (homeP ls.flatten) (p : Int) = none := lastD_none fun hm => by
      obtain ⟨g, hg, he⟩ := List.mem_map.1 hm
      have := hhl.ok g hg; omega
    rw [hno]
  have hslv : 1 - v.slot.toNat = 1 - sl := by rw [hsl]; omega
  have hep1 := h.bounds
  refine ⟨e, v, _, a, ⟨w', ?_, Nat.le_refl _, by rw [hwr]; rfl, fun o ho => by simp [ringB] at ho, fun o _ h2 => ?_, fun _ _ _ => by rw [hsn], fun _ _ _ => by rw [hsn], by rw [hsy, w'.e.next]; rfl⟩, hcur, hwr, hsn⟩
  · rw [hslv, hsn]
    refine ⟨by omega, ?_, ?_, .inr ⟨_, hs.right, ?_, .inr (.inl (by show (ep : Int) < ((ep + 1 : Nat) : Int); omega))⟩⟩
    · exact ⟨by show (64 : Int) ≤ 64; decide, by show (64 : Int) ≤ 512; decide, by show (1 : Int) ≤ ((ep + 1 : Nat) : Int); omega, by show ((ep + 1 : Nat) : Int) ≤ 8388608; omega, by show (1 : Int) ≤ ((sq + ls.length : Nat) : Int); omega, by show ((sq + ls.length : Nat) : Int) ≤ 549755813888; omega, by show (0 : Int) ≤ (((t0 + usedP ls) % 16 % 16 : Nat) : Int); omega, by show (((t0 + usedP ls) % 16 % 16 : Nat) : Int) ≤ 511; omega⟩
    · rw [hnow, List.getD_eq_getElem?_getD, List.getElem?_set_self (by rw [hq.1]; omega), Nat.mod_mod]; rfl
    · rw [show 1 - (1 - sl) = sl by omega, hlow sl (by omega) (by omega)]
      exact hs.cur
  · rw [hsn, hlow _ (by omega) (by omega)]
    exact (h.old _ (Nat.mod_lt _ (by decide))).mono (by omega)
end
end Go.Proofs.YtegdcjnjnoeinaaGreat
namespace Go.Proofs.YtegdcjnjnoeinaaGreat
open Go.RowKit Go.Sl
set_option maxRecDepth 20000

end Go.Proofs.YtegdcjnjnoeinaaGreat
namespace Go.Proofs.YtegdcjnjnoeinaaGreat
open Go.RowKit Go.Sl
set_option maxRecDepth 20000

/-- a disk's cells -/
@[reducible] def rC (s w : Hd) (count : Int) (down : Bool) (arm fault : Int) : List Value := [s.v, w.v, .int .i64 count, .bool down, .int .i64 arm, .int .i64 fault]
theorem RDk.cells {I : Imm} {v : Value} {d : DSt} (h : RDk I v d) : ∃ (s w : Hd), v = rV s w d.count d.down (gv d.arm) (gv d.fault) ∧ s.len = d.now.length := by
  obtain ⟨s, w, bS, gs, rfl, h1, h2, h3, h4⟩ := h.ex
  refine ⟨s, w, rfl, ?_⟩
  have e1 := h1.len
  have e2 := congrArg List.length h3
  have e3 := h.wf.len
  rw [List.length_map] at e1 e2
  omega
/-- a journal's cells -/
@[reducible] def jC (s w : Hd) (count : Int) (down : Bool) (arm fault : Int) (x : Lay) (rs rt ru rh ep first : Int) (sz : Hd) (syn : Int) (br : Bool) : List Value := rC s w count down arm fault ++ (x.vals ++ [.int .i64 rs, .int .i64 rt, .int .i64 ru, .int .i64 rh, .int .i64 ep, .int .i64 first, sz.v, .int .i64 syn, .bool br])
@[reducible] def zr : List Value := [.int .i64 0, .int .i64 0, .int .i64 0, .int .i64 0, .int .i64 0, .int .i64 0, .int .i64 0, .int .i64 0, .int .i64 0, .int .i64 0, .int .i64 0, .int .i64 0, .int .i64 0, .slice none 0 0, .int .i64 0, .bool false, .int .i64 0, .int .i64 0, .int .i64 0, .int .i64 0, .int .i64 0, .int .i64 0, .int .i64 0, .int .i64 0, .slice none 0 0, .bool false]
@[reducible] def rvC (v : VSt) : List Value := [.int .i64 v.j.lay.b, .int .i64 v.j.lay.l, .int .i64 v.j.lay.lb, .int .i64 v.j.lay.bi, .int .i64 v.j.lay.i, .int .i64 v.j.lay.ib, .int .i64 v.j.lay.d, .int .i64 v.j.s, .int .i64 v.j.t, .int .i64 v.j.u, .int .i64 v.j.h, .int .i64 v.j.epoch, .int .i64 v.j.next, .slice none 0 0, .int .i64 v.j.synced, .bool false, .int .i64 v.j.lay.b, .int .i64 v.j.lay.l, .int .i64 v.j.lay.lb, .int .i64 v.j.lay.bi, .int .i64 v.j.lay.i, .int .i64 v.j.lay.ib, .int .i64 v.j.lay.d, .int .i64 v.slot, .slice none 0 0, .bool false]
end Go.Proofs.YtegdcjnjnoeinaaGreat
namespace Go.Proofs.YtegdcjnjnoeinaaGreat
open Go.RowKit Go.Sl
set_option maxRecDepth 20000

end Go.Proofs.YtegdcjnjnoeinaaGreat
namespace Go.Proofs.YtegdcjnjnoeinaaGreat
open Go.RowKit Go.Sl
set_option maxRecDepth 20000

theorem mount_vk {I : Imm} {bD : Nat} {d : DSt} {chD : List Blk} (hD : Dk I bD d chD) {ep t0 sq k : Nat} {ls : List (List PImg)} {vw : Int → Dat} (hc : d.Calm) (h : RBx d.now ep t0 sq ls vw) (hep : ep < 8388608) (hsq : sq + ls.length ≤ 549755813888) (hf : d.Few k) (hk : k ≤ 700000) :
    Tri Tryz.prog 38 #[.pointer (some ⟨bD, 0, none⟩)] I [chD] fun r J S' => ∃ bV v e t1 chV chD', r = .tuple #[.pointer (some ⟨bV, 0, none⟩), .int .i64 0] ∧ Dk J bD e chD' ∧ Vk J bV bD v chV ∧ KV (ep + 1) t1 (sq + ls.length) v e [] 0 (k + 17) ∧ (∀ n : Int, 18 ≤ n → n < 64 → v.cur e n = vw n) ∧ e.safe = e.now ∧ S' = [chD', chV] := by
  obtain ⟨e, v, t1, a, w, hcur, _, hsn⟩ := mount_kv hc hD.wf h hep hsq hf
  have hm := vk_Mount hD (hf.mono hk)
  rw [a] at hm
  refine hm.mono ?_
  rintro r J S' hJ ⟨chD', hD', ⟨h0, _⟩ | ⟨_, v', bV, chV, hv, rfl, hV, rfl⟩⟩
  · exact absurd rfl h0
  · cases hv
    exact ⟨bV, v, e, t1, chV, chD', rfl, hD', hV, w, hcur, hsn, rfl⟩
theorem DSt.Few.crash {d : DSt} {k : Nat} (h : d.Few k) (keep : List Bool) (tn : Int) (sec : Nat) : (d.crash keep tn sec).Few k := ⟨by show ([] : List (Int × Dat)).length ≤ k; simp, h.2.1, h.2.2⟩
end Go.Proofs.YtegdcjnjnoeinaaGreat
namespace Go.Proofs.YtegdcjnjnoeinaaGreat
open Go.RowKit Go.Sl
set_option maxRecDepth 20000

end Go.Proofs.YtegdcjnjnoeinaaGreat
namespace Go.Proofs.YtegdcjnjnoeinaaGreat
open Go.RowKit Go.Sl
set_option maxRecDepth 20000

theorem right_one {ep sq : Nat} (hep : 1 ≤ ep ∧ ep ≤ 8388608) (hsq : 1 ≤ sq ∧ sq ≤ 549755813888) {n : Int} {b : Dat} (hn : 18 ≤ n ∧ n < 64) (hb : b.length = 4096) : RightP ep sq [(n, b)] := by
  refine ⟨by omega, by omega, by omega, by omega, by simp, by simp, ?_, by simp⟩
  intro g hg
  simp only [List.mem_singleton] at hg
  subst hg
  exact ⟨by dsimp only; omega, by dsimp only; omega, hb⟩
theorem home_one11 {n : Int} {b : Dat} (hn : 18 ≤ n ∧ n < 64) : HomeOk (layOf 64) [(n, b)] := of_home64 (by
  intro g hg
  simp only [List.mem_singleton] at hg
  subst hg; exact hn)
end Go.Proofs.YtegdcjnjnoeinaaGreat
namespace Go.Proofs.YtegdcjnjnoeinaaGreat
open Go.RowKit Go.Sl
set_option maxRecDepth 20000

/-- a disk, nothing armed -/
def DSt.still (d : DSt) : DSt := { d with arm := ⟨false, 0⟩, fault := ⟨false, 0⟩ }
theorem DSt.still_calm {d : DSt} (h : d.down = false) : d.still.Calm := ⟨h, rfl, rfl⟩
theorem DSt.stop_go {d : DSt} (h : d.stop.2 = 0) : d.stop.1.down = false ∧ d.down = false := by
  unfold DSt.stop at *
  cases hd : d.down with
  | true => rw [hd] at h; exact absurd h (by show ¬ (6 : Int) = 0; decide)
  | false =>
    rw [hd] at h
    cases ha : d.arm.step.2 with
    | true => rw [ha] at h; exact absurd h (by show ¬ (6 : Int) = 0; decide)
    | false => exact ⟨rfl, rfl⟩
theorem write_still {d : DSt} {n : Int} {b : Dat} (h : (d.write n b).2 = 0) : d.still.write n b = ((d.write n b).1.still, 0) ∧ (d.write n b).1.down = false := by
  obtain ⟨e1, e2, e3, e4⟩ := d.stop_same
  unfold DSt.write at *
  by_cases h1 : wrongE d.now.length n ≠ 0
  · rw [if_pos h1] at h; exact absurd h h1
  rw [if_neg h1] at h
  by_cases h2 : b.length ≠ 4096
  · rw [if_pos h2] at h; exact absurd h (by show ¬ (2 : Int) = 0; decide)
  rw [if_neg h2] at h
  by_cases h3 : d.stop.2 ≠ 0
  · rw [if_pos h3] at h; exact absurd h h3
  obtain ⟨g1, g2⟩ := DSt.stop_go (by omega : d.stop.2 = 0)
  rw [if_neg (show ¬ wrongE d.still.now.length n ≠ 0 from h1), if_neg h2, if_neg h1, if_neg h2, if_neg h3, DSt.stop_calm (DSt.still_calm g2), if_neg (by simp)]
  refine ⟨?_, g1⟩
  unfold DSt.still
  rw [e1, g1, g2]
theorem flush_still {d : DSt} (h : d.flush.2 = 0) : d.still.flush = (d.flush.1.still, 0) ∧ d.flush.1.down = false := by
  obtain ⟨e1, e2, e3, e4⟩ := d.stop_same
  unfold DSt.flush at *
  by_cases h3 : d.stop.2 ≠ 0
  · rw [if_pos h3] at h; exact absurd h h3
  obtain ⟨g1, g2⟩ := DSt.stop_go (by omega : d.stop.2 = 0)
  rw [if_neg h3, DSt.stop_calm (DSt.still_calm g2), if_neg (by simp)]
  refine ⟨?_, g1⟩
  unfold DSt.still
  dsimp only
  rw [e2, e4, g1, g2]
theorem write_any2 (d : DSt) (n : Int) (b : Dat) : (d.write n b).1.safe = d.safe ∧ (((d.write n b).2 = 0 ∧ (d.write n b).1.writes = d.writes ++ [(n, b)]) ∨ ((d.write n b).2 ≠ 0 ∧ (d.write n b).1.writes = d.writes)) := by
  obtain ⟨e1, e2, e3, e4⟩ := d.stop_same
  unfold DSt.write
  by_cases h1 : wrongE d.now.length n ≠ 0
  · rw [if_pos h1]; exact ⟨rfl, .inr ⟨h1, rfl⟩⟩
  rw [if_neg h1]
  by_cases h2 : b.length ≠ 4096
  · rw [if_pos h2]; exact ⟨rfl, .inr ⟨by show (2 : Int) ≠ 0; decide, rfl⟩⟩
  rw [if_neg h2]
  by_cases h3 : d.stop.2 ≠ 0
  · rw [if_pos h3]; exact ⟨e1, .inr ⟨h3, e3⟩⟩
  · rw [if_neg h3]; exact ⟨e1, .inl ⟨rfl, rfl⟩⟩
theorem wrAll_still (f : Nat → Int) : ∀ (bs : List Dat) (i : Nat) (d : DSt), d.down = false → (wrAll f bs i d).2 = 0 → wrAll f bs i d.still = ((wrAll f bs i d).1.still, 0) ∧ (wrAll f bs i d).1.down = false
  | [], _, _, hd, _ => ⟨rfl, hd⟩
  | b :: bs, i, d, _, h => by
    have hu : ∀ x : DSt, wrAll f (b :: bs) i x = if (x.write (f i) b).2 ≠ 0 then x.write (f i) b else wrAll f bs (i + 1) (x.write (f i) b).1 := fun _ => rfl
    rw [hu] at h
    by_cases h1 : (d.write (f i) b).2 ≠ 0
    · rw [if_pos h1] at h; exact absurd h h1
    obtain ⟨g1, g2⟩ := write_still (by omega : (d.write (f i) b).2 = 0)
    rw [hu d, hu d.still, g1, if_neg h1, if_neg (by simp)]
    rw [if_neg h1] at h
    exact wrAll_still f bs (i + 1) _ g2 h
theorem wrAll_any (t u : Nat) : ∀ (bs : List Dat) (i : Nat) (d : DSt), (wrAll (rgAt (t + u)) bs i d).1.safe = d.safe ∧ ∃ c, (wrAll (rgAt (t + u)) bs i d).1.writes = d.writes ++ wL t (u + i) (bs.take c)
  | [], _, _ => ⟨rfl, 0, by simp [wrAll, wL]⟩
  | b :: bs, i, d => by
    obtain ⟨e1, e2⟩ := write_any2 d (rgAt (t + u) i) b
    rw [wrAll]
    rcases e2 with ⟨h1, h2⟩ | ⟨h1, h2⟩
    · rw [if_neg (by omega)]
      obtain ⟨g1, c, g2⟩ := wrAll_any t u bs (i + 1) (d.write (rgAt (t + u) i) b).1
      refine ⟨by rw [g1, e1], c + 1, ?_⟩
      rw [g2, h2, List.take_succ_cons, wL, List.append_assoc]
      have : rgAt (t + u) i = ((2 + (t + (u + i)) % 16 : Nat) : Int) := by unfold rgAt; rw [Nat.add_assoc]
      rw [this]; rfl
    · rw [if_pos h1]
      exact ⟨e1, 0, by rw [h2]; simp [wL]⟩
theorem wrImgs_still : ∀ (l : List PImg) (d : DSt), d.down = false → (wrImgs l d).2 = 0 → wrImgs l d.still = ((wrImgs l d).1.still, 0) ∧ (wrImgs l d).1.down = false
  | [], _, hd, _ => ⟨rfl, hd⟩
  | g :: l, d, _, h => by
    have hu : ∀ x : DSt, wrImgs (g :: l) x = if (x.write g.1 g.2).2 ≠ 0 then x.write g.1 g.2 else wrImgs l (x.write g.1 g.2).1 := fun _ => rfl
    rw [hu] at h
    by_cases h1 : (d.write g.1 g.2).2 ≠ 0
    · rw [if_pos h1] at h; exact absurd h h1
    obtain ⟨g1, g2⟩ := write_still (by omega : (d.write g.1 g.2).2 = 0)
    rw [hu d, hu d.still, g1, if_neg h1, if_neg (by simp)]
    rw [if_neg h1] at h
    exact wrImgs_still l _ g2 h
theorem doP_still {d : DSt} (hd : d.down = false) {l : List PImg} {s : Sup} {slot : Int} (h : (doP d l s slot).2 = 0) : doP d.still l s slot = ((doP d l s slot).1.still, 0) ∧ (doP d l s slot).1.down = false := by
  unfold doP at *
  by_cases h1 : ¬ RightS s ∨ slot < 0 ∨ 1 < slot ∨ ¬ DoOk d l
  · rw [if_pos h1] at h; exact absurd h (by show ¬ (2 : Int) = 0; decide)
  rw [if_neg h1] at h
  rw [if_neg h1, if_neg (show ¬ (¬ RightS s ∨ slot < 0 ∨ 1 < slot ∨ ¬ DoOk d.still l) from h1)]
  by_cases h2 : (wrImgs l d).2 ≠ 0
  · rw [if_pos h2] at h; exact absurd h h2
  rw [if_neg h2] at h ⊢
  obtain ⟨g1, g2⟩ := wrImgs_still l d hd (by omega)
  rw [g1, if_neg (by simp)]
  generalize (wrImgs l d).1 = e at *
  by_cases h3 : e.flush.2 ≠ 0
  · rw [if_pos h3] at h; exact absurd h h3
  rw [if_neg h3] at h ⊢
  obtain ⟨g3, g4⟩ := flush_still (by omega : e.flush.2 = 0)
  rw [g3, if_neg (by simp)]
  generalize e.flush.1 = e2 at *
  unfold lastWr at *
  by_cases h4 : (e2.write slot (supL s)).2 ≠ 0
  · rw [if_pos h4] at h; exact absurd h h4
  rw [if_neg h4] at h ⊢
  obtain ⟨g5, g6⟩ := write_still (by omega : (e2.write slot (supL s)).2 = 0)
  rw [g5, if_neg (by simp)]
  exact flush_still h
section
variable {ep t0 sq m k : Nat} {v : VSt} {d : DSt} {ls : List (List PImg)} {j : JSt}
theorem WE.append_any (w : WE ep t0 sq j d.still ls k) (hup : d.down = false) {l : List PImg} (hR : RightP ep ((sq + ls.length : Nat) : Int) l) (hroom : usedP ls + (l.length + 1) ≤ 16) :
    ((j.appendB d l false).2.2.2 = 0 → j.appendB d.still l false = ((j.appendB d l false).1, (j.appendB d l false).2.1.still, (j.appendB d l false).2.2.1, 0) ∧ (j.appendB d l false).2.1.down = false) ∧
      (j.appendB d l false).2.1.safe = d.safe ∧ ∃ c, (j.appendB d l false).2.1.writes = d.writes ++ wL t0 (usedP ls) ((putP ep (sq + ls.length) l).take c) := by
  have hge := usedP_ge ls
  have hu := w.used
  have hR' : RightP j.epoch j.next l := by rw [w.epoch, w.next]; exact hR
  have hokd := w.room
  have hp : putS j.s j.t j.u j.h ((l.length : Int) + 1) (if false = true then (l.length : Int) + 1 else 0) = ((j.s, ((t0 % 16 : Nat) : Int), ((usedP ls : Nat) : Int) + ((l.length : Int) + 1), 0, 0), (((t0 % 16 : Nat) : Int) + (usedP ls : Nat)) % 16) := by
    have hok := hokd
    unfold Ok at hok
    rw [w.s, w.t, w.u, w.h]
    unfold putS
    rw [if_neg (by simp only [Bool.false_eq_true, if_false]; rintro (h | h | h | h | h); exact h hokd; omega; omega; omega; omega), if_neg (by simp only [Bool.false_eq_true, if_false]; omega)]
    simp only [Bool.false_eq_true, if_false, Int.sub_zero]
  have hs1 : ¬ j.s < (l.length : Int) + 1 := by rw [w.s]; omega
  have hll : j.lay.l = 2 := by rw [w.lay]; decide
  have hff : (fun k : Nat => j.lay.l + ((((t0 % 16 : Nat) : Int) + (usedP ls : Nat)) % 16 + k) % j.s) = rgAt (t0 + usedP ls) := by
    funext k
    rw [hll, w.s]; unfold rgAt; omega
  have he1 : j.epoch.toNat = ep := by rw [w.epoch]; rfl
  have he2 : j.next.toNat = sq + ls.length := by rw [w.next]; omega
  have hA : ∃ (J1 J2 : JSt), ∀ x : DSt, j.appendB x l false = if (wrAll (rgAt (t0 + usedP ls)) (putP ep (sq + ls.length) l) 0 x).2 ≠ 0 then (J1, (wrAll (rgAt (t0 + usedP ls)) (putP ep (sq + ls.length) l) 0 x).1, 0, (wrAll (rgAt (t0 + usedP ls)) (putP ep (sq + ls.length) l) 0 x).2)
      else (J2, (wrAll (rgAt (t0 + usedP ls)) (putP ep (sq + ls.length) l) 0 x).1, j.next, 0) := by
    refine ⟨{ j with s := j.s, t := ((t0 % 16 : Nat) : Int), u := ((usedP ls : Nat) : Int) + ((l.length : Int) + 1), h := 0, broken := true }, { j with s := j.s, t := ((t0 % 16 : Nat) : Int), u := ((usedP ls : Nat) : Int) + ((l.length : Int) + 1), h := 0, groups := j.groups ++ [(j.next, ((l.length : Int) + 1))], next := j.next + 1 }, fun x => ?_⟩
    unfold JSt.appendB JSt.append
    rw [if_neg (by rw [w.broken]; simp), if_neg (fun h => h hR'), if_neg hs1, hp]
    dsimp only
    rw [if_neg (by simp), hff, he1, he2]
  obtain ⟨J1, J2, hA⟩ := hA
  have hs := wrAll_still (rgAt (t0 + usedP ls)) (putP ep (sq + ls.length) l) 0 d hup
  obtain ⟨h1, c, h2⟩ := wrAll_any t0 (usedP ls) (putP ep (sq + ls.length) l) 0 d
  rw [hA d, hA d.still]
  generalize wrAll (rgAt (t0 + usedP ls)) (putP ep (sq + ls.length) l) 0 d = x at *
  by_cases hx : x.2 ≠ 0
  · rw [if_pos hx]
    exact ⟨fun h => absurd h hx, h1, c, h2⟩
  · rw [if_neg hx]
    obtain ⟨g1, g2⟩ := hs (by omega)
    refine ⟨fun _ => ⟨?_, g2⟩, h1, c, h2⟩
    rw [g1, if_neg (by simp)]
end
end Go.Proofs.YtegdcjnjnoeinaaGreat
namespace Go.Proofs.YtegdcjnjnoeinaaGreat
open Go.RowKit Go.Sl
set_option maxRecDepth 20000

/-- what is shown behind the first n groups -/
def viewN (safe : List Dat) (ls : List (List PImg)) (n : Nat) : Int → Dat := fun x => (lastD (ls.take n).flatten x).getD (safe.getD x.toNat [])
/-- whatever a crash keeps, the disk can be mounted, and shows what is behind m groups at least -/
def CrashTo (d : DSt) (epm sqm : Nat) (V : (Int → Dat) → Prop) : Prop := ∀ keep tn sec, ∃ ep t sq ls vw, RBx (d.crash keep tn sec).now ep t sq ls vw ∧ V vw ∧ ep ≤ epm ∧ sq + ls.length ≤ sqm
section
variable {ep t0 sq m k : Nat} {v : VSt} {d : DSt} {ls : List (List PImg)}
theorem KC.to {safe : List Dat} {writes : List (Int × Dat)} (h : KC ep t0 sq safe writes ls m) (hep : ep ≤ 8388608) {sqm : Nat} (hsq : sq + ls.length ≤ sqm) (hsm : sqm ≤ 549755813889) {d : DSt} (hs : d.safe = safe) (hw : d.writes = writes) : CrashTo d ep sqm (fun vw => ∃ n, m ≤ n ∧ n ≤ ls.length ∧ vw = viewN safe ls n) := by
  intro keep tn sec
  obtain ⟨n, h1, h2, h3⟩ := h.crash hep (by omega) keep tn sec
  subst hs hw
  exact ⟨ep, _, sq, _, _, h3, ⟨n, h1, h2, rfl⟩, Nat.le_refl _, by rw [List.length_take]; omega⟩
theorem KV.to (w : KV ep t0 sq v d.still ls m k) (hsq : sq + ls.length ≤ 549755813889) : CrashTo d ep (sq + ls.length) (fun vw => ∃ n, m ≤ n ∧ n ≤ ls.length ∧ vw = viewN d.safe ls n) :=
  w.kc.to w.w.e.epr.2 (Nat.le_refl _) hsq rfl rfl
theorem KV.sync_any (w : KV ep t0 sq v d.still ls m k) :
    (∃ v' d', v.sync d = (v', d', 0) ∧ d'.down = false ∧ KV ep t0 sq v' d'.still ls ls.length k ∧ d'.safe = d.now) ∨
    (∃ v' d' e, v.sync d = (v', d', e) ∧ e ≠ 0 ∧ v'.broken = true ∧ d'.safe = d.safe ∧ d'.writes = d.writes) := by
  have hb : v.j.broken = false := w.w.e.broken
  have hbv := w.w.broken
  have hf : ∀ x : DSt, v.j.flush x = if x.flush.2 ≠ 0 then ({ v.j with broken := true }, x.flush.1, x.flush.2) else ({ v.j with synced := v.j.next - 1 }, x.flush.1, 0) := fun x => by
    unfold JSt.flush; rw [if_neg (by rw [hb]; simp)]
  have hs : ∀ x : DSt, v.sync x = ({ v with j := (v.j.flush x).1, broken := decide ((v.j.flush x).2.2 ≠ 0) }, (v.j.flush x).2.1, (v.j.flush x).2.2) := fun x => by
    unfold VSt.sync; rw [if_neg (by rw [hbv]; simp)]
  rcases flush_any d with ⟨f0, f1, f2, f3⟩ | ⟨f0, f1, f2, f3⟩
  · left
    obtain ⟨g1, g2⟩ := flush_still f0
    obtain ⟨v', d', a, w', _, _⟩ := w.sync
    have e1 : v.sync d.still = ((v.sync d).1, d.flush.1.still, 0) := by
      rw [hs, hs, hf, hf, g1, if_neg (by simp), if_neg (by omega)]
    have e2 : v.sync d = ((v.sync d).1, d.flush.1, 0) := by
      rw [hs, hf, if_neg (by omega)]
    rw [e1] at a
    obtain ⟨a1, a2⟩ := Prod.mk.inj a
    have a2 := (Prod.mk.inj a2).1
    refine ⟨v', d.flush.1, by rw [e2, a1], g2, by rw [a2]; exact w', f1⟩
  · right
    have e2 : v.sync d = ({ v with j := { v.j with broken := true }, broken := decide (d.flush.2 ≠ 0) }, d.flush.1, d.flush.2) := by
      rw [hs, hf, if_pos f0]
    exact ⟨_, _, _, e2, f0, decide_eq_true f0, f1, f2⟩
theorem KV.app_any (w : KV ep t0 sq v d.still ls m k) (hup : d.down = false) {l : List PImg} (hho : HomeOk (layOf 64) l) (hR : RightP ep ((sq + ls.length : Nat) : Int) l) (hroom : usedP ls + (l.length + 1) ≤ 16) :
    (∃ v' d', v.app d l = (v', d', ((sq + ls.length : Nat) : Int), 0) ∧ d'.down = false ∧ KV ep t0 sq v' d'.still (ls ++ [l]) m (k + 16) ∧ d'.safe = d.safe) ∨
    (∃ v' d' e, v.app d l = (v', d', 0, e) ∧ e ≠ 0 ∧ v'.broken = true ∧ CrashTo d' ep (sq + ls.length + 1) (fun vw => ∃ n, m ≤ n ∧ n ≤ ls.length + 1 ∧ vw = viewN d.safe (ls ++ [l]) n)) := by
  obtain ⟨h1, h2, c, h3⟩ := w.w.e.append_any hup hR hroom
  have hle := w.le
  obtain ⟨A, hA⟩ : ∃ A, A = v.j.appendB d l false := ⟨_, rfl⟩
  rw [← hA] at h1 h2 h3
  by_cases he : A.2.2.2 = 0
  · left
    obtain ⟨g1, g2⟩ := h1 he
    obtain ⟨v', d', a, w', _⟩ := w.app hho hR hroom
    have e1 : v.app d.still l = ((v.app d l).1, A.2.1.still, A.2.2.1, 0) := by
      unfold VSt.app
      rw [g1, ← hA, if_neg (by simp), if_neg (by omega)]
    have e2 : v.app d l = ((v.app d l).1, A.2.1, A.2.2.1, 0) := by
      unfold VSt.app
      rw [← hA, if_neg (by omega)]
    rw [e1] at a
    obtain ⟨a1, a2⟩ := Prod.mk.inj a
    obtain ⟨a2, a3⟩ := Prod.mk.inj a2
    have a3 := (Prod.mk.inj a3).1
    exact ⟨v', A.2.1, by rw [e2, a1, a3], g2, by rw [a2]; exact w', h2⟩
  · right
    have e2 : v.app d l = ({ v with j := A.1, broken := true }, A.2.1, 0, A.2.2.2) := by
      unfold VSt.app
      rw [← hA, if_pos he]
    refine ⟨_, _, _, e2, he, rfl, ?_⟩
    have hk := w.kc
    have htk : (ls ++ [l]).take m = ls.take m := by rw [List.take_append_of_le_length hle]
    have hdr : (ls ++ [l]).drop m = ls.drop m ++ [l] := by rw [List.drop_append_of_le_length hle]
    have hsp := usedP_split ls m
    have hrd := ringB_length ep (ls.drop m) (sq + m)
    have hrdl : (ls.drop m).length = ls.length - m := List.length_drop
    have hsq := hR.2.2.2.1
    have kc : KC ep t0 sq d.safe A.2.1.writes (ls ++ [l]) m := by
      refine ⟨hk.len, hk.all, hk.sup, by simp; omega, ?_, by rw [usedP_snoc]; exact hroom, ?_, ?_, ?_, fun o h1 h2 => hk.rest o (by rw [htk] at h1; exact h1) h2⟩
      · refine ⟨usedP (ls.drop m) + min c (l.length + 1), ?_⟩
        rw [h3, show d.writes = d.still.writes from rfl, w.wr, htk, hdr, ringB_snoc, hrdl, show sq + m + (ls.length - m) = sq + ls.length by omega, List.take_append, hrd, wL_append]
        rw [List.take_of_length_le (show (ringB ep (sq + m) (ls.drop m)).length ≤ _ by omega), hrd, ← hsp]
        congr 2
        have hpl := putP_length ep (sq + ls.length) l
        rw [show usedP (ls.drop m) + min c (l.length + 1) - usedP (ls.drop m) = min c (l.length + 1) by omega, ← hpl, List.take_eq_take_min]
      · intro i hi
        rw [List.getElem_append]
        split
        · rename_i h; exact hk.right i h
        · rename_i h
          simp only [List.length_append, List.length_singleton] at hi
          obtain rfl : i = ls.length := by omega
          simpa using hR
      · intro g hg
        rw [List.flatten_append] at hg
        rcases List.mem_append.1 hg with hg | hg
        · exact hk.home g hg
        · exact hho g (by simpa using hg)
      · intro o ho hlt
        rw [htk] at hlt
        have hrl := ringB_length ep ls sq
        have hlt2 : o < (ringB ep sq ls).length := by omega
        have hkr := hk.ring o hlt2 hlt
        show d.still.safe.getD _ [] = _
        rw [hkr]
        have e0 : (ringB ep sq (ls ++ [l]))[o]? = (ringB ep sq ls)[o]? := by rw [ringB_snoc, List.getElem?_append_left hlt2]
        rw [List.getElem?_eq_getElem ho, List.getElem?_eq_getElem hlt2] at e0
        exact (Option.some.inj e0).symm
    have := kc.to w.w.e.epr.2 (sqm := sq + ls.length + 1) (by simp; omega) (by omega) (d := A.2.1) h2 rfl
    intro keep tn sec
    obtain ⟨e1, t1, s1, l1, vw, r1, ⟨n, n1, n2, n3⟩, r3, r4⟩ := this keep tn sec
    exact ⟨e1, t1, s1, l1, vw, r1, ⟨n, n1, by simpa using n2, n3⟩, r3, r4⟩
theorem older_next (w : KV ep t0 sq v d.still ls m k) : Older ⟨64, (ep : Int), (sq : Int), ((t0 % 16 : Nat) : Int)⟩ ⟨64, (ep : Int), ((sq + ls.length : Nat) : Int), (((t0 + usedP ls) % 16 : Nat) : Int)⟩ := by
  by_cases h0 : ls = []
  · left; subst h0; simp [usedP]
  · right; right
    have : 0 < ls.length := List.length_pos_iff.2 h0
    exact ⟨rfl, by show (sq : Int) < ((sq + ls.length : Nat) : Int); omega⟩
theorem KV.old_now (w : KV ep t0 sq v d ls m k) {o : Nat} (ho : o < 16) : Old ep (sq + ls.length) (d.now.getD (2 + o) []) ∧ Old (ep + 1) 0 (d.now.getD (2 + o) []) := by
  have hrl := ringB_length ep ls sq
  have hle := w.le
  obtain ⟨o', ho', he⟩ : ∃ o', o' < 16 ∧ (t0 + o') % 16 = o := ⟨(o + 16 - t0 % 16) % 16, by omega, by omega⟩
  rw [← he]
  by_cases hou : o' < usedP ls
  · have := w.w.e.ring o' (by omega)
    unfold rbP at this
    rw [this]
    obtain ⟨q1, s', q2, q3, q4⟩ := ringB_bears2 ls sq w.w.e.right _ (List.getElem_mem (show o' < (ringB ep sq ls).length by omega))
    exact ⟨old_bears q1 q4 w.w.e.epr.2 q3 q2, bears_old1 q1 q4 w.w.e.epr.2 q3⟩
  · rw [w.nowrest o' (by omega) ho']
    have := w.rest o' (by have := usedP_split ls m; omega) ho'
    exact ⟨this.mono (by omega), this.mono (by omega)⟩
theorem KV.ckpt_any (w : KV ep t0 sq v d.still ls m k) (_hup : d.down = false) (hsq : sq + ls.length ≤ 549755813888) :
    (∃ v' d', v.ckpt d = (v', d', 0) ∧ d'.down = false ∧ KV ep (t0 + usedP ls) (sq + ls.length) v' d'.still [] 0 (k + 17) ∧ (∀ x : Int, 18 ≤ x → x < 64 → d'.safe.getD x.toNat [] = viewN d.safe ls ls.length x)) ∨
    (∃ v' d' e, v.ckpt d = (v', d', e) ∧ e ≠ 0 ∧ v'.broken = true ∧ CrashTo d' ep (sq + ls.length) (fun vw => ∃ n, m ≤ n ∧ n ≤ ls.length ∧ ∀ x : Int, 18 ≤ x → x < 64 → vw x = viewN d.safe ls n x)) := by
  have hb : v.j.broken = false := w.w.e.broken
  have hbv := w.w.broken
  have hle := w.le
  have hslot := w.w.slot
  have hf : ∀ x : DSt, v.j.flush x = if x.flush.2 ≠ 0 then ({ v.j with broken := true }, x.flush.1, x.flush.2) else ({ v.j with synced := v.j.next - 1 }, x.flush.1, 0) := fun x => by
    unfold JSt.flush; rw [if_neg (by rw [hb]; simp)]
  have hck : ∀ x : DSt, v.ckpt x = if (v.ckS x).1 ≠ 0 then ({ v with j := (v.ckS x).2.1, broken := true }, (v.ckS x).2.2, (v.ckS x).1) else ({ v with j := (v.ckS x).2.1, slot := 1 - v.slot, fresh := [] }, (v.ckS x).2.2, 0) := fun x => by
    unfold VSt.ckpt; rw [if_neg (by rw [hbv]; simp)]
  rcases flush_any d with ⟨f0, f1, f2, f3⟩ | ⟨f0, f1, f2, f3⟩
  rotate_left
  · right
    have e1 : v.ckS d = (d.flush.2, { v.j with broken := true }, d.flush.1) := by
      unfold VSt.ckS
      rw [hf, if_pos f0]
      dsimp only
      rw [if_pos f0]
    refine ⟨_, _, _, by rw [hck, e1]; dsimp only; rw [if_pos f0], f0, rfl, ?_⟩
    intro keep tn sec
    obtain ⟨a1, a2, a3, a4, a5, a6, ⟨n, n1, n2, rfl⟩, a8, a9⟩ := w.kc.to w.w.e.epr.2 (Nat.le_refl _) (by omega) f1 f2 keep tn sec
    exact ⟨a1, a2, a3, a4, _, a6, ⟨n, n1, n2, fun _ _ _ => rfl⟩, a8, a9⟩
  obtain ⟨g1, g2⟩ := flush_still f0
  -- what lies there behind the flush
  obtain ⟨vs, ds, has0, ws, _, _⟩ := w.sync
  have hrx := ws.rbx rfl
  have hss : ds.safe = d.now := by
    have hst : VSt.sync v d.still = ({ v with j := { v.j with synced := v.j.next - 1 }, broken := false }, d.flush.1.still, 0) := by
      unfold VSt.sync
      rw [if_neg (by rw [hbv]; simp), hf, g1, if_neg (by simp)]
      rfl
    rw [hst] at has0
    have := (Prod.mk.inj (Prod.mk.inj has0).2).1
    rw [← this]; exact f1
  have hsl0 : v.slot.toNat = 0 ∨ v.slot.toNat = 1 := by rcases hslot with h | h <;> simp [h]
  have hsli : ((v.slot.toNat : Nat) : Int) = v.slot := by rcases hslot with h | h <;> simp [h]
  have hsupn : SupAt d.now (1 - v.slot.toNat) ⟨64, ep, sq, ((t0 % 16 : Nat) : Int)⟩ := w.sup.same (w.same 0 (by omega) (by omega)) (w.same 1 (by omega) (by omega))
  have hview : ∀ x : Int, 18 ≤ x → x < 64 → viewN d.safe ls ls.length x = (lastD ls.flatten x).getD (d.now.getD x.toNat []) := fun x h1 h2 => by
    have hs : d.now.getD x.toNat [] = d.safe.getD x.toNat [] := w.same x.toNat (by omega) (by omega)
    unfold viewN
    rw [List.take_length, hs]
  rw [hss] at hrx
  obtain ⟨d1, hd1⟩ : ∃ d1, d1 = d.flush.1 := ⟨_, rfl⟩
  rw [← hd1] at f1 f2 f3 g1 g2
  have hho := w.w.fresh_home
  have hok : DoOk d1 (sortP v.fresh) := fun g hg => by
    obtain ⟨h1, h2, h3⟩ := hho g hg
    have hlen : d1.now.length = 64 := by rw [f3]; exact w.w.e.len
    exact ⟨by omega, by rw [hlen]; exact h2, h3⟩
  have hep := w.w.e.epr
  have hpos := w.w.e.pos
  have hRs : RightS ⟨64, (ep : Int), ((sq + ls.length : Nat) : Int), (((t0 + usedP ls) % 16 : Nat) : Int)⟩ :=
    ⟨by show (64 : Int) ≤ 64; decide, by show (64 : Int) ≤ 512; decide, by show (1 : Int) ≤ (ep : Int); omega, by show (ep : Int) ≤ 8388608; omega, by show (1 : Int) ≤ ((sq + ls.length : Nat) : Int); omega, by show ((sq + ls.length : Nat) : Int) ≤ 549755813888; omega, by show (0 : Int) ≤ (((t0 + usedP ls) % 16 : Nat) : Int); omega, by show (((t0 + usedP ls) % 16 : Nat) : Int) ≤ 511; omega⟩
  obtain ⟨hds, hdo⟩ := do_any (d := d1) f2 (by rw [f1, f3]) (by rw [f3]; exact w.w.e.len) hok hRs (slot := v.slot.toNat) (by omega)
  rw [hsli] at hds hdo
  have hsup := w.w.sup
  have hfl : v.j.flush d = ({ v.j with synced := v.j.next - 1 }, d1, 0) := by rw [hf, if_neg (by omega), ← hd1]
  obtain ⟨P, hP⟩ : ∃ P, P = doP d1 (sortP v.fresh) v.sup v.slot := ⟨_, rfl⟩
  rw [← hsup, ← hP] at hds hdo
  by_cases hpe : P.2 ≠ 0
  · right
    have e1 : v.ckS d = (P.2, { v.j with synced := v.j.next - 1 }, P.1) := by
      unfold VSt.ckS
      rw [hfl]
      dsimp only
      rw [if_neg (by simp), ← hP, if_pos hpe]
    refine ⟨_, _, _, by rw [hck, e1]; dsimp only; rw [if_pos hpe], hpe, rfl, ?_⟩
    intro keep tn sec
    rw [f3, show v.slot.toNat = 1 - (1 - v.slot.toNat) by omega, hsup] at hds
    have hcr := do_crash hrx hsupn (fun g hg => hho g hg) (by rw [w.w.fresh]; exact homeP_nodup _) (fun n => by rw [lastD_sortP, w.w.lookup]) hRs (older_next w) (Nat.mod_lt _ (by decide)) (fun o ho => w.old_now ho) hds keep tn sec
    rcases hcr with hcr | hcr
    · exact ⟨_, _, _, _, _, hcr, ⟨ls.length, hle, Nat.le_refl _, fun x h1 h2 => (hview x h1 h2).symm⟩, Nat.le_refl _, Nat.le_refl _⟩
    · exact ⟨_, _, _, _, _, hcr, ⟨ls.length, hle, Nat.le_refl _, fun x h1 h2 => (hview x h1 h2).symm⟩, Nat.le_refl _, by simp⟩
  left
  have hp0 : P.2 = 0 := by omega
  obtain ⟨p1, p2⟩ := doP_still g2 (by rw [← hP]; exact hp0 : (doP d1 (sortP v.fresh) v.sup v.slot).2 = 0)
  rw [← hP] at p1 p2
  obtain ⟨v', d', a, w', _⟩ := w.ckpt hsq
  obtain ⟨⟨r1, e⟩, hr⟩ : ∃ p : JSt × Int, ({ v.j with synced := v.j.next - 1 } : JSt).release (v.j.next - 1) = p := ⟨_, rfl⟩
  have c1 : v.ckS d = (e, r1, P.1) := by
    unfold VSt.ckS
    rw [hfl]
    dsimp only
    rw [if_neg (by simp), ← hP, if_neg (by omega), hr]
  have c2 : v.ckS d.still = (e, r1, P.1.still) := by
    have hfs : v.j.flush d.still = ({ v.j with synced := v.j.next - 1 }, d1.still, 0) := by rw [hf, g1, if_neg (by simp)]
    unfold VSt.ckS
    rw [hfs]
    dsimp only
    rw [if_neg (by simp), p1]
    dsimp only
    rw [if_neg (by simp), hr]
  rw [hck, c2] at a
  dsimp only at a
  by_cases he : e ≠ 0
  · rw [if_pos he] at a
    exact absurd (Prod.mk.inj (Prod.mk.inj a).2).2 he
  rw [if_neg he] at a
  obtain ⟨a1, a2⟩ := Prod.mk.inj a
  have a2 := (Prod.mk.inj a2).1
  refine ⟨v', P.1, ?_, p2, by rw [a2]; exact w', fun x h1 h2 => ?_⟩
  · rw [hck, c1]
    dsimp only
    rw [if_neg he, a1]
  · obtain ⟨q1, _, _⟩ := hdo hp0
    rw [q1, hview x h1 h2, List.getD_eq_getElem?_getD, List.getElem?_set_ne (by omega), ← List.getD_eq_getElem?_getD]
    rw [wrB_get (fun g hg => by have := hho g hg; have hlen : d1.now.length = 64 := by rw [f3]; exact w.w.e.len
                                omega) x.toNat (by rw [f3]; show _ < d.still.now.length; rw [w.w.e.len]; omega)]
    rw [show ((x.toNat : Nat) : Int) = x by omega, lastD_sortP, w.w.lookup, f3]
end
end Go.Proofs.YtegdcjnjnoeinaaGreat
namespace Go.Proofs.YtegdcjnjnoeinaaGreat
open Go.RowKit Go.Sl
set_option maxRecDepth 20000

/-- six blocks -/
def six (f : Int → Dat) : List Dat := (List.range 6).map fun i : Nat => f (30 + (i : Int))
theorem six_congr {f g : Int → Dat} (h : ∀ x : Int, 18 ≤ x → x < 64 → f x = g x) : six f = six g := by
  unfold six
  refine List.map_congr_left fun i hi => ?_
  have := List.mem_range.1 hi
  exact h _ (by omega) (by omega)
/-- six blocks behind a commit -/
def behindL (was : List Dat) (l : List PImg) : List Dat := (List.range 6).map fun i : Nat => (lastD l (30 + (i : Int))).getD (was.getD i [])
/-- what is told: some state from there on -/
def ToldS (states : List (List Dat)) (sure : Nat) : (Int → Dat) → Prop := fun vw => ∃ i, sure ≤ i ∧ states[i]? = some (six vw)
theorem ToldS.app {states : List (List Dat)} {sure : Nat} {vw : Int → Dat} (h : ToldS states sure vw) (x : List (List Dat)) : ToldS (states ++ x) sure vw := by
  obtain ⟨i, h1, h2⟩ := h
  have := (List.getElem?_eq_some_iff.1 h2).1
  exact ⟨i, h1, by rw [List.getElem?_append_left this]; exact h2⟩
theorem CrashTo.mono {d : DSt} {e s e' s' : Nat} {V V' : (Int → Dat) → Prop} (h : CrashTo d e s V) (he : e ≤ e') (hs : s ≤ s') (hV : ∀ vw, V vw → V' vw) : CrashTo d e' s' V' := by
  intro keep tn sec
  obtain ⟨a1, a2, a3, a4, vw, a6, a7, a8, a9⟩ := h keep tn sec
  exact ⟨a1, a2, a3, a4, vw, a6, hV _ a7, by omega, by omega⟩
structure SK (ep t0 sq : Nat) (v : VSt) (d : DSt) (ls : List (List PImg)) (m k : Nat) (states : List (List Dat)) (b : Nat) : Prop where
  kv : KV ep t0 sq v d.still ls m k
  up : d.down = false
  len : states.length = b + ls.length + 1
  st : ∀ i, i ≤ ls.length → states[b + i]? = some (six (viewN d.safe ls i))
section
variable {ep t0 sq m k : Nat} {v : VSt} {d : DSt} {ls : List (List PImg)} {states : List (List Dat)} {b sure : Nat}
theorem SK.to (w : SK ep t0 sq v d ls m k states b) (hs : sure ≤ b + m) (hsq : sq + ls.length ≤ 549755813889) : CrashTo d ep (sq + ls.length) (ToldS states sure) := by
  refine (w.kv.to hsq).mono (Nat.le_refl _) (Nat.le_refl _) ?_
  rintro vw ⟨n, h1, h2, rfl⟩
  exact ⟨b + n, by omega, w.st n h2⟩
theorem SK.sync (w : SK ep t0 sq v d ls m k states b) (hs : sure ≤ b + m) (hsq : sq + ls.length ≤ 549755813889) :
    (∃ v' d', v.sync d = (v', d', 0) ∧ SK ep t0 sq v' d' ls ls.length k states b ∧ states.length - 1 = b + ls.length) ∨
    (∃ v' d' e, v.sync d = (v', d', e) ∧ e ≠ 0 ∧ v'.broken = true ∧ CrashTo d' ep (sq + ls.length) (ToldS states sure)) := by
  have hl := w.len
  rcases w.kv.sync_any with ⟨v', d', a, h1, h2, h3⟩ | ⟨v', d', e, a, h1, h2, h3, h4⟩
  · left
    refine ⟨v', d', a, ⟨h2, h1, w.len, fun i hi => ?_⟩, by omega⟩
    rw [w.st i hi, h3]
    congr 1
    refine six_congr fun x g1 g2 => ?_
    have hsm : d.now.getD x.toNat [] = d.safe.getD x.toNat [] := w.kv.same x.toNat (by omega) (by omega)
    unfold viewN
    rw [hsm]
  · right
    refine ⟨v', d', e, a, h1, h2, ?_⟩
    intro keep tn sec
    have := w.to hs hsq keep tn sec
    have e1 : (d'.crash keep tn sec).now = (d.crash keep tn sec).now := by
      show crashK _ _ _ _ _ _ = crashK _ _ _ _ _ _
      rw [h3, h4]
    rw [e1]; exact this
theorem SK.ckpt (w : SK ep t0 sq v d ls m k states b) (hs : sure ≤ b + m) (hsq : sq + ls.length ≤ 549755813888) :
    (∃ v' d', v.ckpt d = (v', d', 0) ∧ SK ep (t0 + usedP ls) (sq + ls.length) v' d' [] 0 (k + 17) states (b + ls.length) ∧ states.length - 1 = b + ls.length) ∨
    (∃ v' d' e, v.ckpt d = (v', d', e) ∧ e ≠ 0 ∧ v'.broken = true ∧ CrashTo d' ep (sq + ls.length) (ToldS states sure)) := by
  have hl := w.len
  rcases w.kv.ckpt_any w.up hsq with ⟨v', d', a, h1, h2, h3⟩ | ⟨v', d', e, a, h1, h2, h3⟩
  · left
    refine ⟨v', d', a, ⟨h2, h1, by simpa using hl, fun i hi => ?_⟩, by omega⟩
    obtain rfl : i = 0 := by simpa using hi
    rw [Nat.add_zero, w.st ls.length (Nat.le_refl _)]
    congr 1
    refine six_congr fun x g1 g2 => ?_
    show _ = (d'.safe.getD x.toNat [])
    rw [h3 x g1 g2]
  · right
    refine ⟨v', d', e, a, h1, h2, h3.mono (Nat.le_refl _) (Nat.le_refl _) ?_⟩
    rintro vw ⟨n, n1, n2, n3⟩
    exact ⟨b + n, by omega, by rw [w.st n n2, six_congr n3]⟩
theorem viewN_snoc {safe : List Dat} {l : List PImg} (x : Int) : viewN safe (ls ++ [l]) (ls.length + 1) x = (lastD l x).getD (viewN safe ls ls.length x) := by
  unfold viewN
  rw [show ls.length + 1 = (ls ++ [l]).length by simp, List.take_length, List.take_length, List.flatten_append, List.flatten_singleton]
  have hla : lastD (ls.flatten ++ l) x = (lastD l x).or (lastD ls.flatten x) := by
    refine snoc_ind (p := fun l : List PImg => lastD (ls.flatten ++ l) x = (lastD l x).or (lastD ls.flatten x)) ?_ ?_ l
    · rw [List.append_nil]; simp [lastD]
    · intro l g ih
      rw [← List.append_assoc, lastD_snoc, lastD_snoc]
      split
      · rfl
      · exact ih
  rw [hla]
  cases lastD l x <;> rfl
theorem viewN_pre {safe : List Dat} {l : List PImg} {i : Nat} (hi : i ≤ ls.length) : viewN safe (ls ++ [l]) i = viewN safe ls i := by
  unfold viewN
  rw [List.take_append_of_le_length hi]
theorem SK.app (w : SK ep t0 sq v d ls m k states b) (hs : sure ≤ b + m) {l : List PImg} (hho : HomeOk (layOf 64) l) (hR : RightP ep ((sq + ls.length : Nat) : Int) l) (hroom : usedP ls + (l.length + 1) ≤ 16) {last : List Dat} (hlast : states[states.length - 1]? = some last) :
    (∃ v' d', v.app d l = (v', d', ((sq + ls.length : Nat) : Int), 0) ∧ SK ep t0 sq v' d' (ls ++ [l]) m (k + 16) (states ++ [behindL last l]) b) ∨
    (∃ v' d' e, v.app d l = (v', d', 0, e) ∧ e ≠ 0 ∧ v'.broken = true ∧ CrashTo d' ep (sq + ls.length + 1) (ToldS (states ++ [behindL last l]) sure)) := by
  have hl := w.len
  have hle := w.kv.le
  have e1 : last = six (viewN d.safe ls ls.length) := by
    have := w.st ls.length (Nat.le_refl _)
    rw [show b + ls.length = states.length - 1 by omega, hlast] at this
    exact Option.some.inj this
  have e2 : behindL last l = six (viewN d.safe (ls ++ [l]) (ls.length + 1)) := by
    unfold behindL six
    refine List.map_congr_left fun i hi => ?_
    have hi := List.mem_range.1 hi
    rw [viewN_snoc, e1]
    congr 1
    unfold six
    rw [List.getD_eq_getElem?_getD, List.getElem?_map, List.getElem?_range hi]; rfl
  have hst : ∀ i, i ≤ ls.length + 1 → (states ++ [behindL last l])[b + i]? = some (six (viewN d.safe (ls ++ [l]) i)) := by
    intro i hi
    by_cases h : i ≤ ls.length
    · rw [List.getElem?_append_left (by omega), w.st i h, viewN_pre h]
    · obtain rfl : i = ls.length + 1 := by omega
      rw [List.getElem?_append_right (by omega), show b + (ls.length + 1) - states.length = 0 by omega, e2]; rfl
  rcases w.kv.app_any w.up hho hR hroom with ⟨v', d', a, h1, h2, h3⟩ | ⟨v', d', e, a, h1, h2, h3⟩
  · left
    refine ⟨v', d', a, ⟨h2, h1, by simp; omega, fun i hi => ?_⟩⟩
    rw [h3]
    exact hst i (by simpa using hi)
  · right
    refine ⟨v', d', e, a, h1, h2, h3.mono (Nat.le_refl _) (Nat.le_refl _) ?_⟩
    rintro vw ⟨n, n1, n2, rfl⟩
    exact ⟨b + n, by omega, hst n n2⟩
theorem SK.commit (w : SK ep t0 sq v d ls m k states b) (hs : sure ≤ b + m) {l : List PImg} (hho : HomeOk (layOf 64) l) (hR : RightP ep ((sq + ls.length : Nat) : Int) l) (hl : l.length + 1 ≤ 16) {last : List Dat} (hlast : states[states.length - 1]? = some last) :
    (∃ v' d' t1 sq' ls' m' b', v.commit d l = (v', d', ((sq + ls.length : Nat) : Int), 0) ∧ SK ep t1 sq' v' d' ls' m' (k + 33) (states ++ [behindL last l]) b' ∧ sure ≤ b' + m' ∧ sq' + ls'.length = sq + ls.length + 1) ∨
    (∃ v' d' e, v.commit d l = (v', d', 0, e) ∧ e ≠ 0 ∧ v'.broken = true ∧ CrashTo d' ep (sq + ls.length + 1) (ToldS (states ++ [behindL last l]) sure)) := by
  have hll := hR.2.2.2.2.1
  have hle := w.kv.le
  have hsq : sq + ls.length ≤ 549755813888 := by have := hR.2.2.2.1; omega
  have hb : blocksN (l.length : Int) = l.length + 1 := by unfold blocksN; rw [if_neg (by omega)]
  have hu := w.kv.w.e.used
  have hc : v.commit d l = if v.j.s - v.j.u - v.j.h < blocksN l.length then (if (v.ckpt d).2.2 ≠ 0 then ((v.ckpt d).1, (v.ckpt d).2.1, 0, (v.ckpt d).2.2) else (v.ckpt d).1.app (v.ckpt d).2.1 l) else v.app d l := by
    unfold VSt.commit
    rw [if_neg (by rw [w.kv.w.broken]; simp), if_neg (by rw [w.kv.w.e.lay]; exact fun h => h hho), if_neg (by rw [w.kv.w.epoch, w.kv.w.e.next]; exact fun h => h hR), if_neg (by rw [w.kv.w.fits ⟨hll, hl⟩]; simp)]
  rw [hc, hb, w.kv.w.e.s, w.kv.w.e.u, w.kv.w.e.h]
  by_cases hr : (16 : Int) - ((usedP ls : Nat) : Int) - 0 < (l.length : Int) + 1
  · rw [if_pos hr]
    rcases w.ckpt hs hsq with ⟨v1, d1, a1, w1, _⟩ | ⟨v1, d1, e, a1, h1, h2, h3⟩
    · rw [a1]
      dsimp only
      rw [if_neg (by simp)]
      rcases w1.app (sure := sure) (by omega) hho (by simpa using hR) (by simp [usedP]; omega) hlast with ⟨v2, d2, a2, w2⟩ | ⟨v2, d2, e, a2, h1, h2, h3⟩
      · left
        exact ⟨v2, d2, _, _, _, _, _, a2, { w2 with kv := w2.kv.mono (by omega) }, by omega, by simp⟩
      · right
        exact ⟨v2, d2, e, a2, h1, h2, h3.mono (Nat.le_refl _) (by simp) (fun _ h => h)⟩
    · right
      rw [a1]
      dsimp only
      rw [if_pos h1]
      exact ⟨v1, d1, e, rfl, h1, h2, h3.mono (Nat.le_refl _) (by omega) (fun _ h => h.app _)⟩
  · rw [if_neg hr]
    rcases w.app hs hho hR (by omega) hlast with ⟨v2, d2, a2, w2⟩ | ⟨v2, d2, e, a2, h1, h2, h3⟩
    · left
      exact ⟨v2, d2, _, _, _, _, _, a2, { w2 with kv := w2.kv.mono (by omega) }, hs, by simp; omega⟩
    · right
      exact ⟨v2, d2, e, a2, h1, h2, h3⟩
end
end Go.Proofs.YtegdcjnjnoeinaaGreat
namespace Go.Proofs.YtegdcjnjnoeinaaGreat
open Go.RowKit Go.Sl
set_option maxRecDepth 20000

end Go.Proofs.YtegdcjnjnoeinaaGreat
namespace Go.Proofs.YtegdcjnjnoeinaaGreat
open Go.RowKit Go.Sl
set_option maxRecDepth 20000

theorem wrAll_few (f : Nat → Int) : ∀ (bs : List Dat) (i : Nat) (d : DSt) (k : Nat), d.Few k → (wrAll f bs i d).1.Few (k + bs.length)
  | [], _, _, _, h => h
  | b :: bs, i, d, k, h => by
    rw [wrAll]
    split
    · exact (h.write _ _).mono (by simp)
    · exact (wrAll_few f bs (i + 1) _ _ (h.write _ _)).mono (by simp; omega)
theorem append_few (j : JSt) {d : DSt} {k : Nat} (h : d.Few k) (l : List PImg) (hd : Bool) : (j.appendB d l hd).2.1.Few (k + (l.length + 1)) := by
  have h0 : d.Few (k + (l.length + 1)) := h.mono (by omega)
  unfold JSt.appendB
  split
  · exact h0
  unfold JSt.append
  split
  · exact h0
  split
  · exact h0
  have key : ∀ p : (Int × Int × Int × Int × Int) × Int, (match p with
      | ((s, t, u, h, e), at_) => if e ≠ 0 then (j, d, 0, e) else
        match wrAll (fun i => j.lay.l + (at_ + i) % s) (putP j.epoch.toNat j.next.toNat l) 0 d with
        | (d', e') => if e' ≠ 0 then ({ j with s := s, t := t, u := u, h := h, broken := true }, d', 0, e') else
          ({ j with s := s, t := t, u := u, h := h, groups := j.groups ++ [(j.next, (l.length + 1 : Int))], next := j.next + 1 }, d', j.next, 0) : JSt × DSt × Int × Int).2.1.Few (k + (l.length + 1)) := by
    rintro ⟨⟨s, t, u, h', e⟩, at_⟩
    dsimp only
    have := wrAll_few (fun i => j.lay.l + (at_ + i) % s) (putP j.epoch.toNat j.next.toNat l) 0 d k h
    rw [putP_length] at this
    split
    · exact h0
    · split <;> exact this
  exact key _
theorem sync_few (v : VSt) {d : DSt} {k : Nat} (h : d.Few k) : (v.sync d).2.1.Few k := by
  unfold VSt.sync
  split
  · exact h
  · exact jflush_few h
theorem ckpt_few (v : VSt) {d : DSt} {k : Nat} (h : d.Few k) (hf : v.fresh.length ≤ 16) : (v.ckpt d).2.1.Few (k + 17) := by
  have h1 := jflush_few (j := v.j) h
  have h2 := doP_few h1 (sortP v.fresh) v.sup v.slot
  have hl : (sortP v.fresh).length = v.fresh.length := sortP_length _
  have hs : (v.ckS d).2.2.Few (k + 17) := by
    unfold VSt.ckS
    split
    · exact h1.mono (by omega)
    split
    · exact h2.mono (by omega)
    · exact h2.mono (by omega)
  unfold VSt.ckpt
  split
  · exact h.mono (by omega)
  split
  · exact hs
  · exact hs
theorem app_few (v : VSt) {d : DSt} {k : Nat} (h : d.Few k) (l : List PImg) : (v.app d l).2.1.Few (k + (l.length + 1)) := by
  unfold VSt.app
  split <;> exact append_few v.j h l false
theorem commit_few (v : VSt) {d : DSt} {k : Nat} (h : d.Few k) (hf : v.fresh.length ≤ 16) (l : List PImg) (hl : l.length + 1 ≤ 16) : (v.commit d l).2.1.Few (k + 33) := by
  unfold VSt.commit
  split
  · exact h.mono (by omega)
  split
  · exact h.mono (by omega)
  split
  · exact h.mono (by omega)
  split
  · exact h.mono (by omega)
  split
  · split
    · exact (ckpt_few v h hf).mono (by omega)
    · exact (app_few _ (ckpt_few v h hf) l).mono (by omega)
  · exact (app_few v h l).mono (by omega)
/-- a volume and its disk, between two crashes -/
structure LifeSt (epm sqm K : Nat) (states : List (List Dat)) (sure : Nat) (v : VSt) (d : DSt) : Prop where
  few : d.Few K
  st : (v.broken = true ∧ CrashTo d epm sqm (ToldS states sure)) ∨ (v.broken = false ∧ ∃ ep t sq ls m k b, SK ep t sq v d ls m k states b ∧ sure ≤ b + m ∧ ep ≤ epm ∧ sq + ls.length ≤ sqm)
section
variable {epm sqm K : Nat} {states : List (List Dat)} {sure : Nat} {v : VSt} {d : DSt}
theorem LifeSt.to (h : LifeSt epm sqm K states sure v d) (hsq : sqm ≤ 549755813889) : CrashTo d epm sqm (ToldS states sure) := by
  rcases h.st with ⟨_, h⟩ | ⟨_, ep, t, sq, ls, m, k, b, w, hs, he, hq⟩
  · exact h
  · exact (w.to hs (by omega)).mono he hq (fun _ h => h)
theorem LifeSt.mono {e s k : Nat} (h : LifeSt epm sqm K states sure v d) (he : epm ≤ e) (hs : sqm ≤ s) (hk : K ≤ k) : LifeSt e s k states sure v d := by
  refine ⟨h.few.mono hk, ?_⟩
  rcases h.st with ⟨h1, h2⟩ | ⟨h1, ep, t, sq, ls, m, k, b, w, g1, g2, g3⟩
  · exact .inl ⟨h1, h2.mono he hs (fun _ h => h)⟩
  · exact .inr ⟨h1, ep, t, sq, ls, m, k, b, w, g1, by omega, by omega⟩
structure Calls (v : VSt) : Prop where
  wf : v.j.Wf
  ep : v.epoch = v.j.epoch
  slot : 0 ≤ v.slot ∧ v.slot ≤ 1
  fresh : v.fresh.length ≤ 16
  groups : v.j.groups.length ≤ 800000
theorem SK.calls {ep t0 sq m k b : Nat} {ls : List (List PImg)} (w : SK ep t0 sq v d ls m k states b) : Calls v := by
  refine ⟨w.kv.w.e.wf, by rw [w.kv.w.epoch, w.kv.w.e.epoch], by rcases w.kv.w.slot with h | h <;> omega, w.kv.w.few_fresh, ?_⟩
  have := usedP_ge ls
  have := w.kv.w.e.used
  rw [w.kv.w.e.groups, grL_length]; omega
theorem LifeSt.calls (h : LifeSt epm sqm K states sure v d) (hb : v.broken = false) : Calls v := by
  rcases h.st with ⟨h1, _⟩ | ⟨_, ep, t, sq, ls, m, k, b, w, _⟩
  · rw [hb] at h1; cases h1
  · exact w.calls
theorem LifeSt.sync (h : LifeSt epm sqm K states sure v d) (hb : v.broken = false) (hsq : sqm ≤ 549755813888) : LifeSt epm sqm K states (if (v.sync d).2.2 = 0 then states.length - 1 else sure) (v.sync d).1 (v.sync d).2.1 := by
  refine ⟨sync_few v h.few, ?_⟩
  rcases h.st with ⟨h1, _⟩ | ⟨_, ep, t, sq, ls, m, k, b, w, g1, g2, g3⟩
  · rw [hb] at h1; cases h1
  rcases w.sync g1 (by omega) with ⟨v', d', a, w', hl⟩ | ⟨v', d', e, a, he, hbr, hc⟩
  · right
    rw [a, if_pos rfl]
    exact ⟨w'.kv.w.broken, ep, t, sq, ls, _, k, b, w', by omega, g2, g3⟩
  · left
    rw [a, if_neg he]
    exact ⟨hbr, hc.mono g2 g3 (fun _ h => h)⟩
theorem LifeSt.ckpt (h : LifeSt epm sqm K states sure v d) (hb : v.broken = false) (hsq : sqm ≤ 549755813888) : LifeSt epm sqm (K + 17) states (if (v.ckpt d).2.2 = 0 then states.length - 1 else sure) (v.ckpt d).1 (v.ckpt d).2.1 := by
  refine ⟨ckpt_few v h.few (h.calls hb).fresh, ?_⟩
  rcases h.st with ⟨h1, _⟩ | ⟨_, ep, t, sq, ls, m, k, b, w, g1, g2, g3⟩
  · rw [hb] at h1; cases h1
  rcases w.ckpt g1 (by omega) with ⟨v', d', a, w', hl⟩ | ⟨v', d', e, a, he, hbr, hc⟩
  · right
    rw [a, if_pos rfl]
    exact ⟨w'.kv.w.broken, ep, _, _, [], 0, _, _, w', by omega, g2, by simp; omega⟩
  · left
    rw [a, if_neg he]
    exact ⟨hbr, hc.mono g2 g3 (fun _ h => h)⟩
theorem LifeSt.commit (h : LifeSt epm sqm K states sure v d) (hb : v.broken = false) (hsq : sqm ≤ 549755813880) {l : List PImg} (hl : 1 ≤ l.length ∧ l.length + 1 ≤ 16) (hg : ∀ g ∈ l, 18 ≤ g.1 ∧ g.1 < 64 ∧ g.2.length = 4096) (hnd : (l.map Prod.fst).Nodup) {last : List Dat} (hlast : states[states.length - 1]? = some last) :
    LifeSt epm (sqm + 1) (K + 33) (states ++ [behindL last l]) sure (v.commit d l).1 (v.commit d l).2.1 ∧ ((v.commit d l).2.2.2 = 0 ∨ (v.commit d l).1.broken = true) := by
  rcases h.st with ⟨h1, _⟩ | ⟨_, ep, t, sq, ls, m, k, b, w, g1, g2, g3⟩
  · rw [hb] at h1; cases h1
  have hpos := w.kv.w.e.pos
  have hep1 := w.kv.w.e.epr
  have hR : RightP ep ((sq + ls.length : Nat) : Int) l := ⟨by omega, by omega, by omega, by omega, hl.1, by omega, fun g hg' => by have := hg g hg'; exact ⟨by omega, by omega, this.2.2⟩, hnd⟩
  have hho : HomeOk (layOf 64) l := of_home64 fun g hg' => ⟨(hg g hg').1, (hg g hg').2.1⟩
  have hfew := commit_few v h.few (h.calls hb).fresh l hl.2
  rcases w.commit g1 hho hR hl.2 hlast with ⟨v', d', t1, sq', ls', m', b', a, w', hs', hsum⟩ | ⟨v', d', e, a, he, hbr, hc⟩
  · rw [a] at hfew ⊢
    exact ⟨⟨hfew, .inr ⟨w'.kv.w.broken, ep, t1, sq', ls', m', _, b', w', hs', g2, by omega⟩⟩, .inl rfl⟩
  · rw [a] at hfew ⊢
    exact ⟨⟨hfew, .inl ⟨hbr, hc.mono g2 (by omega) (fun _ h => h)⟩⟩, .inr hbr⟩
/-- a life begins: what is told is what is there -/
theorem KV.still {ep t0 sq m k : Nat} {ls : List (List PImg)} (w : KV ep t0 sq v d ls m k) : KV ep t0 sq v d.still ls m k := by
  have hc := w.w.e.calm
  refine ⟨⟨{ w.w.e with calm := DSt.still_calm hc.1, dwf := ?_, len := w.w.e.len, few := w.w.e.few, ring := w.w.e.ring }, w.w.epoch, w.w.slot, w.w.fresh, w.w.home, w.w.broken⟩, w.sup, w.le, w.wr, w.ring, w.rest, w.nowrest, w.same, w.sy⟩
  have hw := w.w.e.dwf
  exact ⟨hw.len, hw.range, hw.safe, hw.now, hw.writes, fun h => (Bool.false_ne_true h).elim, fun h => (Bool.false_ne_true h).elim⟩
end
end Go.Proofs.YtegdcjnjnoeinaaGreat
namespace Go.Proofs.YtegdcjnjnoeinaaGreat
open Go.RowKit Go.Sl
set_option maxRecDepth 20000

theorem disk_none00 (I : Imm) (S : St) : Tri Tryz.prog 98 #[.pointer none] I S fun v J S' => v = .bool true ∧ I = J ∧ S' = S := by
  refine Tri.of (args := [.pointer none]) tabOk Tryz.func98 rfl (by kernel_rfl) (by kernel_rfl) ?_
  exact Done.mk ⟨rfl, rfl, rfl⟩
theorem disk_Size00 (I : Imm) (S : St) : Tri Tryz.prog 104 #[.pointer none] I S fun v J S' => v = .int .i64 0 ∧ I = J ∧ S' = S := by
  refine Tri.of (args := [.pointer none]) tabOk Tryz.func104 rfl (by kernel_rfl) (by kernel_rfl) ?_
  refine Tri.mono (disk_none00 I S) ?_
  rintro v _ _ hJ ⟨rfl, rfl, rfl⟩
  exact Done.mk ⟨rfl, rfl, rfl⟩
theorem mount_nil (I : Imm) (S : St) : Tri Tryz.prog 38 #[.pointer none] I S fun v J S' => v = .tuple #[.pointer none, .int .i64 1] ∧ I = J ∧ S' = S := by
  refine Tri.of (args := [.pointer none]) tabOk Tryz.func38 rfl (by kernel_rfl) (by kernel_rfl) ?_
  refine Tri.mono (disk_Size00 I S) ?_
  rintro v _ _ hJ ⟨rfl, rfl, rfl⟩
  refine CmpD.yes rfl ?_
  exact Done.mk ⟨rfl, rfl, rfl⟩
theorem format_nil (I : Imm) : Tri Tryz.prog 55 #[.pointer none] I [] fun v J S' => v = .int .i64 1 ∧ I = J ∧ S' = [] := by
  refine Tri.drop ?_ (fun _ _ _ _ h => h)
  refine Tri.of (args := [.pointer none]) tabOk Tryz.func55 rfl (by kernel_rfl) (by kernel_rfl) ?_
  conv => whnf
  intro b1
  repeat (first | refine LoadD.own 0 rfl _ rfl rfl ?_)
  refine Tri.mono (disk_Size00 I _) ?_
  rintro v _ _ hJ ⟨rfl, rfl, rfl⟩
  repeat (first | refine CmpD.yes rfl ?_)
  exact Done.mk ⟨_, Drop.pick [] _ rfl, rfl, rfl, rfl⟩
/-- a disk of noughts, and one too small -/
theorem mount_blank : mountP (DSt.of (List.replicate 64 noughts)) = (DSt.of (List.replicate 64 noughts), 90, none) := by
  have hl : (DSt.of (List.replicate 64 noughts)).now.length = 64 := List.length_replicate ..
  have h0 : (DSt.of (List.replicate 64 noughts)).now.getD 0 [] = noughts := rfl
  have h1 : (DSt.of (List.replicate 64 noughts)).now.getD 1 [] = noughts := rfl
  have hf : foundP (DSt.of (List.replicate 64 noughts)) = (Sup.zero, 0, 90) := by
    unfold foundP
    rw [if_neg (by show ¬ false = true; simp), h0, h1, getS_noughts]
    rw [if_pos (.inl rfl)]
  unfold mountP
  rw [if_neg (by omega), hf]
  rfl
theorem mount_small {d : DSt} (h : d.now.length < 64) : mountP d = (d, 90, none) := by
  unfold mountP
  rw [if_pos h]
/-- superblocks that are right and yet none of this disk's -/
theorem mount_refused {d : DSt} (hdn : d.down = false) (hl : d.now.length = 64) {s : Sup} (hR : RightS s) (h0 : d.now.getD 0 [] = supL s) (h1 : d.now.getD 1 [] = noughts) (hs : s.blocks ≠ 64 ∨ 16 ≤ s.tail ∨ 8388608 ≤ s.epoch) : mountP d = (d, 90, none) := by
  have hf : foundP d = (Sup.zero, 0, 90) := by
    unfold foundP
    rw [if_neg (by rw [hdn]; simp), h0, h1, getS_noughts, get_supL hR, hl]
    have hc : chooseP (some s) none = (s, 0, true) := rfl
    rw [hc, layL_64']
    rw [if_pos]
    rcases hs with h | h | h
    · exact .inr (.inl h)
    · exact .inr (.inr (.inl h))
    · exact .inr (.inr (.inr h))
  unfold mountP
  rw [if_neg (by omega), hf]
  rfl
/-! ### a volume whose power goes -/
theorem write_armed {d : DSt} (hd : d.down = false) (hf : d.fault.on = false) {k : Int} (ha : d.arm = ⟨true, k⟩) (hk : 1 ≤ k) {n : Int} {b : Dat} (hl : 1 ≤ d.now.length) (hn : 0 ≤ n ∧ n < d.now.length) (hb : b.length = 4096) :
    d.write n b = ({ d with arm := ⟨true, k - 1⟩, now := d.now.set n.toNat b, writes := d.writes ++ [(n, b)], count := d.count + 1 }, 0) := by
  have hst : d.stop = ({ d with arm := ⟨true, k - 1⟩ }, 0) := by
    unfold DSt.stop Gate.step
    rw [hd, ha, hf]
    have : decide (0 ≤ k - 1) = true := decide_eq_true (by omega)
    simp only [this, Bool.not_true]
  unfold DSt.write
  rw [(wrongE_dec _ hl n).2 hn, if_neg (by simp), if_neg (by omega), hst, if_neg (by simp)]
theorem write_dead {d : DSt} (hd : d.down = false) {k : Int} (ha : d.arm = ⟨true, k⟩) (hk : k ≤ 0) {n : Int} {b : Dat} (hl : 1 ≤ d.now.length) (hn : 0 ≤ n ∧ n < d.now.length) (hb : b.length = 4096) :
    (d.write n b).2 = 6 ∧ (d.write n b).1.down = true ∧ (d.write n b).1.now = d.now := by
  have hsn := d.stop_same.2.1
  have hst : d.stop.2 = 6 ∧ d.stop.1.down = true := by
    unfold DSt.stop Gate.step
    rw [hd, ha]
    have : decide (0 ≤ k - 1) = false := decide_eq_false (by omega)
    simp only [this, Bool.not_false]
    constructor <;> first | rfl | trivial
  unfold DSt.write
  rw [(wrongE_dec _ hl n).2 hn, if_neg (by simp), if_neg (by omega), if_pos (by rw [hst.1]; decide)]
  exact ⟨hst.1, hst.2, hsn⟩
theorem v0_app_form : ∃ J2 : JSt, ∀ (x : DSt) (b : Dat), b.length = 4096 → v0.j.appendB x [(30, b)] false = if (wrAll (rgAt 0) (putP 2 1 [(30, b)]) 0 x).2 ≠ 0 then ({ v0.j with s := 16, t := 0, u := 2, h := 0, broken := true }, (wrAll (rgAt 0) (putP 2 1 [(30, b)]) 0 x).1, 0, (wrAll (rgAt 0) (putP 2 1 [(30, b)]) 0 x).2)
      else (J2, (wrAll (rgAt 0) (putP 2 1 [(30, b)]) 0 x).1, 1, 0) := by
  have w := v0_kv.w.e
  have hs : v0.j.s = 16 := layL_64'
  refine ⟨{ v0.j with s := 16, t := 0, u := 2, h := 0, groups := v0.j.groups ++ [(v0.j.next, 2)], next := v0.j.next + 1 }, fun x b hb => ?_⟩
  have hR' : RightP v0.j.epoch v0.j.next [(30, b)] := right_one (ep := 2) (sq := 1) (by omega) (by omega) (by omega) hb
  have hp : putS v0.j.s v0.j.t v0.j.u v0.j.h ((([(30, b)] : List PImg).length : Int) + 1) (if false = true then (([(30, b)] : List PImg).length : Int) + 1 else 0) = ((16, 0, 2, 0, 0), 0) := by
    rw [hs]
    show putS 16 0 0 0 2 0 = _
    unfold putS
    have hok : Ok 16 0 0 0 := by unfold Ok; omega
    rw [if_neg (by rintro (h | h | h | h | h); exact h hok; omega; omega; omega; omega), if_neg (by omega)]
    rfl
  have hff : (fun k : Nat => v0.j.lay.l + ((0 : Int) + k) % 16) = rgAt 0 := by
    funext k
    have hl : v0.j.lay.l = 2 := by rw [w.lay]; decide
    rw [hl]
    unfold rgAt; omega
  unfold JSt.appendB JSt.append
  rw [if_neg (by rw [w.broken]; simp), if_neg (fun h => h hR'), if_neg (by rw [hs]; show ¬ (16 : Int) < 1 + 1; omega), hp]
  dsimp only
  rw [if_neg (by simp), hff]
  rfl
theorem commit_dead {b : Dat} (hb : b.length = 4096) : ∃ v' d', v0.commit { dV with arm := ⟨true, 1⟩ } [(30, b)] = (v', d', 0, 6) ∧ v'.broken = true ∧ d'.down = true ∧ Calls v' ∧ v'.fresh = [] ∧ d'.now.length = 64 ∧ d'.Few 57 := by
  obtain ⟨J2, hA⟩ := v0_app_form
  have hA := hA { dV with arm := ⟨true, 1⟩ } b hb
  have hpl := putP_length 2 1 [(30, b)]
  have hR := right_one (ep := 2) (sq := 1) (n := 30) (by omega) (by omega) (by omega) hb
  have hlens := putP_lens hR
  obtain ⟨b0, b1, hbb⟩ : ∃ b0 b1, putP 2 1 [(30, b)] = [b0, b1] := by
    match hq : putP 2 1 [(30, b)], hpl with
    | [b0, b1], _ => exact ⟨b0, b1, rfl⟩
  rw [hbb] at hA hlens
  have hl : dV.now.length = 64 := zL_length _ _
  have h1 := write_armed (d := { dV with arm := ⟨true, 1⟩ }) rfl rfl (k := 1) rfl (by omega) (n := rgAt 0 0) (b := b0) (by show 1 ≤ dV.now.length; omega) (by show 0 ≤ rgAt 0 0 ∧ rgAt 0 0 < (dV.now.length : Int); rw [hl]; unfold rgAt; omega) (hlens b0 (by simp))
  have hw : wrAll (rgAt 0) [b0, b1] 0 { dV with arm := ⟨true, 1⟩ } = wrAll (rgAt 0) [b1] 1 (({ dV with arm := ⟨true, 1⟩ } : DSt).write (rgAt 0 0) b0).1 := by
    rw [wrAll, h1, if_neg (by simp)]
  rw [h1] at hw
  dsimp only at hw
  obtain ⟨d1, hd1⟩ : ∃ d1 : DSt, d1 = { dV with arm := ⟨true, (1 : Int) - 1⟩, now := dV.now.set (rgAt 0 0).toNat b0, writes := dV.writes ++ [(rgAt 0 0, b0)], count := dV.count + 1 } := ⟨_, rfl⟩
  have hl1 : d1.now.length = 64 := by rw [hd1]; show (dV.now.set _ _).length = 64; rw [List.length_set, hl]
  have h2 := write_dead (d := d1) (by rw [hd1]; rfl) (k := 0) (by rw [hd1]; rfl) (by omega) (n := rgAt 0 1) (b := b1) (by omega) (by rw [hl1]; unfold rgAt; omega) (hlens b1 (by simp))
  have hw2 : wrAll (rgAt 0) [b1] 1 d1 = d1.write (rgAt 0 1) b1 := by
    rw [wrAll, if_pos (by rw [h2.1]; decide)]
  rw [← hd1, hw2] at hw
  rw [hw, h2.1, if_pos (by decide)] at hA
  have hfew := commit_few v0 (d := { dV with arm := ⟨true, 1⟩ }) (k := 24) (dz_few (supL (sE 1)) (supL (sE 2)) 24) (by show 0 ≤ 16; omega) [(30, b)] (by simp)
  have hcm : v0.commit { dV with arm := ⟨true, 1⟩ } [(30, b)] = ({ v0 with j := { v0.j with s := 16, t := 0, u := 2, h := 0, broken := true }, broken := true }, (d1.write (rgAt 0 1) b1).1, 0, 6) := by
    have hs : v0.j.s = 16 := layL_64'
    have hbn : blocksN ((([(30, b)] : List PImg).length : Nat) : Int) = 2 := by unfold blocksN; rw [if_neg (by simp)]; rfl
    unfold VSt.commit
    rw [if_neg (by show ¬ false = true; simp), if_neg (fun h => h (home_one11 (by omega))), if_neg (fun h => h hR)]
    have hft : v0.fits ((([(30, b)] : List PImg).length : Nat) : Int) = true := v0_kv.w.fits (n := 1) (by omega)
    rw [if_neg (by rw [hft]; simp), hbn, if_neg (by rw [hs]; show ¬ (16 : Int) - 0 - 0 < _; omega)]
    unfold VSt.app
    rw [hA]
    dsimp only
    rw [if_pos (by decide)]
  have hwf := v0_wf.append (d := { dV with arm := ⟨true, 1⟩ }) (l := [(30, b)]) (held := false) (by show 0 ≤ _; omega)
  rw [hA] at hwf
  rw [hcm] at hfew
  exact ⟨_, _, hcm, rfl, h2.2.1, ⟨hwf, rfl, by show (0 : Int) ≤ 0 ∧ (0 : Int) ≤ 1; omega, by show 0 ≤ 16; omega, by show 0 ≤ 800000; omega⟩, rfl, by rw [h2.2.2]; exact hl1, hfew⟩
end Go.Proofs.YtegdcjnjnoeinaaGreat
namespace Go.Proofs.YtegdcjnjnoeinaaGreat
open Go.RowKit Go.Sl
set_option maxRecDepth 20000

/-- the three superblocks -/
def supR : Nat → Sup
  | 0 => ⟨65, 1, 1, 0⟩
  | 1 => ⟨64, 1, 1, 16⟩
  | _ => ⟨64, 8388608, 1, 0⟩
def Sup.cells4 (s : Sup) : List Value := [.int .i64 s.blocks, .int .i64 s.epoch, .int .i64 s.seq, .int .i64 s.tail]
theorem supR_right (i : Nat) : RightS (supR i) := by
  match i with
  | 0 => show 64 ≤ (65 : Int) ∧ (65 : Int) ≤ 512 ∧ 1 ≤ (1 : Int) ∧ (1 : Int) ≤ 8388608 ∧ 1 ≤ (1 : Int) ∧ (1 : Int) ≤ 549755813888 ∧ 0 ≤ (0 : Int) ∧ (0 : Int) ≤ 511; omega
  | 1 => show 64 ≤ (64 : Int) ∧ (64 : Int) ≤ 512 ∧ 1 ≤ (1 : Int) ∧ (1 : Int) ≤ 8388608 ∧ 1 ≤ (1 : Int) ∧ (1 : Int) ≤ 549755813888 ∧ 0 ≤ (16 : Int) ∧ (16 : Int) ≤ 511; omega
  | _ + 2 => show 64 ≤ (64 : Int) ∧ (64 : Int) ≤ 512 ∧ 1 ≤ (8388608 : Int) ∧ (8388608 : Int) ≤ 8388608 ∧ 1 ≤ (1 : Int) ∧ (1 : Int) ≤ 549755813888 ∧ 0 ≤ (0 : Int) ∧ (0 : Int) ≤ 511; omega
theorem supR_not (i : Nat) : (supR i).blocks ≠ 64 ∨ 16 ≤ (supR i).tail ∨ 8388608 ≤ (supR i).epoch := by
  match i with
  | 0 => left; show (65 : Int) ≠ 64; omega
  | 1 => right; left; show (16 : Int) ≤ 16; omega
  | _ + 2 => right; right; show (8388608 : Int) ≤ 8388608; omega
theorem mount_err {I : Imm} {bD : Nat} {d : DSt} {chD : List Blk} (hD : Dk I bD d chD) (hf : d.Few 700000) {e : Int} (he : e ≠ 0) (hm : mountP d = (d, e, none)) :
    Tri Tryz.prog 38 #[.pointer (some ⟨bD, 0, none⟩)] I [chD] fun r J S' => ∃ chD', r = .tuple #[.pointer none, .int .i64 e] ∧ Dk J bD d chD' ∧ S' = [chD'] := by
  have h := vk_Mount hD hf
  rw [hm] at h
  refine h.mono ?_
  rintro r J S' hJ ⟨chD', hD', ⟨_, _, rfl, rfl⟩ | ⟨h0, _⟩⟩
  · exact ⟨chD', rfl, hD', rfl⟩
  · exact absurd h0 he
set_option maxHeartbeats 4000000 in
theorem law11_refused (I : Imm) : Tri Tryz.prog 41 #[] I [] fun r _ S' => r = .bool true ∧ S' = [] := by
  refine Tri.drop ?_ (fun _ _ _ _ h => h)
  refine Tri.of (args := []) tabOk Tryz.func41 rfl (by kernel_rfl) (by kernel_rfl) ?_
  refine Tri.frameX (dk_New I 64 (by omega)) [] rfl rfl ?_
  rintro r J1 A' hJ1 ⟨bX, chX, rfl, hX, rfl⟩
  skip
  have hfX := DSt.of_few (List.replicate 64 noughts)
  refine Tri.frame (mount_err hX (hfX.mono (by omega)) (by decide) mount_blank) [0] rfl rfl ?_
  rintro r J2 A' hJ2 ⟨chX2, rfl, hX2, rfl⟩
  refine ⟨by simp, ?_⟩
  skip
  refine Tri.frameX (dk_New J2 63 (by omega)) [] rfl rfl ?_
  rintro r J3 A' hJ3 ⟨bY, chY, rfl, hY, rfl⟩
  skip
  have hfY := DSt.of_few (List.replicate 63 noughts)
  have hlY : (DSt.of (List.replicate 63 noughts)).now.length = 63 := List.length_replicate ..
  refine Tri.frame (mount_err hY (hfY.mono (by omega)) (by decide) (mount_small (by omega))) [1] rfl rfl ?_
  rintro r J4 A' hJ4 ⟨chY2, rfl, hY2, rfl⟩
  refine ⟨by simp, ?_⟩
  skip
  refine Tri.mono (mount_nil _ _) ?_
  rintro r _ _ hJ5 ⟨rfl, rfl, rfl⟩
  skip
  refine ToD.to 0 rfl ?_
  repeat (first | refine CmpD.yes rfl ?_)
  have hX4 := hX2.mono (Imm.le_trans hJ3 hJ4)
  refine Tri.frame1 0 rfl (dk_Writes hX4) ?_
  rintro r _ A' hJ6 ⟨rfl, rfl, rfl⟩
  refine ⟨_, rfl, ?_⟩
  repeat (first | refine CmpD.yes rfl ?_)
  refine Tri.frame (format_nil _) [] rfl rfl ?_
  rintro r _ A' hJ7 ⟨rfl, rfl, rfl⟩
  refine ⟨by simp, ?_⟩
  repeat (first | refine CmpD.yes rfl ?_)
  refine Tri.frame1 1 rfl (vk_Format hY2 (hfY.mono (by omega))) ?_
  rw [show formatP (DSt.of (List.replicate 63 noughts)) = (DSt.of (List.replicate 63 noughts), 2) by unfold formatP; rw [if_pos (by omega)]]
  rintro r J5 A' hJ8 ⟨rfl, chY5, hY5, rfl⟩
  refine ⟨_, rfl, ?_⟩
  repeat (first | refine CmpD.yes rfl ?_)
  conv => whnf
  intro bR
  skip
  have hX5 := hX4.mono hJ8
  refine CodeF.loopD [1, 84, 85, 86] (fun vs J' S' => ∃ (i : Nat) (d : DSt) (chX : List Blk), i ≤ 3 ∧ Dk J' bX d chX ∧ d.Calm ∧ d.now.length = 64 ∧ d.now.getD 1 [] = noughts ∧ d.Few i ∧ J5.le J' ∧
      vs = [.pointer (some ⟨bX, 0, none⟩), .slice (some ⟨bR, 0, none⟩) 3 3, .int .i64 3, .int .i64 i] ∧ S' = [chX, [(bR, row ((supR 0).cells4 ++ (supR 1).cells4 ++ (supR 2).cells4) 143)]])
    (fun vs _ _ => match vs with | [_, _, _, .int _ i] => ((3 : Int) - i).toNat | _ => 0) ?_ ?_
  · exact ⟨_, Drop.pick [0, 2] _ rfl, 0, _, _, by omega, hX5, fresh_calm _, List.length_replicate .., rfl, hfX, Imm.le_refl _, rfl, rfl⟩
  rintro vs gE J6 S6 hJ9 ⟨i, d, chX6, hi, hX6, hc, hl, hno, hf, hle, rfl, rfl⟩
  refine CmpD.split (fun (c1 : (i : Int) < 3) => ?_) (fun (c1 : ¬ (i : Int) < 3) => ?_)
  · refine Chk.mk (by omega) ?_
    refine LoadD.own 1 rfl (supR i).cells4 ?_ rfl ?_
    · rcases (show i = 0 ∨ i = 1 ∨ i = 2 by omega) with rfl | rfl | rfl <;> rfl
    have hR := supR_right i
    have hN := supR_not i
    have h0 : (supR i).cells4 = [.int .i64 (supR i).blocks, .int .i64 (supR i).epoch, .int .i64 (supR i).seq, .int .i64 (supR i).tail] := rfl
    generalize supR i = s at *
    obtain ⟨s1, s2, s3, s4⟩ := s
    conv => whnf
    intro b12
    repeat (first | refine LoadD.own 2 rfl _ rfl rfl ?_ | refine StoreD.st 2 rfl rfl rfl ?_)
    refine Tri.free (ref_PutF ⟨s1, s2, s3, s4⟩ _) ?_
    rintro r J7 _ hJ10 (⟨h, _⟩ | ⟨_, aP, capP, rfl, hP⟩)
    · exact absurd hR h
    skip
    have hwr := dk_Write (hX6.mono hJ10) (hf.mono (by omega)) 0 aP 4096 capP (supL ⟨s1, s2, s3, s4⟩) hP
    rw [DSt.write_calm hc (n := 0) (by omega) (supL_length _)] at hwr
    refine Tri.frame1 0 rfl hwr ?_
    rintro r J8 A' hJ11 ⟨rfl, chX8, hX8, rfl⟩
    refine ⟨_, rfl, ?_⟩
    skip
    refine Tri.frame1 0 rfl (dk_Writes hX8) ?_
    rintro r _ A' hJ12 ⟨rfl, rfl, rfl⟩
    refine ⟨_, rfl, ?_⟩
    skip
    have hf8 : (d.put 0 (supL ⟨s1, s2, s3, s4⟩)).Few (i + 1) := by
      have := hf.write 0 (supL ⟨s1, s2, s3, s4⟩)
      rwa [DSt.write_calm hc (n := 0) (by omega) (supL_length _)] at this
    have hm : mountP (d.put 0 (supL ⟨s1, s2, s3, s4⟩)) = (d.put 0 (supL ⟨s1, s2, s3, s4⟩), 90, none) := by
      refine mount_refused (s := ⟨s1, s2, s3, s4⟩) hc.1 (by rw [DSt.put_len]; exact hl) hR ?_ ?_ hN
      · show (d.now.set 0 _).getD 0 [] = _
        rw [List.getD_eq_getElem?_getD, List.getElem?_set_self (by omega)]; rfl
      · show (d.now.set 0 _).getD 1 [] = _
        rw [List.getD_eq_getElem?_getD, List.getElem?_set_ne (by decide), ← List.getD_eq_getElem?_getD]; exact hno
    refine Tri.frame (mount_err hX8 (hf8.mono (by omega)) (by decide) hm) [0] rfl rfl ?_
    rintro r J9 A' hJ13 ⟨chX9, rfl, hX9, rfl⟩
    refine ⟨by simp, ?_⟩
    repeat (first | refine CmpD.yes rfl ?_)
    refine Tri.frame1 0 rfl (dk_Writes hX9) ?_
    rintro r _ A' hJ14 ⟨rfl, rfl, rfl⟩
    refine ⟨_, rfl, ?_⟩
    repeat (first | refine CmpD.yes rfl ?_)
    refine ToD.i64 (by omega) (by omega) ?_
    refine ⟨_, Drop.pick [0, 1] _ rfl, ⟨i + 1, _, chX9, by omega, hX9, hc, by rw [DSt.put_len]; exact hl, ?_, hf8, Imm.le_trans hle (Imm.le_trans hJ10 (Imm.le_trans hJ11 hJ13)), rfl, rfl⟩, ?_⟩
    · show (d.now.set 0 _).getD 1 [] = _
      rw [List.getD_eq_getElem?_getD, List.getElem?_set_ne (by decide), ← List.getD_eq_getElem?_getD]; exact hno
    · show ((3 : Int) - ((i : Int) + 1)).toNat < ((3 : Int) - (i : Int)).toNat
      omega
  clear hX6 hc hl hno hf
  refine Tri.frameX (law_fresh _) [] rfl rfl ?_
  rintro r J7 A' hJ10 ⟨bD, bV, chD0, chV0, rfl, hD0, hV0, rfl⟩
  skip
  have har := dk_Arm hD0 1 (by unfold In64; omega)
  rw [show dV.armed 1 = ({ dV with arm := ⟨true, 1⟩ }, 0) by unfold DSt.armed; rw [if_neg (by omega)]] at har
  refine Tri.frame1 3 rfl har ?_
  rintro r J8 A' hJ11 ⟨rfl, chD1, hD1, rfl⟩
  refine ⟨_, rfl, ?_⟩
  dsimp only at hD1
  skip
  conv => whnf
  intro bIp
  refine Tri.fix 4 rfl fun Jpa hJpa hmp => ?_
  have hzp : Rds Jpa (some ⟨bIp, 0, none⟩) 1 (ints [30]) := ⟨rfl, .inr ⟨bIp, 0, _, _, _, rfl, hmp _ (List.mem_singleton.2 rfl), rfl⟩⟩
  refine Tri.free (images11_fix (some ⟨bIp, 0, none⟩) 1 [30] (by decide) (by intro x hx; simp at hx; subst hx; unfold In64; omega) 1 (by unfold In64; omega) Jpa hzp) ?_
  rintro r Jpb _ hJpb ⟨aIp, capIp, gsp, rfl, hIp, hgsp⟩
  have hgsp : gsp.map Img.pr = [(30, madeL 1 4096)] := hgsp
  have hglp : gsp.length = 1 := by have := congrArg List.length hgsp; rwa [List.length_map] at this
  have hlep := Imm.le_trans hJpa hJpb
  obtain ⟨v', d', hcm, hbr, hdn, hcl, hfr, hl', hf'⟩ := commit_dead (madeL_length 1 4096)
  have hfA : ({ dV with arm := ⟨true, 1⟩ } : DSt).Few 24 := dz_few (supL (sE 1)) (supL (sE 2)) 24
  refine Tri.frame (vk_Commit ((hV0.mono hJ11).mono hlep) v0_wf rfl (by show (0 : Int) ≤ 0 ∧ (0 : Int) ≤ 1; omega) (by show 0 ≤ 1000; omega) (by show 0 ≤ _; omega) (hD1.mono hlep) (hfA.mono (by omega)) aIp capIp gsp hIp (by omega)) [2, 3] rfl rfl ?_
  rw [hgsp, hcm]
  dsimp only
  rintro r J9 A' hJ12 ⟨rfl, chV2, chD2, hV2, hD2, rfl⟩
  refine ⟨by simp, ?_⟩
  skip
  have hrd := vk_Read hV2 hD2 (fun g hg => by rw [hfr] at hg; cases hg) 30
  have hre : v'.read d' 30 = ([], 4) := by unfold VSt.read; rw [if_pos hbr]
  rw [hre] at hrd
  refine Tri.frame hrd [2, 3] rfl rfl ?_
  rintro r _ A' hJ13 ⟨aE, capE, chE, rfl, _, rfl, rfl⟩
  refine ⟨by simp, ?_⟩
  skip
  conv => whnf
  intro bIq
  refine Tri.fix 6 rfl fun Jqa hJqa hmq => ?_
  have hzq : Rds Jqa (some ⟨bIq, 0, none⟩) 1 (ints [30]) := ⟨rfl, .inr ⟨bIq, 0, _, _, _, rfl, hmq _ (List.mem_singleton.2 rfl), rfl⟩⟩
  refine Tri.free (images11_fix (some ⟨bIq, 0, none⟩) 1 [30] (by decide) (by intro x hx; simp at hx; subst hx; unfold In64; omega) 1 (by unfold In64; omega) Jqa hzq) ?_
  rintro r Jqb _ hJqb ⟨aIq, capIq, gsq, rfl, hIq, hgsq⟩
  have hgsq : gsq.map Img.pr = [(30, madeL 1 4096)] := hgsq
  have hglq : gsq.length = 1 := by have := congrArg List.length hgsq; rwa [List.length_map] at this
  have hleq := Imm.le_trans hJqa hJqb
  have hcm2 : v'.commit d' (gsq.map Img.pr) = (v', d', 0, 4) := by unfold VSt.commit; rw [if_pos hbr]
  have hc2 := vk_Commit (hV2.mono hleq) hcl.wf hcl.ep hcl.slot (by rw [hfr]; show 0 ≤ 1000; omega) hcl.groups (hD2.mono hleq) (hf'.mono (by omega)) aIq capIq gsq hIq (by omega)
  rw [hcm2] at hc2
  dsimp only at hc2
  refine Tri.frame hc2 [2, 3] rfl rfl ?_
  rintro r J10 A' hJ14 ⟨rfl, chV3, chD3, hV3, hD3, rfl⟩
  refine ⟨by simp, ?_⟩
  skip
  have hm6 : mountP d' = (d', 6, none) := by
    have hfo : foundP d' = (Sup.zero, 0, 6) := by unfold foundP; rw [if_pos hdn]
    unfold mountP
    rw [if_neg (by omega), hfo]
    rfl
  refine Tri.frame (mount_err hD3 (hf'.mono (by omega)) (by decide) hm6) [3] rfl rfl ?_
  rintro r J11 A' hJ15 ⟨chD4, rfl, hD4, rfl⟩
  refine ⟨by simp, ?_⟩
  repeat (first | refine CmpD.yes rfl ?_)
  have hsy := vk_Sync (hV3.mono hJ15) hcl.wf hD4
  rw [show v'.sync d' = (v', d', 4) by unfold VSt.sync; rw [if_pos hbr]] at hsy
  dsimp only at hsy
  refine Tri.frame hsy [2, 3] rfl rfl ?_
  rintro r J12 A' hJ16 ⟨rfl, chV5, chD5, hV5, hD5, rfl⟩
  refine ⟨by simp, ?_⟩
  repeat (first | refine CmpD.yes rfl ?_)
  have hck := vk_Checkpoint hV5 hcl.wf hcl.slot (by rw [hfr]; show 0 ≤ 1000; omega) hD5 (hf'.mono (by omega))
  rw [show v'.ckpt d' = (v', d', 4) by unfold VSt.ckpt; rw [if_pos hbr]] at hck
  dsimp only at hck
  refine Tri.frame hck [2, 3] rfl rfl ?_
  rintro r J13 A' hJ17 ⟨rfl, chV6, chD6, hV6, hD6, rfl⟩
  refine ⟨by simp, ?_⟩
  repeat (first | refine CmpD.yes rfl ?_)
  refine Tri.frame1 2 rfl (vk_Broken hV6) ?_
  rintro r _ A' hJ18 ⟨rfl, rfl, rfl⟩
  refine ⟨_, rfl, ?_⟩
  rw [hbr]
  repeat (first | refine CmpD.yes rfl ?_)
  exact Done.mk ⟨_, Drop.pick [] _ rfl, rfl, rfl⟩
end Go.Proofs.YtegdcjnjnoeinaaGreat
namespace Go.Proofs.YtegdcjnjnoeinaaGreat
open Go.RowKit Go.Sl
set_option maxRecDepth 20000

theorem KV.calls {ep t0 sq m k : Nat} {v : VSt} {d : DSt} {ls : List (List PImg)} (w : KV ep t0 sq v d ls m k) : Calls v := by
  refine ⟨w.w.e.wf, by rw [w.w.epoch, w.w.e.epoch], by rcases w.w.slot with h | h <;> omega, w.w.few_fresh, ?_⟩
  have := usedP_ge ls
  have := w.w.e.used
  rw [w.w.e.groups, grL_length]; omega
theorem commit_kv {I : Imm} {bV bD : Nat} {v : VSt} {d : DSt} {chV chD : List Blk} (hV : Vk I bV bD v chV) (hD : Dk I bD d chD) {ep t0 sq m k : Nat} {ls : List (List PImg)} (w : KV ep t0 sq v d ls m k) (hk : k ≤ 700000) (aI : Option Addr) (capI : Nat) (gs : List Img) (hI : ImgsOk I aI gs)
    (hho : HomeOk (layOf 64) (gs.map Img.pr)) (hR : RightP ep ((sq + ls.length : Nat) : Int) (gs.map Img.pr)) (hl : gs.length + 1 ≤ 16) :
    Tri Tryz.prog 16 #[.pointer (some ⟨bV, 0, none⟩), .slice aI gs.length capI] I [chV, chD] fun r J S' => ∃ v' d' t1 sq' ls' m' chV' chD', r = .tuple #[.int .i64 ((sq + ls.length : Nat) : Int), .int .i64 0] ∧ Vk J bV bD v' chV' ∧ Dk J bD d' chD' ∧ KV ep t1 sq' v' d' ls' m' (k + 33) ∧ sq' + ls'.length = sq + ls.length + 1 ∧
      (∀ n, 18 ≤ n → n < 64 → v'.cur d' n = (lastD (gs.map Img.pr) n).getD (v.cur d n)) ∧ S' = [chV', chD'] := by
  obtain ⟨v', d', t1, sq', ls', m', hc, w', hs, hcur⟩ := w.commit hho hR (by rw [List.length_map]; exact hl)
  have hcl := w.calls
  have h := vk_Commit hV hcl.wf hcl.ep hcl.slot (by have := hcl.fresh; omega) hcl.groups hD (w.w.e.few.mono hk) aI capI gs hI (by omega)
  rw [hc] at h
  refine h.mono ?_
  rintro r J S' hJ ⟨rfl, chV', chD', hV', hD', rfl⟩
  exact ⟨v', d', t1, sq', ls', m', chV', chD', rfl, hV', hD', w', hs, hcur, rfl⟩
theorem commit_err {I : Imm} {bV bD : Nat} {v : VSt} {d : DSt} {chV chD : List Blk} (hV : Vk I bV bD v chV) (hD : Dk I bD d chD) (hcl : Calls v) {k : Nat} (hf : d.Few k) (hk : k ≤ 700000) (aI : Option Addr) (capI : Nat) (gs : List Img) (hI : ImgsOk I aI gs) (hl : gs.length ≤ 1000) {e : Int}
    (hc : v.commit d (gs.map Img.pr) = (v, d, 0, e)) :
    Tri Tryz.prog 16 #[.pointer (some ⟨bV, 0, none⟩), .slice aI gs.length capI] I [chV, chD] fun r J S' => ∃ chV' chD', r = .tuple #[.int .i64 0, .int .i64 e] ∧ Vk J bV bD v chV' ∧ Dk J bD d chD' ∧ S' = [chV', chD'] := by
  have h := vk_Commit hV hcl.wf hcl.ep hcl.slot (by have := hcl.fresh; omega) hcl.groups hD (hf.mono hk) aI capI gs hI (by omega)
  rw [hc] at h
  refine h.mono ?_
  rintro r J S' hJ ⟨rfl, chV', chD', hV', hD', rfl⟩
  exact ⟨chV', chD', rfl, hV', hD', rfl⟩
section
variable {ep t0 sq m k : Nat} {v : VSt} {d : DSt} {ls : List (List PImg)}
theorem err_home (w : KV ep t0 sq v d ls m k) {l : List PImg} (h : ¬ HomeOk (layOf 64) l) : v.commit d l = (v, d, 0, 70) := by
  unfold VSt.commit
  rw [if_neg (by rw [w.w.broken]; simp), if_pos (by rw [w.w.e.lay]; exact h)]
theorem err_right (w : KV ep t0 sq v d ls m k) {l : List PImg} (hh : HomeOk (layOf 64) l) (h : ∀ e s, ¬ RightP e s l) : v.commit d l = (v, d, 0, 80) := by
  unfold VSt.commit
  rw [if_neg (by rw [w.w.broken]; simp), if_neg (by rw [w.w.e.lay]; exact fun h => h hh), if_pos (h _ _)]
theorem fits_iff (w : KV ep t0 sq v d ls m k) (n : Int) : v.fits n = decide (1 ≤ n ∧ n ≤ 15) := by
  unfold VSt.fits
  have hl : v.j.lay.lb = 16 := by rw [w.w.e.lay]; exact layL_64'
  rw [hl]
  congr 1
  apply propext
  unfold blocksN
  split <;> omega
theorem err_many (w : KV ep t0 sq v d ls m k) {l : List PImg} (hh : HomeOk (layOf 64) l) (hR : RightP ep ((sq + ls.length : Nat) : Int) l) (hl : 16 ≤ l.length) : v.commit d l = (v, d, 0, 232) := by
  unfold VSt.commit
  rw [if_neg (by rw [w.w.broken]; simp), if_neg (by rw [w.w.e.lay]; exact fun h => h hh), if_neg (by rw [w.w.epoch, w.w.e.next]; exact fun h => h hR), if_pos (by rw [fits_iff w]; exact decide_eq_false (by omega))]
end
end Go.Proofs.YtegdcjnjnoeinaaGreat
namespace Go.Proofs.YtegdcjnjnoeinaaGreat
open Go.RowKit Go.Sl
set_option maxRecDepth 20000

theorem rds_sub11 {I : Imm} {a : Option Addr} {n cap : Nat} {vs : List Value} (h : Rds I a n vs) (lo m : Nat) (hm : 0 < m) (hle : lo + m ≤ n) (hc : n ≤ cap) : Rds I (slAddr a lo cap 1) m ((vs.drop lo).take m) := (slC_part (h.slC (S := [])) lo m hm hle hc).rds
theorem err_twice {ep t0 sq m k : Nat} {v : VSt} {d : DSt} {ls : List (List PImg)} (w : KV ep t0 sq v d ls m k) {l : List PImg} (h : l.map Prod.fst = [30, 30]) : v.commit d l = (v, d, 0, 80) := by
  refine err_right w (of_home64 fun g hg => ?_) (fun e s hr => ?_)
  · have : g.1 ∈ l.map Prod.fst := List.mem_map_of_mem hg
    rw [h] at this
    simp at this
    omega
  · have := hr.2.2.2.2.2.2.2
    rw [h] at this
    simp at this
theorem imgs1 {I : Imm} {b : Nat} {z : List Int} {T : TypeId} (hm : I b = some (row (ints z) T)) (hz : z.length ≤ 40) (hz2 : ∀ x ∈ z, In64 x) (k : Int) (hk : In64 k) :
    Tri Tryz.prog 15 #[.slice (some ⟨b, 0, none⟩) z.length z.length, .int .i64 k] I [] fun v J _ => ∃ a cap gs, v = .slice a gs.length cap ∧ ImgsOk J a gs ∧ gs.map Img.pr = imgsP z k 0 := by
  refine images11_fix (some ⟨b, 0, none⟩) z.length z hz hz2 k hk I ?_
  refine ⟨by simp [ints], ?_⟩
  by_cases h : z.length = 0
  · exact .inl h
  · exact .inr ⟨b, 0, _, _, _, rfl, hm, by rw [List.drop_zero, List.take_of_length_le (by simp [ints])]⟩
set_option maxHeartbeats 4000000 in
theorem volumeNumbers_walk {I : Imm} : Tri Tryz.prog 7 #[] I [] fun r _ _ => r = .bool true := by
  refine Tri.of (args := []) tabOk Tryz.func7 rfl (by kernel_rfl) (by kernel_rfl) ?_
  refine Tri.frameX (law_fresh _) [] rfl rfl ?_
  rintro r J1 A' hJ1 ⟨bD, bV, chD0, chV0, rfl, hD0, hV0, rfl⟩
  skip
  conv => whnf
  intro bA
  refine Tri.fix 2 rfl fun J2 hJ2 hmA => ?_
  refine Tri.free (imgs1 (z := [30, 31]) (hmA _ (List.mem_singleton.2 rfl)) (by decide) (by intro x hx; simp at hx; rcases hx with rfl | rfl <;> (unfold In64; omega)) 5 (by unfold In64; omega)) ?_
  rintro r J3 _ hJ3 ⟨aA, capA, gsA, rfl, hIA, hgA⟩
  have hle3 := Imm.le_trans hJ2 hJ3
  have hglA : gsA.length = 2 := by have := congrArg List.length hgA; rwa [List.length_map, imgsP_length] at this
  have hgA : gsA.map Img.pr = [(30, madeL 5 4096), (31, madeL 2 4096)] := hgA
  have hRA : RightP 2 ((1 + ([] : List (List PImg)).length : Nat) : Int) (gsA.map Img.pr) := by
    have := right_row (e := 2) (s := 1) (by omega) (by omega) 2 (by omega) 5
    rw [hgA]; exact this
  have hhA : HomeOk (layOf 64) (gsA.map Img.pr) := of_home64 (by
    rw [hgA]; intro g hg; simp at hg; rcases hg with rfl | rfl <;> (dsimp only; omega))
  refine Tri.frame (commit_kv (hV0.mono hle3) (hD0.mono hle3) v0_kv (by omega) aA capA gsA hIA hhA hRA (by omega)) [0, 1] rfl rfl ?_
  rintro r J4 A' hJ4 ⟨v1, d1, t1, sq1, ls1, m1, chV1, chD1, rfl, hV1, hD1, w1, hs1, hc1, rfl⟩
  refine ⟨by simp, ?_⟩
  skip
  obtain ⟨v2, d2, hsy, w2, hc2, _⟩ := w1.sync
  have hsn := vk_Sync hV1 w1.w.e.wf hD1
  rw [hsy] at hsn
  dsimp only at hsn
  refine Tri.frame hsn [0, 1] rfl rfl ?_
  rintro r J5 A' hJ5 ⟨rfl, chV2, chD2, hV2, hD2, rfl⟩
  refine ⟨by simp, ?_⟩
  skip
  obtain ⟨n, n1, n2, hR⟩ := w2.crash [] (-1) 0
  obtain rfl : n = ls1.length := by omega
  rw [List.take_length] at hR
  have hf2 := w2.w.e.few
  have hs3 : sq1 + ls1.length = 2 := hs1
  refine Tri.frame1 1 rfl (dk_Crash hD2 (hf2.mono (by omega)) none 0 0 [] ⟨rfl, .inl rfl⟩ (-1) 0 (by omega)) ?_
  rintro r J6 A' hJ6 ⟨rfl, chD3, hD3, rfl⟩
  refine ⟨_, rfl, ?_⟩
  skip
  refine Tri.frame (mount_vk hD3 ⟨rfl, rfl, rfl⟩ hR (by omega) (by omega) (hf2.crash [] (-1) 0) (by omega)) [1] rfl rfl ?_
  rintro r J7 A' hJ7 ⟨bW, v3, d3, t3, chV3, chD4, rfl, hD4, hV3, w3, hc3, _, rfl⟩
  refine ⟨by simp, ?_⟩
  skip
  refine ToD.to 0 rfl ?_
  repeat (first | refine CmpD.yes rfl ?_)
  have h30 : v3.cur d3 30 = madeL 5 4096 := by
    rw [hc3 30 (by omega) (by omega), ← w2.view (by omega) (by omega), hc2, hc1 30 (by omega) (by omega), hgA]
    rfl
  refine Tri.free (made 5 4096 (by omega) _) ?_
  rintro r J8 _ hJ8 ⟨aM, rfl, hM⟩
  refine Tri.frame (law_has (hV3.mono hJ8) (hD4.mono hJ8) (fun g hg => by rw [w3.w.fresh_len g hg]; omega) 30 aM 4096 4096 (madeL 5 4096) hM) [3, 1] rfl rfl ?_
  rw [w3.w.read (by omega), h30, decide_eq_true ⟨rfl, rfl⟩]
  rintro r _ A' hJ9 ⟨rfl, rfl, rfl⟩
  refine ⟨by simp, ?_⟩
  skip
  rw [hs3] at w3
  refine Tri.frame1 3 rfl (vk_Next (hV3.mono hJ8)) ?_
  rw [w3.w.e.next]
  rintro r _ A' hJ10 ⟨rfl, rfl, rfl⟩
  refine ⟨_, rfl, ?_⟩
  repeat (first | refine CmpD.yes rfl ?_)
  refine Tri.frame1 3 rfl (vk_Synced (hV3.mono hJ8)) ?_
  rw [w3.sy]
  rintro r _ A' hJ10 ⟨rfl, rfl, rfl⟩
  refine ⟨_, rfl, ?_⟩
  repeat (first | refine CmpD.yes rfl ?_)
  have hVx := hV3.mono hJ8
  have hDx := hD4.mono hJ8
  conv => whnf
  intro bB
  refine Tri.fix 4 rfl fun JBa hJBa hmB => ?_
  refine Tri.free (imgs1 (z := [17]) (hmB _ (List.mem_singleton.2 rfl)) (by decide) (by intro x hx; simp at hx; subst hx; unfold In64; omega) 1 (by unfold In64; omega)) ?_
  rintro r JB _ hJB ⟨aB, capB, gsB, rfl, hIB, hgB⟩
  have hleB := Imm.le_trans hJBa hJB
  have hglB : gsB.length ≤ 1000 := by have := congrArg List.length hgB; rw [List.length_map, imgsP_length] at this; simp at this; omega
  refine Tri.frame (commit_err (hVx.mono hleB) (hDx.mono hleB) w3.calls w3.w.e.few (by omega) aB capB gsB hIB hglB (err_home w3 (by rw [hgB]; intro h; have := home64 h (17, _) (List.mem_singleton.2 rfl); dsimp only at this; omega))) [3, 1] rfl rfl ?_
  clear hVx hDx
  rintro r JBc A' hJBc ⟨chVB, chDB, rfl, hVx, hDx, rfl⟩
  refine ⟨by simp, ?_⟩
  skip
  conv => whnf
  intro bC
  refine Tri.fix 5 rfl fun JCa hJCa hmC => ?_
  refine Tri.free (imgs1 (z := [64]) (hmC _ (List.mem_singleton.2 rfl)) (by decide) (by intro x hx; simp at hx; subst hx; unfold In64; omega) 1 (by unfold In64; omega)) ?_
  rintro r JC _ hJC ⟨aC, capC, gsC, rfl, hIC, hgC⟩
  have hleC := Imm.le_trans hJCa hJC
  have hglC : gsC.length ≤ 1000 := by have := congrArg List.length hgC; rw [List.length_map, imgsP_length] at this; simp at this; omega
  refine Tri.frame (commit_err (hVx.mono hleC) (hDx.mono hleC) w3.calls w3.w.e.few (by omega) aC capC gsC hIC hglC (err_home w3 (by rw [hgC]; intro h; have := home64 h (64, _) (List.mem_singleton.2 rfl); dsimp only at this; omega))) [3, 1] rfl rfl ?_
  clear hVx hDx
  rintro r JCc A' hJCc ⟨chVC, chDC, rfl, hVx, hDx, rfl⟩
  refine ⟨by simp, ?_⟩
  skip
  refine CodeF.loopD [1, 5, 8, 10, 11, 12] (fun vs J' S' => ∃ (i : Nat) (a : Option Addr) (cap : Nat) (chR : List Blk), i ≤ 33 ∧ OwnC chR 1 a i cap (ints (rowL i)) ∧ JCc = J' ∧
      vs = [.pointer (some ⟨bD, 0, none⟩), .pointer (some ⟨bW, 0, none⟩), .int .i64 70, .int .i64 70, .slice a i cap, .int .i64 i] ∧ S' = [chVC, chDC, chR])
    (fun vs _ _ => match vs with | [_, _, _, _, _, .int _ i] => ((33 : Int) - i).toNat | _ => 0) ?_ ?_
  · exact ⟨_, Drop.and (Drop.pick [3, 1] _ rfl), 0, none, 0, [], by omega, OwnC.nil _ _, rfl, rfl, rfl⟩
  rintro vs gE J' S' hJ' ⟨i, aR, capR, chR, hi, hR33, rfl, rfl, rfl⟩
  refine CmpD.split (fun (c1 : (i : Int) < 33) => ?_) (fun (c1 : ¬ (i : Int) < 33) => ?_)
  · refine ToD.i64 (by omega) (by omega) ?_
    conv => whnf
    intro bN
    refine appendD tabOk rfl rfl rfl rfl rfl rfl rfl 2 rfl hR33 (SrcOk.slice (n := 1) (news := ints [30 + (i : Int)]) tabOk rfl ((OwnC.whole (len := 1) (size := 1) rfl).slC 3 rfl) (by intro v hv; simp [ints] at hv; subst hv; rfl)) rfl (by show (i + 1) * 8 ≤ _; omega) (by omega) ?_
    intro a2 cap2 ch2 hown2
    refine ToD.i64 (by omega) (by omega) ?_
    refine ⟨_, Drop.pick [0, 1, 2] _ rfl, ⟨i + 1, a2, cap2, ch2, by omega, by rw [rowL_succ, ints_append]; exact hown2, rfl, rfl, rfl⟩, ?_⟩
    show ((33 : Int) - ((i : Int) + 1)).toNat < ((33 : Int) - (i : Int)).toNat
    omega
  obtain rfl : i = 33 := by omega
  refine sliceD tabOk rfl rfl rfl rfl 0 16 capR rfl ⟨_, rfl⟩ rfl (.inl rfl) (by have := hR33.le; omega) ?_
  refine Tri.fix 2 rfl fun JE hJE hmE => ?_
  have hrow : Rds JE aR 33 (ints (rowL 33)) := Rds.of_own hR33 hmE
  have hcapR := hR33.le
  have hr16 : Rds JE (slAddr aR 0 capR 1) 16 (ints (rowL 16)) := by
    have := rds_sub11 hrow 0 16 (by omega) (by omega) hcapR
    exact this
  refine Tri.free (images11_fix (slAddr aR 0 capR 1) (capR - 0) (rowL 16) (by decide) (rowL_in 16 (by omega)) 1 (by unfold In64; omega) JE hr16) ?_
  rintro r JF _ hJF ⟨aE, capE, gsE, rfl, hIE, hgE⟩
  have hleE := Imm.le_trans hJE hJF
  have hglE : gsE.length = 16 := by have := congrArg List.length hgE; rw [List.length_map, imgsP_length] at this; simpa [rowL] using this
  have hhE : HomeOk (layOf 64) (gsE.map Img.pr) := of_home64 (by
    rw [hgE]
    intro g hg
    have : g.1 ∈ rowL 16 := by rw [← imgsP_fst (rowL 16) 1 0]; exact List.mem_map_of_mem hg
    simp [rowL] at this
    obtain ⟨i, hi, hgi⟩ := this
    omega)
  refine Tri.frame (commit_err (hVx.mono hleE) (hDx.mono hleE) w3.calls w3.w.e.few (by omega) aE capE gsE hIE (by omega) (err_many w3 hhE (by rw [hgE]; exact right_row (by omega) (by decide) 16 (by omega) 1) (by rw [List.length_map]; omega))) [0, 1] rfl rfl ?_
  clear hVx hDx
  rintro r JG A' hJG ⟨chVE, chDE, rfl, hVx, hDx, rfl⟩
  refine ⟨by simp, ?_⟩
  skip
  have hI0 : ImgsOk JG none ([] : List Img) := ⟨⟨rfl, .inl rfl⟩, by simp⟩
  refine Tri.frame (commit_err hVx hDx w3.calls w3.w.e.few (by omega) none 0 [] hI0 (by simp) (err_right w3 (of_home64 (by simp)) (fun e s h => by have := h.2.2.2.2.1; simp at this))) [0, 1] rfl rfl ?_
  clear hVx hDx
  rintro r JH A' hJH ⟨chVH, chDH, rfl, hVx, hDx, rfl⟩
  refine ⟨by simp, ?_⟩
  skip
  conv => whnf
  intro bK
  refine Tri.fix 3 rfl fun JKa hJKa hmK => ?_
  refine Tri.free (imgs1 (z := [30, 30]) (hmK _ (List.mem_singleton.2 rfl)) (by decide) (by intro x hx; simp at hx; subst hx; unfold In64; omega) 1 (by unfold In64; omega)) ?_
  rintro r JK _ hJK ⟨aK, capK, gsK, rfl, hIK, hgK⟩
  have hleK := Imm.le_trans hJKa hJK
  have hglK : gsK.length ≤ 1000 := by have := congrArg List.length hgK; rw [List.length_map, imgsP_length] at this; simp at this; omega
  refine Tri.frame (commit_err (hVx.mono hleK) (hDx.mono hleK) w3.calls w3.w.e.few (by omega) aK capK gsK hIK hglK (err_twice w3 (by rw [hgK]; exact imgsP_fst [30, 30] 1 0))) [0, 1] rfl rfl ?_
  clear hVx hDx
  rintro r JKc A' hJKc ⟨chVK, chDK, rfl, hVx, hDx, rfl⟩
  refine ⟨by simp, ?_⟩
  skip
  have hlen3 := w3.w.e.len
  have hrd64 : v3.read d3 64 = ([], 70) := by
    unfold VSt.read
    rw [if_neg (by rw [w3.w.broken]; simp), w3.w.fresh]
    show d3.read 64 = _
    unfold DSt.read
    rw [hlen3]
    rfl
  have hr64 := vk_Read hVx hDx (fun g hg => by rw [w3.w.fresh_len g hg]; omega) 64
  rw [hrd64] at hr64
  refine Tri.frame hr64 [0, 1] rfl rfl ?_
  rintro r _ A' hJ21 ⟨aN, capN, chN, rfl, _, rfl, rfl⟩
  refine ⟨by simp, ?_⟩
  repeat (first | refine CmpD.yes rfl ?_)
  refine Tri.frame1 0 rfl (vk_Fits hVx 15) ?_
  rw [fits_iff w3, decide_eq_true (by omega)]
  rintro r _ A' hJ22 ⟨rfl, rfl, rfl⟩
  refine ⟨_, rfl, ?_⟩
  skip
  refine Tri.frame1 0 rfl (vk_Fits hVx 16) ?_
  rw [fits_iff w3, decide_eq_false (by omega)]
  rintro r _ A' hJ23 ⟨rfl, rfl, rfl⟩
  refine ⟨_, rfl, ?_⟩
  skip
  refine Tri.frame1 0 rfl (vk_Fits hVx 0) ?_
  rw [fits_iff w3, decide_eq_false (by omega)]
  rintro r _ A' hJ24 ⟨rfl, rfl, rfl⟩
  refine ⟨_, rfl, ?_⟩
  skip
  refine Tri.frame1 0 rfl (vk_Broken hVx) ?_
  rw [w3.w.broken]
  rintro r _ A' hJ25 ⟨rfl, rfl, rfl⟩
  refine ⟨_, rfl, ?_⟩
  skip
  have hrowK : Rds JKc aR 33 (ints (rowL 33)) := hrow.mono (Imm.le_trans hJF (Imm.le_trans hJG (Imm.le_trans hJH (Imm.le_trans hleK hJKc))))
  obtain ⟨K0, hK0⟩ : ∃ K0, K0 = 24 + 33 + 17 := ⟨_, rfl⟩
  refine CodeF.loopD [1, 5, 11, 21, 22] (fun vs J' S' => ∃ (q : Nat) (v : VSt) (d : DSt) (ls : List (List PImg)) (t0 sq m : Nat) (chV chD : List Blk), q ≤ 9 ∧ Vk J' bW bD v chV ∧ Dk J' bD d chD ∧ KV 3 t0 sq v d ls m (K0 + 33 * q) ∧ sq + ls.length = 2 + q ∧ (1 ≤ q → v.cur d 30 = madeL ((q : Int) - 1) 4096) ∧ JKc.le J' ∧
      vs = [.pointer (some ⟨bD, 0, none⟩), .pointer (some ⟨bW, 0, none⟩), .slice aR 33 capR, .bool true, .int .i64 q] ∧ S' = [chV, chD])
    (fun vs _ _ => match vs with | [_, _, _, _, .int _ q] => ((9 : Int) - q).toNat | _ => 0) ?_ ?_
  · exact ⟨_, Drop.pick [0, 1] _ rfl, 0, v3, d3, [], t3, 2, 0, _, _, by omega, hVx, hDx, by rw [hK0]; exact w3, rfl, by omega, Imm.le_refl _, rfl, rfl⟩
  clear hVx hDx
  rintro vs gE2 J' S' hJ' ⟨q, v, d, ls, t0, sq, m, chV, chD, hq, hVx, hDx, w, hsum, hcur, hle, rfl, rfl⟩
  refine CmpD.split (fun (c2 : (q : Int) < 9) => ?_) (fun (c2 : ¬ (q : Int) < 9) => ?_)
  · refine sliceD tabOk rfl rfl rfl rfl 0 4 capR rfl ⟨_, rfl⟩ rfl (.inl rfl) (by omega) ?_
    have hr4 : Rds J' (slAddr aR 0 capR 1) 4 (ints (rowL 4)) := rds_sub11 (hrowK.mono hle) 0 4 (by omega) (by omega) hcapR
    refine Tri.free (images11_fix (slAddr aR 0 capR 1) (capR - 0) (rowL 4) (by decide) (rowL_in 4 (by omega)) (q : Int) (by unfold In64; omega) J' hr4) ?_
    rintro r JL _ hJL ⟨aL, capL, gsL, rfl, hIL, hgL⟩
    have hglL : gsL.length = 4 := by have := congrArg List.length hgL; rw [List.length_map, imgsP_length] at this; simpa [rowL] using this
    have hhL : HomeOk (layOf 64) (gsL.map Img.pr) := of_home64 (by
      rw [hgL]
      intro g hg
      have : g.1 ∈ rowL 4 := by rw [← imgsP_fst (rowL 4) (q : Int) 0]; exact List.mem_map_of_mem hg
      simp [rowL] at this
      obtain ⟨i, hi, hgi⟩ := this
      omega)
    refine Tri.frame (commit_kv (hVx.mono hJL) (hDx.mono hJL) w (by omega) aL capL gsL hIL hhL (by rw [hgL]; exact right_row (by decide) (by omega) 4 (by omega) _) (by omega)) [0, 1] rfl rfl ?_
    rintro r JM A' hJM ⟨v', d', t1', sq', ls', m', chV', chD', rfl, hV', hD', w', hs', hc', rfl⟩
    refine ⟨by simp, ?_⟩
    repeat (first | refine CmpD.yes rfl ?_)
    refine ToD.to ((sq + ls.length : Nat) : Int) (by rw [wrap_i64 (by omega) (by omega)]; omega) ?_
    repeat (first | refine CmpD.yes rfl ?_)
    refine ToD.i64 (by omega) (by omega) ?_
    refine ⟨_, Drop.pick [0, 1] _ rfl, ⟨q + 1, v', d', ls', t1', sq', m', chV', chD', by omega, hV', hD', w'.mono (by omega), by omega, fun _ => ?_, Imm.le_trans hle (Imm.le_trans hJL hJM), rfl, rfl⟩, ?_⟩
    · rw [hc' 30 (by omega) (by omega), hgL, show ((q + 1 : Nat) : Int) - 1 = (q : Int) by omega]
      rfl
    · show ((9 : Int) - ((q : Int) + 1)).toNat < ((9 : Int) - (q : Int)).toNat
      omega
  obtain rfl : q = 9 := by omega
  have h30 := hcur (by omega)
  obtain ⟨v9, d9, hck, w9, hc9⟩ := w.ckpt (by omega)
  have hkk := vk_Checkpoint hVx w.calls.wf w.calls.slot (by have := w.calls.fresh; omega) hDx (w.w.e.few.mono (by omega))
  rw [hck] at hkk
  dsimp only at hkk
  refine Tri.frame hkk [0, 1] rfl rfl ?_
  rintro r JP A' hJP ⟨rfl, chV9, chD9, hV9, hD9, rfl⟩
  refine ⟨by simp, ?_⟩
  skip
  have hw9 : d9.writes = [] := w9.wr
  have hn9 : d9.now.getD 30 [] = madeL 8 4096 := by
    have h1 := hc9 30 (by omega) (by omega)
    rw [h30, w9.view (by omega) (by omega)] at h1
    have h2 : d9.now.getD 30 [] = d9.safe.getD 30 [] := w9.same 30 (by omega) (by omega)
    rw [h2]
    exact h1
  have hr9 := dk_Read hD9 30
  rw [show d9.read 30 = (madeL 8 4096, 0) by
    have := read_up w9.w.e.dwf w9.w.e.calm.1 (k := 30) (by rw [w9.w.e.len]; omega)
    rw [hn9] at this
    exact this] at hr9
  dsimp only at hr9
  refine Tri.frame hr9 [1] rfl rfl ?_
  rintro r _ A' hJQ ⟨aQ, capQ, chQ, rfl, hQ, rfl, rfl⟩
  refine ⟨by simp, ?_⟩
  skip
  refine ToD.to 0 rfl ?_
  repeat (first | refine CmpD.yes rfl ?_)
  refine Tri.free (made 8 4096 (by omega) _) ?_
  rintro r JR _ hJR ⟨aM8, rfl, hM8⟩
  refine Tri.mono (same_bytes (hQ.slC1 2 rfl) hM8.slC) ?_
  rintro r _ _ hJS ⟨rfl, rfl, rfl⟩
  rw [decide_eq_true rfl]
  skip
  have hpd := pend_fix (hD9.mono hJR) (w9.w.e.few.mono (by omega))
  rw [hw9] at hpd
  refine Tri.frame1 1 rfl hpd ?_
  rintro r JT A' hJT ⟨aP, capP, rfl, _, rfl⟩
  refine ⟨_, rfl, ?_⟩
  repeat (first | refine CmpD.yes rfl ?_)
  refine Tri.frame (law11_refused _) [] rfl rfl ?_
  rintro r JU A' hJU ⟨rfl, rfl⟩
  refine ⟨by simp, ?_⟩
  skip
  refine Tri.mono (awake11 _ _) ?_
  rintro r _ _ hJ11 rfl
  exact Done.mk rfl
end Go.Proofs.YtegdcjnjnoeinaaGreat

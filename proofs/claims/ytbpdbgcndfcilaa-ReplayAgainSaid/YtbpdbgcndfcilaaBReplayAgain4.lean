/- Texts of this claim laid together: Sort, Sorted, Home, Home2, SameImgs, R6a, R6b, R6g, HdA, Jk5, Head, GetG, RingS, R6c, Ref03b, R6d, R6e, R6f, ScanG, Rf4, Rf4b, CopyImgs, Awake10, Rf10b, ScanA, Rf4c, Rf4d, Rf4e, Rf4f, Rf4g, Rf4h, R9a, Awake08, Awk08, LowPick, Img9, JNum, Wi, ScanP, Written, Rf10c, Do, Rf10d, Ref03c, Rf10a, Image, JournalNumbers, ReplayNumbers, ReplayTells, Same9, ScanAny, SameG, Num9, Torn, Crash, KeptP, AgainP, AgainL, Copy, OpenB, OpenC, Others9, ScanNumbers. -/
import Derived.Test.YtbpdbgcndfcilaaBReplayAgain3
import Derived.Test.YtbpdbgcndfcilaaBReplayAgain2
import Derived.Test.YtbpdbgcndfcilaaBReplayAgain1
import Derived.Lib.SmallJoins
namespace Go.Proofs.Ytbpdbgcndfcilaa
open Go.RowKit Go.Sl
set_option maxRecDepth 20000

def sortI (l : List Int) : List Int := l.mergeSort fun x y => decide (x ≤ y)
theorem sortI_perm (l : List Int) : (sortI l).Perm l := List.mergeSort_perm _ _
theorem putCells_mid (pre post : List Value) (zs : List Int) (cs : List Value) (hc : cs.length = zs.length) :
    (Go.Sort.putCells (Value.int .i64) pre.length zs.toArray (pre ++ cs ++ post).toArray).toList = pre ++ ints zs ++ post := by
  apply List.ext_getElem?
  intro j
  simp only [Go.Sort.putCells, Array.toList_mapIdx, List.getElem?_mapIdx, List.size_toArray]
  have hil : (ints zs).length = zs.length := by simp [ints]
  have e : ∀ ds : List Value, ds.length = zs.length → ∀ i, (pre ++ ds ++ post)[i]? = if i < pre.length then pre[i]? else if i - pre.length < zs.length then ds[i - pre.length]? else post[i - pre.length - zs.length]? := by
    intro ds hd i
    rw [List.append_assoc]
    split
    · rename_i h; rw [List.getElem?_append_left h]
    · rename_i h
      rw [List.getElem?_append_right (by omega)]
      split
      · rename_i h2; rw [List.getElem?_append_left (by omega)]
      · rename_i h2; rw [List.getElem?_append_right (by omega), hd]
  rw [e cs hc, e (ints zs) hil]
  by_cases h1 : j < pre.length
  · rw [if_pos h1, if_pos h1, List.getElem?_eq_getElem h1]
    simp only [Option.map_some]
    rw [if_neg (by omega)]
  · rw [if_neg h1, if_neg h1]
    by_cases h2 : j - pre.length < zs.length
    · rw [if_pos h2, if_pos h2, List.getElem?_eq_getElem (by omega), List.getElem?_eq_getElem (by omega)]
      simp only [Option.map_some]
      rw [if_pos (by omega)]
      simp [ints, h2]
    · rw [if_neg h2, if_neg h2]
      cases hp : post[j - pre.length - zs.length]? with
      | none => rfl
      | some v =>
        simp only [Option.map_some]
        rw [if_neg (by omega)]
theorem Has_grow {w : World} {I : Imm} {L : List Blk} (os : Array Obj) (h : Has w I L) : Has (Go.Sort.grow w os) I L := by
  have old : ∀ (b : Nat) (x : Obj), w.heap[b]? = some x → (Go.Sort.grow w os).heap[b]? = some x := fun b x hb => by
    show (w.heap ++ os)[b]? = _
    rw [Array.getElem?_append_left (lt_of_some hb)]; exact hb
  exact ⟨fun b o hb => old _ _ (h.imm b o hb), fun x hx => old _ _ (h.mem x hx), h.nodup, h.disj⟩
theorem sort_ints {I : Imm} {S : St} (k : Nat) {ch : List Blk} (hk : S[k]? = some ch) {a : Option Addr} {len cap : Nat} {zs : List Int} (hown : OwnC ch 1 a len cap (ints zs)) (hlen : len ≤ 1000000000) :
    Tri Try.prog 139 #[.slice a len cap] I S fun v J S' => I = J ∧ v = .tuple #[] ∧ ∃ ch', OwnC ch' 1 a len cap (ints (sortI zs)) ∧ S' = S.set k ch' := by
  have hzl : zs.length = len := by have := hown.len1; simpa [ints] using this
  have hlt : k < S.length := by
    rcases Nat.lt_or_ge k S.length with g | g
    · exact g
    · rw [List.getElem?_eq_none g] at hk; cases hk
  have same : S.set k ch = S := by
    apply List.ext_getElem?
    intro j
    by_cases hj : k = j
    · subst hj; rw [List.getElem?_set_self hlt, hk]
    · rw [List.getElem?_set_ne hj]
  refine ⟨fun w F hw => ?_, fun w F hw => ?_⟩
  · simp [callFunc, Try.func139]
    kernel_rfl
  · rcases Nat.eq_zero_or_pos len with h0 | h0
    · subst h0
      refine (Try.slices_Sort_int_none a cap w).mono ?_
      rintro e w' ⟨rfl, rfl⟩
      have hz : zs = [] := List.length_eq_zero_iff.1 hzl
      subst hz
      exact ⟨_, I, S, rfl, I.le_refl, ⟨rfl, rfl, ch, by simpa [sortI] using hown, same.symm⟩, hw, Ext.refl _⟩
    · rcases hown.at' with q0 | ⟨b, pre, post, T, rfl, rfl, hpost⟩
      · have := hown.le; omega
      have hb : w.heap[b]? = some (row (pre ++ ints zs ++ post) T) := by
        refine In.heap (S := S) (I := I) (.own k ?_) hw
        rw [List.getD_eq_getElem?_getD, hk]; simp
      have hil : (ints zs).length = zs.length := by simp [ints]
      have hholds : Go.Sort.Holds (Value.int .i64) w b pre.length zs.toArray := by
        intro j hj
        have hj : j < zs.length := by simpa using hj
        refine ⟨?_, ?_⟩
        · rw [Go.Sl.cell_of_row hb, List.append_assoc, List.getElem?_append_right (by omega), Nat.add_sub_cancel_left, List.getElem?_append_left (by omega)]
          simp [ints, hj]
        · rw [Go.Sl.frozen_of_row hb]; simp
      have hcall := Try.slices_Sort_int b pre.length cap zs w hholds (lt_of_some hb) (by omega)
      rw [hzl] at hcall
      refine hcall.mono ?_
      rintro e w' ⟨rfl, n, os, rfl⟩
      have hblt := lt_of_some hb
      have hsz : ∀ d : Array Int, (Go.Sort.putRow (Value.int .i64) (Go.Sort.ahead w n) b pre.length d).heap.size = w.heap.size := by
        intro d; simp [Go.Sort.putRow, Go.Sort.mapBlock, Go.Sort.ahead]
      refine ⟨_, I, _, rfl, I.le_refl, ⟨rfl, rfl, [(b, row (pre ++ ints (sortI zs) ++ post) T)], ⟨?_, hown.le, .inr ⟨b, pre, post, T, rfl, rfl, hpost⟩⟩, rfl⟩, ?_, ⟨rfl, rfl, rfl, ?_⟩⟩
      · have := (sortI_perm zs).length_eq
        simp [ints, this, hzl]
      · refine Has_grow os (Has.turnAt (A := []) (B := []) hw hk ?_ ?_)
        · have hp := putCells_mid pre post (zs.mergeSort fun x y => decide (x ≤ y)) (ints zs) (by rw [hil, List.length_mergeSort])
          have : (Go.Sort.putCells (Value.int .i64) pre.length (zs.mergeSort fun x y => decide (x ≤ y)).toArray (pre ++ ints zs ++ post).toArray) = (pre ++ ints (sortI zs) ++ post).toArray := Array.ext' hp
          simp only [Go.Sort.putRow, Go.Sort.mapBlock, Go.Sort.ahead, Array.getElem?_modify, hb, if_true, Option.map_some, row, Go.Sort.onCells, this]
        · intro j hj
          simp only [Go.Sort.putRow, Go.Sort.mapBlock, Go.Sort.ahead, Array.getElem?_modify]
          rw [if_neg (Ne.symm hj)]
      · show w.heap.size ≤ (_ ++ os).size
        rw [Array.size_append, hsz]; omega
end Go.Proofs.Ytbpdbgcndfcilaa
namespace Go.Proofs.Ytbpdbgcndfcilaa
open Go.RowKit Go.Sl
set_option maxRecDepth 20000

theorem sortI_le (l : List Int) : (sortI l).Pairwise (fun a b => a ≤ b) := by
  have := List.pairwise_mergeSort (le := fun x y : Int => decide (x ≤ y)) (by intro a b c h1 h2; simp only [decide_eq_true_eq] at *; omega) (by intro a b; simp only [Bool.or_eq_true, decide_eq_true_eq]; omega) l
  exact this.imp (by intro _ _ h; simpa using h)
theorem sortI_eq {l m : List Int} (h : l.Perm m) : sortI l = sortI m :=
  List.Perm.eq_of_pairwise (le := fun a b => a ≤ b) (fun _ _ _ _ h1 h2 => Int.le_antisymm h1 h2) (sortI_le l) (sortI_le m) ((sortI_perm l).trans (h.trans (sortI_perm m).symm))
/-- the keys, in order -/
def keysOf (l : List (Int × Value)) : List Int := sortI (l.map Prod.fst)
theorem keysOf_length (l : List (Int × Value)) : (keysOf l).length = l.length := by unfold keysOf; rw [(sortI_perm _).length_eq, List.length_map]
theorem sorted_keys (b r : Nat) (ob : Obj) (l : List (Int × Value)) (hM : MapR ob l) (hl : l.length ≤ 1000000) (I : Imm) :
    Tri Try.prog 104 #[.func (.func 140) #[] #[.pointer (some ⟨b, 0, none⟩)]] I [keyBox b r, [(r, ob)]] fun v J S' =>
      ∃ a cap ch, v = .slice a l.length cap ∧ OwnC ch 1 a l.length cap (ints (keysOf l)) ∧ I.le J ∧ S' = [[(r, ob)], ch] := by
  have hnd : (l.map Prod.fst).Nodup := by obtain ⟨es, clk, _, h⟩ := hM; exact h.nodup
  refine Tri.of (args := [.func (.func 140) #[] #[.pointer (some ⟨b, 0, none⟩)]]) tabOk Try.func104 rfl (by kernel_rfl) (by kernel_rfl) ?_
  refine Tri.nf (collect_keys b r ob l hM hl I) ?_
  rintro v J S' hJ ⟨a, cap, ch, s, rfl, hown, h1, h2, h3, rfl⟩
  have hp : s.Perm (l.map Prod.fst) := (List.perm_ext_iff_of_nodup h1 hnd).2 h2
  have hsl : s.length = l.length := by rw [hp.length_eq, List.length_map]
  rw [hsl] at hown ⊢
  refine Tri.nf (sort_ints 1 rfl hown (by omega)) ?_
  rintro v J2 S' hJ2 ⟨rfl, rfl, ch', hown', rfl⟩
  exact Done.mk ⟨a, cap, ch', rfl, by unfold keysOf; rw [← sortI_eq hp]; exact hown', h3, rfl⟩
end Go.Proofs.Ytbpdbgcndfcilaa
namespace Go.Proofs.Ytbpdbgcndfcilaa
open Go.RowKit Go.Sl
set_option maxRecDepth 20000

/-- images and groups, read in what is owned or fixed -/
structure ImgR (I : Imm) (S : St) (g : Img) : Prop where
  rd : SlC I S g.a g.len (bts g.data)
structure ImgsR (I : Imm) (S : St) (a : Option Addr) (gs : List Img) : Prop where
  sl : SlC I S a (gs.length * 2) (imgCells gs)
  each : ∀ g ∈ gs, ImgR I S g
theorem ImgR.mores {I : Imm} {S : St} {g : Img} (h : ImgR I S g) (L : St) : ImgR I (S ++ L) g := ⟨h.rd.mores L⟩
/-- a group, as it lies -/
structure Grp where
  e : Int
  s : Int
  a : Option Addr
  cap : Nat
  gs : List Img
def grpCells (l : List Grp) : List Value := l.flatMap fun g => [.int .i64 g.e, .int .i64 g.s, .slice g.a g.gs.length g.cap]
theorem grpCells_at {ws : List Grp} {i : Nat} (h : i < ws.length) : ((grpCells ws).drop (i * 3)).take 3 = [.int .i64 ws[i].e, .int .i64 ws[i].s, .slice ws[i].a ws[i].gs.length ws[i].cap] := by
  induction ws generalizing i with
  | nil => simp at h
  | cons g ws ih =>
    cases i with
    | zero => rfl
    | succ i =>
      have := ih (i := i) (by simpa using h)
      have e : grpCells (g :: ws) = [.int .i64 g.e, .int .i64 g.s, .slice g.a g.gs.length g.cap] ++ grpCells ws := by simp [grpCells]
      rw [e, show (i + 1) * 3 = [Value.int .i64 g.e, .int .i64 g.s, .slice g.a g.gs.length g.cap].length + i * 3 by simp; omega, ← List.drop_drop, List.drop_left]
      simpa using this
structure GrpsR (I : Imm) (S : St) (a : Option Addr) (l : List Grp) : Prop where
  sl : SlC I S a (l.length * 3) (grpCells l)
  each : ∀ g ∈ l, ImgsR I S g.a g.gs ∧ g.gs.length ≤ 1000000
/-- the last image of each block, as a map holds it -/
def hdr (g : Img) : Int × Value := (g.blk, .slice g.a g.len g.cap)
def iput (ms : List Img) (g : Img) : List Img := if g.blk ∈ ms.map Img.blk then ms.map (fun x => if x.blk = g.blk then g else x) else ms ++ [g]
theorem iput_hdr (ms : List Img) (g : Img) : (iput ms g).map hdr = mput (ms.map hdr) g.blk (.slice g.a g.len g.cap) := by
  unfold iput mput
  have e : (ms.map hdr).map Prod.fst = ms.map Img.blk := by rw [List.map_map]; rfl
  rw [e]
  split
  · rw [List.map_map, List.map_map]
    apply List.map_congr_left
    intro x _
    show hdr (if x.blk = g.blk then g else x) = if (hdr x).1 = g.blk then (g.blk, _) else hdr x
    show hdr (if x.blk = g.blk then g else x) = if x.blk = g.blk then (g.blk, _) else hdr x
    split <;> rfl
  · rw [List.map_append]; rfl
theorem iput_mem {ms : List Img} {g x : Img} (h : x ∈ iput ms g) : x = g ∨ x ∈ ms := by
  unfold iput at h
  split at h
  · obtain ⟨y, hy, rfl⟩ := List.mem_map.1 h
    split
    · exact .inl rfl
    · exact .inr hy
  · rcases List.mem_append.1 h with h | h
    · exact .inr h
    · exact .inl (by simpa using h)
theorem iput_len (ms : List Img) (g : Img) : (iput ms g).length ≤ ms.length + 1 := by
  unfold iput; split <;> simp
/-- as values -/
def pput (ms : List PImg) (g : PImg) : List PImg := if g.1 ∈ ms.map Prod.fst then ms.map (fun x => if x.1 = g.1 then g else x) else ms ++ [g]
theorem iput_pr (ms : List Img) (g : Img) : (iput ms g).map Img.pr = pput (ms.map Img.pr) g.pr := by
  unfold iput pput
  have e : (ms.map Img.pr).map Prod.fst = ms.map Img.blk := by rw [List.map_map]; rfl
  rw [e]
  show List.map Img.pr (if g.blk ∈ ms.map Img.blk then _ else _) = if g.blk ∈ ms.map Img.blk then _ else _
  split
  · rw [List.map_map, List.map_map]
    apply List.map_congr_left
    intro x _
    show Img.pr (if x.blk = g.blk then g else x) = if x.blk = g.blk then g.pr else x.pr
    split <;> rfl
  · rw [List.map_append]; rfl
/-- images to their homes: the last of each block, in the blocks' order -/
def lastP (l : List PImg) : List PImg := l.foldl pput []
def homeP (l : List PImg) : List PImg := (sortI ((lastP l).map Prod.fst)).map fun n => (n, ((lastP l).lookup n).getD [])
def HomeOk (lay : Lay) (l : List PImg) : Prop := ∀ g ∈ l, lay.bi ≤ g.1 ∧ g.1 < lay.b
instance (lay : Lay) (l : List PImg) : Decidable (HomeOk lay l) := by unfold HomeOk; infer_instance
end Go.Proofs.Ytbpdbgcndfcilaa
namespace Go.Proofs.Ytbpdbgcndfcilaa
open Go.RowKit Go.Sl
set_option maxRecDepth 20000

def OwnImgs : List (List Blk) → List Img → Prop
  | [], [] => True
  | c :: cs, g :: gs => OwnB c g.a g.len g.cap g.data ∧ OwnImgs cs gs
  | _, _ => False
theorem OwnImgs.snoc : ∀ {cs : List (List Blk)} {gs : List Img} {c : List Blk} {g : Img}, OwnImgs cs gs → OwnB c g.a g.len g.cap g.data → OwnImgs (cs ++ [c]) (gs ++ [g])
  | [], [], _, _, _, h => ⟨h, trivial⟩
  | _ :: _, _ :: _, _, _, h, k => ⟨h.1, OwnImgs.snoc h.2 k⟩
  | [], _ :: _, _, _, h, _ => h.elim
  | _ :: _, [], _, _, h, _ => h.elim
theorem lookup_both : ∀ (ms : List Img) (n : Int), n ∈ ms.map Img.blk → ∃ g ∈ ms, g.blk = n ∧ mget (ms.map hdr) n = some (.slice g.a g.len g.cap) ∧ (ms.map Img.pr).lookup n = some g.data
  | [], n, h => by simp at h
  | x :: ms, n, h => by
    by_cases hx : n = x.blk
    · refine ⟨x, by simp, hx.symm, ?_, ?_⟩
      · unfold mget
        rw [List.map_cons, hdr, List.lookup_cons, show (n == x.blk) = true by simpa using hx]
      · rw [List.map_cons, Img.pr, List.lookup_cons, show (n == x.blk) = true by simpa using hx]
    · have hn : n ∈ ms.map Img.blk := by
        rw [List.map_cons] at h
        rcases List.mem_cons.1 h with h | h
        · exact absurd h hx
        · exact h
      obtain ⟨g, hg, h1, h2, h3⟩ := lookup_both ms n hn
      have hb : (n == x.blk) = false := by simpa using hx
      refine ⟨g, by simp [hg], h1, ?_, ?_⟩
      · unfold mget at h2 ⊢
        rw [List.map_cons, hdr, List.lookup_cons, hb]; exact h2
      · rw [List.map_cons, Img.pr, List.lookup_cons, hb]; exact h3
def allI (l : List Grp) : List Img := l.flatMap Grp.gs
def allP (l : List Grp) : List PImg := l.flatMap fun g => g.gs.map Img.pr
theorem allP_eq (l : List Grp) : allP l = (allI l).map Img.pr := by unfold allP allI; rw [List.map_flatMap]
theorem foldl_pr (l : List Img) : ∀ ms : List Img, (l.foldl iput ms).map Img.pr = (l.map Img.pr).foldl pput (ms.map Img.pr) := by
  induction l with
  | nil => intro ms; rfl
  | cons g l ih => intro ms; rw [List.foldl_cons, ih, iput_pr, List.map_cons, List.foldl_cons]
theorem fold_mem : ∀ (l ms : List Img), ∀ x ∈ l.foldl iput ms, x ∈ l ∨ x ∈ ms
  | [], ms, x, h => .inr h
  | g :: l, ms, x, h => by
    rcases fold_mem l (iput ms g) x h with h | h
    · exact .inl (by simp [h])
    · rcases iput_mem h with rfl | h
      · exact .inl (by simp)
      · exact .inr h
theorem fold_len : ∀ (l ms : List Img), (l.foldl iput ms).length ≤ ms.length + l.length
  | [], ms => by simp
  | g :: l, ms => by
    have h1 := fold_len l (iput ms g)
    have h2 := iput_len ms g
    rw [List.foldl_cons, List.length_cons]; omega
@[reducible] def layBox (b : Nat) (x : Lay) : List Blk := [(b, row x.vals 25)]
set_option maxHeartbeats 8000000 in
theorem home_one (c0 : List Blk) {I : Imm} {aG : Option Addr} {capG : Nat} {l : List Grp} (hG : GrpsR I [c0] aG l) (hl : l.length ≤ 1000000) (hall : (allI l).length ≤ 1000000) (hfew : ∀ g ∈ allI l, g.len ≤ 100000000) (x : Lay) :
    Tri Try.prog 50 #[x.v, .slice aG l.length capG] I [c0] fun v _ S' =>
      ((¬ (64 ≤ x.b ∧ x.b ≤ 512 ∧ x = layOf x.b.toNat) ∧ v = .tuple #[.slice none 0 0, .int .i64 2] ∧ S' = [c0]) ∨
       ((64 ≤ x.b ∧ x.b ≤ 512 ∧ x = layOf x.b.toNat) ∧ ¬ HomeOk x (allP l) ∧ v = .tuple #[.slice none 0 0, .int .i64 90] ∧ S' = [c0]) ∨
       ((64 ≤ x.b ∧ x.b ≤ 512 ∧ x = layOf x.b.toNat) ∧ HomeOk x (allP l) ∧ ∃ (aO : Option Addr) (capO : Nat) (chO : List Blk) (chs : List (List Blk)) (outs : List Img), v = .tuple #[.slice aO outs.length capO, .int .i64 0] ∧ OwnC chO 2 aO outs.length capO (imgCells outs) ∧ OwnImgs chs outs ∧ outs.map Img.pr = homeP (allP l) ∧ S' = c0 :: chO :: chs)) := by
  refine Tri.drop ?_ (fun _ _ _ _ h => h)
  refine Tri.of (args := [x.v, .slice aG l.length capG]) tabOk Try.func50 rfl (by kernel_rfl) (by kernel_rfl) ?_
  conv => whnf
  intro bl
  repeat (first
    | refine LoadD.own 0 rfl _ rfl rfl ?_
    | refine LoadD.own 1 rfl _ rfl rfl ?_
    | refine LoadP.at 0 rfl _ rfl rfl ?_
    | refine LoadP.at 1 rfl _ rfl rfl ?_
    | refine StoreD.st 0 rfl rfl rfl ?_
    | refine StoreD.st 1 rfl rfl rfl ?_
    | refine CmpD.yes rfl ?_
    | refine CmpD.yes (by decide) ?_
    | refine CmpD.no (by decide) ?_
    | refine Chk.mk ⟨rfl, trivial⟩ ?_
    | refine Chk.mk ⟨rfl, rfl, trivial⟩ ?_
    | refine Chk.mk ⟨rfl, rfl, rfl, trivial⟩ ?_
    | refine Chk.mk ⟨rfl, rfl, rfl, rfl, trivial⟩ ?_
    | refine Chk.mk ⟨rfl, rfl, rfl, rfl, rfl, trivial⟩ ?_
    | refine Chk.mk ⟨rfl, rfl, rfl, rfl, rfl, rfl, trivial⟩ ?_)
  refine Tri.free (layout_Of x.b I) ?_
  rintro v J _ hJ ⟨rfl, rfl⟩
  by_cases hb : x.b < 64 ∨ 512 < x.b
  · rw [layA, if_pos hb]
    conv => whnf
    intro b6
    repeat (first
      | refine LoadD.own 0 rfl _ rfl rfl ?_
      | refine LoadD.own 1 rfl _ rfl rfl ?_
      | refine LoadD.own 2 rfl _ rfl rfl ?_
      | refine LoadP.at 0 rfl _ rfl rfl ?_
      | refine LoadP.at 1 rfl _ rfl rfl ?_
      | refine LoadP.at 2 rfl _ rfl rfl ?_
      | refine StoreD.st 0 rfl rfl rfl ?_
      | refine StoreD.st 1 rfl rfl rfl ?_
      | refine StoreD.st 2 rfl rfl rfl ?_
      | refine CmpD.yes rfl ?_
      | refine CmpD.yes (by decide) ?_
      | refine CmpD.no (by decide) ?_
      | refine Chk.mk ⟨rfl, trivial⟩ ?_
      | refine Chk.mk ⟨rfl, rfl, trivial⟩ ?_
      | refine Chk.mk ⟨rfl, rfl, rfl, trivial⟩ ?_
      | refine Chk.mk ⟨rfl, rfl, rfl, rfl, trivial⟩ ?_
      | refine Chk.mk ⟨rfl, rfl, rfl, rfl, rfl, trivial⟩ ?_
      | refine Chk.mk ⟨rfl, rfl, rfl, rfl, rfl, rfl, trivial⟩ ?_)
    exact Done.mk ⟨[c0], Drop.pick [0] _ rfl, .inl ⟨by omega, rfl, rfl⟩⟩
  rw [layA, if_neg hb]
  conv => whnf
  intro b6
  repeat (first
    | refine LoadD.own 0 rfl _ rfl rfl ?_
    | refine LoadD.own 1 rfl _ rfl rfl ?_
    | refine LoadD.own 2 rfl _ rfl rfl ?_
    | refine LoadP.at 0 rfl _ rfl rfl ?_
    | refine LoadP.at 1 rfl _ rfl rfl ?_
    | refine LoadP.at 2 rfl _ rfl rfl ?_
    | refine StoreD.st 0 rfl rfl rfl ?_
    | refine StoreD.st 1 rfl rfl rfl ?_
    | refine StoreD.st 2 rfl rfl rfl ?_
    | refine CmpD.yes rfl ?_
    | refine CmpD.yes (by decide) ?_
    | refine CmpD.no (by decide) ?_
    | refine Chk.mk ⟨rfl, trivial⟩ ?_
    | refine Chk.mk ⟨rfl, rfl, trivial⟩ ?_
    | refine Chk.mk ⟨rfl, rfl, rfl, trivial⟩ ?_
    | refine Chk.mk ⟨rfl, rfl, rfl, rfl, trivial⟩ ?_
    | refine Chk.mk ⟨rfl, rfl, rfl, rfl, rfl, trivial⟩ ?_
    | refine Chk.mk ⟨rfl, rfl, rfl, rfl, rfl, rfl, trivial⟩ ?_)
  refine lay_cmp (layOf x.b.toNat) x rfl (.inr rfl) ?_ ?_ ?_
  · show Value.agg _ = _
    have hx : ((x.b.toNat : Nat) : Int) = x.b := by omega
    unfold layOf
    rw [hx]; rfl
  · rfl
  refine CmpD.split (fun c1 => ?_) (fun c1 => ?_)
  rotate_left
  · repeat (first
      | refine LoadD.own 0 rfl _ rfl rfl ?_
      | refine LoadD.own 1 rfl _ rfl rfl ?_
      | refine LoadD.own 2 rfl _ rfl rfl ?_
      | refine LoadP.at 0 rfl _ rfl rfl ?_
      | refine LoadP.at 1 rfl _ rfl rfl ?_
      | refine LoadP.at 2 rfl _ rfl rfl ?_
      | refine StoreD.st 0 rfl rfl rfl ?_
      | refine StoreD.st 1 rfl rfl rfl ?_
      | refine StoreD.st 2 rfl rfl rfl ?_
      | refine CmpD.yes rfl ?_
      | refine CmpD.yes (by decide) ?_
      | refine CmpD.no (by decide) ?_
      | refine Chk.mk ⟨rfl, trivial⟩ ?_
      | refine Chk.mk ⟨rfl, rfl, trivial⟩ ?_
      | refine Chk.mk ⟨rfl, rfl, rfl, trivial⟩ ?_
      | refine Chk.mk ⟨rfl, rfl, rfl, rfl, trivial⟩ ?_
      | refine Chk.mk ⟨rfl, rfl, rfl, rfl, rfl, trivial⟩ ?_
      | refine Chk.mk ⟨rfl, rfl, rfl, rfl, rfl, rfl, trivial⟩ ?_)
    refine Done.mk ⟨[c0], Drop.pick [0] _ rfl, .inl ⟨fun h => c1 ?_, rfl, rfl⟩⟩
    rw [← h.2.2]
  have hx : x = layOf x.b.toNat := by
    simp only [List.cons.injEq, and_true] at c1
    obtain ⟨q1, q2, q3, q4, q5, q6, q7⟩ := c1
    obtain ⟨x1, x2, x3, x4, x5, x6, x7⟩ := x
    dsimp only at q1 q2 q3 q4 q5 q6 q7 ⊢
    rw [Lay.mk.injEq]
    exact ⟨q1.symm, q2.symm, q3.symm, q4.symm, q5.symm, q6.symm, q7.symm⟩
  have hX : 64 ≤ x.b ∧ x.b ≤ 512 ∧ x = layOf x.b.toNat := ⟨by omega, by omega, hx⟩
  repeat (first
    | refine LoadD.own 0 rfl _ rfl rfl ?_
    | refine LoadD.own 1 rfl _ rfl rfl ?_
    | refine LoadD.own 2 rfl _ rfl rfl ?_
    | refine LoadP.at 0 rfl _ rfl rfl ?_
    | refine LoadP.at 1 rfl _ rfl rfl ?_
    | refine LoadP.at 2 rfl _ rfl rfl ?_
    | refine StoreD.st 0 rfl rfl rfl ?_
    | refine StoreD.st 1 rfl rfl rfl ?_
    | refine StoreD.st 2 rfl rfl rfl ?_
    | refine CmpD.yes rfl ?_
    | refine CmpD.yes (by decide) ?_
    | refine CmpD.no (by decide) ?_
    | refine Chk.mk ⟨rfl, trivial⟩ ?_
    | refine Chk.mk ⟨rfl, rfl, trivial⟩ ?_
    | refine Chk.mk ⟨rfl, rfl, rfl, trivial⟩ ?_
    | refine Chk.mk ⟨rfl, rfl, rfl, rfl, trivial⟩ ?_
    | refine Chk.mk ⟨rfl, rfl, rfl, rfl, rfl, trivial⟩ ?_
    | refine Chk.mk ⟨rfl, rfl, rfl, rfl, rfl, rfl, trivial⟩ ?_)
  refine makeMapD rfl ?_
  intro r
  repeat (first
    | refine LoadD.own 0 rfl _ rfl rfl ?_
    | refine LoadD.own 1 rfl _ rfl rfl ?_
    | refine LoadD.own 2 rfl _ rfl rfl ?_
    | refine LoadP.at 0 rfl _ rfl rfl ?_
    | refine LoadP.at 1 rfl _ rfl rfl ?_
    | refine LoadP.at 2 rfl _ rfl rfl ?_
    | refine StoreD.st 0 rfl rfl rfl ?_
    | refine StoreD.st 1 rfl rfl rfl ?_
    | refine StoreD.st 2 rfl rfl rfl ?_
    | refine CmpD.yes rfl ?_
    | refine CmpD.yes (by decide) ?_
    | refine CmpD.no (by decide) ?_
    | refine Chk.mk ⟨rfl, trivial⟩ ?_
    | refine Chk.mk ⟨rfl, rfl, trivial⟩ ?_
    | refine Chk.mk ⟨rfl, rfl, rfl, trivial⟩ ?_
    | refine Chk.mk ⟨rfl, rfl, rfl, rfl, trivial⟩ ?_
    | refine Chk.mk ⟨rfl, rfl, rfl, rfl, rfl, trivial⟩ ?_
    | refine Chk.mk ⟨rfl, rfl, rfl, rfl, rfl, rfl, trivial⟩ ?_)
  refine CodeF.loopD [2, 8, 30, 31, 32] (fun vs J' S' => ∃ (i : Nat) (ob : Obj), i ≤ l.length ∧ HomeOk x (allP (l.take i)) ∧ MapR ob (((allI (l.take i)).foldl iput []).map hdr) ∧ vs = [.pointer (some ⟨bl, 0, none⟩), .map (some r), .slice aG l.length capG, .int .i64 l.length, .int .i64 i] ∧ I = J' ∧ S' = [c0, layBox bl x, [(r, ob)]])
    (fun vs _ _ => match vs with | [_, _, _, _, .int _ i] => ((l.length : Int) - i).toNat | _ => 0) ?_ ?_
  · exact ⟨_, Drop.pick [0, 1, 3] _ rfl, 0, _, by omega, by intro g hg; simp [allP] at hg, MapR.nil, rfl, rfl, rfl⟩
  rintro vs gE J' S' hJ' ⟨i, ob, hi, hok, hM, rfl, rfl, rfl⟩
  refine CmpD.split (fun c2 => ?_) (fun c2 => ?_)
  · have hil : i < l.length := by omega
    have hg := hG.each _ (List.getElem_mem hil)
    have htk : l.take (i + 1) = l.take i ++ [l[i]] := by rw [List.take_add_one, List.getElem?_eq_getElem hil]; rfl
    rcases (hG.sl.mores [layBox bl x, [(r, ob)]]).mem with h0 | ⟨bg, off, rfl, hc⟩
    · omega
    have hcell := hc.part (i := i * 3) (m := 3) (by omega)
    rw [grpCells_at hil] at hcell
    generalize hgi : l[i] = gi at *
    obtain ⟨hgR, hgl⟩ := hg
    refine Chk.mk (by omega) ?_
    refine LoadD.mk _ hcell ?_
    conv => whnf
    intro b10
    repeat (first
      | refine LoadD.own 0 rfl _ rfl rfl ?_
      | refine LoadD.own 1 rfl _ rfl rfl ?_
      | refine LoadD.own 2 rfl _ rfl rfl ?_
      | refine LoadD.own 3 rfl _ rfl rfl ?_
      | refine LoadP.at 0 rfl _ rfl rfl ?_
      | refine LoadP.at 1 rfl _ rfl rfl ?_
      | refine LoadP.at 2 rfl _ rfl rfl ?_
      | refine LoadP.at 3 rfl _ rfl rfl ?_
      | refine StoreD.st 0 rfl rfl rfl ?_
      | refine StoreD.st 1 rfl rfl rfl ?_
      | refine StoreD.st 2 rfl rfl rfl ?_
      | refine StoreD.st 3 rfl rfl rfl ?_
      | refine CmpD.yes rfl ?_
      | refine CmpD.yes (by decide) ?_
      | refine CmpD.no (by decide) ?_
      | refine Chk.mk ⟨rfl, trivial⟩ ?_
      | refine Chk.mk ⟨rfl, rfl, trivial⟩ ?_
      | refine Chk.mk ⟨rfl, rfl, rfl, trivial⟩ ?_
      | refine Chk.mk ⟨rfl, rfl, rfl, rfl, trivial⟩ ?_
      | refine Chk.mk ⟨rfl, rfl, rfl, rfl, rfl, trivial⟩ ?_
      | refine Chk.mk ⟨rfl, rfl, rfl, rfl, rfl, rfl, trivial⟩ ?_)
    refine CodeF.loopD [2, 8, 30, 31, 32, 37, 38, 39] (fun vs J' S' => ∃ (k : Nat) (ob : Obj), k ≤ gi.gs.length ∧ HomeOk x (allP (l.take i) ++ (gi.gs.take k).map Img.pr) ∧ MapR ob (((allI (l.take i) ++ gi.gs.take k).foldl iput []).map hdr) ∧ vs = [.pointer (some ⟨bl, 0, none⟩), .map (some r), .slice (some ⟨bg, off, none⟩) l.length capG, .int .i64 l.length, .int .i64 i, .slice gi.a gi.gs.length gi.cap, .int .i64 gi.gs.length, .int .i64 k] ∧ I = J' ∧ S' = [c0, layBox bl x, [(r, ob)]])
      (fun vs _ _ => match vs with | [_, _, _, _, _, _, _, .int _ k] => ((gi.gs.length : Int) - k).toNat | _ => 0) ?_ ?_
    · exact ⟨_, Drop.pick [0, 1, 2] _ rfl, 0, ob, by omega, by simpa using hok, by simpa using hM, rfl, rfl, rfl⟩
    rintro vs gE2 J2 S2 hJ2 ⟨k, ob2, hk, hok2, hM2, rfl, rfl, rfl⟩
    refine CmpD.split (fun c3 => ?_) (fun c3 => ?_)
    · have hkl : k < gi.gs.length := by omega
      have him := hgR.each _ (List.getElem_mem hkl)
      have htk2 : gi.gs.take (k + 1) = gi.gs.take k ++ [gi.gs[k]] := by rw [List.take_add_one, List.getElem?_eq_getElem hkl]; rfl
      have hmem : gi.gs[k].pr ∈ allP l := by
        unfold allP
        exact List.mem_flatMap.2 ⟨gi, by rw [← hgi]; exact List.getElem_mem hil, List.mem_map_of_mem (List.getElem_mem hkl)⟩
      rcases (hgR.sl.mores [layBox bl x, [(r, ob2)]]).mem with h0 | ⟨bi, offi, hgia, hci⟩
      · omega
      have hcelli := hci.part (i := k * 2) (m := 2) (by omega)
      rw [imgCells_at hkl] at hcelli
      generalize hgk : gi.gs[k] = g at *
      rw [hgia]
      refine Chk.mk (by omega) ?_
      refine LoadD.mk _ hcelli ?_
      conv => whnf
      intro b12
      repeat (first
        | refine LoadD.own 0 rfl _ rfl rfl ?_
        | refine LoadD.own 1 rfl _ rfl rfl ?_
        | refine LoadD.own 2 rfl _ rfl rfl ?_
        | refine LoadD.own 3 rfl _ rfl rfl ?_
        | refine LoadP.at 0 rfl _ rfl rfl ?_
        | refine LoadP.at 1 rfl _ rfl rfl ?_
        | refine LoadP.at 2 rfl _ rfl rfl ?_
        | refine LoadP.at 3 rfl _ rfl rfl ?_
        | refine StoreD.st 0 rfl rfl rfl ?_
        | refine StoreD.st 1 rfl rfl rfl ?_
        | refine StoreD.st 2 rfl rfl rfl ?_
        | refine StoreD.st 3 rfl rfl rfl ?_
        | refine CmpD.yes rfl ?_
        | refine CmpD.yes (by decide) ?_
        | refine CmpD.no (by decide) ?_
        | refine Chk.mk ⟨rfl, trivial⟩ ?_
        | refine Chk.mk ⟨rfl, rfl, trivial⟩ ?_
        | refine Chk.mk ⟨rfl, rfl, rfl, trivial⟩ ?_
        | refine Chk.mk ⟨rfl, rfl, rfl, rfl, trivial⟩ ?_
        | refine Chk.mk ⟨rfl, rfl, rfl, rfl, rfl, trivial⟩ ?_
        | refine Chk.mk ⟨rfl, rfl, rfl, rfl, rfl, rfl, trivial⟩ ?_)
      refine CmpD.split (fun c4 => ?_) (fun c4 => ?_)
      · repeat (first
          | refine LoadD.own 0 rfl _ rfl rfl ?_
          | refine LoadD.own 1 rfl _ rfl rfl ?_
          | refine LoadD.own 2 rfl _ rfl rfl ?_
          | refine LoadD.own 3 rfl _ rfl rfl ?_
          | refine LoadP.at 0 rfl _ rfl rfl ?_
          | refine LoadP.at 1 rfl _ rfl rfl ?_
          | refine LoadP.at 2 rfl _ rfl rfl ?_
          | refine LoadP.at 3 rfl _ rfl rfl ?_
          | refine StoreD.st 0 rfl rfl rfl ?_
          | refine StoreD.st 1 rfl rfl rfl ?_
          | refine StoreD.st 2 rfl rfl rfl ?_
          | refine StoreD.st 3 rfl rfl rfl ?_
          | refine CmpD.yes rfl ?_
          | refine CmpD.yes (by decide) ?_
          | refine CmpD.no (by decide) ?_
          | refine Chk.mk ⟨rfl, trivial⟩ ?_
          | refine Chk.mk ⟨rfl, rfl, trivial⟩ ?_
          | refine Chk.mk ⟨rfl, rfl, rfl, trivial⟩ ?_
          | refine Chk.mk ⟨rfl, rfl, rfl, rfl, trivial⟩ ?_
          | refine Chk.mk ⟨rfl, rfl, rfl, rfl, rfl, trivial⟩ ?_
          | refine Chk.mk ⟨rfl, rfl, rfl, rfl, rfl, rfl, trivial⟩ ?_)
        refine Done.mk ⟨[c0], Drop.pick [0] _ rfl, .inr (.inl ⟨hX, fun h => ?_, rfl, rfl⟩)⟩
        have := (h _ hmem).1
        exact absurd c4 (by show ¬ g.blk < x.bi; exact Int.not_lt.2 this)
      repeat (first
        | refine LoadD.own 0 rfl _ rfl rfl ?_
        | refine LoadD.own 1 rfl _ rfl rfl ?_
        | refine LoadD.own 2 rfl _ rfl rfl ?_
        | refine LoadD.own 3 rfl _ rfl rfl ?_
        | refine LoadP.at 0 rfl _ rfl rfl ?_
        | refine LoadP.at 1 rfl _ rfl rfl ?_
        | refine LoadP.at 2 rfl _ rfl rfl ?_
        | refine LoadP.at 3 rfl _ rfl rfl ?_
        | refine StoreD.st 0 rfl rfl rfl ?_
        | refine StoreD.st 1 rfl rfl rfl ?_
        | refine StoreD.st 2 rfl rfl rfl ?_
        | refine StoreD.st 3 rfl rfl rfl ?_
        | refine CmpD.yes rfl ?_
        | refine CmpD.yes (by decide) ?_
        | refine CmpD.no (by decide) ?_
        | refine Chk.mk ⟨rfl, trivial⟩ ?_
        | refine Chk.mk ⟨rfl, rfl, trivial⟩ ?_
        | refine Chk.mk ⟨rfl, rfl, rfl, trivial⟩ ?_
        | refine Chk.mk ⟨rfl, rfl, rfl, rfl, trivial⟩ ?_
        | refine Chk.mk ⟨rfl, rfl, rfl, rfl, rfl, trivial⟩ ?_
        | refine Chk.mk ⟨rfl, rfl, rfl, rfl, rfl, rfl, trivial⟩ ?_)
      refine CmpD.split (fun c5 => ?_) (fun c5 => ?_)
      · repeat (first
          | refine LoadD.own 0 rfl _ rfl rfl ?_
          | refine LoadD.own 1 rfl _ rfl rfl ?_
          | refine LoadD.own 2 rfl _ rfl rfl ?_
          | refine LoadD.own 3 rfl _ rfl rfl ?_
          | refine LoadP.at 0 rfl _ rfl rfl ?_
          | refine LoadP.at 1 rfl _ rfl rfl ?_
          | refine LoadP.at 2 rfl _ rfl rfl ?_
          | refine LoadP.at 3 rfl _ rfl rfl ?_
          | refine StoreD.st 0 rfl rfl rfl ?_
          | refine StoreD.st 1 rfl rfl rfl ?_
          | refine StoreD.st 2 rfl rfl rfl ?_
          | refine StoreD.st 3 rfl rfl rfl ?_
          | refine CmpD.yes rfl ?_
          | refine CmpD.yes (by decide) ?_
          | refine CmpD.no (by decide) ?_
          | refine Chk.mk ⟨rfl, trivial⟩ ?_
          | refine Chk.mk ⟨rfl, rfl, trivial⟩ ?_
          | refine Chk.mk ⟨rfl, rfl, rfl, trivial⟩ ?_
          | refine Chk.mk ⟨rfl, rfl, rfl, rfl, trivial⟩ ?_
          | refine Chk.mk ⟨rfl, rfl, rfl, rfl, rfl, trivial⟩ ?_
          | refine Chk.mk ⟨rfl, rfl, rfl, rfl, rfl, rfl, trivial⟩ ?_)
        refine Done.mk ⟨[c0], Drop.pick [0] _ rfl, .inr (.inl ⟨hX, fun h => ?_, rfl, rfl⟩)⟩
        have := (h _ hmem).2
        exact absurd c5 (by show ¬ x.b ≤ g.blk; exact Int.not_le.2 this)
      repeat (first
        | refine LoadD.own 0 rfl _ rfl rfl ?_
        | refine LoadD.own 1 rfl _ rfl rfl ?_
        | refine LoadD.own 2 rfl _ rfl rfl ?_
        | refine LoadD.own 3 rfl _ rfl rfl ?_
        | refine LoadP.at 0 rfl _ rfl rfl ?_
        | refine LoadP.at 1 rfl _ rfl rfl ?_
        | refine LoadP.at 2 rfl _ rfl rfl ?_
        | refine LoadP.at 3 rfl _ rfl rfl ?_
        | refine StoreD.st 0 rfl rfl rfl ?_
        | refine StoreD.st 1 rfl rfl rfl ?_
        | refine StoreD.st 2 rfl rfl rfl ?_
        | refine StoreD.st 3 rfl rfl rfl ?_
        | refine CmpD.yes rfl ?_
        | refine CmpD.yes (by decide) ?_
        | refine CmpD.no (by decide) ?_
        | refine Chk.mk ⟨rfl, trivial⟩ ?_
        | refine Chk.mk ⟨rfl, rfl, trivial⟩ ?_
        | refine Chk.mk ⟨rfl, rfl, rfl, trivial⟩ ?_
        | refine Chk.mk ⟨rfl, rfl, rfl, rfl, trivial⟩ ?_
        | refine Chk.mk ⟨rfl, rfl, rfl, rfl, rfl, trivial⟩ ?_
        | refine Chk.mk ⟨rfl, rfl, rfl, rfl, rfl, rfl, trivial⟩ ?_)
      refine mapUpdateD tabOk rfl rfl rfl rfl rfl 2 rfl hM2 ?_
      intro ob3 hM3
      repeat (first
        | refine LoadD.own 0 rfl _ rfl rfl ?_
        | refine LoadD.own 1 rfl _ rfl rfl ?_
        | refine LoadD.own 2 rfl _ rfl rfl ?_
        | refine LoadD.own 3 rfl _ rfl rfl ?_
        | refine LoadP.at 0 rfl _ rfl rfl ?_
        | refine LoadP.at 1 rfl _ rfl rfl ?_
        | refine LoadP.at 2 rfl _ rfl rfl ?_
        | refine LoadP.at 3 rfl _ rfl rfl ?_
        | refine StoreD.st 0 rfl rfl rfl ?_
        | refine StoreD.st 1 rfl rfl rfl ?_
        | refine StoreD.st 2 rfl rfl rfl ?_
        | refine StoreD.st 3 rfl rfl rfl ?_
        | refine CmpD.yes rfl ?_
        | refine CmpD.yes (by decide) ?_
        | refine CmpD.no (by decide) ?_
        | refine Chk.mk ⟨rfl, trivial⟩ ?_
        | refine Chk.mk ⟨rfl, rfl, trivial⟩ ?_
        | refine Chk.mk ⟨rfl, rfl, rfl, trivial⟩ ?_
        | refine Chk.mk ⟨rfl, rfl, rfl, rfl, trivial⟩ ?_
        | refine Chk.mk ⟨rfl, rfl, rfl, rfl, rfl, trivial⟩ ?_
        | refine Chk.mk ⟨rfl, rfl, rfl, rfl, rfl, rfl, trivial⟩ ?_)
      refine ToD.i64 (by omega) (by omega) ?_
      refine ⟨_, Drop.pick [0, 1, 2] _ rfl, ⟨k + 1, ob3, by omega, ?_, ?_, by rw [← hgia]; rfl, rfl, rfl⟩, ?_⟩
      · rw [htk2, List.map_append, ← List.append_assoc]
        intro q hq
        rcases List.mem_append.1 hq with hq | hq
        · exact hok2 q hq
        · simp only [List.map_cons, List.map_nil, List.mem_singleton] at hq
          subst hq
          exact ⟨Int.not_lt.1 c4, Int.not_le.1 c5⟩
      · rw [htk2, ← List.append_assoc, List.foldl_append, List.foldl_cons, List.foldl_nil, iput_hdr]
        exact hM3
      · show ((gi.gs.length : Int) - ((k : Int) + 1)).toNat < ((gi.gs.length : Int) - (k : Int)).toNat
        omega
    · obtain rfl : k = gi.gs.length := by omega
      rw [List.take_length] at hok2 hM2
      refine ToD.i64 (by omega) (by omega) ?_
      refine ⟨_, Drop.refl _, ⟨i + 1, ob2, by omega, ?_, ?_, rfl, rfl, rfl⟩, ?_⟩
      · rw [htk]; unfold allP at hok2 ⊢; rw [List.flatMap_append]; simpa using hok2
      · rw [htk]; unfold allI at hM2 ⊢; rw [List.flatMap_append]; simpa using hM2
      · show ((l.length : Int) - ((i : Int) + 1)).toNat < ((l.length : Int) - (i : Int)).toNat
        omega
  · obtain rfl : i = l.length := by omega
    rw [List.take_length] at hok hM
    obtain ⟨ms, hms⟩ : ∃ ms, ms = (allI l).foldl iput [] := ⟨_, rfl⟩
    rw [← hms] at hM
    have hmsl : ms.length ≤ 1000000 := by rw [hms]; have := fold_len (allI l) []; simp at this; omega
    have hmspr : ms.map Img.pr = lastP (allP l) := by rw [hms, foldl_pr, allP_eq]; rfl
    have hmsR : ∀ g ∈ ms, ImgR I [c0] g := by
      intro g hg
      rw [hms] at hg
      rcases fold_mem _ _ g hg with h | h
      · unfold allI at h
        obtain ⟨gr, hgr, hgg⟩ := List.mem_flatMap.1 h
        exact (hG.each gr hgr).1.each g hgg
      · simp at h
    have hmsF : ∀ g ∈ ms, g.len ≤ 100000000 := by
      intro g hg
      rw [hms] at hg
      rcases fold_mem _ _ g hg with h | h
      · exact hfew g h
      · simp at h
    have hkeys : keysOf (ms.map hdr) = sortI ((lastP (allP l)).map Prod.fst) := by
      unfold keysOf
      rw [← hmspr, List.map_map, List.map_map]; rfl
    have hkl := keysOf_length (ms.map hdr)
    rw [List.length_map] at hkl
    have hkm : ∀ n ∈ keysOf (ms.map hdr), n ∈ ms.map Img.blk := by
      intro n hn
      unfold keysOf at hn
      have := (sortI_perm _).mem_iff.1 hn
      rw [List.map_map] at this; exact this
    refine Tri.nf (keys_of r I _) ?_
    rintro v J S' hJ ⟨bk, rfl, rfl, rfl⟩
    refine Tri.frameX (sorted_keys bk r ob (ms.map hdr) hM (by rw [List.length_map]; exact hmsl) I) [3, 2] rfl rfl ?_
    rintro v J S' hJK ⟨aK, capK, chK, rfl, hK, hle, rfl⟩
    rw [List.length_map] at hK ⊢
    obtain ⟨KS, hKS⟩ : ∃ KS, KS = keysOf (ms.map hdr) := ⟨_, rfl⟩
    rw [← hKS] at hK hkeys hkl hkm
    refine CodeF.loopD [8, 13, 64, 65, 66] (fun vs J' S' => ∃ (k : Nat) (aO : Option Addr) (capO : Nat) (chO : List Blk) (chs : List (List Blk)) (outs : List Img), k ≤ ms.length ∧ outs.length = k ∧ OwnC chO 2 aO k capO (imgCells outs) ∧ OwnImgs chs outs ∧ outs.map Img.pr = (KS.take k).map (fun n => (n, ((lastP (allP l)).lookup n).getD [])) ∧
        vs = [.map (some r), .slice aO k capO, .slice aK ms.length capK, .int .i64 ms.length, .int .i64 k] ∧ J = J' ∧ S' = c0 :: [(r, ob)] :: chK :: chO :: chs)
      (fun vs _ _ => match vs with | [_, _, _, _, .int _ k] => ((ms.length : Int) - k).toNat | _ => 0) ?_ ?_
    · exact ⟨_, Drop.and (Drop.pick [0, 4, 5] _ rfl), 0, none, 0, [], [], [], by omega, rfl, OwnC.nil _ _, trivial, rfl, rfl, rfl, rfl⟩
    rintro vs gE J' S' hJ' ⟨k, aO, capO, chO, chs, outs, hk, hol, hO, hcs, hpr, rfl, rfl, rfl⟩
    refine CmpD.split (fun c3 => ?_) (fun c3 => ?_)
    · have hkK : k < KS.length := by omega
      have htk : KS.take (k + 1) = KS.take k ++ [KS[k]] := by rw [List.take_add_one, List.getElem?_eq_getElem hkK]; rfl
      obtain ⟨g, hgm, hgb, hget, hlk⟩ := lookup_both ms KS[k] (hkm _ (List.getElem_mem hkK))
      rw [hmspr] at hlk
      have hgR := hmsR g hgm
      have hcell : (ints KS)[k]? = some (.int .i64 KS[k]) := ints_get (List.getElem?_eq_getElem hkK)
      generalize hn : KS[k] = n at *
      rcases hK.at' with q0 | ⟨bK, pre, post, TK, rfl, rfl, hpost⟩
      · have := hK.le; omega
      refine Chk.mk (by omega) ?_
      refine LoadD.own 2 rfl _ (take_get (own_take pre (ints KS) post) hcell) rfl ?_
      refine lookupD tabOk rfl rfl rfl rfl rfl rfl 1 rfl hM ?_
      rw [hget]
      refine Tri.mono (clone_bytes J _ g.a g.len g.cap (bts g.data) (by rw [Nat.mul_one]; exact (hgR.rd.mores ([(r, ob)] :: _ :: chO :: chs)).imm hJK) (bts_plain _) (by have := hmsF g hgm; omega)) ?_
      rintro v J3 S3 hJ3 ⟨a', cap', ch', rfl, hown', rfl, rfl⟩
      conv => whnf
      intro bN
      refine appendD tabOk rfl rfl rfl rfl rfl rfl rfl 3 rfl hO (SrcOk.slice (n := 1) (news := imgCells [⟨n, a', g.len, cap', g.data⟩]) tabOk rfl ((OwnC.whole (len := 1) (size := 2) rfl).slC _ (two_get1 (c0 :: [(r, ob)] :: _ :: chO :: chs) ch' _)) (by intro v hv; simp [imgCells] at hv; rcases hv with rfl | rfl <;> rfl)) rfl (by show (k + 1) * 32 ≤ _; omega) (by omega) ?_
      intro a2 cap2 ch2 hO2
      refine ToD.i64 (by omega) (by omega) ?_
      refine ⟨c0 :: [(r, ob)] :: _ :: ch2 :: (chs ++ [ch']), Drop.init (c0 :: [(r, ob)] :: _ :: ch2 :: (chs ++ [ch'])) _, ⟨k + 1, a2, cap2, ch2, chs ++ [ch'], outs ++ [⟨n, a', g.len, cap', g.data⟩], by omega, by simp [hol], by rw [imgCells_snoc]; exact hO2, hcs.snoc hown', ?_, rfl, rfl, rfl⟩, ?_⟩
      · rw [htk, List.map_append, List.map_append, hpr]
        simp [hlk]
      · show ((ms.length : Int) - ((k : Int) + 1)).toNat < ((ms.length : Int) - (k : Int)).toNat
        omega
    · obtain rfl : k = ms.length := by omega
      repeat (first
        | refine LoadD.own 0 rfl _ rfl rfl ?_
        | refine LoadD.own 1 rfl _ rfl rfl ?_
        | refine LoadD.own 2 rfl _ rfl rfl ?_
        | refine LoadP.at 0 rfl _ rfl rfl ?_
        | refine LoadP.at 1 rfl _ rfl rfl ?_
        | refine LoadP.at 2 rfl _ rfl rfl ?_
        | refine StoreD.st 0 rfl rfl rfl ?_
        | refine StoreD.st 1 rfl rfl rfl ?_
        | refine StoreD.st 2 rfl rfl rfl ?_
        | refine CmpD.yes rfl ?_
        | refine CmpD.yes (by decide) ?_
        | refine CmpD.no (by decide) ?_
        | refine Chk.mk ⟨rfl, trivial⟩ ?_
        | refine Chk.mk ⟨rfl, rfl, trivial⟩ ?_
        | refine Chk.mk ⟨rfl, rfl, rfl, trivial⟩ ?_
        | refine Chk.mk ⟨rfl, rfl, rfl, rfl, trivial⟩ ?_
        | refine Chk.mk ⟨rfl, rfl, rfl, rfl, rfl, trivial⟩ ?_
        | refine Chk.mk ⟨rfl, rfl, rfl, rfl, rfl, rfl, trivial⟩ ?_)
      refine Done.mk ⟨c0 :: chO :: chs, ?_, .inr (.inr ⟨hX, hok, aO, capO, chO, chs, outs, by rw [hol]; rfl, by rw [hol]; exact hO, hcs, ?_, rfl⟩)⟩
      · exact ⟨[(r, ob)] ++ chK, by
          classical
          refine List.perm_iff_count.2 fun y => ?_
          simp only [List.flatten_cons, List.count_append]
          omega⟩
      · rw [hpr, List.take_of_length_le (by omega), hkeys]; rfl
theorem ImgsR.pack {I : Imm} {S : St} {a : Option Addr} {gs : List Img} (h : ImgsR I S a gs) : ImgsR I [S.flatten] a gs := ⟨h.sl.pack, fun g hg => ⟨(h.each g hg).rd.pack⟩⟩
theorem home_any {I : Imm} {S : St} {aG : Option Addr} {capG : Nat} {l : List Grp} (hG : GrpsR I S aG l) (hl : l.length ≤ 1000000) (hall : (allI l).length ≤ 1000000) (hfew : ∀ g ∈ allI l, g.len ≤ 100000000) (x : Lay) :
    Tri Try.prog 50 #[x.v, .slice aG l.length capG] I S fun v _ S' =>
      ((¬ (64 ≤ x.b ∧ x.b ≤ 512 ∧ x = layOf x.b.toNat) ∧ v = .tuple #[.slice none 0 0, .int .i64 2] ∧ S' = S) ∨
       ((64 ≤ x.b ∧ x.b ≤ 512 ∧ x = layOf x.b.toNat) ∧ ¬ HomeOk x (allP l) ∧ v = .tuple #[.slice none 0 0, .int .i64 90] ∧ S' = S) ∨
       ((64 ≤ x.b ∧ x.b ≤ 512 ∧ x = layOf x.b.toNat) ∧ HomeOk x (allP l) ∧ ∃ (aO : Option Addr) (capO : Nat) (chO : List Blk) (chs : List (List Blk)) (outs : List Img), v = .tuple #[.slice aO outs.length capO, .int .i64 0] ∧ OwnC chO 2 aO outs.length capO (imgCells outs) ∧ OwnImgs chs outs ∧ outs.map Img.pr = homeP (allP l) ∧ S' = S ++ (chO :: chs))) := by
  refine Tri.pack ((home_one S.flatten ⟨hG.sl.pack, fun g hg => ⟨(hG.each g hg).1.pack, (hG.each g hg).2⟩⟩ hl hall hfew x).mono ?_)
  rintro v J S' hJ (⟨h1, rfl, rfl⟩ | ⟨h1, h2, rfl, rfl⟩ | ⟨h1, h2, aO, capO, chO, chs, outs, rfl, h3, h4, h5, rfl⟩)
  · exact ⟨[], rfl, .inl ⟨h1, rfl, by simp⟩⟩
  · exact ⟨[], rfl, .inr (.inl ⟨h1, h2, rfl, by simp⟩)⟩
  · exact ⟨chO :: chs, rfl, .inr (.inr ⟨h1, h2, aO, capO, chO, chs, outs, rfl, h3, h4, h5, rfl⟩)⟩
theorem OwnImgs.at' : ∀ {cs : List (List Blk)} {gs : List Img}, OwnImgs cs gs → ∀ g ∈ gs, ∃ (i : Nat) (c : List Blk), cs[i]? = some c ∧ OwnB c g.a g.len g.cap g.data
  | [], [], _, g, hg => by simp at hg
  | c :: cs, x :: gs, h, g, hg => by
    rcases List.mem_cons.1 hg with rfl | hg
    · exact ⟨0, c, rfl, h.1⟩
    · obtain ⟨i, c', hi, ho⟩ := OwnImgs.at' h.2 g hg
      exact ⟨i + 1, c', hi, ho⟩
  | [], _ :: _, h, _, _ => h.elim
  | _ :: _, [], h, _, _ => h.elim
theorem imgsR_own {I : Imm} (S : St) {aO : Option Addr} {capO : Nat} {chO : List Blk} {chs : List (List Blk)} {outs : List Img} (h : OwnC chO 2 aO outs.length capO (imgCells outs)) (k : OwnImgs chs outs) (R : St) : ImgsR I (S ++ ((chO :: chs) ++ R)) aO outs := by
  refine ⟨h.slC S.length (by rw [List.getElem?_append_right (Nat.le_refl _), Nat.sub_self]; rfl), fun g hg => ?_⟩
  obtain ⟨i, c, hi, ho⟩ := k.at' g hg
  refine ⟨ho.slC1 (S.length + (i + 1)) ?_⟩
  rw [List.getElem?_append_right (by omega), Nat.add_sub_cancel_left, List.cons_append, List.getElem?_cons_succ]
  have hl : i < chs.length := by
    rcases Nat.lt_or_ge i chs.length with g | g
    · exact g
    · rw [List.getElem?_eq_none g] at hi; cases hi
  rw [List.getElem?_append_left hl]; exact hi
end Go.Proofs.Ytbpdbgcndfcilaa
namespace Go.Proofs.Ytbpdbgcndfcilaa
open Go.RowKit Go.Sl
set_option maxRecDepth 20000

theorem imgCells_0 {gs : List Img} {i : Nat} (h : i < gs.length) : (imgCells gs)[i * 2]? = some (.int .i64 gs[i].blk) := by
  have := imgCells_at h
  have e := congrArg (·[0]?) this
  simpa using e
theorem imgCells_1 {gs : List Img} {i : Nat} (h : i < gs.length) : (imgCells gs)[i * 2 + 1]? = some (.slice gs[i].a gs[i].len gs[i].cap) := by
  have := imgCells_at h
  have e := congrArg (·[1]?) this
  simpa using e
theorem take_pr_eq {g1 g2 : List Img} {i : Nat} (h1 : i < g1.length) (h2 : i < g2.length) (ht : (g1.take i).map Img.pr = (g2.take i).map Img.pr) :
    ((g1.take (i + 1)).map Img.pr = (g2.take (i + 1)).map Img.pr) ↔ (g1[i].blk = g2[i].blk ∧ g1[i].data = g2[i].data) := by
  rw [List.take_add_one, List.take_add_one, List.getElem?_eq_getElem h1, List.getElem?_eq_getElem h2, List.map_append, List.map_append, ht]
  simp
theorem SlC.split {I : Imm} {S : St} {a : Option Addr} {n : Nat} {vs : List Value} (h : SlC I S a n vs) (hn : n ≠ 0) : ∃ b off, a = some ⟨b, off, none⟩ ∧ Cells I S b off n vs := by
  rcases h.mem with h0 | h
  · exact absurd h0 hn
  · exact h
theorem LoadP_any {I : Imm} {c0 : List Blk} {b off n : Nat} {K : List Value → List Nat → Prop} (vs : List Value) (h : Cells I [c0] b off n vs) (k : K vs [0]) : LoadP I [c0] b off n K := .own 0 vs h k
set_option maxHeartbeats 4000000 in
theorem same_imgs1 (c0 : List Blk) {I : Imm} {a1 a2 : Option Addr} {c1 c2 : Nat} {g1 g2 : List Img} (h1 : ImgsR I [c0] a1 g1) (h2 : ImgsR I [c0] a2 g2) (hl1 : g1.length ≤ 1000000000) :
    Tri Try.prog 52 #[.slice a1 g1.length c1, .slice a2 g2.length c2] I [c0] fun v J S' => v = .bool (decide (g1.map Img.pr = g2.map Img.pr)) ∧ I = J ∧ S' = [c0] := by
  refine Tri.of (args := [.slice a1 g1.length c1, .slice a2 g2.length c2]) tabOk Try.func52 rfl (by kernel_rfl) (by kernel_rfl) ?_
  refine CmpD.split (fun c => ?_) (fun c => ?_)
  rotate_left
  · refine Done.mk ⟨?_, rfl, rfl⟩
    show Value.bool _ = Value.bool _
    rw [decide_eq_false (fun h => c (by have := congrArg List.length h; simp at this; omega))]
  have hl : g1.length = g2.length := by omega
  refine CodeF.loopD [0, 1, 5] (fun vs J' S' => ∃ (i : Nat), i ≤ g1.length ∧ (g1.take i).map Img.pr = (g2.take i).map Img.pr ∧ vs = [.slice a1 g1.length c1, .slice a2 g2.length c2, .int .i64 i] ∧ I = J' ∧ S' = [c0])
    (fun vs _ _ => match vs with | [_, _, .int _ i] => ((g1.length : Int) - i).toNat | _ => 0) ?_ ?_
  · exact ⟨_, Drop.refl _, 0, by omega, rfl, rfl, rfl, rfl⟩
  rintro vs gE J' S' hJ' ⟨i, hi, hpre, rfl, rfl, rfl⟩
  refine CmpD.split (fun c1' => ?_) (fun c1' => ?_)
  · have i1 : i < g1.length := by omega
    have i2 : i < g2.length := by omega
    have hiff := take_pr_eq i1 i2 hpre
    have no : ¬ (g1[i].blk = g2[i].blk ∧ g1[i].data = g2[i].data) → decide (g1.map Img.pr = g2.map Img.pr) = false := by
      intro h
      refine decide_eq_false fun h' => h (hiff.1 ?_)
      rw [List.map_take, List.map_take, h']
    obtain ⟨b1, o1, rfl, hc1⟩ := SlC.split h1.sl (by omega)
    obtain ⟨b2, o2, rfl, hc2⟩ := SlC.split h2.sl (by omega)
    have r1 := h1.each _ (List.getElem_mem i1)
    have r2 := h2.each _ (List.getElem_mem i2)
    refine CodeF.sched [[], [], [0, 1], [0, 1, 2], [0, 1, 2, 3], [], [], [5, 6], [5, 6, 7], [5, 6, 7, 8], [0, 1, 2, 3, 4, 5, 6, 7, 8, 9], [0, 1, 2, 3, 4, 5, 6, 7, 8, 9, 10], [0, 1, 2, 3, 4, 5, 6, 7, 8, 9, 10, 11], [0, 1, 2, 3, 4, 5, 6, 7, 8, 9, 10, 11], [0, 1, 2, 3, 4, 5, 6, 7, 8, 9, 10, 11, 12, 13], [0, 1, 2, 3, 4, 5, 6, 7, 8, 9, 10, 11, 12, 13, 14], [0, 1, 2, 3, 4, 5, 6, 7, 8, 9, 10, 11, 12, 13, 14, 15], [0, 1, 2, 3, 4, 5, 6, 7, 8, 9, 10, 11], [0, 1, 2, 3, 4, 5, 6, 7, 8, 9, 10, 11], [0, 1, 2, 3, 4, 5, 6, 7, 8, 9, 10, 11, 17, 18], [0, 1, 2, 3, 4, 5, 6, 7, 8, 9, 10, 11, 17, 18, 19], [0, 1, 2, 3, 4, 5, 6, 7, 8, 9, 10, 11, 17, 18, 19, 20], [0, 1, 2, 3, 4, 5, 6, 7, 8, 9, 10, 11, 12, 13, 14, 15, 16, 17, 18, 19, 20, 21], [0, 1, 2, 3, 4, 5, 6, 7, 8, 9, 10, 11, 12, 13, 14, 15, 16, 17, 18, 19, 20, 21, 22], [0, 1, 2, 3, 4, 5, 6, 7, 8, 9, 10, 11, 12, 13, 14, 15, 16, 17, 18, 19, 20, 21, 22, 23]] [0, 1, 2, 3, 4, 5, 6, 7, 8, 9, 10, 11, 12, 13, 14, 15, 16, 17, 18, 19, 20, 21, 22, 23, 24] (by kernel_rfl) ?_
    refine Chk.mk (by omega) ?_
    refine LoadP_any _ (hc1.at (imgCells_0 i1)) ?_
    refine Chk.mk (by omega) ?_
    refine LoadP_any _ (hc2.at (imgCells_0 i2)) ?_
    refine CmpD.split (fun c2' => ?_) (fun c2' => ?_)
    · refine Chk.mk (by omega) ?_
      refine LoadP_any _ (hc1.at (imgCells_1 i1)) ?_
      refine Chk.mk (by omega) ?_
      refine LoadP_any _ (hc2.at (imgCells_1 i2)) ?_
      refine Tri.nf (same_bytes r1.rd r2.rd) ?_
      rintro v J S' hJ ⟨rfl, rfl, rfl⟩
      by_cases hd : g1[i].data = g2[i].data
      · rw [decide_eq_true hd]
        refine ToD.i64 (by omega) (by omega) ?_
        refine ⟨_, Drop.refl _, ⟨i + 1, by omega, hiff.2 ⟨c2', hd⟩, rfl, rfl, rfl⟩, ?_⟩
        show ((g1.length : Int) - ((i : Int) + 1)).toNat < ((g1.length : Int) - (i : Int)).toNat
        omega
      · rw [decide_eq_false hd]
        refine Done.mk ⟨?_, rfl, rfl⟩
        show Value.bool _ = Value.bool _
        rw [no (fun h => hd h.2)]
    · refine Done.mk ⟨?_, rfl, rfl⟩
      show Value.bool _ = Value.bool _
      rw [no (fun h => c2' h.1)]
  · obtain rfl : i = g1.length := by omega
    refine Done.mk ⟨?_, rfl, rfl⟩
    show Value.bool _ = Value.bool _
    rw [List.take_length, hl, List.take_length] at hpre
    rw [decide_eq_true hpre]
theorem same_imgs {I : Imm} {S : St} {a1 a2 : Option Addr} {c1 c2 : Nat} {g1 g2 : List Img} (h1 : ImgsR I S a1 g1) (h2 : ImgsR I S a2 g2) (hl1 : g1.length ≤ 1000000000) :
    Tri Try.prog 52 #[.slice a1 g1.length c1, .slice a2 g2.length c2] I S fun v J S' => v = .bool (decide (g1.map Img.pr = g2.map Img.pr)) ∧ I = J ∧ S' = S := by
  refine Tri.pack ((same_imgs1 _ h1.pack h2.pack hl1).mono ?_)
  rintro v J S' hJ ⟨rfl, rfl, rfl⟩
  exact ⟨[], rfl, rfl, rfl, by simp⟩
end Go.Proofs.Ytbpdbgcndfcilaa
namespace Go.Proofs.Ytbpdbgcndfcilaa
open Go.RowKit Go.Sl
set_option maxRecDepth 20000

end Go.Proofs.Ytbpdbgcndfcilaa
namespace Go.Proofs.Ytbpdbgcndfcilaa
open Go.RowKit Go.Sl
set_option maxRecDepth 20000

end Go.Proofs.Ytbpdbgcndfcilaa
namespace Go.Proofs.Ytbpdbgcndfcilaa
open Go.RowKit Go.Sl
set_option maxRecDepth 20000

theorem noughts_get {j : Nat} (h : j < 4096) : noughts[j]? = some 0 := by
  unfold noughts
  rw [List.getElem?_replicate, if_pos h]
/-- gathered, byte by byte -/
def cq (q : Nat) : Nat := q / 512 * 504 + (q % 512 - 8)
end Go.Proofs.Ytbpdbgcndfcilaa
namespace Go.Proofs.Ytbpdbgcndfcilaa
open Go.RowKit Go.Sl
set_option maxRecDepth 20000

/-- what hides, as it lies -/
structure Hs where
  b : Nat
  off : Nat
  cap : Nat
@[reducible] def Hs.cell (h : Hs) : Value := .slice (some ⟨h.b, h.off, none⟩) 64 h.cap
def HsOk (J : Imm) (h : Hs) (d : Dat) : Prop := 64 ≤ h.cap ∧ Rds J (some ⟨h.b, h.off, none⟩) 64 (bts d)
theorem HsOk.mono {I J : Imm} {h : Hs} {d : Dat} (k : HsOk I h d) (hJ : I.le J) : HsOk J h d := ⟨k.1, k.2.mono hJ⟩
end Go.Proofs.Ytbpdbgcndfcilaa
namespace Go.Proofs.Ytbpdbgcndfcilaa
open Go.RowKit Go.Sl
set_option maxRecDepth 20000

def JSt.turn (j : JSt) (r : R5) : JSt × Int := match r with
  | (s, t, u, h, e) => if e = 0 then ({ j with s := s, t := t, u := u, h := h }, 0) else (j, e)
end Go.Proofs.Ytbpdbgcndfcilaa
namespace Go.Proofs.Ytbpdbgcndfcilaa
open Go.RowKit Go.Sl
set_option maxRecDepth 20000

@[reducible] def gBox (b : Nat) (e s : Int) (a : Option Addr) (n cap : Nat) : List Blk := [(b, row [.int .i64 e, .int .i64 s, .slice a n cap] 69)]
end Go.Proofs.Ytbpdbgcndfcilaa
namespace Go.Proofs.Ytbpdbgcndfcilaa
open Go.RowKit Go.Sl
set_option maxRecDepth 20000

end Go.Proofs.Ytbpdbgcndfcilaa
namespace Go.Proofs.Ytbpdbgcndfcilaa
open Go.RowKit Go.Sl
set_option maxRecDepth 20000

@[reducible] def rChunk (b bD : Nat) (x : Lay) (e : Int) : List Blk := [(b, row [.pointer (some ⟨bD, 0, none⟩), .int .i64 x.b, .int .i64 x.l, .int .i64 x.lb, .int .i64 x.bi, .int .i64 x.i, .int .i64 x.ib, .int .i64 x.d, .int .i64 e] 142)]
/-- the ring's block at a place -/
def rbP (d : DSt) (l lb : Nat) (at_ : Nat) : Dat := d.now.getD (l + at_ % lb) []
theorem read_up {d : DSt} (hw : d.Wf) (hdn : d.down = false) {k : Nat} (hk : k < d.now.length) : d.read (k : Int) = (d.now.getD k [], 0) := by
  have hr := hw.range
  unfold DSt.read
  rw [if_neg (by have := (wrongE_dec d.now.length (by omega) (k : Int)).2 ⟨by omega, by omega⟩; omega), hdn, if_neg (by simp), Int.toNat_natCast]
noncomputable def grpP (rb : Nat → Dat) (at_ room : Nat) : Option (Nat × Nat × List PImg) := match hdP (rb at_) with
  | none => none
  | some (_, _, l) => if l.length + 1 ≤ room then getP ((List.range (l.length + 1)).map fun i => rb (at_ + i)) else none
end Go.Proofs.Ytbpdbgcndfcilaa
namespace Go.Proofs.Ytbpdbgcndfcilaa
open Go.RowKit Go.Sl
set_option maxRecDepth 20000

theorem ImgsR.imm {I J : Imm} {S : St} {a : Option Addr} {gs : List Img} (h : ImgsR I S a gs) (hJ : I.le J) : ImgsR J S a gs := ⟨h.sl.imm hJ, fun g hg => ⟨(h.each g hg).rd.imm hJ⟩⟩
theorem ImgsR.mores {I : Imm} {S : St} {a : Option Addr} {gs : List Img} (h : ImgsR I S a gs) (L : St) : ImgsR I (S ++ L) a gs := ⟨h.sl.mores L, fun g hg => ⟨(h.each g hg).rd.mores L⟩⟩
def BkIn (ch : List Blk) (b : Bk) : Prop := ∃ bz pre post T, b.a = some ⟨bz, pre.length, none⟩ ∧ (bz, row (pre ++ bts b.data ++ post) T) ∈ ch ∧ b.data.length = 4096
theorem BkIn.ok {ch : List Blk} {b : Bk} (h : BkIn ch b) {J : Imm} (hm : ∀ x ∈ ch, J x.1 = some x.2) : BkOk J b := by
  obtain ⟨bz, pre, post, T, ha, hx, hl⟩ := h
  have hl' : (bts b.data).length = 4096 := by rw [bts_length, hl]
  refine ⟨hl', .inr ⟨bz, pre.length, _, T, (0, 0), ha, hm _ hx, ?_⟩⟩
  rw [List.append_assoc, List.drop_left, ← hl', List.take_left]
theorem BkIn.of {ch : List Blk} {a : Option Addr} {cap : Nat} {l : Dat} (h : OwnB ch a 4096 cap l) : BkIn ch ⟨a, cap, l⟩ := by
  have hl : l.length = 4096 := by have := h.n; rw [bts_length] at this; omega
  rcases h.at' with q0 | ⟨b6, pre, post, T6, h1, h2, _⟩
  · have := h.le; omega
  · exact ⟨b6, pre, post, T6, h1, by rw [h2]; simp, hl⟩
theorem BkIn.more {ch : List Blk} {b : Bk} (h : BkIn ch b) (c2 : List Blk) : BkIn (ch ++ c2) b := by
  obtain ⟨bz, pre, post, T, ha, hx, hl⟩ := h
  exact ⟨bz, pre, post, T, ha, List.mem_append_left _ hx, hl⟩
end Go.Proofs.Ytbpdbgcndfcilaa
namespace Go.Proofs.Ytbpdbgcndfcilaa
open Go.RowKit Go.Sl
set_option maxRecDepth 20000

end Go.Proofs.Ytbpdbgcndfcilaa
namespace Go.Proofs.Ytbpdbgcndfcilaa
open Go.RowKit Go.Sl
set_option maxRecDepth 20000

/-- an image whose data lies in a block of its own -/
structure DI where
  blk : Int
  b : Nat
  data : Dat
end Go.Proofs.Ytbpdbgcndfcilaa
namespace Go.Proofs.Ytbpdbgcndfcilaa
open Go.RowKit Go.Sl
set_option maxRecDepth 20000

end Go.Proofs.Ytbpdbgcndfcilaa
namespace Go.Proofs.Ytbpdbgcndfcilaa
open Go.RowKit Go.Sl
set_option maxRecDepth 20000

end Go.Proofs.Ytbpdbgcndfcilaa
namespace Go.Proofs.Ytbpdbgcndfcilaa
open Go.RowKit Go.Sl
set_option maxRecDepth 20000

abbrev G3 := Nat × Nat × List PImg
/-- groups one behind the other -/
noncomputable def scanK (rb : Nat → Dat) (ep : Int) : Nat → Nat → Int → Nat → List G3
  | 0, _, _, _ => []
  | f + 1, at_, seq, room => match grpP rb at_ room with
    | none => []
    | some (e, s, l) => if (e : Int) = ep ∧ (s : Int) = seq then (e, s, l) :: scanK rb ep f (at_ + (l.length + 1)) (seq + 1) (room - (l.length + 1)) else []
/-- a group, as it lies, told as numbers and images -/
def Grp.g3 (g : Grp) : Int × Int × List PImg := (g.e, g.s, g.gs.map Img.pr)
def up3 (g : G3) : Int × Int × List PImg := (g.1, g.2.1, g.2.2)
structure ScSt where
  f : Nat
  at' : Nat
  seq : Int
  room : Nat
@[reducible] def sBoxS (b : Nat) (s : Sup) : List Blk := [(b, row [.int .i64 s.blocks, .int .i64 s.epoch, .int .i64 s.seq, .int .i64 s.tail] 56)]
@[reducible] def scIt (bS bP bR bD : Nat) (s : Sup) (x : Lay) (e : Int) (chD : List Blk) : St := [sBoxS bS s, [(bP, row [.pointer (some ⟨bR, 0, none⟩)] 140)], rChunk bR bD x e, chD]
end Go.Proofs.Ytbpdbgcndfcilaa
namespace Go.Proofs.Ytbpdbgcndfcilaa
open Go.RowKit Go.Sl
set_option maxRecDepth 20000

def gv (g : Gate) : Int := if g.on then g.left else -1
@[reducible] def rV (s w : Hd) (count : Int) (down : Bool) (arm fault : Int) : Value := .agg #[s.v, w.v, .int .i64 count, .bool down, .int .i64 arm, .int .i64 fault]
end Go.Proofs.Ytbpdbgcndfcilaa
namespace Go.Proofs.Ytbpdbgcndfcilaa
open Go.RowKit Go.Sl
set_option maxRecDepth 20000

def atP (b : Dat) (l : List PImg) (n : Int) : Dat := l.foldl (fun x g => if g.1 = n then g.2 else x) b
end Go.Proofs.Ytbpdbgcndfcilaa
namespace Go.Proofs.Ytbpdbgcndfcilaa
open Go.RowKit Go.Sl
set_option maxRecDepth 20000

end Go.Proofs.Ytbpdbgcndfcilaa
namespace Go.Proofs.Ytbpdbgcndfcilaa
open Go.RowKit Go.Sl
set_option maxRecDepth 20000

theorem law_made (n seed : Int) (I : Imm) : Tri Try.prog 49 #[.int .i64 n, .int .i64 seed] I [] fun v J _ => ∃ a, v = .agg #[.int .i64 n, .slice a 4096 4096] ∧ Rds J a 4096 (bts (madeL seed 4096)) := by
  refine Tri.of (args := [.int .i64 n, .int .i64 seed]) tabOk Try.func49 rfl (by kernel_rfl) (by kernel_rfl) ?_
  conv => whnf
  intro b
  repeat (first
    | refine LoadD.own 0 rfl _ rfl rfl ?_
    | refine LoadP.at 0 rfl _ rfl rfl ?_
    | refine StoreD.st 0 rfl rfl rfl ?_
    | refine CmpD.yes rfl ?_
    | refine CmpD.yes (by decide) ?_
    | refine CmpD.no (by decide) ?_
    | refine Chk.mk ⟨rfl, trivial⟩ ?_
    | refine Chk.mk ⟨rfl, rfl, trivial⟩ ?_
    | refine Chk.mk ⟨rfl, rfl, rfl, trivial⟩ ?_
    | refine Chk.mk ⟨rfl, rfl, rfl, rfl, trivial⟩ ?_
    | refine Chk.mk ⟨rfl, rfl, rfl, rfl, rfl, trivial⟩ ?_
    | refine Chk.mk ⟨rfl, rfl, rfl, rfl, rfl, rfl, trivial⟩ ?_)
  refine Tri.free (made seed 4096 (by omega) I) ?_
  rintro v J _ hJ ⟨a, rfl, hr⟩
  repeat (first
    | refine LoadD.own 0 rfl _ rfl rfl ?_
    | refine LoadP.at 0 rfl _ rfl rfl ?_
    | refine StoreD.st 0 rfl rfl rfl ?_
    | refine CmpD.yes rfl ?_
    | refine CmpD.yes (by decide) ?_
    | refine CmpD.no (by decide) ?_
    | refine Chk.mk ⟨rfl, trivial⟩ ?_
    | refine Chk.mk ⟨rfl, rfl, trivial⟩ ?_
    | refine Chk.mk ⟨rfl, rfl, rfl, trivial⟩ ?_
    | refine Chk.mk ⟨rfl, rfl, rfl, rfl, trivial⟩ ?_
    | refine Chk.mk ⟨rfl, rfl, rfl, rfl, rfl, trivial⟩ ?_
    | refine Chk.mk ⟨rfl, rfl, rfl, rfl, rfl, rfl, trivial⟩ ?_)
  exact Done.mk ⟨a, rfl, hr⟩
theorem sup_cmp {o : Oper} {ρ : Env} {yt : TypeId} {x y : Operand} {K : Value → Prop} {op : BinOp} (p q : Sup) (ho : o.op = .binOp op 56 x y yt) (hop : op = .eql ∨ op = .neq)
    (hx : ρ.ev x = p.v) (hy : ρ.ev y = q.v) (h : CmpD ([p.blocks, p.epoch, p.seq, p.tail] = [q.blocks, q.epoch, q.seq, q.tail]) fun t => boolF (xor (op == .neq) t) fun t => K (.bool t)) : PureD Try.prog o ρ K :=
  eq_ints (k := .i64) tabOk [p.blocks, p.epoch, p.seq, p.tail] [q.blocks, q.epoch, q.seq, q.tail] ho hop rfl hx hy (by kernel_rfl) (by kernel_rfl) (by kernel_rfl) rfl rfl h
theorem right_of (e s : Int) (he : 1 ≤ e ∧ e ≤ 8388608) (hs : 1 ≤ s ∧ s ≤ 549755813888) : RightS (superOf e s) := ⟨by show (64 : Int) ≤ 64; decide, by show (64 : Int) ≤ 512; decide, he.1, he.2, hs.1, hs.2, by show (0 : Int) ≤ 0; decide, by show (0 : Int) ≤ 511; decide⟩
theorem get_supL {s : Sup} (h : RightS s) : getS (supL s) = some s := getS_some.2 ⟨h, rfl⟩
theorem sortI_of {l m : List Int} (h : l.Perm m) (hm : m.Pairwise (fun a b => a ≤ b)) : sortI l = m :=
  List.Perm.eq_of_pairwise (le := fun a b => a ≤ b) (fun _ _ _ _ h1 h2 => Int.le_antisymm h1 h2) (sortI_le l) hm ((sortI_perm l).trans h)
theorem home_ex (x y z : Dat) : homeP [(40, x), (30, y), (40, z)] = [(30, y), (40, z)] := by
  have h : lastP [(40, x), (30, y), (40, z)] = [(40, z), (30, y)] := by simp [lastP, pput]
  unfold homeP
  rw [h, show List.map Prod.fst [((40 : Int), z), (30, y)] = [40, 30] from rfl, sortI_of (m := [30, 40]) (List.Perm.swap _ _ _) (by decide)]
  rfl
set_option maxHeartbeats 4000000 in
theorem awake10 (I : Imm) (S : St) : Tri Try.prog 54 #[] I S fun v _ _ => v = .bool true := by
  refine Tri.free (Q := fun v _ _ => v = .bool true) ?_ (fun v J _ _ h => h)
  refine Tri.of (args := []) tabOk Try.func54 rfl (by kernel_rfl) (by kernel_rfl) ?_
  refine Tri.free (law_bytes 1 5 (right_of _ _ (by decide) (by decide)) I) ?_
  rintro v J _ hJ ⟨a1, c1, rfl, h1⟩
  refine Tri.free (law_bytes 2 1 (right_of _ _ (by decide) (by decide)) J) ?_
  rintro v J2 _ hJ2 ⟨a2, c2, rfl, h2⟩
  refine Tri.free (replay_Choose (h1.mono hJ2) h2 (by decide) (by decide)) ?_
  rintro v J3 _ hJ3 ⟨rfl, rfl⟩
  rw [get_supL (right_of _ _ (by decide) (by decide)), get_supL (right_of _ _ (by decide) (by decide))]
  rw [show chooseP (some (superOf 1 5)) (some (superOf 2 1)) = (superOf 2 1, 1, true) from by rw [chooseP, if_neg (by decide)]]
  conv => whnf
  intro b5
  repeat (first
    | refine LoadD.own 0 rfl _ rfl rfl ?_
    | refine LoadD.own 1 rfl _ rfl rfl ?_
    | refine LoadP.at 0 rfl _ rfl rfl ?_
    | refine LoadP.at 1 rfl _ rfl rfl ?_
    | refine StoreD.st 0 rfl rfl rfl ?_
    | refine StoreD.st 1 rfl rfl rfl ?_
    | refine CmpD.yes rfl ?_
    | refine CmpD.yes (by decide) ?_
    | refine CmpD.no (by decide) ?_
    | refine Chk.mk ⟨rfl, trivial⟩ ?_
    | refine Chk.mk ⟨rfl, rfl, trivial⟩ ?_
    | refine Chk.mk ⟨rfl, rfl, rfl, trivial⟩ ?_
    | refine Chk.mk ⟨rfl, rfl, rfl, rfl, trivial⟩ ?_
    | refine Chk.mk ⟨rfl, rfl, rfl, rfl, rfl, trivial⟩ ?_
    | refine Chk.mk ⟨rfl, rfl, rfl, rfl, rfl, rfl, trivial⟩ ?_)
  refine Tri.free (law_layout64 _) ?_
  rintro v J4 _ hJ4 ⟨rfl, rfl⟩
  refine Tri.free (law_made 40 1 _) ?_
  rintro v J5 _ hJ5 ⟨aM1, rfl, m1⟩
  refine Tri.free (law_made 30 2 _) ?_
  rintro v J6 _ hJ6 ⟨aM2, rfl, m2⟩
  conv => whnf
  intro b17
  repeat (first
    | refine LoadD.own 0 rfl _ rfl rfl ?_
    | refine LoadD.own 1 rfl _ rfl rfl ?_
    | refine LoadP.at 0 rfl _ rfl rfl ?_
    | refine LoadP.at 1 rfl _ rfl rfl ?_
    | refine StoreD.st 0 rfl rfl rfl ?_
    | refine StoreD.st 1 rfl rfl rfl ?_
    | refine CmpD.yes rfl ?_
    | refine CmpD.yes (by decide) ?_
    | refine CmpD.no (by decide) ?_
    | refine Chk.mk ⟨rfl, trivial⟩ ?_
    | refine Chk.mk ⟨rfl, rfl, trivial⟩ ?_
    | refine Chk.mk ⟨rfl, rfl, rfl, trivial⟩ ?_
    | refine Chk.mk ⟨rfl, rfl, rfl, rfl, trivial⟩ ?_
    | refine Chk.mk ⟨rfl, rfl, rfl, rfl, rfl, trivial⟩ ?_
    | refine Chk.mk ⟨rfl, rfl, rfl, rfl, rfl, rfl, trivial⟩ ?_)
  refine Tri.free (law_made 40 3 _) ?_
  rintro v J7 _ hJ7 ⟨aM3, rfl, m3⟩
  conv => whnf
  intro b20
  repeat (first
    | refine LoadD.own 0 rfl _ rfl rfl ?_
    | refine LoadD.own 1 rfl _ rfl rfl ?_
    | refine LoadP.at 0 rfl _ rfl rfl ?_
    | refine LoadP.at 1 rfl _ rfl rfl ?_
    | refine StoreD.st 0 rfl rfl rfl ?_
    | refine StoreD.st 1 rfl rfl rfl ?_
    | refine CmpD.yes rfl ?_
    | refine CmpD.yes (by decide) ?_
    | refine CmpD.no (by decide) ?_
    | refine Chk.mk ⟨rfl, trivial⟩ ?_
    | refine Chk.mk ⟨rfl, rfl, trivial⟩ ?_
    | refine Chk.mk ⟨rfl, rfl, rfl, trivial⟩ ?_
    | refine Chk.mk ⟨rfl, rfl, rfl, rfl, trivial⟩ ?_
    | refine Chk.mk ⟨rfl, rfl, rfl, rfl, rfl, trivial⟩ ?_
    | refine Chk.mk ⟨rfl, rfl, rfl, rfl, rfl, rfl, trivial⟩ ?_)
  conv => whnf
  intro b22
  have im1 : ImgR J7 [] ⟨40, aM1, 4096, 4096, madeL 1 4096⟩ := ⟨(m1.mono (Imm.le_trans hJ6 hJ7)).slC⟩
  have im2 : ImgR J7 [] ⟨30, aM2, 4096, 4096, madeL 2 4096⟩ := ⟨(m2.mono hJ7).slC⟩
  have im3 : ImgR J7 [] ⟨40, aM3, 4096, 4096, madeL 3 4096⟩ := ⟨m3.slC⟩
  refine Tri.mono (home_any (l := [⟨0, 0, some ⟨b17, 0, none⟩, 2, [⟨40, aM1, 4096, 4096, madeL 1 4096⟩, ⟨30, aM2, 4096, 4096, madeL 2 4096⟩]⟩, ⟨0, 0, some ⟨b20, 0, none⟩, 1, [⟨40, aM3, 4096, 4096, madeL 3 4096⟩]⟩]) ?_ (by simp) (by simp [allI]) (by intro g hg; simp [allI] at hg; rcases hg with rfl | rfl | rfl <;> simp) (layOf 64)) ?_
  · refine ⟨⟨rfl, .inr ⟨b22, 0, rfl, _, _, _, .own 3 List.mem_cons_self, rfl, rfl⟩⟩, ?_⟩
    intro g hg
    simp only [List.mem_cons, List.not_mem_nil, or_false] at hg
    rcases hg with rfl | rfl
    · refine ⟨⟨⟨rfl, .inr ⟨b17, 0, rfl, _, _, _, .own 1 List.mem_cons_self, rfl, rfl⟩⟩, ?_⟩, by simp⟩
      intro g hg
      simp only [List.mem_cons, List.not_mem_nil, or_false] at hg
      rcases hg with rfl | rfl
      · exact im1.mores _
      · exact im2.mores _
    · refine ⟨⟨⟨rfl, .inr ⟨b20, 0, rfl, _, _, _, .own 2 List.mem_cons_self, rfl, rfl⟩⟩, ?_⟩, by simp⟩
      intro g hg
      simp only [List.mem_cons, List.not_mem_nil, or_false] at hg
      subst hg
      exact im3.mores _
  have hX : 64 ≤ (layOf 64).b ∧ (layOf 64).b ≤ 512 ∧ layOf 64 = layOf (layOf 64).b.toNat := ⟨by decide, by decide, rfl⟩
  have hP : allP [⟨0, 0, some ⟨b17, 0, none⟩, 2, [⟨40, aM1, 4096, 4096, madeL 1 4096⟩, ⟨30, aM2, 4096, 4096, madeL 2 4096⟩]⟩, ⟨0, 0, some ⟨b20, 0, none⟩, 1, [⟨40, aM3, 4096, 4096, madeL 3 4096⟩]⟩] = [(40, madeL 1 4096), (30, madeL 2 4096), (40, madeL 3 4096)] := rfl
  have hL : layL ((64 : Nat) : Int) = 16 := layL_64'
  have hok : HomeOk (layOf 64) [(40, madeL 1 4096), (30, madeL 2 4096), (40, madeL 3 4096)] := by
    intro g hg
    have e1 : (layOf 64).bi = 18 := by show 2 + layL ((64 : Nat) : Int) = 18; rw [hL]; rfl
    have e2 : (layOf 64).b = 64 := rfl
    rw [e1, e2]
    simp only [List.mem_cons, List.not_mem_nil, or_false] at hg
    rcases hg with rfl | rfl | rfl <;> exact ⟨by decide, by decide⟩
  rw [hP]
  rintro v J8 S8 hJ8 (⟨h, _⟩ | ⟨_, h, _⟩ | ⟨_, _, aO, capO, chO, chs, outs, rfl, hO, hcs, hpr, rfl⟩)
  · exact absurd hX h
  · exact absurd hok h
  rw [home_ex] at hpr
  refine CodeF.sched [[], [], [0, 1], [0, 1, 2], [0, 1, 2, 3], [0, 1, 2, 3, 4], [0, 1, 2, 3, 4, 5], [0, 1, 2, 3, 4, 5, 6], [0, 1, 2, 3, 4, 5, 6, 7], [0, 1, 2, 3, 4, 5, 6, 7, 8], [0, 1, 2, 3, 4, 5, 6, 7, 8, 9], [0, 1, 2, 3, 4, 5, 6, 7, 8, 9, 10], [0, 1, 2, 3, 4, 5, 6, 7, 8, 9, 10, 11], [0, 1, 2, 3, 4, 5, 6, 7, 8, 9, 10, 11, 12], [0, 1, 2, 3, 4, 5, 6, 7, 8, 9, 10, 11, 12, 13], [0, 1, 2, 3, 4, 5, 6, 7, 8, 9, 10, 11, 12, 13, 14], [0, 1, 2, 3, 4, 5, 6, 7, 8, 9, 10, 11, 12, 13, 14], [0, 1, 2, 3, 4, 5, 6, 7, 8, 9, 10, 11, 12, 13, 14, 16], [0, 1, 2, 3, 4, 5, 6, 7, 8, 9, 10, 11, 12, 13, 14, 16, 17], [0, 1, 2, 3, 4, 5, 6, 7, 8, 9, 10, 11, 12, 13, 14, 15, 16, 17, 18], [0, 1, 2, 3, 4, 5, 6, 7, 8, 9, 10, 11, 12, 13, 14, 15, 16, 17, 18, 19], [0, 1, 2, 3, 4, 5, 6, 7, 8, 9, 10, 11, 12, 13, 14, 15, 16, 17, 18, 19, 20]] [0, 1, 2, 3, 4, 5, 6, 7, 8, 9, 10, 11, 12, 13, 14, 15, 16, 17, 18, 19, 20, 21] (by kernel_rfl) ?_
  repeat (first
    | refine LoadD.own 0 rfl _ rfl rfl ?_
    | refine LoadD.own 1 rfl _ rfl rfl ?_
    | refine LoadP.at 0 rfl _ rfl rfl ?_
    | refine LoadP.at 1 rfl _ rfl rfl ?_
    | refine StoreD.st 0 rfl rfl rfl ?_
    | refine StoreD.st 1 rfl rfl rfl ?_
    | refine CmpD.yes rfl ?_
    | refine CmpD.yes (by decide) ?_
    | refine CmpD.no (by decide) ?_
    | refine Chk.mk ⟨rfl, trivial⟩ ?_
    | refine Chk.mk ⟨rfl, rfl, trivial⟩ ?_
    | refine Chk.mk ⟨rfl, rfl, rfl, trivial⟩ ?_
    | refine Chk.mk ⟨rfl, rfl, rfl, rfl, trivial⟩ ?_
    | refine Chk.mk ⟨rfl, rfl, rfl, rfl, rfl, trivial⟩ ?_
    | refine Chk.mk ⟨rfl, rfl, rfl, rfl, rfl, rfl, trivial⟩ ?_)
  refine Tri.free (law_of 2 1 J8) ?_
  rintro v J9 _ hJ9 ⟨rfl, rfl⟩
  repeat (first
    | refine LoadD.own 0 rfl _ rfl rfl ?_
    | refine LoadD.own 1 rfl _ rfl rfl ?_
    | refine LoadP.at 0 rfl _ rfl rfl ?_
    | refine LoadP.at 1 rfl _ rfl rfl ?_
    | refine StoreD.st 0 rfl rfl rfl ?_
    | refine StoreD.st 1 rfl rfl rfl ?_
    | refine CmpD.yes rfl ?_
    | refine CmpD.yes (by decide) ?_
    | refine CmpD.no (by decide) ?_
    | refine Chk.mk ⟨rfl, trivial⟩ ?_
    | refine Chk.mk ⟨rfl, rfl, trivial⟩ ?_
    | refine Chk.mk ⟨rfl, rfl, rfl, trivial⟩ ?_
    | refine Chk.mk ⟨rfl, rfl, rfl, rfl, trivial⟩ ?_
    | refine Chk.mk ⟨rfl, rfl, rfl, rfl, rfl, trivial⟩ ?_
    | refine Chk.mk ⟨rfl, rfl, rfl, rfl, rfl, rfl, trivial⟩ ?_)
  refine sup_cmp (superOf 2 1) (superOf 2 1) rfl (.inl rfl) rfl rfl ?_
  repeat (first
    | refine LoadD.own 0 rfl _ rfl rfl ?_
    | refine LoadD.own 1 rfl _ rfl rfl ?_
    | refine LoadP.at 0 rfl _ rfl rfl ?_
    | refine LoadP.at 1 rfl _ rfl rfl ?_
    | refine StoreD.st 0 rfl rfl rfl ?_
    | refine StoreD.st 1 rfl rfl rfl ?_
    | refine CmpD.yes rfl ?_
    | refine CmpD.yes (by decide) ?_
    | refine CmpD.no (by decide) ?_
    | refine Chk.mk ⟨rfl, trivial⟩ ?_
    | refine Chk.mk ⟨rfl, rfl, trivial⟩ ?_
    | refine Chk.mk ⟨rfl, rfl, rfl, trivial⟩ ?_
    | refine Chk.mk ⟨rfl, rfl, rfl, rfl, trivial⟩ ?_
    | refine Chk.mk ⟨rfl, rfl, rfl, rfl, rfl, trivial⟩ ?_
    | refine Chk.mk ⟨rfl, rfl, rfl, rfl, rfl, rfl, trivial⟩ ?_)
  refine Tri.free (law_made 30 2 _) ?_
  rintro v J10 _ hJ10 ⟨aN2, rfl, n2⟩
  repeat (first
    | refine LoadD.own 0 rfl _ rfl rfl ?_
    | refine LoadD.own 1 rfl _ rfl rfl ?_
    | refine LoadP.at 0 rfl _ rfl rfl ?_
    | refine LoadP.at 1 rfl _ rfl rfl ?_
    | refine StoreD.st 0 rfl rfl rfl ?_
    | refine StoreD.st 1 rfl rfl rfl ?_
    | refine CmpD.yes rfl ?_
    | refine CmpD.yes (by decide) ?_
    | refine CmpD.no (by decide) ?_
    | refine Chk.mk ⟨rfl, trivial⟩ ?_
    | refine Chk.mk ⟨rfl, rfl, trivial⟩ ?_
    | refine Chk.mk ⟨rfl, rfl, rfl, trivial⟩ ?_
    | refine Chk.mk ⟨rfl, rfl, rfl, rfl, trivial⟩ ?_
    | refine Chk.mk ⟨rfl, rfl, rfl, rfl, rfl, trivial⟩ ?_
    | refine Chk.mk ⟨rfl, rfl, rfl, rfl, rfl, rfl, trivial⟩ ?_)
  refine Tri.free (law_made 40 3 _) ?_
  rintro v J11 _ hJ11 ⟨aN3, rfl, n3⟩
  repeat (first
    | refine LoadD.own 0 rfl _ rfl rfl ?_
    | refine LoadD.own 1 rfl _ rfl rfl ?_
    | refine LoadP.at 0 rfl _ rfl rfl ?_
    | refine LoadP.at 1 rfl _ rfl rfl ?_
    | refine StoreD.st 0 rfl rfl rfl ?_
    | refine StoreD.st 1 rfl rfl rfl ?_
    | refine CmpD.yes rfl ?_
    | refine CmpD.yes (by decide) ?_
    | refine CmpD.no (by decide) ?_
    | refine Chk.mk ⟨rfl, trivial⟩ ?_
    | refine Chk.mk ⟨rfl, rfl, trivial⟩ ?_
    | refine Chk.mk ⟨rfl, rfl, rfl, trivial⟩ ?_
    | refine Chk.mk ⟨rfl, rfl, rfl, rfl, trivial⟩ ?_
    | refine Chk.mk ⟨rfl, rfl, rfl, rfl, rfl, trivial⟩ ?_
    | refine Chk.mk ⟨rfl, rfl, rfl, rfl, rfl, rfl, trivial⟩ ?_)
  conv => whnf
  intro b44
  repeat (first
    | refine LoadD.own 0 rfl _ rfl rfl ?_
    | refine LoadD.own 1 rfl _ rfl rfl ?_
    | refine LoadP.at 0 rfl _ rfl rfl ?_
    | refine LoadP.at 1 rfl _ rfl rfl ?_
    | refine StoreD.st 0 rfl rfl rfl ?_
    | refine StoreD.st 1 rfl rfl rfl ?_
    | refine CmpD.yes rfl ?_
    | refine CmpD.yes (by decide) ?_
    | refine CmpD.no (by decide) ?_
    | refine Chk.mk ⟨rfl, trivial⟩ ?_
    | refine Chk.mk ⟨rfl, rfl, trivial⟩ ?_
    | refine Chk.mk ⟨rfl, rfl, rfl, trivial⟩ ?_
    | refine Chk.mk ⟨rfl, rfl, rfl, rfl, trivial⟩ ?_
    | refine Chk.mk ⟨rfl, rfl, rfl, rfl, rfl, trivial⟩ ?_
    | refine Chk.mk ⟨rfl, rfl, rfl, rfl, rfl, rfl, trivial⟩ ?_)
  refine Tri.mono (same_imgs (g1 := outs) (g2 := [⟨30, aN2, 4096, 4096, madeL 2 4096⟩, ⟨40, aN3, 4096, 4096, madeL 3 4096⟩]) ?_ ?_ ?_) ?_
  · exact imgsR_own [_, _, _, _] hO hcs [_]
  · refine ⟨⟨rfl, .inr ⟨b44, 0, rfl, _, _, _, .own _ (mem_getD (last_get ([_, _, _, _] ++ (chO :: chs)) _) (List.mem_singleton.2 rfl)), rfl, rfl⟩⟩, ?_⟩
    intro g hg
    simp only [List.mem_cons, List.not_mem_nil, or_false] at hg
    rcases hg with rfl | rfl
    · exact ⟨(n2.mono hJ11).slC⟩
    · exact ⟨n3.slC⟩
  · have := congrArg List.length hpr
    simp at this; omega
  rintro v J12 S12 hJ12 ⟨rfl, rfl, rfl⟩
  rw [decide_eq_true (show outs.map Img.pr = List.map Img.pr [⟨30, aN2, 4096, 4096, madeL 2 4096⟩, ⟨40, aN3, 4096, 4096, madeL 3 4096⟩] from hpr)]
  exact Done.mk rfl
end Go.Proofs.Ytbpdbgcndfcilaa
namespace Go.Proofs.Ytbpdbgcndfcilaa
open Go.RowKit Go.Sl
set_option maxRecDepth 20000

def LayOk (x : Lay) : Prop := 64 ≤ x.b ∧ x.b ≤ 512 ∧ x = layOf x.b.toNat
/-! ### the last image of a block -/
def lastD (l : List PImg) (n : Int) : Option Dat := l.foldl (fun x g => if g.1 = n then some g.2 else x) none
theorem lastD_snoc (l : List PImg) (g : PImg) (n : Int) : lastD (l ++ [g]) n = if g.1 = n then some g.2 else lastD l n := by simp [lastD]
theorem lookup_pput (ms : List PImg) (g : PImg) (n : Int) : (pput ms g).lookup n = if g.1 = n then some g.2 else ms.lookup n := by
  unfold pput
  split
  · rename_i h
    induction ms with
    | nil => simp at h
    | cons x ms ih =>
      rw [List.map_cons]
      by_cases hx : x.1 = g.1
      · rw [if_pos hx]
        by_cases hn : g.1 = n
        · rw [if_pos hn, List.lookup_cons, show (n == g.1) = true by simp [hn]]
        · rw [if_neg hn, List.lookup_cons, show (n == g.1) = false by simpa using fun h' => hn h'.symm, List.lookup_cons, hx, show (n == g.1) = false by simpa using fun h' => hn h'.symm]
          by_cases hm : g.1 ∈ ms.map Prod.fst
          · have := ih hm; rw [if_neg hn] at this; exact this
          · have : ms.map (fun x => if x.1 = g.1 then g else x) = ms := by
              rw [List.map_congr_left (g := id)]
              · simp
              · intro y hy
                rw [if_neg (fun (h' : y.1 = g.1) => hm (h' ▸ List.mem_map_of_mem hy))]; rfl
            rw [this]
      · rw [if_neg hx, List.lookup_cons, List.lookup_cons]
        have hm : g.1 ∈ ms.map Prod.fst := by
          rw [List.map_cons] at h
          rcases List.mem_cons.1 h with h | h
          · exact absurd h.symm hx
          · exact h
        by_cases hn : n = x.1
        · rw [show (n == x.1) = true by simpa using hn]
          rw [if_neg (fun h' => hx (by rw [h', hn]))]
        · rw [show (n == x.1) = false by simpa using hn]
          exact ih hm
  · rename_i h
    rw [List.lookup_append]
    by_cases hn : g.1 = n
    · rw [if_pos hn]
      have : ms.lookup n = none := by
        rw [List.lookup_eq_none_iff]
        intro y hy
        simp only [bne_iff_ne, ne_eq]
        intro h'
        exact h (by rw [hn, h']; exact List.mem_map_of_mem hy)
      rw [this, List.lookup_cons, show (n == g.1) = true by simp [hn]]; rfl
    · rw [if_neg hn, List.lookup_cons, show (n == g.1) = false by simpa using fun h' => hn h'.symm]
      simp
theorem lookup_lastP (l : List PImg) (n : Int) : (lastP l).lookup n = lastD l n := by
  suffices h : ∀ (l ms : List PImg) (o : Option Dat), ms.lookup n = o → (l.foldl pput ms).lookup n = l.foldl (fun x g => if g.1 = n then some g.2 else x) o from h l [] none rfl
  intro l
  induction l with
  | nil => intro ms o h; exact h
  | cons g l ih =>
    intro ms o h
    rw [List.foldl_cons, List.foldl_cons]
    refine ih _ _ ?_
    rw [lookup_pput, h]
theorem pput_keys (ms : List PImg) (g : PImg) : (pput ms g).map Prod.fst = if g.1 ∈ ms.map Prod.fst then ms.map Prod.fst else ms.map Prod.fst ++ [g.1] := by
  unfold pput
  split
  · rw [List.map_map]
    refine List.map_congr_left fun x _ => ?_
    show (if x.1 = g.1 then g else x).1 = x.1
    split
    · rename_i h; exact h.symm
    · rfl
  · simp
theorem lastP_nodup (l : List PImg) : ((lastP l).map Prod.fst).Nodup := by
  suffices h : ∀ (l ms : List PImg), (ms.map Prod.fst).Nodup → ((l.foldl pput ms).map Prod.fst).Nodup from h l [] (by simp)
  intro l
  induction l with
  | nil => intro ms h; exact h
  | cons g l ih =>
    intro ms h
    rw [List.foldl_cons]
    refine ih _ ?_
    rw [pput_keys]
    split
    · exact h
    · rename_i hn
      rw [List.nodup_append]
      refine ⟨h, by simp, ?_⟩
      rintro a ha b hb rfl
      simp only [List.mem_singleton] at hb
      exact hn (hb ▸ ha)
theorem mem_lastP (l : List PImg) (n : Int) : n ∈ (lastP l).map Prod.fst ↔ (lastD l n).isSome = true := by
  rw [← lookup_lastP, List.lookup_isSome_iff]
  constructor
  · intro h
    obtain ⟨x, hx, rfl⟩ := List.mem_map.1 h
    exact ⟨x, hx, by simp⟩
  · rintro ⟨x, hx, he⟩
    have : n = x.1 := by simpa using he
    rw [this]; exact List.mem_map_of_mem hx
/-- block by block, the last image -/
def homeK (lo : Int) (l : List PImg) : Nat → List PImg
  | 0 => []
  | k + 1 => homeK lo l k ++ (match lastD l (lo + k) with | some d => [(lo + k, d)] | none => [])
theorem homeK_keys (lo : Int) (l : List PImg) (k : Nat) : ∀ n, n ∈ (homeK lo l k).map Prod.fst ↔ lo ≤ n ∧ n < lo + k ∧ (lastD l n).isSome = true := by
  induction k with
  | zero => intro n; show n ∈ ([] : List Int) ↔ _; simp only [List.not_mem_nil, false_iff]; omega
  | succ k ih =>
    intro n
    rw [homeK, List.map_append, List.mem_append, ih n]
    cases hd : lastD l (lo + k) with
    | none =>
      simp only [List.map_nil, List.not_mem_nil, or_false]
      constructor
      · rintro ⟨h1, h2, h3⟩; exact ⟨h1, by omega, h3⟩
      · rintro ⟨h1, h2, h3⟩
        refine ⟨h1, ?_, h3⟩
        by_cases he : n = lo + k
        · subst he; rw [hd] at h3; cases h3
        · omega
    | some d =>
      simp only [List.map_cons, List.map_nil, List.mem_singleton]
      constructor
      · rintro (⟨h1, h2, h3⟩ | rfl)
        · exact ⟨h1, by omega, h3⟩
        · exact ⟨by omega, by omega, by rw [hd]; rfl⟩
      · rintro ⟨h1, h2, h3⟩
        by_cases he : n = lo + k
        · exact .inr he
        · exact .inl ⟨h1, by omega, h3⟩
theorem homeK_lt (lo : Int) (l : List PImg) (k : Nat) : ((homeK lo l k).map Prod.fst).Pairwise (fun a b => a < b) := by
  induction k with
  | zero => exact List.Pairwise.nil
  | succ k ih =>
    rw [homeK, List.map_append, List.pairwise_append]
    refine ⟨ih, ?_, ?_⟩
    · cases lastD l (lo + k) <;> simp
    · intro a ha b hb
      have := (homeK_keys lo l k a).1 ha
      cases hd : lastD l (lo + k) with
      | none => rw [hd] at hb; simp at hb
      | some d =>
        rw [hd] at hb
        simp only [List.map_cons, List.map_nil, List.mem_singleton] at hb
        omega
theorem homeK_snd (lo : Int) (l : List PImg) (k : Nat) : homeK lo l k = ((homeK lo l k).map Prod.fst).map fun n => (n, (lastD l n).getD []) := by
  induction k with
  | zero => rfl
  | succ k ih =>
    rw [homeK, List.map_append, List.map_append, ← ih]
    congr 1
    cases hd : lastD l (lo + k) with
    | none => rfl
    | some d => simp [hd]
theorem homeK_homeP (lo : Int) (l : List PImg) (k : Nat) (h : ∀ g ∈ l, lo ≤ g.1 ∧ g.1 < lo + k) : homeK lo l k = homeP l := by
  have hmem : ∀ n, (lastD l n).isSome = true → lo ≤ n ∧ n < lo + k := by
    intro n hn
    suffices hs : ∀ (l : List PImg) (o : Option Dat), (o.isSome = true → lo ≤ n ∧ n < lo + k) → (∀ g ∈ l, lo ≤ g.1 ∧ g.1 < lo + k) → (l.foldl (fun x g => if g.1 = n then some g.2 else x) o).isSome = true → lo ≤ n ∧ n < lo + k from hs l none (by simp) h hn
    intro l
    induction l with
    | nil => intro o ho _ h; exact ho h
    | cons g l ih =>
      intro o ho hl hs
      refine ih _ ?_ (fun x hx => hl x (by simp [hx])) hs
      show (if g.1 = n then some g.2 else o).isSome = true → _
      split
      · rename_i e; intro _; rw [← e]; exact hl g (by simp)
      · exact ho
  have hk : (homeK lo l k).map Prod.fst = sortI ((lastP l).map Prod.fst) := by
    have hp : ((lastP l).map Prod.fst).Perm ((homeK lo l k).map Prod.fst) := by
      refine (List.perm_ext_iff_of_nodup (lastP_nodup l) ?_).2 ?_
      · exact (homeK_lt lo l k).imp (fun {a b} h => by omega)
      · intro n
        rw [mem_lastP, homeK_keys]
        exact ⟨fun h => ⟨(hmem n h).1, (hmem n h).2, h⟩, fun h => h.2.2⟩
    exact (sortI_of hp ((homeK_lt lo l k).imp (fun {a b} h => by omega))).symm
  rw [homeK_snd, hk]
  unfold homeP
  refine List.map_congr_left fun n _ => ?_
  rw [lookup_lastP]
end Go.Proofs.Ytbpdbgcndfcilaa
namespace Go.Proofs.Ytbpdbgcndfcilaa
open Go.RowKit Go.Sl
set_option maxRecDepth 20000

noncomputable def scanL (d : DSt) (s : Sup) : List G3 := scanK (rbP d 2 (layL (d.now.length : Int)).toNat) s.epoch ((layL (d.now.length : Int)).toNat + 1) s.tail.toNat s.seq (layL (d.now.length : Int)).toNat
structure GrpsOk (J : Imm) (gl : List Grp) (l : List G3) : Prop where
  each : ∀ g ∈ gl, ImgsOk J g.a g.gs
  g3 : gl.map Grp.g3 = l.map up3
theorem GrpsOk.mono {I J : Imm} {gl : List Grp} {l : List G3} (h : GrpsOk I gl l) (hJ : I.le J) : GrpsOk J gl l := ⟨fun g hg => (h.each g hg).mono hJ, h.g3⟩
theorem GrpsOk.len {J : Imm} {gl : List Grp} {l : List G3} (h : GrpsOk J gl l) : gl.length = l.length := by have := congrArg List.length h.g3; simpa using this
end Go.Proofs.Ytbpdbgcndfcilaa
namespace Go.Proofs.Ytbpdbgcndfcilaa
open Go.RowKit Go.Sl
set_option maxRecDepth 20000

structure RDk (I : Imm) (v : Value) (d : DSt) : Prop where
  wf : d.Wf
  snd : ∀ i, i < d.safe.length → d.now[i]? = some (atP (d.safe.getD i []) d.writes i)
  ex : ∃ (s w : Hd) (bS : List Bk) (gs : List Img), v = rV s w d.count d.down (gv d.arm) (gv d.fault) ∧ Rds I s.a s.len (bS.map Bk.cell) ∧ (∀ b ∈ bS, BkOk I b) ∧ bS.map Bk.data = d.safe ∧ ImgsOk I w.a gs ∧ w.len = gs.length ∧ gs.map Img.pr = d.writes
theorem RDk.mono {I J : Imm} {v : Value} {d : DSt} (h : RDk I v d) (hJ : I.le J) : RDk J v d := by
  obtain ⟨s, w, bS, gs, e, h1, h2, h3, h4, h5, h6⟩ := h.ex
  exact ⟨h.wf, h.snd, s, w, bS, gs, e, h1.mono hJ, fun b hb => (h2 b hb).mono hJ, h3, h4.mono hJ, h5, h6⟩
theorem RDk.stop {I : Imm} {s w : Hd} {d : DSt} {bS : List Bk} {gs : List Img} (h : d.Wf) (hs : ∀ i, i < d.safe.length → d.now[i]? = some (atP (d.safe.getD i []) d.writes i)) (h1 : Rds I s.a s.len (bS.map Bk.cell)) (h2 : ∀ b ∈ bS, BkOk I b) (h3 : bS.map Bk.data = d.safe) (h4 : ImgsOk I w.a gs) (h5 : w.len = gs.length) (h6 : gs.map Img.pr = d.writes) :
    RDk I (rV s w d.count d.stop.1.down (gv d.stop.1.arm) (gv d.stop.1.fault)) d.stop.1 := by
  obtain ⟨e1, e2, e3, e4⟩ := d.stop_same
  exact ⟨h.stop, by rw [e1, e2, e3]; exact hs, s, w, bS, gs, by rw [e4], h1, h2, by rw [e1]; exact h3, h4, h5, by rw [e3]; exact h6⟩
end Go.Proofs.Ytbpdbgcndfcilaa
namespace Go.Proofs.Ytbpdbgcndfcilaa
open Go.RowKit Go.Sl
set_option maxRecDepth 20000

end Go.Proofs.Ytbpdbgcndfcilaa
namespace Go.Proofs.Ytbpdbgcndfcilaa
open Go.RowKit Go.Sl
set_option maxRecDepth 20000

end Go.Proofs.Ytbpdbgcndfcilaa
namespace Go.Proofs.Ytbpdbgcndfcilaa
open Go.RowKit Go.Sl
set_option maxRecDepth 20000

end Go.Proofs.Ytbpdbgcndfcilaa
namespace Go.Proofs.Ytbpdbgcndfcilaa
open Go.RowKit Go.Sl
set_option maxRecDepth 20000

end Go.Proofs.Ytbpdbgcndfcilaa
namespace Go.Proofs.Ytbpdbgcndfcilaa
open Go.RowKit Go.Sl
set_option maxRecDepth 20000

end Go.Proofs.Ytbpdbgcndfcilaa
namespace Go.Proofs.Ytbpdbgcndfcilaa
open Go.RowKit Go.Sl
set_option maxRecDepth 20000

end Go.Proofs.Ytbpdbgcndfcilaa
namespace Go.Proofs.Ytbpdbgcndfcilaa
open Go.RowKit Go.Sl
set_option maxRecDepth 20000

theorem fresh_calm (l : List Dat) : (DSt.of l).Calm := ⟨rfl, rfl, rfl⟩
theorem JSt.Wf.append {j : JSt} (hj : j.Wf) {d : DSt} {l : List PImg} {held : Bool} (h8 : j.groups.length ≤ 999999) : (j.appendB d l held).1.Wf := by
  have hr := hj.ring
  unfold JSt.appendB JSt.append
  split
  · exact hj
  split
  · exact hj
  rename_i hR
  have hR : RightP j.epoch j.next l := Decidable.of_not_not hR
  split
  · exact hj
  generalize hp : putS j.s j.t j.u j.h (l.length + 1) (if held then l.length + 1 else 0) = q
  obtain ⟨⟨s, t, u, h, e⟩, at_⟩ := q
  dsimp only
  split
  · exact hj
  rename_i he
  have he : e = 0 := Decidable.of_not_not he
  obtain ⟨e1, e2, h3, _, _⟩ := putS_mid hr hp he
  have hn := hj.next
  have hs := hj.synced
  have hl := hR.2.2.2.2.2.1
  have hs2 := hR.2.2.2.1
  generalize wrAll (fun i => j.lay.l + (at_ + i) % s) (putP j.epoch.toNat j.next.toNat l) 0 d = q
  obtain ⟨d', e'⟩ := q
  dsimp only
  split
  · exact ⟨hj.log, h3, hj.epoch, hj.next, hj.synced, hj.few, hj.groups⟩
  · refine ⟨hj.log, h3, hj.epoch, ?_, ?_, ?_, ?_⟩
    · show 1 ≤ j.next + 1 ∧ j.next + 1 ≤ _; omega
    · show 0 ≤ j.synced ∧ j.synced < j.next + 1; omega
    · show (j.groups ++ [_]).length ≤ _; simp; omega
    · intro g hg
      rcases List.mem_append.1 hg with hg | hg
      · exact hj.groups g hg
      · simp only [List.mem_singleton] at hg
        subst hg
        unfold In64; dsimp only; omega
theorem JSt.Wf.flush {j : JSt} (hj : j.Wf) (d : DSt) : (j.flush d).1.Wf := by
  have hn := hj.next
  unfold JSt.flush
  split
  · exact hj
  split
  · exact ⟨hj.log, hj.ring, hj.epoch, hj.next, hj.synced, hj.few, hj.groups⟩
  · refine ⟨hj.log, hj.ring, hj.epoch, hj.next, ?_, hj.few, hj.groups⟩
    show 0 ≤ j.next - 1 ∧ j.next - 1 < j.next; omega
/-- a group that fits is appended: what the journal is then -/
theorem JSt.append_next {j : JSt} (hj : j.Wf) (h8 : j.groups.length ≤ 999999) {d : DSt} {l : List PImg} {held : Bool} (hb : j.broken = false) (hR : RightP j.epoch j.next l) (hs : (l.length : Int) + 1 ≤ j.s) (hd : d.Calm) (hlen : j.s + 2 ≤ d.now.length)
    {t u h at_ : Int} (hp : putS j.s j.t j.u j.h (l.length + 1) (if held then l.length + 1 else 0) = ((j.s, t, u, h, 0), at_)) :
    ∃ j', j.appendB d l held = (j', wrD (fun i => 2 + (at_ + i) % j.s) (putP j.epoch.toNat j.next.toNat l) 0 d, j.next, 0) ∧ j'.lay = j.lay ∧ j'.s = j.s ∧ j'.t = t ∧ j'.u = u ∧ j'.h = h ∧ j'.epoch = j.epoch ∧ j'.next = j.next + 1 ∧ j'.synced = j.synced ∧ j'.groups = j.groups ++ [(j.next, (l.length + 1 : Int))] ∧ j'.broken = false ∧ j'.Wf := by
  have e := JSt.append_calm hb hR hs hj.log hd hlen hp
  have w := hj.append (d := d) (l := l) (held := held) h8
  rw [e] at w
  exact ⟨_, e, rfl, rfl, rfl, rfl, rfl, rfl, rfl, rfl, rfl, hb, w⟩
end Go.Proofs.Ytbpdbgcndfcilaa
namespace Go.Proofs.Ytbpdbgcndfcilaa
open Go.RowKit Go.Sl
set_option maxRecDepth 20000

end Go.Proofs.Ytbpdbgcndfcilaa
namespace Go.Proofs.Ytbpdbgcndfcilaa
open Go.RowKit Go.Sl

def pickS (n m : Int) : Int := if m ≤ 0 then 0 else n % m
theorem pickS_range {n m : Int} (h : 0 < m) : 0 ≤ pickS n m ∧ pickS n m < m := by
  unfold pickS
  rw [if_neg (by omega)]
  exact ⟨Int.emod_nonneg _ (by omega), Int.emod_lt_of_pos _ h⟩
theorem emod_of_tmod (n m : Int) (hm : 0 < m) : n % m = if n.tmod m < 0 then n.tmod m + m else n.tmod m := by
  have h1 : n = m * n.tdiv m + n.tmod m := (Int.mul_tdiv_add_tmod n m).symm
  have h2 := Int.tmod_lt_of_pos n hm
  have h3 : -m < n.tmod m := by
    have h4 := Int.tmod_lt_of_pos (-n) hm
    rw [Int.neg_tmod] at h4; omega
  split
  · have e : n = (n.tmod m + m) + m * (n.tdiv m - 1) := by
      conv => lhs; rw [h1]
      rw [Int.mul_sub]; omega
    conv => lhs; rw [e]
    rw [Int.add_mul_emod_self_left, Int.emod_eq_of_lt (by omega) (by omega)]
  · have e : n = n.tmod m + m * n.tdiv m := by omega
    conv => lhs; rw [e]
    rw [Int.add_mul_emod_self_left, Int.emod_eq_of_lt (by omega) (by omega)]
theorem low_Pick (n m : Int) (I : Imm) (_hn : In64 n) (hm : In64 m) : Tri Try.prog 35 #[.int .i64 n, .int .i64 m] I [] fun v J _ => v = .int .i64 (pickS n m) ∧ I = J := by
  unfold In64 at *
  refine Tri.of (args := [.int .i64 n, .int .i64 m]) tabOk Try.func35 rfl (by kernel_rfl) (by kernel_rfl) ?_
  refine CmpD.split (fun c => ?_) (fun c => ?_)
  · refine Done.mk ⟨?_, rfl⟩
    rw [pickS, if_pos c]; rfl
  have h2 := Int.tmod_lt_of_pos n (show 0 < m by omega)
  have h3 : -m < n.tmod m := by
    have h4 := Int.tmod_lt_of_pos (-n) (show 0 < m by omega)
    rw [Int.neg_tmod] at h4; omega
  have e := emod_of_tmod n m (by omega)
  refine Chk.mk (by omega) ?_
  refine ToD.to (n.tmod m) rfl ?_
  refine CmpD.split (fun c2 => ?_) (fun c2 => ?_)
  · refine ToD.i64 (by omega) (by omega) ?_
    refine Done.mk ⟨?_, rfl⟩
    rw [pickS, if_neg c, e, if_pos c2]; rfl
  · refine Done.mk ⟨?_, rfl⟩
    rw [pickS, if_neg c, e, if_neg c2]; rfl
end Go.Proofs.Ytbpdbgcndfcilaa
namespace Go.Proofs.Ytbpdbgcndfcilaa
open Go.RowKit Go.Sl
set_option maxRecDepth 20000

def im9 (n : Nat) (seed : Int) : List PImg := (List.range n).map fun (i : Nat) => (30 + (i : Int), madeL (IntKind.i64.wrap (seed + (i : Int))) 4096)
theorem im9_length (n : Nat) (seed : Int) : (im9 n seed).length = n := by simp [im9]
theorem im9_right {e s : Int} (h1 : 1 ≤ e ∧ e ≤ 8388608) (h2 : 1 ≤ s ∧ s ≤ 549755813888) (n : Nat) (hn : 1 ≤ n ∧ n ≤ 32) (seed : Int) : RightP e s (im9 n seed) := by
  refine ⟨h1.1, h1.2, h2.1, h2.2, by rw [im9_length]; omega, by rw [im9_length]; omega, ?_, ?_⟩
  · intro g hg
    unfold im9 at hg
    obtain ⟨i, hi, rfl⟩ := List.mem_map.1 hg
    have := List.mem_range.1 hi
    exact ⟨by show (0 : Int) ≤ 30 + (i : Int); omega, by show 30 + (i : Int) < 512; omega, madeL_length _ _⟩
  · unfold im9
    rw [List.map_map, List.nodup_iff_pairwise_ne, List.pairwise_map]
    refine List.Pairwise.imp ?_ List.nodup_range
    intro a b hab he
    have he : 30 + (a : Int) = 30 + (b : Int) := he
    exact hab (by omega)
/-! ### written -/
def wrtStep (j : JSt) (d : DSt) (all : List (List PImg)) (sz : Int) : JSt × DSt × List (List PImg) :=
  ((j.appendB d (im9 (1 + pickS sz 5).toNat sz) false).1, (j.appendB d (im9 (1 + pickS sz 5).toNat sz) false).2.1, if (j.appendB d (im9 (1 + pickS sz 5).toNat sz) false).2.2.2 = 0 then all ++ [im9 (1 + pickS sz 5).toNat sz] else all)
def wrtK (x : JSt × DSt × List (List PImg)) (l : List Int) : JSt × DSt × List (List PImg) := l.foldl (fun y z => wrtStep y.1 y.2.1 y.2.2 z) x
/-- images, told as lists of lists -/
structure Ims where
  a : Option Addr
  cap : Nat
  gs : List Img
@[reducible] def Ims.cell (m : Ims) : Value := .slice m.a m.gs.length m.cap
def Ims.pr (m : Ims) : List PImg := m.gs.map Img.pr
end Go.Proofs.Ytbpdbgcndfcilaa
namespace Go.Proofs.Ytbpdbgcndfcilaa
open Go.RowKit Go.Sl
set_option maxRecDepth 20000

theorem JSt.Wf.turn {j : JSt} (hj : j.Wf) {r : R5} (hr : r.2.2.2.2 = 0 → Ok r.1 r.2.1 r.2.2.1 r.2.2.2.1) : (j.turn r).1.Wf := by
  obtain ⟨s, t, u, h, e⟩ := r
  unfold JSt.turn
  dsimp only at hr ⊢
  split
  · rename_i h0; exact ⟨hj.log, hr h0, hj.epoch, hj.next, hj.synced, hj.few, hj.groups⟩
  · exact hj
/-- a journal of the examples -/
structure JB (j : JSt) (t u h next synced : Int) (gs : List (Int × Int)) : Prop where
  s : j.s = 16
  t : j.t = t
  u : j.u = u
  h : j.h = h
  epoch : j.epoch = 1
  next : j.next = next
  synced : j.synced = synced
  groups : j.groups = gs
  broken : j.broken = false
  wf : j.Wf
/-- a disk of the examples -/
structure DB (d : DSt) (k : Nat) : Prop where
  calm : d.Calm
  len : d.now.length = 64
  few : d.Few k
/-- all of them -/
structure Numbers where
  jA : JSt
  jB : JSt
  jF : JSt
  jR : JSt
  jH : JSt
  jC : JSt
  jX : JSt
  dA : DSt
  dB : DSt
  dF : DSt
  dC : DSt
  dX : DSt
  dY : DSt
end Go.Proofs.Ytbpdbgcndfcilaa
namespace Go.Proofs.Ytbpdbgcndfcilaa
open Go.RowKit Go.Sl
set_option maxRecDepth 20000

/-! ### where writes go -/
theorem put_get {d : DSt} {p : Nat} {n : Nat} {b : Dat} (h : n ≠ p) : (d.put (n : Int) b).now[p]? = d.now[p]? := by
  show (d.now.set _ _)[p]? = _
  rw [Int.toNat_natCast, List.getElem?_set_ne h]
theorem put_hit {d : DSt} {p : Nat} {b : Dat} (h : p < d.now.length) : (d.put (p : Int) b).now[p]? = some b := by
  show (d.now.set _ _)[p]? = _
  rw [Int.toNat_natCast, List.getElem?_set_self h]
theorem wrD_miss (f : Nat → Nat) (p : Nat) : ∀ (bs : List Dat) (i : Nat) (d : DSt), (∀ k, k < bs.length → f (i + k) ≠ p) → (wrD (fun k => (f k : Int)) bs i d).now[p]? = d.now[p]?
  | [], _, _, _ => rfl
  | b :: bs, i, d, h => by
    rw [wrD, wrD_miss f p bs (i + 1) _ (fun k hk => by have := h (k + 1) (by simp; omega); rwa [show i + (k + 1) = i + 1 + k by omega] at this)]
    exact put_get (h 0 (by simp))
theorem wrD_hit (f : Nat → Nat) (p : Nat) : ∀ (bs : List Dat) (i : Nat) (d : DSt) (k : Nat), (hk : k < bs.length) → f (i + k) = p → (∀ k', k < k' → k' < bs.length → f (i + k') ≠ p) → p < d.now.length → (wrD (fun k => (f k : Int)) bs i d).now[p]? = some bs[k]
  | [], _, _, k, hk, _, _, _ => by simp at hk
  | b :: bs, i, d, 0, _, hf, hno, hp => by
    rw [wrD, wrD_miss f p bs (i + 1) _ (fun k' hk' => by have := hno (k' + 1) (by omega) (by simp; omega); rwa [show i + (k' + 1) = i + 1 + k' by omega] at this)]
    have hf : f i = p := hf
    show (d.put (f i : Int) b).now[p]? = _
    rw [hf, put_hit hp]; rfl
  | b :: bs, i, d, k + 1, hk, hf, hno, hp => by
    rw [wrD]
    have := wrD_hit f p bs (i + 1) (d.put (f i : Int) b) k (by simpa using hk) (by rw [show i + 1 + k = i + (k + 1) by omega]; exact hf) (fun k' h1 h2 => by have := hno (k' + 1) (by omega) (by simp; omega); rwa [show i + (k' + 1) = i + 1 + k' by omega] at this) (by rw [DSt.put_len]; exact hp)
    simpa using this
/-! ### the ring's blocks -/
def usedP (l : List (List PImg)) : Nat := (l.map fun g => g.length + 1).sum
def ringB (ep : Nat) : Nat → List (List PImg) → List Dat
  | _, [] => []
  | sq, g :: l => putP ep sq g ++ ringB ep (sq + 1) l
theorem ringB_length (ep : Nat) : ∀ (l : List (List PImg)) (sq : Nat), (ringB ep sq l).length = usedP l
  | [], _ => rfl
  | g :: l, sq => by rw [ringB, List.length_append, putP_length, ringB_length ep l]; simp [usedP]
theorem ringB_snoc (ep : Nat) : ∀ (l : List (List PImg)) (sq : Nat) (g : List PImg), ringB ep sq (l ++ [g]) = ringB ep sq l ++ putP ep (sq + l.length) g
  | [], sq, g => by simp [ringB]
  | x :: l, sq, g => by
    rw [List.cons_append, ringB, ringB_snoc ep l, ringB, List.append_assoc, List.length_cons, show sq + 1 + l.length = sq + (l.length + 1) by omega]
theorem usedP_snoc (l : List (List PImg)) (g : List PImg) : usedP (l ++ [g]) = usedP l + (g.length + 1) := by simp [usedP]
structure WI (ep tail : Nat) (z : Nat → Dat) (j : JSt) (d : DSt) (all : List (List PImg)) : Prop where
  s : j.s = 16
  t : j.t = tail
  u : j.u = (usedP all : Nat)
  h : j.h = 0
  epoch : j.epoch = ep
  next : j.next = (all.length + 1 : Nat)
  groups : j.groups.length = all.length
  broken : j.broken = false
  log : j.lay.l = 2
  wf : j.Wf
  calm : d.Calm
  dwf : d.Wf
  len : d.now.length = 64
  few : d.Few (usedP all)
  used : usedP all ≤ 16
  right : ∀ (i : Nat) (h : i < all.length), RightP ep ((i + 1 : Nat) : Int) all[i]
  ring : ∀ o, o < 16 → rbP d 2 16 (tail + o) = (ringB ep 1 all).getD o (z o)
theorem usedP_ge (l : List (List PImg)) : l.length ≤ usedP l := by
  unfold usedP
  induction l with
  | nil => simp
  | cons g l ih => simp; omega
theorem DSt.Wf.put {d : DSt} (h : d.Wf) (hc : d.Calm) {n : Int} {b : Dat} (hn : 0 ≤ n ∧ n < d.now.length) (hb : b.length = 4096) : (d.put n b).Wf := by
  have := h.write n b
  rwa [DSt.write_calm hc hn hb] at this
theorem wrD_wf (f : Nat → Int) : ∀ (bs : List Dat) (i : Nat) (d : DSt), d.Wf → d.Calm → (∀ b ∈ bs, b.length = 4096) → (∀ k, 0 ≤ f k ∧ f k < d.now.length) → (wrD f bs i d).Wf
  | [], _, _, h, _, _, _ => h
  | b :: bs, i, d, h, hc, hb, hf => wrD_wf f bs (i + 1) _ (h.put hc (hf i) (hb b (by simp))) (hc.put _ _) (fun x hx => hb x (by simp [hx])) (by rw [DSt.put_len]; exact hf)
/-- a group is appended, or there is no room -/
theorem WI.append {ep tail : Nat} {z : Nat → Dat} {j : JSt} {d : DSt} {all : List (List PImg)} (w : WI ep tail z j d all) {l : List PImg} (hR : RightP ep ((all.length + 1 : Nat) : Int) l) :
    (usedP all + (l.length + 1) ≤ 16 ∧ WI ep tail z (j.appendB d l false).1 (j.appendB d l false).2.1 (all ++ [l]) ∧ (j.appendB d l false).2.2.2 = 0) ∨
    (16 < usedP all + (l.length + 1) ∧ (j.appendB d l false).1 = j ∧ (j.appendB d l false).2.1 = d ∧ (j.appendB d l false).2.2.2 ≠ 0) := by
  have hge := usedP_ge all
  have hu := w.used
  have hll := hR.2.2.2.2.2.1
  have hR' : RightP j.epoch j.next l := by rw [w.epoch, w.next]; exact hR
  have hok := w.wf.ring
  have hokd : Ok 16 tail (usedP all : Nat) 0 := by have := hok; rw [w.s, w.t, w.u, w.h] at this; exact this
  have htl : (tail : Int) < 16 := hokd.2.2.2.1
  rcases Nat.lt_or_ge 16 (usedP all + (l.length + 1)) with hf | hf
  · right
    refine ⟨hf, ?_⟩
    unfold JSt.appendB JSt.append
    rw [if_neg (by rw [w.broken]; simp), if_neg (by simpa using hR')]
    by_cases hs : j.s < (l.length : Int) + 1
    · rw [if_pos hs]; exact ⟨rfl, rfl, by simp⟩
    rw [if_neg hs]
    have hp : putS j.s j.t j.u j.h ((l.length : Int) + 1) (if false = true then (l.length : Int) + 1 else 0) = ((0, 0, 0, 0, 5), 0) := by
      rw [w.s, w.t, w.u, w.h]
      unfold putS
      rw [if_neg (by simp only [Bool.false_eq_true, if_false]; rintro (h | h | h | h | h); exact h hokd; omega; omega; omega; omega), if_pos (by simp only [Bool.false_eq_true, if_false]; omega)]
    rw [hp]
    exact ⟨rfl, rfl, by simp⟩
  · left
    refine ⟨hf, ?_⟩
    have hp : putS j.s j.t j.u j.h ((l.length : Int) + 1) (if false = true then (l.length : Int) + 1 else 0) = ((j.s, (tail : Int), ((usedP all : Nat) : Int) + ((l.length : Int) + 1), 0, 0), ((tail : Int) + (usedP all : Nat)) % 16) := by
      rw [w.s, w.t, w.u, w.h]
      unfold putS
      rw [if_neg (by simp only [Bool.false_eq_true, if_false]; rintro (h | h | h | h | h); exact h hokd; omega; omega; omega; omega), if_neg (by simp only [Bool.false_eq_true, if_false]; omega)]
      simp only [Bool.false_eq_true, if_false, Int.sub_zero]
    have hlen16 : j.s + 2 ≤ d.now.length := by rw [w.s, w.len]; decide
    have hs1 : (l.length : Int) + 1 ≤ j.s := by rw [w.s]; omega
    obtain ⟨j', a, f1, f2, f3, f4, f5, f6, f7, f8, f9, f10, w'⟩ := JSt.append_next w.wf (by rw [w.groups]; omega) w.broken hR' hs1 w.calm hlen16 hp
    rw [a]
    have hB := putP_len (e := j.epoch.toNat) (s := j.next.toNat) hll hR.lens
    have hfl : ∀ k : Nat, (0 : Int) ≤ 2 + (((tail : Int) + (usedP all : Nat)) % 16 + k) % j.s ∧ 2 + (((tail : Int) + (usedP all : Nat)) % 16 + k) % j.s < d.now.length := by
      intro k
      rw [w.s, w.len]
      have := Int.emod_nonneg (((tail : Int) + (usedP all : Nat)) % 16 + k) (b := 16) (by decide)
      have := Int.emod_lt_of_pos (((tail : Int) + (usedP all : Nat)) % 16 + k) (b := 16) (by decide)
      omega
    have hff : (fun k : Nat => (2 : Int) + (((tail : Int) + (usedP all : Nat)) % 16 + k) % j.s) = fun k : Nat => ((2 + (tail + usedP all + k) % 16 : Nat) : Int) := by
      funext k
      rw [w.s]; omega
    refine ⟨⟨by rw [f2, w.s], f3, by rw [f4, usedP_snoc]; omega, f5, by rw [f6, w.epoch], by rw [f7, w.next, List.length_append]; rfl, by rw [f9]; simp [w.groups], f10, by rw [f1, w.log], w', wrD_calm _ _ _ _ w.calm, wrD_wf _ _ _ _ w.dwf w.calm hB hfl, by rw [wrD_len, w.len], ?_, by rw [usedP_snoc]; exact hf, ?_, ?_⟩, rfl⟩
    · have := wrD_few (fun i : Nat => (2 : Int) + (((tail : Int) + (usedP all : Nat)) % 16 + i) % j.s) (putP j.epoch.toNat j.next.toNat l) 0 d _ w.few
      rw [putP_length] at this
      rw [usedP_snoc]; exact this
    · intro i hi
      rw [List.getElem_append]
      split
      · rename_i h; exact w.right i h
      · rename_i h
        simp only [List.length_append, List.length_singleton] at hi
        obtain rfl : i = all.length := by omega
        simpa using hR
    · intro o ho
      rw [hff, ringB_snoc]
      have hrl := ringB_length ep all 1
      have he1 : j.epoch.toNat = ep := by rw [w.epoch]; rfl
      have he2 : j.next.toNat = 1 + all.length := by rw [w.next]; omega
      rw [he1, he2]
      have hpl := putP_length ep (1 + all.length) l
      obtain ⟨B, hBe⟩ : ∃ B, B = putP ep (1 + all.length) l := ⟨_, rfl⟩
      rw [← hBe] at hpl ⊢
      have hw := w.ring o ho
      unfold rbP at hw ⊢
      rw [List.getD_eq_getElem?_getD] at hw ⊢
      have inj : ∀ k, k < B.length → (2 + (tail + usedP all + k) % 16 = 2 + (tail + o) % 16 ↔ usedP all + k = o) := by
        intro k hk; omega
      by_cases hin : usedP all ≤ o ∧ o < usedP all + B.length
      · have := wrD_hit (fun k => 2 + (tail + usedP all + k) % 16) (2 + (tail + o) % 16) B 0 d (o - usedP all) (by omega) (by have := (inj (o - usedP all) (by omega)).2 (by omega); simpa using this)
          (fun k' h1 h2 h3 => by have := (inj k' h2).1 (by simpa using h3); omega) (by rw [w.len]; omega)
        rw [this, List.getD_eq_getElem?_getD, List.getElem?_append_right (by omega), hrl, List.getElem?_eq_getElem (by omega)]; rfl
      · have := wrD_miss (fun k => 2 + (tail + usedP all + k) % 16) (2 + (tail + o) % 16) B 0 d (fun k hk h3 => by have := (inj k hk).1 (by simpa using h3); omega)
        rw [this, hw]
        rw [List.getD_eq_getElem?_getD, List.getD_eq_getElem?_getD]
        rcases Nat.lt_or_ge o (usedP all) with g | g
        · rw [List.getElem?_append_left (by omega)]
        · rw [List.getElem?_eq_none (by omega), List.getElem?_eq_none (by rw [List.length_append]; omega)]
end Go.Proofs.Ytbpdbgcndfcilaa
namespace Go.Proofs.Ytbpdbgcndfcilaa
open Go.RowKit Go.Sl
set_option maxRecDepth 20000

def gsP (ep : Nat) : Nat → List (List PImg) → List G3
  | _, [] => []
  | sq, g :: l => (ep, sq, g) :: gsP ep (sq + 1) l
theorem grpP_put {rb : Nat → Dat} {at_ room ep sq : Nat} {l : List PImg} (hR : RightP ep sq l) (hroom : l.length + 1 ≤ room) (hrb : ∀ (k : Nat) (h : k < (putP ep sq l).length), rb (at_ + k) = (putP ep sq l)[k]) : grpP rb at_ room = some (ep, sq, l) := by
  have h0 : rb at_ = hblk ep sq l := by have := hrb 0 (by rw [putP_length]; omega); simpa [putP_eq] using this
  unfold grpP
  rw [h0, hdP_put hR]
  dsimp only
  rw [List.length_map, if_pos hroom]
  have : ((List.range (l.length + 1)).map fun i => rb (at_ + i)) = putP ep sq l := by
    refine getElem_eq_of (by rw [putP_length]; simp) fun i h1 h2 => ?_
    simp only [List.getElem_map, List.getElem_range]
    exact hrb i h2
  rw [this, getP_put hR]
theorem scan_prefix (rb : Nat → Dat) (ep : Nat) : ∀ (all : List (List PImg)) (f at_ sq room : Nat), (∀ (i : Nat) (h : i < all.length), RightP ep ((sq + i : Nat) : Int) all[i]) → usedP all ≤ room → all.length ≤ f → (∀ (k : Nat) (h : k < (ringB ep sq all).length), rb (at_ + k) = (ringB ep sq all)[k]) →
    scanK rb ep f at_ sq room = gsP ep sq all ++ scanK rb ep (f - all.length) (at_ + usedP all) ((sq + all.length : Nat) : Int) (room - usedP all)
  | [], f, at_, sq, room, _, _, _, _ => by simp [gsP, usedP]
  | g :: l, 0, _, _, _, _, _, h, _ => by simp at h
  | g :: l, f + 1, at_, sq, room, hR, hu, hf, hrb => by
    have e : usedP (g :: l) = g.length + 1 + usedP l := by simp [usedP]
    have hg : grpP rb at_ room = some (ep, sq, g) := by
      refine grpP_put (hR 0 (by simp)) (by omega) fun k hk => ?_
      have := hrb k (by rw [ringB, List.length_append]; omega)
      simp only [ringB] at this
      rw [List.getElem_append_left hk] at this
      exact this
    rw [scanK, hg]
    dsimp only
    rw [if_pos ⟨rfl, rfl⟩, gsP, List.cons_append]
    congr 1
    have ih := scan_prefix rb ep l f (at_ + (g.length + 1)) (sq + 1) (room - (g.length + 1)) (fun i hi => by
        have := hR (i + 1) (by simpa using hi)
        rw [show sq + (i + 1) = sq + 1 + i by omega] at this
        simpa using this) (by omega) (by simpa using hf) (fun k hk => by
        have hpl := putP_length ep sq g
        have := hrb (g.length + 1 + k) (by rw [ringB, List.length_append, hpl]; omega)
        simp only [ringB] at this
        rw [List.getElem_append_right (by omega)] at this
        rw [show at_ + (g.length + 1) + k = at_ + (g.length + 1 + k) by omega, this]
        congr 1
        omega)
    rw [show ((sq : Nat) : Int) + 1 = ((sq + 1 : Nat) : Int) by omega, ih, List.length_cons]
    rw [show f + 1 - (l.length + 1) = f - l.length by omega, show at_ + (g.length + 1) + usedP l = at_ + usedP (g :: l) by omega, show sq + 1 + l.length = sq + (l.length + 1) by omega, show room - (g.length + 1) - usedP l = room - usedP (g :: l) by omega]
/-- where no group follows -/
theorem scan_stop {rb : Nat → Dat} {ep : Int} {f at_ room : Nat} {seq : Int} (h : ∀ e s l, grpP rb at_ room = some (e, s, l) → ¬ ((e : Int) = ep ∧ (s : Int) = seq)) : scanK rb ep f at_ seq room = [] := by
  cases f with
  | zero => rfl
  | succ f =>
    rw [scanK]
    cases hg : grpP rb at_ room with
    | none => rfl
    | some p =>
      obtain ⟨e, s, l⟩ := p
      dsimp only
      rw [if_neg (h e s l hg)]
theorem hd_noughts : hdP noughts = none := by
  have h0 : (numV noughts 0 8).1 = 0 := by
    unfold numV noughts
    rw [if_neg (by rw [List.length_replicate]; omega)]
    simp [nb]
  unfold hdP hbE
  rw [h0, if_neg (fun h => by have := h.1.1; simp at this)]
theorem grpP_none {rb : Nat → Dat} {at_ room : Nat} (h : hdP (rb at_) = none) : grpP rb at_ room = none := by unfold grpP; rw [h]
theorem layL64 : layL (64 : Int) = 16 := by decide
theorem WI.fresh {ep tail : Nat} (hep : 1 ≤ ep ∧ ep ≤ 8388608) (ht : tail < 16) : WI ep tail (fun _ => noughts) (openJ 64 ep 1 tail) (DSt.of (List.replicate 64 noughts)) [] := by
  have hlen : (List.replicate 64 noughts).length = 64 := List.length_replicate ..
  have hmem : ∀ b ∈ List.replicate 64 noughts, b.length = 4096 := fun b hb => by rw [(List.mem_replicate.1 hb).2]; exact noughts_length
  have hw : (DSt.of (List.replicate 64 noughts)).Wf := ⟨rfl, by show 1 ≤ (List.replicate 64 noughts).length ∧ (List.replicate 64 noughts).length ≤ 512; omega, hmem, hmem, fun w hw => (List.not_mem_nil hw).elim, fun h => (Bool.false_ne_true h).elim, fun h => (Bool.false_ne_true h).elim⟩
  refine ⟨layL_64', rfl, rfl, rfl, rfl, rfl, rfl, rfl, rfl, openJ_wf 64 (by omega) ⟨rfl, by omega, by omega, by omega, by omega, by omega, by rw [layL_64']; omega⟩, fresh_calm _, hw, hlen, DSt.of_few _, by simp [usedP], fun i h => by simp at h, ?_⟩
  intro o ho
  unfold rbP
  show (List.replicate 64 noughts).getD _ [] = _
  rw [List.getD_eq_getElem?_getD, List.getElem?_replicate, if_pos (by omega)]; rfl
theorem im9_pick {ep : Nat} (hep : 1 ≤ ep ∧ ep ≤ 8388608) (sz : Int) (k : Nat) (hk : k ≤ 16) : RightP ep ((k + 1 : Nat) : Int) (im9 (1 + pickS sz 5).toNat sz) := by
  have := pickS_range (n := sz) (m := 5) (by decide)
  exact im9_right ⟨by omega, by omega⟩ ⟨by omega, by omega⟩ _ (by omega) _
theorem WI.step {ep tail : Nat} {z : Nat → Dat} (hep : 1 ≤ ep ∧ ep ≤ 8388608) {j : JSt} {d : DSt} {all : List (List PImg)} (w : WI ep tail z j d all) (sz : Int) : WI ep tail z (wrtStep j d all sz).1 (wrtStep j d all sz).2.1 (wrtStep j d all sz).2.2 := by
  have hge := usedP_ge all
  have hu := w.used
  unfold wrtStep
  rcases w.append (im9_pick hep sz all.length (by omega)) with ⟨_, h1, h2⟩ | ⟨_, h1, h2, h3⟩
  · dsimp only; rw [if_pos h2]; exact h1
  · dsimp only; rw [if_neg h3, h1, h2]; exact w
theorem WI.all {ep tail : Nat} {z : Nat → Dat} (hep : 1 ≤ ep ∧ ep ≤ 8388608) : ∀ (l : List Int) (x : JSt × DSt × List (List PImg)), WI ep tail z x.1 x.2.1 x.2.2 → WI ep tail z (wrtK x l).1 (wrtK x l).2.1 (wrtK x l).2.2
  | [], _, h => h
  | s :: l, _, h => WI.all hep l _ (h.step hep s)
end Go.Proofs.Ytbpdbgcndfcilaa
namespace Go.Proofs.Ytbpdbgcndfcilaa
open Go.RowKit Go.Sl
set_option maxRecDepth 20000

structure ImsAt (J : Imm) (aS : Option Addr) (ms : List Ims) (all : List (List PImg)) : Prop where
  rd : Rds J aS ms.length (ms.map Ims.cell)
  each : ∀ m ∈ ms, ImgsOk J m.a m.gs
  pr : ms.map Ims.pr = all
theorem ImsAt.mono {I J : Imm} {aS : Option Addr} {ms : List Ims} {all : List (List PImg)} (h : ImsAt I aS ms all) (hJ : I.le J) : ImsAt J aS ms all := ⟨h.rd.mono hJ, fun m hm => (h.each m hm).mono hJ, h.pr⟩
end Go.Proofs.Ytbpdbgcndfcilaa
namespace Go.Proofs.Ytbpdbgcndfcilaa
open Go.RowKit Go.Sl
set_option maxRecDepth 20000

end Go.Proofs.Ytbpdbgcndfcilaa
namespace Go.Proofs.Ytbpdbgcndfcilaa
open Go.RowKit Go.Sl
set_option maxRecDepth 20000

theorem super_PutF (s : Sup) (I : Imm) : Tri Try.prog 113 #[s.v] I [] fun v J _ =>
    (¬ RightS s ∧ v = .tuple #[.slice none 0 0, .int .i64 2]) ∨ (RightS s ∧ ∃ a cap, v = .tuple #[.slice a 4096 cap, .int .i64 0] ∧ Rds J a 4096 (bts (supL s))) := by
  by_cases hR : RightS s
  · refine Tri.fixed (super_Put s I) ?_
    rintro v J S' hJ ⟨rfl, ⟨h, _⟩ | ⟨_, a, cap, ch, rfl, hown, rfl⟩⟩
    · exact absurd hR h
    · exact ⟨0, ch, rfl, fun J' hJ' hm => .inr ⟨hR, a, cap, rfl, Rds.of_own hown hm⟩⟩
  · refine (super_Put s I).mono ?_
    rintro v J S' hJ ⟨rfl, ⟨_, rfl, rfl⟩ | ⟨h, _⟩⟩
    · exact .inl ⟨hR, rfl⟩
    · exact absurd h hR
def wrImgs : List PImg → DSt → DSt × Int
  | [], d => (d, 0)
  | g :: gs, d => if (d.write g.1 g.2).2 ≠ 0 then d.write g.1 g.2 else wrImgs gs (d.write g.1 g.2).1
def DoOk (d : DSt) (l : List PImg) : Prop := ∀ g ∈ l, 2 ≤ g.1 ∧ g.1 < d.now.length ∧ g.2.length = 4096
instance (d : DSt) (l : List PImg) : Decidable (DoOk d l) := by unfold DoOk; infer_instance
def lastWr (d : DSt) (slot : Int) (s : Sup) : DSt × Int := if (d.write slot (supL s)).2 ≠ 0 then d.write slot (supL s) else (d.write slot (supL s)).1.flush
def doP (d : DSt) (l : List PImg) (s : Sup) (slot : Int) : DSt × Int :=
  if ¬ RightS s ∨ slot < 0 ∨ 1 < slot ∨ ¬ DoOk d l then (d, 2) else if (wrImgs l d).2 ≠ 0 then wrImgs l d else if (wrImgs l d).1.flush.2 ≠ 0 then (wrImgs l d).1.flush else lastWr (wrImgs l d).1.flush.1 slot s
theorem wrImgs_few : ∀ (l : List PImg) (d : DSt) (k : Nat), d.Few k → (wrImgs l d).1.Few (k + l.length)
  | [], _, _, h => h
  | g :: l, d, k, h => by
    have h1 := h.write g.1 g.2
    rw [wrImgs]
    split
    · exact h1.mono (by simp)
    · have := wrImgs_few l _ _ h1
      rw [List.length_cons]
      exact this.mono (by omega)
set_option maxHeartbeats 4000000 in
theorem dk_Do {I : Imm} {bD : Nat} {d : DSt} {ch : List Blk} (hD : Dk I bD d ch) (k : Nat) (hf : d.Few k) (aL : Option Addr) (capL : Nat) (gs : List Img) (hi : ImgsOk I aL gs) (hk : k + gs.length ≤ 900000) (s : Sup) (slot : Int) :
    Tri Try.prog 60 #[.pointer (some ⟨bD, 0, none⟩), .slice aL gs.length capL, s.v, .int .i64 slot] I [ch] fun v J S' => v = .int .i64 (doP d (gs.map Img.pr) s slot).2 ∧ ∃ ch', Dk J bD (doP d (gs.map Img.pr) s slot).1 ch' ∧ S' = [ch'] := by
  have hr := hD.wf.range
  refine Tri.drop ?_ (fun _ _ _ _ h => h)
  refine Tri.of (args := [.pointer (some ⟨bD, 0, none⟩), .slice aL gs.length capL, s.v, .int .i64 slot]) tabOk Try.func60 rfl (by kernel_rfl) (by kernel_rfl) ?_
  conv => whnf
  intro b6
  refine Tri.frame1 0 rfl (dk_Size hD) ?_
  rintro v J S' hJ ⟨rfl, rfl, rfl⟩
  refine ⟨_, rfl, ?_⟩
  refine CmpD.no (by omega) ?_
  repeat (first
    | refine LoadD.own 0 rfl _ rfl rfl ?_
    | refine LoadD.own 1 rfl _ rfl rfl ?_
    | refine LoadP.at 0 rfl _ rfl rfl ?_
    | refine LoadP.at 1 rfl _ rfl rfl ?_
    | refine StoreD.st 0 rfl rfl rfl ?_
    | refine StoreD.st 1 rfl rfl rfl ?_
    | refine CmpD.yes rfl ?_
    | refine CmpD.yes (by decide) ?_
    | refine CmpD.no (by decide) ?_
    | refine Chk.mk ⟨rfl, trivial⟩ ?_
    | refine Chk.mk ⟨rfl, rfl, trivial⟩ ?_
    | refine Chk.mk ⟨rfl, rfl, rfl, trivial⟩ ?_
    | refine Chk.mk ⟨rfl, rfl, rfl, rfl, trivial⟩ ?_
    | refine Chk.mk ⟨rfl, rfl, rfl, rfl, rfl, trivial⟩ ?_
    | refine Chk.mk ⟨rfl, rfl, rfl, rfl, rfl, rfl, trivial⟩ ?_)
  unfold doP
  refine Tri.free (super_PutF s I) ?_
  rintro v J _ hJ (⟨hR, rfl⟩ | ⟨hR, aB, capB, rfl, hB⟩)
  · repeat (first
      | refine LoadD.own 0 rfl _ rfl rfl ?_
      | refine LoadD.own 1 rfl _ rfl rfl ?_
      | refine LoadP.at 0 rfl _ rfl rfl ?_
      | refine LoadP.at 1 rfl _ rfl rfl ?_
      | refine StoreD.st 0 rfl rfl rfl ?_
      | refine StoreD.st 1 rfl rfl rfl ?_
      | refine CmpD.yes rfl ?_
      | refine CmpD.yes (by decide) ?_
      | refine CmpD.no (by decide) ?_
      | refine Chk.mk ⟨rfl, trivial⟩ ?_
      | refine Chk.mk ⟨rfl, rfl, trivial⟩ ?_
      | refine Chk.mk ⟨rfl, rfl, rfl, trivial⟩ ?_
      | refine Chk.mk ⟨rfl, rfl, rfl, rfl, trivial⟩ ?_
      | refine Chk.mk ⟨rfl, rfl, rfl, rfl, rfl, trivial⟩ ?_
      | refine Chk.mk ⟨rfl, rfl, rfl, rfl, rfl, rfl, trivial⟩ ?_)
    refine Done.mk ⟨[ch], Drop.pick [0] _ rfl, ?_⟩
    rw [if_pos (.inl hR)]
    exact ⟨rfl, ch, hD.mono hJ, rfl⟩
  repeat (first
    | refine LoadD.own 0 rfl _ rfl rfl ?_
    | refine LoadD.own 1 rfl _ rfl rfl ?_
    | refine LoadP.at 0 rfl _ rfl rfl ?_
    | refine LoadP.at 1 rfl _ rfl rfl ?_
    | refine StoreD.st 0 rfl rfl rfl ?_
    | refine StoreD.st 1 rfl rfl rfl ?_
    | refine CmpD.yes rfl ?_
    | refine CmpD.yes (by decide) ?_
    | refine CmpD.no (by decide) ?_
    | refine Chk.mk ⟨rfl, trivial⟩ ?_
    | refine Chk.mk ⟨rfl, rfl, trivial⟩ ?_
    | refine Chk.mk ⟨rfl, rfl, rfl, trivial⟩ ?_
    | refine Chk.mk ⟨rfl, rfl, rfl, rfl, trivial⟩ ?_
    | refine Chk.mk ⟨rfl, rfl, rfl, rfl, rfl, trivial⟩ ?_
    | refine Chk.mk ⟨rfl, rfl, rfl, rfl, rfl, rfl, trivial⟩ ?_)
  refine CmpD.split (fun c1 => ?_) (fun c1 => ?_)
  · repeat (first
      | refine LoadD.own 0 rfl _ rfl rfl ?_
      | refine LoadD.own 1 rfl _ rfl rfl ?_
      | refine LoadP.at 0 rfl _ rfl rfl ?_
      | refine LoadP.at 1 rfl _ rfl rfl ?_
      | refine StoreD.st 0 rfl rfl rfl ?_
      | refine StoreD.st 1 rfl rfl rfl ?_
      | refine CmpD.yes rfl ?_
      | refine CmpD.yes (by decide) ?_
      | refine CmpD.no (by decide) ?_
      | refine Chk.mk ⟨rfl, trivial⟩ ?_
      | refine Chk.mk ⟨rfl, rfl, trivial⟩ ?_
      | refine Chk.mk ⟨rfl, rfl, rfl, trivial⟩ ?_
      | refine Chk.mk ⟨rfl, rfl, rfl, rfl, trivial⟩ ?_
      | refine Chk.mk ⟨rfl, rfl, rfl, rfl, rfl, trivial⟩ ?_
      | refine Chk.mk ⟨rfl, rfl, rfl, rfl, rfl, rfl, trivial⟩ ?_)
    refine Done.mk ⟨[ch], Drop.pick [0] _ rfl, ?_⟩
    rw [if_pos (.inr (.inl c1))]
    exact ⟨rfl, ch, hD.mono hJ, rfl⟩
  refine CmpD.split (fun c2 => ?_) (fun c2 => ?_)
  · repeat (first
      | refine LoadD.own 0 rfl _ rfl rfl ?_
      | refine LoadD.own 1 rfl _ rfl rfl ?_
      | refine LoadP.at 0 rfl _ rfl rfl ?_
      | refine LoadP.at 1 rfl _ rfl rfl ?_
      | refine StoreD.st 0 rfl rfl rfl ?_
      | refine StoreD.st 1 rfl rfl rfl ?_
      | refine CmpD.yes rfl ?_
      | refine CmpD.yes (by decide) ?_
      | refine CmpD.no (by decide) ?_
      | refine Chk.mk ⟨rfl, trivial⟩ ?_
      | refine Chk.mk ⟨rfl, rfl, trivial⟩ ?_
      | refine Chk.mk ⟨rfl, rfl, rfl, trivial⟩ ?_
      | refine Chk.mk ⟨rfl, rfl, rfl, rfl, trivial⟩ ?_
      | refine Chk.mk ⟨rfl, rfl, rfl, rfl, rfl, trivial⟩ ?_
      | refine Chk.mk ⟨rfl, rfl, rfl, rfl, rfl, rfl, trivial⟩ ?_)
    refine Done.mk ⟨[ch], Drop.pick [0] _ rfl, ?_⟩
    rw [if_pos (.inr (.inr (.inl c2)))]
    exact ⟨rfl, ch, hD.mono hJ, rfl⟩
  have hDJ := hD.mono hJ
  have hiJ := hi.mono hJ
  repeat (first
    | refine LoadD.own 0 rfl _ rfl rfl ?_
    | refine LoadD.own 1 rfl _ rfl rfl ?_
    | refine LoadP.at 0 rfl _ rfl rfl ?_
    | refine LoadP.at 1 rfl _ rfl rfl ?_
    | refine StoreD.st 0 rfl rfl rfl ?_
    | refine StoreD.st 1 rfl rfl rfl ?_
    | refine CmpD.yes rfl ?_
    | refine CmpD.yes (by decide) ?_
    | refine CmpD.no (by decide) ?_
    | refine Chk.mk ⟨rfl, trivial⟩ ?_
    | refine Chk.mk ⟨rfl, rfl, trivial⟩ ?_
    | refine Chk.mk ⟨rfl, rfl, rfl, trivial⟩ ?_
    | refine Chk.mk ⟨rfl, rfl, rfl, rfl, trivial⟩ ?_
    | refine Chk.mk ⟨rfl, rfl, rfl, rfl, rfl, trivial⟩ ?_
    | refine Chk.mk ⟨rfl, rfl, rfl, rfl, rfl, rfl, trivial⟩ ?_)
  refine CodeF.loopD [0, 1, 3, 9, 36, 37, 38] (fun vs J' S' => ∃ (i : Nat), i ≤ gs.length ∧ DoOk d ((gs.take i).map Img.pr) ∧ vs = [.pointer (some ⟨bD, 0, none⟩), .slice aL gs.length capL, .int .i64 slot, .slice aB 4096 capB, .slice aL gs.length capL, .int .i64 gs.length, .int .i64 i] ∧ J = J' ∧ S' = [ch])
    (fun vs _ _ => match vs with | [_, _, _, _, _, _, .int _ i] => ((gs.length : Int) - i).toNat | _ => 0) ?_ ?_
  · exact ⟨_, Drop.pick [0] _ rfl, 0, by omega, by intro g hg; simp at hg, rfl, rfl, rfl⟩
  rintro vs gE J' S' hJ' ⟨i, hil, hok, rfl, rfl, rfl⟩
  refine CmpD.split (fun c3 => ?_) (fun c3 => ?_)
  · have hlt : i < gs.length := by omega
    rcases hiJ.1.mem with q0 | ⟨bA, oA, cA, TA, fA, rfl, hIA, hcA⟩
    · omega
    have hcell := take_part hcA (i := i * 2) (m := 2) (by omega)
    rw [imgCells_at hlt] at hcell
    have hmem : gs[i] ∈ gs := List.getElem_mem hlt
    have htk : gs.take (i + 1) = gs.take i ++ [gs[i]] := by rw [List.take_add_one, List.getElem?_eq_getElem hlt]; rfl
    have hlen := hiJ.len hmem
    have bad : ¬ (2 ≤ gs[i].blk ∧ gs[i].blk < d.now.length ∧ gs[i].len = 4096) → ∃ S'', Drop [ch, [(b6, row [.int .i64 s.blocks, .int .i64 s.epoch, .int .i64 s.seq, .int .i64 s.tail] 56)]] S'' ∧ True := fun _ => ⟨[ch], Drop.pick [0] _ rfl, trivial⟩
    have no : ¬ (2 ≤ gs[i].blk ∧ gs[i].blk < d.now.length ∧ gs[i].len = 4096) → ¬ DoOk d (gs.map Img.pr) := by
      intro h h'
      have := h' gs[i].pr (List.mem_map_of_mem hmem)
      exact h ⟨this.1, this.2.1, by rw [← hlen]; exact this.2.2⟩
    clear bad
    generalize gs[i] = g at *
    refine Chk.mk (by omega) ?_
    refine LoadD.imm hIA _ hcell rfl ?_
    conv => whnf
    intro b12
    repeat (first
      | refine LoadD.own 0 rfl _ rfl rfl ?_
      | refine LoadD.own 1 rfl _ rfl rfl ?_
      | refine LoadP.at 0 rfl _ rfl rfl ?_
      | refine LoadP.at 1 rfl _ rfl rfl ?_
      | refine StoreD.st 0 rfl rfl rfl ?_
      | refine StoreD.st 1 rfl rfl rfl ?_
      | refine CmpD.yes rfl ?_
      | refine CmpD.yes (by decide) ?_
      | refine CmpD.no (by decide) ?_
      | refine Chk.mk ⟨rfl, trivial⟩ ?_
      | refine Chk.mk ⟨rfl, rfl, trivial⟩ ?_
      | refine Chk.mk ⟨rfl, rfl, rfl, trivial⟩ ?_
      | refine Chk.mk ⟨rfl, rfl, rfl, rfl, trivial⟩ ?_
      | refine Chk.mk ⟨rfl, rfl, rfl, rfl, rfl, trivial⟩ ?_
      | refine Chk.mk ⟨rfl, rfl, rfl, rfl, rfl, rfl, trivial⟩ ?_)
    refine CodeF.sched [[], [0], [0, 1], [0, 1, 2], [0, 1, 2, 3], [0, 1, 2, 3, 4], [0, 1, 2, 3], [0, 1, 2, 3, 6], [0, 1, 2, 3, 4, 5, 6, 7], [0, 1, 2, 3, 4, 5, 6, 7, 8], [0, 1, 2, 3, 4, 5, 6, 7, 8, 9], [0, 1, 2, 3, 4, 5, 6, 7, 8, 9, 10], [0, 1, 2, 3, 4, 5, 6, 7, 8, 9, 10, 11], [0, 1, 2, 3, 4, 5, 6, 7, 8, 9, 10, 11, 12], [0, 1, 2, 3, 4, 5, 6, 7, 8, 9, 10, 11, 12, 13], [0, 1, 2, 3, 4, 5, 6, 7, 8, 9, 10, 11, 12, 13, 14]] [0, 1, 2, 3, 4, 5, 6, 7, 8, 9, 10, 11, 12, 13, 14, 15] (by kernel_rfl) ?_
    repeat (first
      | refine LoadD.own 0 rfl _ rfl rfl ?_
      | refine LoadD.own 1 rfl _ rfl rfl ?_
      | refine LoadP.at 0 rfl _ rfl rfl ?_
      | refine LoadP.at 1 rfl _ rfl rfl ?_
      | refine StoreD.st 0 rfl rfl rfl ?_
      | refine StoreD.st 1 rfl rfl rfl ?_
      | refine CmpD.yes rfl ?_
      | refine CmpD.yes (by decide) ?_
      | refine CmpD.no (by decide) ?_
      | refine Chk.mk ⟨rfl, trivial⟩ ?_
      | refine Chk.mk ⟨rfl, rfl, trivial⟩ ?_
      | refine Chk.mk ⟨rfl, rfl, rfl, trivial⟩ ?_
      | refine Chk.mk ⟨rfl, rfl, rfl, rfl, trivial⟩ ?_
      | refine Chk.mk ⟨rfl, rfl, rfl, rfl, rfl, trivial⟩ ?_
      | refine Chk.mk ⟨rfl, rfl, rfl, rfl, rfl, rfl, trivial⟩ ?_)
    refine CmpD.split (fun c4 => ?_) (fun c4 => ?_)
    · repeat (first
        | refine LoadD.own 0 rfl _ rfl rfl ?_
        | refine LoadD.own 1 rfl _ rfl rfl ?_
        | refine LoadP.at 0 rfl _ rfl rfl ?_
        | refine LoadP.at 1 rfl _ rfl rfl ?_
        | refine StoreD.st 0 rfl rfl rfl ?_
        | refine StoreD.st 1 rfl rfl rfl ?_
        | refine CmpD.yes rfl ?_
        | refine CmpD.yes (by decide) ?_
        | refine CmpD.no (by decide) ?_
        | refine Chk.mk ⟨rfl, trivial⟩ ?_
        | refine Chk.mk ⟨rfl, rfl, trivial⟩ ?_
        | refine Chk.mk ⟨rfl, rfl, rfl, trivial⟩ ?_
        | refine Chk.mk ⟨rfl, rfl, rfl, rfl, trivial⟩ ?_
        | refine Chk.mk ⟨rfl, rfl, rfl, rfl, rfl, trivial⟩ ?_
        | refine Chk.mk ⟨rfl, rfl, rfl, rfl, rfl, rfl, trivial⟩ ?_)
      refine Done.mk ⟨[ch], Drop.pick [0] _ rfl, ?_⟩
      rw [if_pos (.inr (.inr (.inr (no (fun h => by omega)))))]
      exact ⟨rfl, ch, hDJ, rfl⟩
    repeat (first
      | refine LoadD.own 0 rfl _ rfl rfl ?_
      | refine LoadD.own 1 rfl _ rfl rfl ?_
      | refine LoadP.at 0 rfl _ rfl rfl ?_
      | refine LoadP.at 1 rfl _ rfl rfl ?_
      | refine StoreD.st 0 rfl rfl rfl ?_
      | refine StoreD.st 1 rfl rfl rfl ?_
      | refine CmpD.yes rfl ?_
      | refine CmpD.yes (by decide) ?_
      | refine CmpD.no (by decide) ?_
      | refine Chk.mk ⟨rfl, trivial⟩ ?_
      | refine Chk.mk ⟨rfl, rfl, trivial⟩ ?_
      | refine Chk.mk ⟨rfl, rfl, rfl, trivial⟩ ?_
      | refine Chk.mk ⟨rfl, rfl, rfl, rfl, trivial⟩ ?_
      | refine Chk.mk ⟨rfl, rfl, rfl, rfl, rfl, trivial⟩ ?_
      | refine Chk.mk ⟨rfl, rfl, rfl, rfl, rfl, rfl, trivial⟩ ?_)
    refine Tri.frame1 0 rfl (dk_Size hDJ) ?_
    rintro v J2 S' hJ2 ⟨rfl, rfl, rfl⟩
    refine ⟨_, rfl, ?_⟩
    repeat (first
      | refine LoadD.own 0 rfl _ rfl rfl ?_
      | refine LoadD.own 1 rfl _ rfl rfl ?_
      | refine LoadP.at 0 rfl _ rfl rfl ?_
      | refine LoadP.at 1 rfl _ rfl rfl ?_
      | refine StoreD.st 0 rfl rfl rfl ?_
      | refine StoreD.st 1 rfl rfl rfl ?_
      | refine CmpD.yes rfl ?_
      | refine CmpD.yes (by decide) ?_
      | refine CmpD.no (by decide) ?_
      | refine Chk.mk ⟨rfl, trivial⟩ ?_
      | refine Chk.mk ⟨rfl, rfl, trivial⟩ ?_
      | refine Chk.mk ⟨rfl, rfl, rfl, trivial⟩ ?_
      | refine Chk.mk ⟨rfl, rfl, rfl, rfl, trivial⟩ ?_
      | refine Chk.mk ⟨rfl, rfl, rfl, rfl, rfl, trivial⟩ ?_
      | refine Chk.mk ⟨rfl, rfl, rfl, rfl, rfl, rfl, trivial⟩ ?_)
    refine CmpD.split (fun c5 => ?_) (fun c5 => ?_)
    · repeat (first
        | refine LoadD.own 0 rfl _ rfl rfl ?_
        | refine LoadD.own 1 rfl _ rfl rfl ?_
        | refine LoadP.at 0 rfl _ rfl rfl ?_
        | refine LoadP.at 1 rfl _ rfl rfl ?_
        | refine StoreD.st 0 rfl rfl rfl ?_
        | refine StoreD.st 1 rfl rfl rfl ?_
        | refine CmpD.yes rfl ?_
        | refine CmpD.yes (by decide) ?_
        | refine CmpD.no (by decide) ?_
        | refine Chk.mk ⟨rfl, trivial⟩ ?_
        | refine Chk.mk ⟨rfl, rfl, trivial⟩ ?_
        | refine Chk.mk ⟨rfl, rfl, rfl, trivial⟩ ?_
        | refine Chk.mk ⟨rfl, rfl, rfl, rfl, trivial⟩ ?_
        | refine Chk.mk ⟨rfl, rfl, rfl, rfl, rfl, trivial⟩ ?_
        | refine Chk.mk ⟨rfl, rfl, rfl, rfl, rfl, rfl, trivial⟩ ?_)
      refine Done.mk ⟨[ch], Drop.pick [0] _ rfl, ?_⟩
      rw [if_pos (.inr (.inr (.inr (no (fun h => by omega)))))]
      exact ⟨rfl, ch, hDJ, rfl⟩
    repeat (first
      | refine LoadD.own 0 rfl _ rfl rfl ?_
      | refine LoadD.own 1 rfl _ rfl rfl ?_
      | refine LoadP.at 0 rfl _ rfl rfl ?_
      | refine LoadP.at 1 rfl _ rfl rfl ?_
      | refine StoreD.st 0 rfl rfl rfl ?_
      | refine StoreD.st 1 rfl rfl rfl ?_
      | refine CmpD.yes rfl ?_
      | refine CmpD.yes (by decide) ?_
      | refine CmpD.no (by decide) ?_
      | refine Chk.mk ⟨rfl, trivial⟩ ?_
      | refine Chk.mk ⟨rfl, rfl, trivial⟩ ?_
      | refine Chk.mk ⟨rfl, rfl, rfl, trivial⟩ ?_
      | refine Chk.mk ⟨rfl, rfl, rfl, rfl, trivial⟩ ?_
      | refine Chk.mk ⟨rfl, rfl, rfl, rfl, rfl, trivial⟩ ?_
      | refine Chk.mk ⟨rfl, rfl, rfl, rfl, rfl, rfl, trivial⟩ ?_)
    refine CmpD.split (fun c6 => ?_) (fun c6 => ?_)
    rotate_left
    · repeat (first
        | refine LoadD.own 0 rfl _ rfl rfl ?_
        | refine LoadD.own 1 rfl _ rfl rfl ?_
        | refine LoadP.at 0 rfl _ rfl rfl ?_
        | refine LoadP.at 1 rfl _ rfl rfl ?_
        | refine StoreD.st 0 rfl rfl rfl ?_
        | refine StoreD.st 1 rfl rfl rfl ?_
        | refine CmpD.yes rfl ?_
        | refine CmpD.yes (by decide) ?_
        | refine CmpD.no (by decide) ?_
        | refine Chk.mk ⟨rfl, trivial⟩ ?_
        | refine Chk.mk ⟨rfl, rfl, trivial⟩ ?_
        | refine Chk.mk ⟨rfl, rfl, rfl, trivial⟩ ?_
        | refine Chk.mk ⟨rfl, rfl, rfl, rfl, trivial⟩ ?_
        | refine Chk.mk ⟨rfl, rfl, rfl, rfl, rfl, trivial⟩ ?_
        | refine Chk.mk ⟨rfl, rfl, rfl, rfl, rfl, rfl, trivial⟩ ?_)
      refine Done.mk ⟨[ch], Drop.pick [0] _ rfl, ?_⟩
      rw [if_pos (.inr (.inr (.inr (no (fun h => by omega)))))]
      exact ⟨rfl, ch, hDJ, rfl⟩
    repeat (first
      | refine LoadD.own 0 rfl _ rfl rfl ?_
      | refine LoadD.own 1 rfl _ rfl rfl ?_
      | refine LoadP.at 0 rfl _ rfl rfl ?_
      | refine LoadP.at 1 rfl _ rfl rfl ?_
      | refine StoreD.st 0 rfl rfl rfl ?_
      | refine StoreD.st 1 rfl rfl rfl ?_
      | refine CmpD.yes rfl ?_
      | refine CmpD.yes (by decide) ?_
      | refine CmpD.no (by decide) ?_
      | refine Chk.mk ⟨rfl, trivial⟩ ?_
      | refine Chk.mk ⟨rfl, rfl, trivial⟩ ?_
      | refine Chk.mk ⟨rfl, rfl, rfl, trivial⟩ ?_
      | refine Chk.mk ⟨rfl, rfl, rfl, rfl, trivial⟩ ?_
      | refine Chk.mk ⟨rfl, rfl, rfl, rfl, rfl, trivial⟩ ?_
      | refine Chk.mk ⟨rfl, rfl, rfl, rfl, rfl, rfl, trivial⟩ ?_)
    refine ToD.i64 (by omega) (by omega) ?_
    refine ⟨[ch], Drop.pick [0] _ rfl, ⟨i + 1, by omega, ?_, rfl, rfl, rfl⟩, ?_⟩
    · rw [htk, List.map_append]
      intro q hq
      rcases List.mem_append.1 hq with hq | hq
      · exact hok q hq
      · simp only [List.map_cons, List.map_nil, List.mem_singleton] at hq
        subst hq
        exact ⟨by show 2 ≤ g.blk; omega, by show g.blk < _; omega, by show g.data.length = _; omega⟩
    · show ((gs.length : Int) - ((i : Int) + 1)).toNat < ((gs.length : Int) - (i : Int)).toNat
      omega
  · obtain rfl : i = gs.length := by omega
    rw [List.take_length] at hok
    rw [if_neg (by rintro (h | h | h | h); exact h hR; exact c1 h; exact c2 h; exact h hok)]
    obtain ⟨W, hW⟩ : ∃ W, W = wrImgs (gs.map Img.pr) d := ⟨_, rfl⟩
    have hWf : W.1.Few (k + gs.length) := by rw [hW]; have := wrImgs_few (gs.map Img.pr) d k hf; rwa [List.length_map] at this
    rw [← hW]
    refine CodeF.loopD [0, 3, 9, 59, 60, 61] (fun vs J' S' => ∃ (i : Nat) (d' : DSt) (ch' : List Blk), i ≤ gs.length ∧ W = wrImgs ((gs.drop i).map Img.pr) d' ∧ d'.Few (k + i) ∧ Dk J' bD d' ch' ∧ J.le J' ∧ vs = [.pointer (some ⟨bD, 0, none⟩), .int .i64 slot, .slice aB 4096 capB, .slice aL gs.length capL, .int .i64 gs.length, .int .i64 i] ∧ S' = [ch'])
      (fun vs _ _ => match vs with | [_, _, _, _, _, .int _ i] => ((gs.length : Int) - i).toNat | _ => 0) ?_ ?_
    · exact ⟨[ch], Drop.refl _, 0, d, ch, by omega, by rw [hW]; rfl, hf, hDJ, J.le_refl, rfl, rfl⟩
    rintro vs gE2 J2 S2 hJ2 ⟨i, d', ch', hil2, hWi, hfi, hDi, hle, rfl, rfl⟩
    refine CmpD.split (fun c4 => ?_) (fun c4 => ?_)
    · have hlt : i < gs.length := by omega
      rcases hiJ.1.mem with q0 | ⟨bA, oA, cA, TA, fA, rfl, hIA, hcA⟩
      · omega
      have hcell := take_part hcA (i := i * 2) (m := 2) (by omega)
      rw [imgCells_at hlt] at hcell
      have hmem : gs[i] ∈ gs := List.getElem_mem hlt
      have hlen := hiJ.len hmem
      have hok2 := hok gs[i].pr (List.mem_map_of_mem hmem)
      have hdata := (hiJ.2 _ hmem).2
      have hdr : gs.drop i = gs[i] :: gs.drop (i + 1) := List.drop_eq_getElem_cons hlt
      generalize gs[i] = g at *
      rw [hdr, List.map_cons, wrImgs] at hWi
      refine Chk.mk (by omega) ?_
      refine LoadD.imm (hle _ _ hIA) _ hcell rfl ?_
      conv => whnf
      intro b14
      repeat (first
        | refine LoadD.own 0 rfl _ rfl rfl ?_
        | refine LoadD.own 1 rfl _ rfl rfl ?_
        | refine LoadP.at 0 rfl _ rfl rfl ?_
        | refine LoadP.at 1 rfl _ rfl rfl ?_
        | refine StoreD.st 0 rfl rfl rfl ?_
        | refine StoreD.st 1 rfl rfl rfl ?_
        | refine CmpD.yes rfl ?_
        | refine CmpD.yes (by decide) ?_
        | refine CmpD.no (by decide) ?_
        | refine Chk.mk ⟨rfl, trivial⟩ ?_
        | refine Chk.mk ⟨rfl, rfl, trivial⟩ ?_
        | refine Chk.mk ⟨rfl, rfl, rfl, trivial⟩ ?_
        | refine Chk.mk ⟨rfl, rfl, rfl, rfl, trivial⟩ ?_
        | refine Chk.mk ⟨rfl, rfl, rfl, rfl, rfl, trivial⟩ ?_
        | refine Chk.mk ⟨rfl, rfl, rfl, rfl, rfl, rfl, trivial⟩ ?_)
      refine Tri.frame1 0 rfl (dk_Write hDi (hfi.mono (by omega)) g.blk g.a g.len g.cap g.data (hdata.mono hle)) ?_
      rintro v J3 S3 hJ3 ⟨rfl, ch3, hD3, rfl⟩
      refine ⟨_, rfl, ?_⟩
      refine CmpD.split (fun c5 => ?_) (fun c5 => ?_)
      · rw [if_neg (by simpa using c5)] at hWi
        repeat (first
          | refine LoadD.own 0 rfl _ rfl rfl ?_
          | refine LoadD.own 1 rfl _ rfl rfl ?_
          | refine LoadP.at 0 rfl _ rfl rfl ?_
          | refine LoadP.at 1 rfl _ rfl rfl ?_
          | refine StoreD.st 0 rfl rfl rfl ?_
          | refine StoreD.st 1 rfl rfl rfl ?_
          | refine CmpD.yes rfl ?_
          | refine CmpD.yes (by decide) ?_
          | refine CmpD.no (by decide) ?_
          | refine Chk.mk ⟨rfl, trivial⟩ ?_
          | refine Chk.mk ⟨rfl, rfl, trivial⟩ ?_
          | refine Chk.mk ⟨rfl, rfl, rfl, trivial⟩ ?_
          | refine Chk.mk ⟨rfl, rfl, rfl, rfl, trivial⟩ ?_
          | refine Chk.mk ⟨rfl, rfl, rfl, rfl, rfl, trivial⟩ ?_
          | refine Chk.mk ⟨rfl, rfl, rfl, rfl, rfl, rfl, trivial⟩ ?_)
        refine ToD.i64 (by omega) (by omega) ?_
        refine ⟨[ch3], Drop.pick [0] _ rfl, ⟨i + 1, _, ch3, by omega, hWi, hfi.write _ _, hD3, Imm.le_trans hle hJ3, rfl, rfl⟩, ?_⟩
        show ((gs.length : Int) - ((i : Int) + 1)).toNat < ((gs.length : Int) - (i : Int)).toNat
        omega
      · rw [if_pos c5] at hWi
        repeat (first
          | refine LoadD.own 0 rfl _ rfl rfl ?_
          | refine LoadD.own 1 rfl _ rfl rfl ?_
          | refine LoadP.at 0 rfl _ rfl rfl ?_
          | refine LoadP.at 1 rfl _ rfl rfl ?_
          | refine StoreD.st 0 rfl rfl rfl ?_
          | refine StoreD.st 1 rfl rfl rfl ?_
          | refine CmpD.yes rfl ?_
          | refine CmpD.yes (by decide) ?_
          | refine CmpD.no (by decide) ?_
          | refine Chk.mk ⟨rfl, trivial⟩ ?_
          | refine Chk.mk ⟨rfl, rfl, trivial⟩ ?_
          | refine Chk.mk ⟨rfl, rfl, rfl, trivial⟩ ?_
          | refine Chk.mk ⟨rfl, rfl, rfl, rfl, trivial⟩ ?_
          | refine Chk.mk ⟨rfl, rfl, rfl, rfl, rfl, trivial⟩ ?_
          | refine Chk.mk ⟨rfl, rfl, rfl, rfl, rfl, rfl, trivial⟩ ?_)
        refine Done.mk ⟨[ch3], Drop.pick [0] _ rfl, ?_⟩
        rw [hWi, if_pos c5]
        exact ⟨rfl, ch3, hD3, rfl⟩
    · obtain rfl : i = gs.length := by omega
      rw [List.drop_length, List.map_nil, wrImgs] at hWi
      subst hWi
      dsimp only at hWf ⊢
      rw [if_neg (by simp)]
      refine Tri.frame1 0 rfl (dk_Flush hDi) ?_
      rintro v J3 S3 hJ3 ⟨rfl, ch3, hD3, rfl⟩
      refine ⟨_, rfl, ?_⟩
      refine CmpD.split (fun c5 => ?_) (fun c5 => ?_)
      rotate_left
      · repeat (first
          | refine LoadD.own 0 rfl _ rfl rfl ?_
          | refine LoadD.own 1 rfl _ rfl rfl ?_
          | refine LoadP.at 0 rfl _ rfl rfl ?_
          | refine LoadP.at 1 rfl _ rfl rfl ?_
          | refine StoreD.st 0 rfl rfl rfl ?_
          | refine StoreD.st 1 rfl rfl rfl ?_
          | refine CmpD.yes rfl ?_
          | refine CmpD.yes (by decide) ?_
          | refine CmpD.no (by decide) ?_
          | refine Chk.mk ⟨rfl, trivial⟩ ?_
          | refine Chk.mk ⟨rfl, rfl, trivial⟩ ?_
          | refine Chk.mk ⟨rfl, rfl, rfl, trivial⟩ ?_
          | refine Chk.mk ⟨rfl, rfl, rfl, rfl, trivial⟩ ?_
          | refine Chk.mk ⟨rfl, rfl, rfl, rfl, rfl, trivial⟩ ?_
          | refine Chk.mk ⟨rfl, rfl, rfl, rfl, rfl, rfl, trivial⟩ ?_)
        refine Done.mk ⟨[ch3], Drop.refl _, ?_⟩
        rw [if_pos c5]
        exact ⟨rfl, ch3, hD3, rfl⟩
      rw [if_neg (by simpa using c5)]
      unfold lastWr
      refine Tri.frame1 0 rfl (dk_Write hD3 (hWf.flush.mono (by omega)) slot aB 4096 capB (supL s) (hB.mono (Imm.le_trans hle hJ3))) ?_
      rintro v J4 S4 hJ4 ⟨rfl, ch4, hD4, rfl⟩
      refine ⟨_, rfl, ?_⟩
      refine CmpD.split (fun c6 => ?_) (fun c6 => ?_)
      rotate_left
      · repeat (first
          | refine LoadD.own 0 rfl _ rfl rfl ?_
          | refine LoadD.own 1 rfl _ rfl rfl ?_
          | refine LoadP.at 0 rfl _ rfl rfl ?_
          | refine LoadP.at 1 rfl _ rfl rfl ?_
          | refine StoreD.st 0 rfl rfl rfl ?_
          | refine StoreD.st 1 rfl rfl rfl ?_
          | refine CmpD.yes rfl ?_
          | refine CmpD.yes (by decide) ?_
          | refine CmpD.no (by decide) ?_
          | refine Chk.mk ⟨rfl, trivial⟩ ?_
          | refine Chk.mk ⟨rfl, rfl, trivial⟩ ?_
          | refine Chk.mk ⟨rfl, rfl, rfl, trivial⟩ ?_
          | refine Chk.mk ⟨rfl, rfl, rfl, rfl, trivial⟩ ?_
          | refine Chk.mk ⟨rfl, rfl, rfl, rfl, rfl, trivial⟩ ?_
          | refine Chk.mk ⟨rfl, rfl, rfl, rfl, rfl, rfl, trivial⟩ ?_)
        refine Done.mk ⟨[ch4], Drop.refl _, ?_⟩
        rw [if_pos c6]
        exact ⟨rfl, ch4, hD4, rfl⟩
      rw [if_neg (by simpa using c6)]
      refine Tri.frame1 0 rfl (dk_Flush hD4) ?_
      rintro v J5 S5 hJ5 ⟨rfl, ch5, hD5, rfl⟩
      refine ⟨_, rfl, ?_⟩
      exact Done.mk ⟨[ch5], Drop.refl _, rfl, ch5, hD5, rfl⟩
end Go.Proofs.Ytbpdbgcndfcilaa
namespace Go.Proofs.Ytbpdbgcndfcilaa
open Go.RowKit Go.Sl
set_option maxRecDepth 20000

@[reducible] def rBox (b : Nat) (s w : Hd) (count : Int) (down : Bool) (arm fault : Int) : List Blk := [(b, row [s.v, w.v, .int .i64 count, .bool down, .int .i64 arm, .int .i64 fault] 79)]
@[reducible] def sBox (b : Nat) (s : Sup) : List Blk := [(b, row [.int .i64 s.blocks, .int .i64 s.epoch, .int .i64 s.seq, .int .i64 s.tail] 56)]
end Go.Proofs.Ytbpdbgcndfcilaa
namespace Go.Proofs.Ytbpdbgcndfcilaa
open Go.RowKit Go.Sl
set_option maxRecDepth 20000

end Go.Proofs.Ytbpdbgcndfcilaa
namespace Go.Proofs.Ytbpdbgcndfcilaa
open Go.RowKit Go.Sl
set_option maxRecDepth 20000

end Go.Proofs.Ytbpdbgcndfcilaa
namespace Go.Proofs.Ytbpdbgcndfcilaa
open Go.RowKit Go.Sl
set_option maxRecDepth 20000

end Go.Proofs.Ytbpdbgcndfcilaa
namespace Go.Proofs.Ytbpdbgcndfcilaa
open Go.RowKit Go.Sl
set_option maxRecDepth 20000

end Go.Proofs.Ytbpdbgcndfcilaa
namespace Go.Proofs.Ytbpdbgcndfcilaa
open Go.RowKit Go.Sl
set_option maxRecDepth 20000

theorem get_none {b : Dat} (h : ∀ s, supL s ≠ b) : getS b = none := by
  unfold getS; rw [if_neg (fun h' => h _ h'.2)]
theorem get_zeros : getS (List.replicate 4096 0) = none := get_none fun s h => by
  have e := congrArg (·[0]?) h
  have e1 : (supL s)[0]? = some 76 := rfl
  have e2 : (List.replicate 4096 (0 : UInt8))[0]? = some 0 := by rw [List.getElem?_replicate, if_pos (by omega)]
  simp only [e1, e2] at e
  exact absurd e (by decide)
theorem flush_calm {d : DSt} (h : d.Calm) : d.flush = ({ d with safe := d.now, writes := [] }, 0) := by
  unfold DSt.flush; rw [DSt.stop_calm h]; simp
theorem lay64 : (layOf 64).bi = 18 ∧ (layOf 64).b = 64 := ⟨by show 2 + layL ((64 : Nat) : Int) = 18; rw [layL_64']; rfl, rfl⟩
end Go.Proofs.Ytbpdbgcndfcilaa
namespace Go.Proofs.Ytbpdbgcndfcilaa
open Go.RowKit Go.Sl
set_option maxRecDepth 20000

theorem own_mem : ∀ {cs : List (List Blk)} {gs : List Img} {J : Imm}, OwnImgs cs gs → (∀ x ∈ cs.flatten, J x.1 = some x.2) → ∀ g ∈ gs, Rds J g.a g.len (bts g.data)
  | [], [], _, _, _, g, hg => by simp at hg
  | c :: cs, x :: gs, J, h, hm, g, hg => by
    rcases List.mem_cons.1 hg with rfl | hg
    · exact Rds.of_own h.1 fun y hy => hm y (by simp [hy])
    · exact own_mem h.2 (fun y hy => hm y (by rw [List.flatten_cons]; exact List.mem_append_right _ hy)) g hg
  | [], _ :: _, _, h, _, _, _ => h.elim
  | _ :: _, [], _, h, _, _, _ => h.elim
/-- Home's answer, fixed -/
theorem home_fix {I : Imm} {aG : Option Addr} {capG : Nat} {l : List Grp} (hG : GrpsR I [] aG l) (hl : l.length ≤ 1000000) (hall : (allI l).length ≤ 1000000) (hfew : ∀ g ∈ allI l, g.len ≤ 100000000) (x : Lay) :
    Tri Try.prog 50 #[x.v, .slice aG l.length capG] I [] fun v J _ =>
      ((¬ LayOk x ∧ v = .tuple #[.slice none 0 0, .int .i64 2]) ∨
       (LayOk x ∧ ¬ HomeOk x (allP l) ∧ v = .tuple #[.slice none 0 0, .int .i64 90]) ∨
       (LayOk x ∧ HomeOk x (allP l) ∧ ∃ (aO : Option Addr) (capO : Nat) (outs : List Img), v = .tuple #[.slice aO outs.length capO, .int .i64 0] ∧ ImgsR J [] aO outs ∧ outs.map Img.pr = homeP (allP l))) := by
  refine Tri.fixed (Q := fun v _ S' => ∃ ch, S' = [ch] ∧
      ((¬ LayOk x ∧ v = .tuple #[.slice none 0 0, .int .i64 2]) ∨
       (LayOk x ∧ ¬ HomeOk x (allP l) ∧ v = .tuple #[.slice none 0 0, .int .i64 90]) ∨
       (LayOk x ∧ HomeOk x (allP l) ∧ ∃ (aO : Option Addr) (capO : Nat) (chO : List Blk) (chs : List (List Blk)) (outs : List Img), v = .tuple #[.slice aO outs.length capO, .int .i64 0] ∧ OwnC chO 2 aO outs.length capO (imgCells outs) ∧ OwnImgs chs outs ∧ outs.map Img.pr = homeP (allP l) ∧ ch = chO ++ chs.flatten))) ?_ ?_
  · refine Tri.drop (home_any hG hl hall hfew x) ?_
    rintro v J S' hJ (⟨h, rfl, rfl⟩ | ⟨h1, h2, rfl, rfl⟩ | ⟨h1, h2, aO, capO, chO, chs, outs, rfl, hO, hcs, hpr, rfl⟩)
    · exact ⟨[[]], Drop.flat rfl, [], rfl, .inl ⟨h, rfl⟩⟩
    · exact ⟨[[]], Drop.flat rfl, [], rfl, .inr (.inl ⟨h1, h2, rfl⟩)⟩
    · exact ⟨[chO ++ chs.flatten], Drop.flat (by simp), _, rfl, .inr (.inr ⟨h1, h2, aO, capO, chO, chs, outs, rfl, hO, hcs, hpr, rfl⟩)⟩
  · rintro v J S' hJ ⟨ch, rfl, h⟩
    refine ⟨0, ch, rfl, fun J' hJ' hm => ?_⟩
    rcases h with ⟨h, rfl⟩ | ⟨h1, h2, rfl⟩ | ⟨h1, h2, aO, capO, chO, chs, outs, rfl, hO, hcs, hpr, rfl⟩
    · exact .inl ⟨h, rfl⟩
    · exact .inr (.inl ⟨h1, h2, rfl⟩)
    · refine .inr (.inr ⟨h1, h2, aO, capO, outs, rfl, ⟨(Rds.of_ownS hO fun y hy => hm y (List.mem_append_left _ hy)).slC, fun g hg => ⟨(own_mem hcs (fun y hy => hm y (List.mem_append_right _ hy)) g hg).slC⟩⟩, hpr⟩)
theorem imgsR_of {I : Imm} {S : St} {a : Option Addr} {gs : List Img} (h : ImgsOk I a gs) : ImgsR I S a gs := ⟨h.1.slC, fun g hg => ⟨(h.2 g hg).2.slC⟩⟩
theorem doP_few {d : DSt} {k : Nat} (h : d.Few k) (l : List PImg) (s : Sup) (slot : Int) : (doP d l s slot).1.Few (k + l.length + 1) := by
  have h1 := wrImgs_few l d k h
  unfold doP
  split
  · exact h.mono (by omega)
  split
  · exact h1.mono (by omega)
  split
  · exact h1.flush.mono (by omega)
  unfold lastWr
  split
  · exact h1.flush.write _ _
  · exact (h1.flush.write _ _).flush
end Go.Proofs.Ytbpdbgcndfcilaa
namespace Go.Proofs.Ytbpdbgcndfcilaa
open Go.RowKit Go.Sl
set_option maxRecDepth 20000

end Go.Proofs.Ytbpdbgcndfcilaa
namespace Go.Proofs.Ytbpdbgcndfcilaa
open Go.RowKit Go.Sl
set_option maxRecDepth 20000

/-- bytes, as they lie -/
structure Bs where
  a : Option Addr
  len : Nat
  cap : Nat
  data : Dat
@[reducible] def Bs.cell (b : Bs) : Value := .slice b.a b.len b.cap
theorem GrpsOk.at' {J : Imm} {gl : List Grp} {L : List G3} (h : GrpsOk J gl L) (i : Nat) (hi : i < gl.length) : ∃ hl : i < L.length, gl[i].e = (L[i].1 : Int) ∧ gl[i].s = (L[i].2.1 : Int) ∧ gl[i].gs.map Img.pr = L[i].2.2 := by
  have hl : i < L.length := by rw [← h.len]; exact hi
  refine ⟨hl, ?_⟩
  have h3 := h.g3
  have : (gl.map Grp.g3)[i]'(by rw [List.length_map]; exact hi) = (L.map up3)[i]'(by rw [List.length_map]; exact hl) := by simp only [h3]
  rw [List.getElem_map, List.getElem_map] at this
  unfold Grp.g3 up3 at this
  simp only [Prod.mk.injEq] at this
  exact this
end Go.Proofs.Ytbpdbgcndfcilaa
namespace Go.Proofs.Ytbpdbgcndfcilaa
open Go.RowKit Go.Sl
set_option maxRecDepth 20000

end Go.Proofs.Ytbpdbgcndfcilaa
namespace Go.Proofs.Ytbpdbgcndfcilaa
open Go.RowKit Go.Sl
set_option maxRecDepth 20000

theorem scanL64 {d : DSt} (hlen : d.now.length = 64) (s : Sup) : scanL d s = scanK (rbP d 2 16) s.epoch 17 s.tail.toNat s.seq 16 := by
  unfold scanL
  rw [hlen]
  show scanK (rbP d 2 (layL (64 : Int)).toNat) s.epoch ((layL (64 : Int)).toNat + 1) s.tail.toNat s.seq (layL (64 : Int)).toNat = _
  rw [layL64]; rfl
@[reducible] def nA : List PImg := im9 1 0
@[reducible] def nB : List PImg := im9 2 1
theorem nA_right : RightP ((1 : Nat) : Int) ((1 : Nat) : Int) nA := im9_right (by decide) (by decide) 1 (by decide) 0
theorem nB_right : RightP ((1 : Nat) : Int) ((2 : Nat) : Int) nB := im9_right (by decide) (by decide) 2 (by decide) 1
theorem nA_len : nA.length = 1 := im9_length _ _
structure Two (rb : Nat → Dat) : Prop where
  a : ∀ (k : Nat) (h : k < (putP 1 1 nA).length), rb (14 + k) = (putP 1 1 nA)[k]
  b : ∀ (k : Nat) (h : k < (putP 1 2 nB).length), rb (0 + k) = (putP 1 2 nB)[k]
  n : rb 3 = noughts
theorem usedB : usedP [nB] = 3 := by simp [usedP, im9_length]
theorem Two.grpA {rb : Nat → Dat} (h : Two rb) : grpP rb 14 16 = some (1, 1, nA) := grpP_put nA_right (by rw [nA_len]; omega) h.a
theorem Two.m {d : DSt} (h : Two (rbP d 2 16)) (hlen : d.now.length = 64) : scanL d ⟨64, 1, 2, 0⟩ = [(1, 2, nB)] := by
  rw [scanL64 hlen]
  show scanK (rbP d 2 16) ((1 : Nat) : Int) 17 0 ((2 : Nat) : Int) 16 = _
  have e : ringB 1 2 [nB] = putP 1 2 nB := by simp [ringB]
  rw [scan_prefix (rbP d 2 16) 1 [nB] 17 0 2 16 (fun i hi => by
      have : i = 0 := by simpa using hi
      subst this; exact nB_right) (by rw [usedB]; omega) (by simp) (fun k hk => by
      have := h.b k (by rw [← e]; exact hk)
      rw [this]; simp only [e])]
  rw [scan_stop, List.append_nil]; · rfl
  intro e s l hg
  rw [usedB, grpP_none (by rw [show 0 + 3 = 3 from rfl, h.n]; exact hd_noughts)] at hg
  cases hg
theorem Two.no {d : DSt} (h : Two (rbP d 2 16)) (hlen : d.now.length = 64) : scanL d ⟨64, 1, 2, 14⟩ = [] := by
  rw [scanL64 hlen]
  refine scan_stop fun e s l hg h' => ?_
  have hg : grpP (rbP d 2 16) 14 16 = some (e, s, l) := hg
  rw [h.grpA] at hg
  cases hg
  have : ((1 : Nat) : Int) = 2 := h'.2
  omega
end Go.Proofs.Ytbpdbgcndfcilaa
namespace Go.Proofs.Ytbpdbgcndfcilaa
open Go.RowKit Go.Sl
set_option maxRecDepth 20000

theorem shr_nat8 (v s : Nat) (hs : s ≤ 8) : (v : Int).fdiv (2 ^ (min ((s : Int)).toNat IntKind.u8.bits)) = ((v / 2 ^ s : Nat) : Int) := by
  have e : min ((s : Int)).toNat IntKind.u8.bits = s := by
    show min s 8 = s; omega
  rw [e, Int.fdiv_eq_ediv_of_nonneg _ (by exact_mod_cast Nat.zero_le _)]
  norm_cast
def put5 (l m : Dat) (i : Nat) : Dat := l.take (i * 512) ++ m ++ l.drop (i * 512 + 512)
def tornK (old new : Dat) (sec : Nat) : Nat → Dat
  | 0 => old
  | k + 1 => if sec / 2 ^ k % 2 = 1 then put5 (tornK old new sec k) ((new.drop (k * 512)).take 512) k else tornK old new sec k
def tornP (old new : Dat) (sec : Nat) : Dat := tornK old new sec 8
theorem tornK_succ (old new : Dat) (sec k : Nat) : tornK old new sec (k + 1) = if sec / 2 ^ k % 2 = 1 then put5 (tornK old new sec k) ((new.drop (k * 512)).take 512) k else tornK old new sec k := rfl
theorem tornK_length {old new : Dat} (h1 : old.length = 4096) (h2 : new.length = 4096) (sec : Nat) : ∀ k, k ≤ 8 → (tornK old new sec k).length = 4096
  | 0, _ => h1
  | k + 1, h => by
    have ih := tornK_length h1 h2 sec k (by omega)
    rw [tornK_succ]
    split
    · simp only [put5, List.length_append, List.length_take, List.length_drop, ih, h2]; omega
    · exact ih
attribute [irreducible] tornK
theorem bts_put5 (l m : Dat) (i : Nat) : bts (put5 l m i) = (bts l).take (i * 512) ++ bts m ++ (bts l).drop (i * 512 + 512) := by
  simp [bts, put5, List.map_take, List.map_drop]
theorem sector_of (I : Imm) (S : St) (b off cap i : Nat) (hi : i < 8) (hcap : 4096 ≤ cap) :
    Tri Try.prog 146 #[.slice (some ⟨b, off, none⟩) 4096 cap, .int .i64 i] I S fun v J S' => v = .slice (some ⟨b, off + i * 512, none⟩) 512 512 ∧ I = J ∧ S' = S := by
  refine Tri.of (args := [.slice (some ⟨b, off, none⟩) 4096 cap, .int .i64 i]) tabOk Try.func146 rfl (by kernel_rfl) (by kernel_rfl) ?_
  refine ToD.to ((i * 512 : Nat) : Int) (by rw [wrap_i64 (by omega) (by omega)]; omega) ?_
  refine ToD.to ((i + 1 : Nat) : Int) (by rw [wrap_i64 (by omega) (by omega)]; omega) ?_
  refine ToD.to ((i * 512 + 512 : Nat) : Int) (by rw [wrap_i64 (by omega) (by omega)]; omega) ?_
  refine ToD.to ((i + 1 : Nat) : Int) (by rw [wrap_i64 (by omega) (by omega)]; omega) ?_
  refine ToD.to ((i * 512 + 512 : Nat) : Int) (by rw [wrap_i64 (by omega) (by omega)]; omega) ?_
  refine sliceD tabOk rfl rfl rfl rfl (i * 512) (i * 512 + 512) (i * 512 + 512) ⟨_, rfl⟩ ⟨_, rfl⟩ ⟨_, rfl⟩ (.inr (by simp)) (by omega) ?_
  refine Done.mk ⟨?_, rfl, rfl⟩
  show Value.slice (slAddr (some ⟨b, off, none⟩) (i * 512) (i * 512 + 512) 1) (i * 512 + 512 - i * 512) (i * 512 + 512 - i * 512) = _
  unfold slAddr
  rw [if_neg (by omega), show i * 512 + 512 - i * 512 = 512 by omega]
  simp [add_none]
set_option maxHeartbeats 4000000 in
theorem torn_own (I : Imm) (a1 : Option Addr) (cap1 : Nat) (old : Dat) (h1 : Rds I a1 4096 (bts old)) (a2 : Option Addr) (cap2 : Nat) (new : Dat) (h2 : Rds I a2 4096 (bts new)) (hc2 : 4096 ≤ cap2) (sec : Nat) (hsec : sec < 256) :
    Tri Try.prog 110 #[.slice a1 4096 cap1, .slice a2 4096 cap2, .int .u8 sec] I [] fun v J S' => ∃ a cap ch, v = .slice a 4096 cap ∧ OwnB ch a 4096 cap (tornP old new sec) ∧ I = J ∧ S' = [ch] := by
  have hl1 : old.length = 4096 := by rw [← bts_length, h1.len]
  have hl2 : new.length = 4096 := by rw [← bts_length, h2.len]
  refine Tri.drop ?_ (fun _ _ _ _ h => h)
  refine Tri.of (args := [.slice a1 4096 cap1, .slice a2 4096 cap2, .int .u8 sec]) tabOk Try.func110 rfl (by kernel_rfl) (by kernel_rfl) ?_
  refine Tri.nf (clone_bytes I [] a1 4096 cap1 (bts old) (by rw [Nat.mul_one]; exact h1.slC) (bts_plain old) (by omega)) ?_
  rintro v J S' hJ ⟨aO, capO, chO, rfl, hO, rfl, rfl⟩
  have hcO := hO.le
  rcases hO.at' with q0 | ⟨bO, pre, post, TO, rfl, rfl, hpost⟩
  · omega
  rcases h2.mem with q0 | ⟨bN, oN, cN, TN, fN, rfl, hIN, hcN⟩
  · omega
  refine CodeF.loopD [1, 2, 7, 11] (fun vs J' S' => ∃ (k : Nat), k ≤ 8 ∧ vs = [.slice (some ⟨bN, oN, none⟩) 4096 cap2, .int .u8 sec, .slice (some ⟨bO, pre.length, none⟩) 4096 capO, .int .i64 k] ∧ I = J' ∧ S' = [[(bO, row (pre ++ bts (tornK old new sec k) ++ post) TO)]])
    (fun vs _ _ => match vs with | [_, _, _, .int _ k] => ((8 : Int) - k).toNat | _ => 0) ?_ ?_
  · exact ⟨_, Drop.refl _, 0, by omega, rfl, rfl, by unfold tornK; rfl⟩
  rintro vs gE J' S' hJ' ⟨k, hk, rfl, rfl, rfl⟩
  have hkl := tornK_length hl1 hl2 sec k hk
  refine CmpD.split (fun c1 => ?_) (fun c1 => ?_)
  · have hdv : sec / 2 ^ k ≤ sec := Nat.div_le_self _ _
    refine Chk.mk (by omega) ?_
    refine ToD.to ((sec / 2 ^ k : Nat) : Int) (shr_nat8 sec k (by omega)) ?_
    refine ToD.to ((sec / 2 ^ k % 2 : Nat) : Int) (by rw [show (1 : Int) = ((1 : Nat) : Int) from rfl, u8_and_nat _ 1 (by omega) (by omega), Nat.and_one_is_mod]) ?_
    refine CmpD.split (fun (c2 : ((sec / 2 ^ k % 2 : Nat) : Int) = 1) => ?_) (fun (c2 : ¬ ((sec / 2 ^ k % 2 : Nat) : Int) = 1) => ?_)
    · refine Tri.nf (sector_of I _ bO pre.length capO k (by omega) hcO) ?_
      rintro v J S' hJ ⟨rfl, rfl, rfl⟩
      refine Tri.nf (sector_of I _ bN oN cap2 k (by omega) hc2) ?_
      rintro v J S' hJ ⟨rfl, rfl, rfl⟩
      have hm : ((new.drop (k * 512)).take 512).length = 512 := by rw [List.length_take, List.length_drop]; omega
      refine copyD tabOk rfl rfl rfl rfl rfl rfl rfl 0 rfl (SrcOk.slice (n := 512) (news := bts ((new.drop (k * 512)).take 512)) tabOk rfl (Rds_part h2 (k * 512) 512 (by omega)).slC (bts_plain _)) (Nat.le_refl _) (by simp only [List.length_append, bts_length, hkl]; show pre.length + k * 512 + 512 * 1 ≤ _; omega) (Nat.le_refl _) ?_
      have hsp : splice (pre ++ bts (tornK old new sec k) ++ post) (pre.length + k * 512) (bts ((new.drop (k * 512)).take 512)) = pre ++ bts (tornK old new sec (k + 1)) ++ post := by
        rw [splice_mid _ _ _ _ _ (by rw [bts_length, bts_length, hkl, hm]; omega), tornK_succ, if_pos (by omega), bts_put5, bts_length, hm]
      rw [hsp]
      refine ToD.i64 (by omega) (by omega) ?_
      refine ⟨_, Drop.refl _, ⟨k + 1, by omega, rfl, rfl, rfl⟩, ?_⟩
      show ((8 : Int) - ((k : Int) + 1)).toNat < ((8 : Int) - (k : Int)).toNat
      omega
    · refine ToD.i64 (by omega) (by omega) ?_
      refine ⟨_, Drop.refl _, ⟨k + 1, by omega, rfl, rfl, by rw [tornK_succ, if_neg (by omega)]⟩, ?_⟩
      show ((8 : Int) - ((k : Int) + 1)).toNat < ((8 : Int) - (k : Int)).toNat
      omega
  · obtain rfl : k = 8 := by omega
    refine Done.mk ⟨_, Drop.refl _, some ⟨bO, pre.length, none⟩, capO, _, rfl, ⟨by rw [bts_length]; exact hkl, hcO, .inr ⟨bO, pre, post, TO, rfl, rfl, hpost⟩⟩, rfl, rfl⟩
theorem torn_fix (I : Imm) (a1 : Option Addr) (cap1 : Nat) (old : Dat) (h1 : Rds I a1 4096 (bts old)) (a2 : Option Addr) (cap2 : Nat) (new : Dat) (h2 : Rds I a2 4096 (bts new)) (hc2 : 4096 ≤ cap2) (sec : Nat) (hsec : sec < 256) :
    Tri Try.prog 110 #[.slice a1 4096 cap1, .slice a2 4096 cap2, .int .u8 sec] I [] fun v J _ => ∃ a cap, v = .slice a 4096 cap ∧ Rds J a 4096 (bts (tornP old new sec)) := by
  refine Tri.fixed (torn_own I a1 cap1 old h1 a2 cap2 new h2 hc2 sec hsec) ?_
  rintro v J S' hJ ⟨a, cap, ch, rfl, hO, rfl, rfl⟩
  exact ⟨0, ch, rfl, fun J' hJ' hm => ⟨a, cap, rfl, Rds.of_own hO hm⟩⟩
end Go.Proofs.Ytbpdbgcndfcilaa
namespace Go.Proofs.Ytbpdbgcndfcilaa
open Go.RowKit Go.Sl
set_option maxRecDepth 20000

/-- what a crash leaves of the blocks -/
def crash1 (keep : List Bool) (tn : Int) (sec i : Nat) (n : Nat) (b : Dat) (s : List Dat) : List Dat :=
  if (i : Int) = tn then s.set n (tornP (s.getD n []) b sec) else if keep.getD i false then s.set n b else s
def crashK (keep : List Bool) (tn : Int) (sec : Nat) : Nat → List (Int × Dat) → List Dat → List Dat
  | _, [], s => s
  | i, w :: ws, s => crashK keep tn sec (i + 1) ws (crash1 keep tn sec i w.1.toNat w.2 s)
theorem crashK_snoc (keep : List Bool) (tn : Int) (sec : Nat) : ∀ (ws : List (Int × Dat)) (i : Nat) (s : List Dat) (w : Int × Dat), crashK keep tn sec i (ws ++ [w]) s = crash1 keep tn sec (i + ws.length) w.1.toNat w.2 (crashK keep tn sec i ws s)
  | [], i, s, w => by simp [crashK]
  | x :: ws, i, s, w => by
    rw [List.cons_append, crashK, crashK_snoc keep tn sec ws, crashK, List.length_cons, show i + 1 + ws.length = i + (ws.length + 1) by omega]
theorem crash1_length (keep : List Bool) (tn : Int) (sec i n : Nat) (b : Dat) (s : List Dat) : (crash1 keep tn sec i n b s).length = s.length := by
  unfold crash1; split
  · simp
  · split <;> simp
theorem crash1_mem {keep : List Bool} {tn : Int} {sec i n : Nat} {b : Dat} {s : List Dat} (hb : b.length = 4096) (hs : ∀ x ∈ s, x.length = 4096) (hn : n < s.length) : ∀ x ∈ crash1 keep tn sec i n b s, x.length = 4096 := by
  intro x hx
  unfold crash1 at hx
  split at hx
  · rcases List.mem_or_eq_of_mem_set hx with hx | rfl
    · exact hs x hx
    · refine tornK_length ?_ hb sec 8 (by omega)
      rw [List.getD_eq_getElem?_getD, List.getElem?_eq_getElem hn]
      exact hs _ (List.getElem_mem hn)
  · split at hx
    · rcases List.mem_or_eq_of_mem_set hx with hx | rfl
      · exact hs x hx
      · exact hb
    · exact hs x hx
theorem crashK_length (keep : List Bool) (tn : Int) (sec : Nat) : ∀ (ws : List (Int × Dat)) (i : Nat) (s : List Dat), (crashK keep tn sec i ws s).length = s.length
  | [], _, _ => rfl
  | w :: ws, i, s => by rw [crashK, crashK_length keep tn sec ws, crash1_length]
theorem crashK_mem {keep : List Bool} {tn : Int} {sec : Nat} : ∀ (ws : List (Int × Dat)) (i : Nat) (s : List Dat), (∀ w ∈ ws, w.1.toNat < s.length ∧ w.2.length = 4096) → (∀ x ∈ s, x.length = 4096) → ∀ x ∈ crashK keep tn sec i ws s, x.length = 4096
  | [], _, _, _, hs => hs
  | w :: ws, i, s, hw, hs => by
    have h1 := hw w (by simp)
    exact crashK_mem ws (i + 1) _ (fun y hy => by rw [crash1_length]; exact hw y (by simp [hy])) (crash1_mem h1.2 hs h1.1)
def DSt.crash (d : DSt) (keep : List Bool) (tn : Int) (sec : Nat) : DSt := ⟨crashK keep tn sec 0 d.writes d.safe, crashK keep tn sec 0 d.writes d.safe, [], d.count, false, ⟨false, 0⟩, ⟨false, 0⟩⟩
theorem DSt.Wf.crash {d : DSt} (h : d.Wf) (keep : List Bool) (tn : Int) (sec : Nat) : (d.crash keep tn sec).Wf := by
  have hl := crashK_length keep tn sec d.writes 0 d.safe
  have hm := crashK_mem (keep := keep) (tn := tn) (sec := sec) d.writes 0 d.safe (fun w hw => by have h1 := h.writes w hw; have h2 := h.len; exact ⟨by omega, h1.2.2⟩) h.safe
  have h1 := h.len
  have h2 := h.range
  exact ⟨rfl, by show 1 ≤ (crashK keep tn sec 0 d.writes d.safe).length ∧ (crashK keep tn sec 0 d.writes d.safe).length ≤ 512; omega, hm, hm, fun w hw => (List.not_mem_nil hw).elim, fun h => (Bool.false_ne_true h).elim, fun h => (Bool.false_ne_true h).elim⟩
def bools (l : List Bool) : List Value := l.map Value.bool
theorem bools_get {l : List Bool} {i : Nat} (h : i < l.length) : (bools l)[i]? = some (.bool (l.getD i false)) := by
  rw [List.getD_eq_getElem?_getD, List.getElem?_eq_getElem h]
  simp [bools, h]
set_option maxHeartbeats 4000000 in
theorem disk_Crash (b : Nat) (d : DRec) (hnl : 1 ≤ d.now.len) (hsl : d.safe.len ≤ 1000000) (hwl : d.writes.len ≤ 1000000) (chS chN chW : List Blk) (safe now : List Bk) (ws : List (Int × Bk)) (I : Imm) (hD : DiskAt I d chS chN chW safe now ws) (hws : ∀ w ∈ ws, 0 ≤ w.1 ∧ w.1 < d.safe.len)
    (aK : Option Addr) (nK capK : Nat) (keep : List Bool) (hK : Rds I aK nK (bools keep)) (tn : Int) (sec : Nat) (hsec : sec < 256) :
    Tri Try.prog 57 #[.pointer (some ⟨b, 0, none⟩), .slice aK nK capK, .int .i64 tn, .int .u8 sec] I [dChunk b d, chS, chN, chW] fun v J S' =>
      v = .int .i64 0 ∧ ∃ (hS hN : Hd) (chS' chN' : List Blk) (bks : List Bk), bks.map Bk.data = crashK keep tn sec 0 (ws.map fun w => (w.1, w.2.data)) (safe.map Bk.data) ∧
        S' = [dChunk b ⟨hS, hN, ⟨none, 0, 0⟩, d.count, false, ⟨false, 0⟩, ⟨false, 0⟩⟩, chS', chN', []] ∧ DiskAt J ⟨hS, hN, ⟨none, 0, 0⟩, d.count, false, ⟨false, 0⟩, ⟨false, 0⟩⟩ chS' chN' [] bks bks [] := by
  refine Tri.drop ?_ (fun _ _ _ _ h => h)
  refine Tri.of (args := [.pointer (some ⟨b, 0, none⟩), .slice aK nK capK, .int .i64 tn, .int .u8 sec]) tabOk Try.func57 rfl (by kernel_rfl) (by kernel_rfl) ?_
  refine Tri.frame1 0 rfl (disk_none b d I) ?_
  rintro v J S' hJ ⟨rfl, rfl, rfl⟩
  refine ⟨_, rfl, ?_⟩
  rw [decide_eq_false (show ¬ d.now.len = 0 by omega)]
  have hKl : keep.length = nK := by have := hK.len; simpa [bools] using this
  obtain ⟨hSo, hNo, hWo, hokS, _, hokW⟩ := hD
  obtain ⟨⟨sa, sl, sc⟩, ⟨na, nl, nc⟩, ⟨wa, wl, wc⟩, count, down, ⟨ao, al⟩, ⟨fo, fl⟩⟩ := d
  dsimp only at hnl hsl hwl hSo hNo hWo hws
  have hwn : ws.length = wl := by have := hWo.n; rw [wCells_length] at this; omega
  refine LoadD.own 0 rfl [.slice wa wl wc] rfl rfl ?_
  refine CodeF.loopD [0, 1, 2, 3, 16, 17, 18] (fun vs J' S' => ∃ (i : Nat) (chS : List Blk) (bks : List Bk), i ≤ wl ∧ OwnC chS 1 sa sl sc (bks.map Bk.cell) ∧ bks.map Bk.data = crashK keep tn sec 0 ((ws.take i).map fun w => (w.1, w.2.data)) (safe.map Bk.data) ∧ (∀ b ∈ bks, BkOk J' b) ∧ I.le J' ∧
      vs = [.pointer (some ⟨b, 0, none⟩), .slice aK nK capK, .int .i64 tn, .int .u8 sec, .slice wa wl wc, .int .i64 wl, .int .i64 i] ∧ S' = [dChunk b ⟨⟨sa, sl, sc⟩, ⟨na, nl, nc⟩, ⟨wa, wl, wc⟩, count, down, ⟨ao, al⟩, ⟨fo, fl⟩⟩, chS, chN, chW])
    (fun vs _ _ => match vs with | [_, _, _, _, _, _, .int _ i] => ((wl : Int) - i).toNat | _ => 0) ?_ ?_
  · exact ⟨_, Drop.refl _, 0, chS, safe, by omega, hSo, rfl, hokS, Imm.le_refl _, rfl, rfl⟩
  rintro vs gE J' S' hJ' ⟨i, chS, bks, hi, hS, hdat, hbok, hle, rfl, rfl⟩
  have hbl : bks.length = sl := by have := hS.n; rw [List.length_map] at this; omega
  refine CmpD.split (fun (c1 : (i : Int) < wl) => ?_) (fun (c1 : ¬ (i : Int) < wl) => ?_)
  · have hil : i < ws.length := by omega
    have hwi := hws _ (List.getElem_mem hil)
    obtain ⟨hwo, hwc⟩ := hokW _ (List.getElem_mem hil)
    have hcell := wCells_at hil
    have htake : ws.take (i + 1) = ws.take i ++ [ws[i]] := by rw [List.take_add_one, List.getElem?_eq_getElem hil]; rfl
    have hlt : (ws.take i).length = i := by rw [List.length_take]; omega
    obtain ⟨bW, oW, rfl, hcW⟩ := SlC.cells (hWo.slC (I := J') (S := [dChunk b ⟨⟨sa, sl, sc⟩, ⟨na, nl, nc⟩, ⟨wa, wl, wc⟩, count, down, ⟨ao, al⟩, ⟨fo, fl⟩⟩, chS, chN, chW]) 3 rfl) (by omega)
    generalize ws[i] = w at *
    obtain ⟨wn, wb⟩ := w
    dsimp only at hwi hwo hwc hcell
    obtain ⟨n, rfl⟩ : ∃ n : Nat, wn = n := ⟨wn.toNat, by omega⟩
    have hwo' := BkOk.mono hwo hle
    have hnew : ∀ bks' : List Bk, bks'.map Bk.data = crash1 keep tn sec i n wb.data (bks.map Bk.data) → bks'.map Bk.data = crashK keep tn sec 0 ((ws.take (i + 1)).map fun w => (w.1, w.2.data)) (safe.map Bk.data) := by
      intro bks' h
      rw [htake, List.map_append, List.map_singleton, crashK_snoc, List.length_map, hlt, Nat.zero_add, ← hdat, h]; rfl
    refine Chk.mk (by omega) ?_
    refine LoadD.mk [.int .i64 n, wb.cell] (by have := hcW.part (i := i * 2) (m := 2) (by omega); rw [hcell] at this; exact this) ?_
    conv => whnf
    intro b10
    refine StoreD.st 4 rfl rfl rfl ?_
    rcases hS.at' with q0 | ⟨bX, pre, post, TX, rfl, rfl, hpost⟩
    · have := hS.le; omega
    have hnb : n < bks.length := by omega
    have hset : ∀ bk : Bk, splice (pre ++ bks.map Bk.cell ++ post) (pre.length + n) [bk.cell] = pre ++ (bks.set n bk).map Bk.cell ++ post := by
      intro bk
      rw [splice_mid _ _ _ _ _ (by simp; omega), List.map_set, List.set_eq_take_append_cons_drop, if_pos (by simp; omega)]
      simp
    have hown : ∀ bk : Bk, OwnC [(bX, row (pre ++ (bks.set n bk).map Bk.cell ++ post) TX)] 1 (some ⟨bX, pre.length, none⟩) sl sc ((bks.set n bk).map Bk.cell) := fun bk => ⟨by simp [hbl], hS.le, .inr ⟨bX, pre, post, TX, rfl, rfl, hpost⟩⟩
    have hXc : Cells J' [[(bX, row (pre ++ bks.map Bk.cell ++ post) TX)]] bX pre.length sl (bks.map Bk.cell) := ⟨_, TX, (0, 0), .one 0 rfl, by have := own_take pre (bks.map Bk.cell) post; rwa [List.length_map, hbl] at this, by rw [List.length_map, hbl]⟩
    refine CmpD.split (fun (c2 : (i : Int) = tn) => ?_) (fun (c2 : ¬ (i : Int) = tn) => ?_)
    · refine CodeF.sched [[], [0], [0, 1], [0, 1, 2], [], [4], [], [6], [6, 7], [6, 7, 8], [], [10], [6, 7, 8, 9, 10, 11], [6, 7, 8, 9, 10, 11, 12], [], [14], [], [6, 7, 8, 9, 10, 11, 12, 13, 14, 15, 16], [0, 1, 2, 3, 4, 5, 6, 7, 8, 9, 10, 11, 12, 13, 14, 15, 16, 17], [0, 1, 2, 3, 4, 5, 6, 7, 8, 9, 10, 11, 12, 13, 14, 15, 16, 17, 18]] [0, 1, 2, 3, 4, 5, 6, 7, 8, 9, 10, 11, 12, 13, 14, 15, 16, 17, 18, 19] (by kernel_rfl) ?_
      repeat (first
        | refine LoadD.own 0 rfl _ rfl rfl ?_
        | refine LoadD.own 1 rfl _ rfl rfl ?_
        | refine LoadD.own 2 rfl _ rfl rfl ?_
        | refine LoadD.own 3 rfl _ rfl rfl ?_
        | refine LoadD.own 4 rfl _ rfl rfl ?_
        | refine LoadP.at 0 rfl _ rfl rfl ?_
        | refine LoadP.at 1 rfl _ rfl rfl ?_
        | refine LoadP.at 2 rfl _ rfl rfl ?_
        | refine LoadP.at 3 rfl _ rfl rfl ?_
        | refine LoadP.at 4 rfl _ rfl rfl ?_
        | refine StoreD.st 0 rfl rfl rfl ?_
        | refine StoreD.st 1 rfl rfl rfl ?_
        | refine StoreD.st 2 rfl rfl rfl ?_
        | refine StoreD.st 3 rfl rfl rfl ?_
        | refine StoreD.st 4 rfl rfl rfl ?_
        | refine CmpD.yes rfl ?_
        | refine CmpD.yes (by decide) ?_
        | refine CmpD.no (by decide) ?_
        | refine Chk.mk ⟨rfl, trivial⟩ ?_
        | refine Chk.mk ⟨rfl, rfl, trivial⟩ ?_
        | refine Chk.mk ⟨rfl, rfl, rfl, trivial⟩ ?_
        | refine Chk.mk ⟨rfl, rfl, rfl, rfl, trivial⟩ ?_
        | refine Chk.mk ⟨rfl, rfl, rfl, rfl, rfl, trivial⟩ ?_
        | refine Chk.mk ⟨rfl, rfl, rfl, rfl, rfl, rfl, trivial⟩ ?_)
      refine Chk.mk (by omega) ?_
      refine LoadP.own 1 [(bks[n]).cell] (hXc.at (by rw [Int.toNat_natCast, List.getElem?_map, List.getElem?_eq_getElem hnb]; rfl)) ?_
      repeat (first
        | refine LoadD.own 0 rfl _ rfl rfl ?_
        | refine LoadD.own 1 rfl _ rfl rfl ?_
        | refine LoadD.own 2 rfl _ rfl rfl ?_
        | refine LoadD.own 3 rfl _ rfl rfl ?_
        | refine LoadD.own 4 rfl _ rfl rfl ?_
        | refine LoadP.at 0 rfl _ rfl rfl ?_
        | refine LoadP.at 1 rfl _ rfl rfl ?_
        | refine LoadP.at 2 rfl _ rfl rfl ?_
        | refine LoadP.at 3 rfl _ rfl rfl ?_
        | refine LoadP.at 4 rfl _ rfl rfl ?_
        | refine StoreD.st 0 rfl rfl rfl ?_
        | refine StoreD.st 1 rfl rfl rfl ?_
        | refine StoreD.st 2 rfl rfl rfl ?_
        | refine StoreD.st 3 rfl rfl rfl ?_
        | refine StoreD.st 4 rfl rfl rfl ?_
        | refine CmpD.yes rfl ?_
        | refine CmpD.yes (by decide) ?_
        | refine CmpD.no (by decide) ?_
        | refine Chk.mk ⟨rfl, trivial⟩ ?_
        | refine Chk.mk ⟨rfl, rfl, trivial⟩ ?_
        | refine Chk.mk ⟨rfl, rfl, rfl, trivial⟩ ?_
        | refine Chk.mk ⟨rfl, rfl, rfl, rfl, trivial⟩ ?_
        | refine Chk.mk ⟨rfl, rfl, rfl, rfl, rfl, trivial⟩ ?_
        | refine Chk.mk ⟨rfl, rfl, rfl, rfl, rfl, rfl, trivial⟩ ?_)
      have hbo := hbok _ (List.getElem_mem hnb)
      refine Tri.free (torn_fix J' (bks[n]).a (bks[n]).cap (bks[n]).data hbo wb.a wb.cap wb.data hwo' hwc sec hsec) ?_
      rintro v J2 _ hJ2 ⟨aT, capT, rfl, hT⟩
      repeat (first
        | refine LoadD.own 0 rfl _ rfl rfl ?_
        | refine LoadD.own 1 rfl _ rfl rfl ?_
        | refine LoadD.own 2 rfl _ rfl rfl ?_
        | refine LoadD.own 3 rfl _ rfl rfl ?_
        | refine LoadD.own 4 rfl _ rfl rfl ?_
        | refine LoadP.at 0 rfl _ rfl rfl ?_
        | refine LoadP.at 1 rfl _ rfl rfl ?_
        | refine LoadP.at 2 rfl _ rfl rfl ?_
        | refine LoadP.at 3 rfl _ rfl rfl ?_
        | refine LoadP.at 4 rfl _ rfl rfl ?_
        | refine StoreD.st 0 rfl rfl rfl ?_
        | refine StoreD.st 1 rfl rfl rfl ?_
        | refine StoreD.st 2 rfl rfl rfl ?_
        | refine StoreD.st 3 rfl rfl rfl ?_
        | refine StoreD.st 4 rfl rfl rfl ?_
        | refine CmpD.yes rfl ?_
        | refine CmpD.yes (by decide) ?_
        | refine CmpD.no (by decide) ?_
        | refine Chk.mk ⟨rfl, trivial⟩ ?_
        | refine Chk.mk ⟨rfl, rfl, trivial⟩ ?_
        | refine Chk.mk ⟨rfl, rfl, rfl, trivial⟩ ?_
        | refine Chk.mk ⟨rfl, rfl, rfl, rfl, trivial⟩ ?_
        | refine Chk.mk ⟨rfl, rfl, rfl, rfl, rfl, trivial⟩ ?_
        | refine Chk.mk ⟨rfl, rfl, rfl, rfl, rfl, rfl, trivial⟩ ?_)
      refine Chk.mk (by omega) ?_
      refine StoreD.to 1 rfl _ (hset ⟨aT, capT, tornP (bks[n]).data wb.data sec⟩) (by simp only [List.length_append, List.length_map, hbl]; show pre.length + n + 1 ≤ _; omega) (.inr (.inr (Nat.le_refl _))) _ rfl ?_
      refine ToD.i64 (by omega) (by omega) ?_
      refine ⟨_, Drop.pick [0, 1, 2, 3] _ rfl, ⟨i + 1, _, bks.set n ⟨aT, capT, tornP (bks[n]).data wb.data sec⟩, by omega, hown _, hnew _ ?_, ?_, Imm.le_trans hle hJ2, rfl, rfl⟩, ?_⟩
      · rw [crash1, if_pos c2, List.map_set, List.getD_eq_getElem?_getD, List.getElem?_map, List.getElem?_eq_getElem hnb]; rfl
      · intro y hy
        rcases List.mem_or_eq_of_mem_set hy with hy | rfl
        · exact (hbok y hy).mono hJ2
        · exact hT
      · show ((wl : Int) - ((i : Int) + 1)).toNat < ((wl : Int) - (i : Int)).toNat; omega
    · have hskip : keep.getD i false = false → bks.map Bk.data = crash1 keep tn sec i n wb.data (bks.map Bk.data) := fun h => by rw [crash1, if_neg c2, h]; rfl
      refine CmpD.split (fun (c3 : (i : Int) < nK) => ?_) (fun (c3 : ¬ (i : Int) < nK) => ?_)
      · have hkb := bools_get (l := keep) (i := i) (by omega)
        rcases hK.mem with q0 | ⟨bK, oK, cK, TK, fK, rfl, hIK, hcK⟩
        · omega
        refine Chk.mk (by omega) ?_
        refine LoadD.imm (hle _ _ hIK) [.bool (keep.getD i false)] (take_get hcK hkb) rfl ?_
        cases hkv : keep.getD i false with
        | true =>
          repeat (first
            | refine LoadD.own 0 rfl _ rfl rfl ?_
            | refine LoadD.own 1 rfl _ rfl rfl ?_
            | refine LoadD.own 2 rfl _ rfl rfl ?_
            | refine LoadD.own 3 rfl _ rfl rfl ?_
            | refine LoadD.own 4 rfl _ rfl rfl ?_
            | refine LoadP.at 0 rfl _ rfl rfl ?_
            | refine LoadP.at 1 rfl _ rfl rfl ?_
            | refine LoadP.at 2 rfl _ rfl rfl ?_
            | refine LoadP.at 3 rfl _ rfl rfl ?_
            | refine LoadP.at 4 rfl _ rfl rfl ?_
            | refine StoreD.st 0 rfl rfl rfl ?_
            | refine StoreD.st 1 rfl rfl rfl ?_
            | refine StoreD.st 2 rfl rfl rfl ?_
            | refine StoreD.st 3 rfl rfl rfl ?_
            | refine StoreD.st 4 rfl rfl rfl ?_
            | refine CmpD.yes rfl ?_
            | refine CmpD.yes (by decide) ?_
            | refine CmpD.no (by decide) ?_
            | refine Chk.mk ⟨rfl, trivial⟩ ?_
            | refine Chk.mk ⟨rfl, rfl, trivial⟩ ?_
            | refine Chk.mk ⟨rfl, rfl, rfl, trivial⟩ ?_
            | refine Chk.mk ⟨rfl, rfl, rfl, rfl, trivial⟩ ?_
            | refine Chk.mk ⟨rfl, rfl, rfl, rfl, rfl, trivial⟩ ?_
            | refine Chk.mk ⟨rfl, rfl, rfl, rfl, rfl, rfl, trivial⟩ ?_)
          refine CodeF.sched [[], [0], [0, 1], [0, 1, 2], [], [4], [], [6], [0, 1, 2, 3, 4, 5, 6, 7], [0, 1, 2, 3, 4, 5, 6, 7, 8]] [0, 1, 2, 3, 4, 5, 6, 7, 8, 9] (by kernel_rfl) ?_
          repeat (first
            | refine LoadD.own 0 rfl _ rfl rfl ?_
            | refine LoadD.own 1 rfl _ rfl rfl ?_
            | refine LoadD.own 2 rfl _ rfl rfl ?_
            | refine LoadD.own 3 rfl _ rfl rfl ?_
            | refine LoadD.own 4 rfl _ rfl rfl ?_
            | refine LoadP.at 0 rfl _ rfl rfl ?_
            | refine LoadP.at 1 rfl _ rfl rfl ?_
            | refine LoadP.at 2 rfl _ rfl rfl ?_
            | refine LoadP.at 3 rfl _ rfl rfl ?_
            | refine LoadP.at 4 rfl _ rfl rfl ?_
            | refine StoreD.st 0 rfl rfl rfl ?_
            | refine StoreD.st 1 rfl rfl rfl ?_
            | refine StoreD.st 2 rfl rfl rfl ?_
            | refine StoreD.st 3 rfl rfl rfl ?_
            | refine StoreD.st 4 rfl rfl rfl ?_
            | refine CmpD.yes rfl ?_
            | refine CmpD.yes (by decide) ?_
            | refine CmpD.no (by decide) ?_
            | refine Chk.mk ⟨rfl, trivial⟩ ?_
            | refine Chk.mk ⟨rfl, rfl, trivial⟩ ?_
            | refine Chk.mk ⟨rfl, rfl, rfl, trivial⟩ ?_
            | refine Chk.mk ⟨rfl, rfl, rfl, rfl, trivial⟩ ?_
            | refine Chk.mk ⟨rfl, rfl, rfl, rfl, rfl, trivial⟩ ?_
            | refine Chk.mk ⟨rfl, rfl, rfl, rfl, rfl, rfl, trivial⟩ ?_)
          refine Chk.mk (by omega) ?_
          refine StoreD.to 1 rfl _ (hset wb) (by simp only [List.length_append, List.length_map, hbl]; show pre.length + n + 1 ≤ _; omega) (.inr (.inr (Nat.le_refl _))) _ rfl ?_
          refine ToD.i64 (by omega) (by omega) ?_
          refine ⟨_, Drop.pick [0, 1, 2, 3] _ rfl, ⟨i + 1, _, bks.set n wb, by omega, hown _, hnew _ ?_, ?_, hle, rfl, rfl⟩, ?_⟩
          · rw [crash1, if_neg c2, hkv, if_pos rfl, List.map_set]
          · intro y hy
            rcases List.mem_or_eq_of_mem_set hy with hy | rfl
            · exact hbok y hy
            · exact hwo'
          · show ((wl : Int) - ((i : Int) + 1)).toNat < ((wl : Int) - (i : Int)).toNat; omega
        | false =>
          repeat (first
            | refine LoadD.own 0 rfl _ rfl rfl ?_
            | refine LoadD.own 1 rfl _ rfl rfl ?_
            | refine LoadD.own 2 rfl _ rfl rfl ?_
            | refine LoadD.own 3 rfl _ rfl rfl ?_
            | refine LoadD.own 4 rfl _ rfl rfl ?_
            | refine LoadP.at 0 rfl _ rfl rfl ?_
            | refine LoadP.at 1 rfl _ rfl rfl ?_
            | refine LoadP.at 2 rfl _ rfl rfl ?_
            | refine LoadP.at 3 rfl _ rfl rfl ?_
            | refine LoadP.at 4 rfl _ rfl rfl ?_
            | refine StoreD.st 0 rfl rfl rfl ?_
            | refine StoreD.st 1 rfl rfl rfl ?_
            | refine StoreD.st 2 rfl rfl rfl ?_
            | refine StoreD.st 3 rfl rfl rfl ?_
            | refine StoreD.st 4 rfl rfl rfl ?_
            | refine CmpD.yes rfl ?_
            | refine CmpD.yes (by decide) ?_
            | refine CmpD.no (by decide) ?_
            | refine Chk.mk ⟨rfl, trivial⟩ ?_
            | refine Chk.mk ⟨rfl, rfl, trivial⟩ ?_
            | refine Chk.mk ⟨rfl, rfl, rfl, trivial⟩ ?_
            | refine Chk.mk ⟨rfl, rfl, rfl, rfl, trivial⟩ ?_
            | refine Chk.mk ⟨rfl, rfl, rfl, rfl, rfl, trivial⟩ ?_
            | refine Chk.mk ⟨rfl, rfl, rfl, rfl, rfl, rfl, trivial⟩ ?_)
          refine ToD.i64 (by omega) (by omega) ?_
          refine ⟨_, Drop.pick [0, 1, 2, 3] _ rfl, ⟨i + 1, _, bks, by omega, hS, hnew _ (hskip hkv), hbok, hle, rfl, rfl⟩, ?_⟩
          show ((wl : Int) - ((i : Int) + 1)).toNat < ((wl : Int) - (i : Int)).toNat; omega
      · refine ToD.i64 (by omega) (by omega) ?_
        refine ⟨_, Drop.pick [0, 1, 2, 3] _ rfl, ⟨i + 1, _, bks, by omega, hS, hnew _ (hskip (by rw [List.getD_eq_getElem?_getD, List.getElem?_eq_none (by omega)]; rfl)), hbok, hle, rfl, rfl⟩, ?_⟩
        show ((wl : Int) - ((i : Int) + 1)).toNat < ((wl : Int) - (i : Int)).toNat; omega
  · obtain rfl : i = wl := by omega
    rw [← hwn, List.take_length] at hdat
    refine LoadD.own 0 rfl [.slice sa sl sc] rfl rfl ?_
    refine (clone_blocks J' _ sa sl sc (bks.map Bk.cell) (hS.slC 1 rfl) (by intro v hv; obtain ⟨b, _, rfl⟩ := List.mem_map.1 hv; rfl) (by omega)).mono ?_
    rintro v J3 S3 hJ3 ⟨aN, capN, chN', rfl, hN', rfl, rfl⟩
    refine StoreD.st 0 rfl rfl rfl ?_
    refine StoreD.st 0 rfl rfl rfl ?_
    refine StoreD.st 0 rfl rfl rfl ?_
    refine StoreD.st 0 rfl rfl rfl ?_
    refine StoreD.st 0 rfl rfl rfl ?_
    refine Done.mk ⟨[dChunk b ⟨⟨sa, sl, sc⟩, ⟨aN, sl, capN⟩, ⟨none, 0, 0⟩, count, false, ⟨false, 0⟩, ⟨false, 0⟩⟩, chS, chN', []], Drop.and (Drop.pick [0, 1, 4] _ rfl), rfl, ⟨sa, sl, sc⟩, ⟨aN, sl, capN⟩, chS, chN', bks, hdat, rfl, ⟨hS, hN', OwnC.nil _ _, hbok, hbok, by simp⟩⟩
theorem dk_Crash {I : Imm} {bD : Nat} {st : DSt} {ch : List Blk} (h : Dk I bD st ch) (hf : st.Few 1000000) (aK : Option Addr) (nK capK : Nat) (keep : List Bool) (hK : Rds I aK nK (bools keep)) (tn : Int) (sec : Nat) (hsec : sec < 256) :
    Tri Try.prog 57 #[.pointer (some ⟨bD, 0, none⟩), .slice aK nK capK, .int .i64 tn, .int .u8 sec] I [ch] fun v J S' => v = .int .i64 0 ∧ ∃ ch', Dk J bD (st.crash keep tn sec) ch' ∧ S' = [ch'] := by
  have hwf := h.wf.crash keep tn sec
  obtain ⟨hw, d, chS, chN, chW, bS, bN, bW, rfl, hD, q1, q2, q3, q4, q5, q6, q7⟩ := h
  have hl := hD.hN.len1
  have hl' : st.now.length = d.now.len := by rw [← q2]; simpa using hl
  have hls := hD.hS.len1
  have hls' : st.safe.length = d.safe.len := by rw [← q1]; simpa using hls
  have hr := hw.range
  have hwl := hw.len
  have hW := hD.hW.n
  rw [wCells_length] at hW
  have hW' : st.writes.length = d.writes.len := by rw [← q3, List.length_map]; omega
  obtain ⟨f1, f2, f3⟩ := hf
  refine Tri.abs (S2 := [dChunk bD d, chS, chN, chW]) (by simp) (disk_Crash bD d (by omega) (by omega) (by omega) chS chN chW bS bN bW I hD (fun w hw2 => by
    have := hw.writes (w.1, w.2.data) (by rw [← q3]; exact List.mem_map.2 ⟨w, hw2, rfl⟩)
    dsimp only at this
    omega) aK nK capK keep hK tn sec hsec) ?_
  rintro v J S' hJ ⟨rfl, hS, hN, chS', chN', bks, hbd, rfl, hDA⟩
  rw [q1, q3] at hbd
  exact ⟨[dChunk bD ⟨hS, hN, ⟨none, 0, 0⟩, d.count, false, ⟨false, 0⟩, ⟨false, 0⟩⟩ ++ (chS' ++ (chN' ++ []))], Drop.flat (by simp), rfl, _, ⟨hwf, _, chS', chN', [], bks, bks, [], rfl, hDA, hbd, hbd, rfl, q4, rfl, rfl, rfl⟩, rfl⟩
end Go.Proofs.Ytbpdbgcndfcilaa
namespace Go.Proofs.Ytbpdbgcndfcilaa
open Go.RowKit Go.Sl
set_option maxRecDepth 20000

theorem put5_at {l m : Dat} {k j : Nat} (hm : m.length = 512) (hl : l.length = 4096) (hk : k < 8) :
    (put5 l m k)[j]? = if j / 512 = k then m[j % 512]? else l[j]? := by
  unfold put5
  have h1 : (l.take (k * 512)).length = k * 512 := by rw [List.length_take]; omega
  rw [List.append_assoc]
  rcases Nat.lt_or_ge j (k * 512) with g | g
  · rw [List.getElem?_append_left (by omega), List.getElem?_take, if_pos g, if_neg (by omega)]
  rw [List.getElem?_append_right (by omega), h1]
  rcases Nat.lt_or_ge (j - k * 512) 512 with g2 | g2
  · rw [List.getElem?_append_left (by omega), if_pos (by omega)]
    congr 1; omega
  · rw [List.getElem?_append_right (by omega), hm, List.getElem?_drop]
    have e : k * 512 + 512 + (j - k * 512 - 512) = j := by omega
    rw [e, if_neg (by omega)]
theorem tornK_at {old new : Dat} (h1 : old.length = 4096) (h2 : new.length = 4096) (sec : Nat) : ∀ (n : Nat), n ≤ 8 → ∀ j, j < 4096 → (tornK old new sec n)[j]? = if j / 512 < n ∧ sec / 2 ^ (j / 512) % 2 = 1 then new[j]? else old[j]?
  | 0, _, j, _ => by unfold tornK; rw [if_neg (by omega)]
  | n + 1, hn, j, hj => by
    have ih := tornK_at h1 h2 sec n (by omega) j hj
    have hl := tornK_length h1 h2 sec n (by omega)
    rw [tornK_succ]
    by_cases hs : sec / 2 ^ n % 2 = 1
    · rw [if_pos hs, put5_at (by rw [List.length_take, List.length_drop]; omega) hl (by omega), ih]
      by_cases hj2 : j / 512 = n
      · rw [if_pos hj2, if_pos ⟨by omega, by rw [hj2]; exact hs⟩, List.getElem?_take, if_pos (by omega), List.getElem?_drop]
        congr 1; omega
      · rw [if_neg hj2]
        by_cases h3 : j / 512 < n ∧ sec / 2 ^ (j / 512) % 2 = 1
        · rw [if_pos h3, if_pos ⟨by omega, h3.2⟩]
        · rw [if_neg h3, if_neg (fun h => h3 ⟨by omega, h.2⟩)]
    · rw [if_neg hs, ih]
      by_cases h3 : j / 512 < n ∧ sec / 2 ^ (j / 512) % 2 = 1
      · rw [if_pos h3, if_pos ⟨by omega, h3.2⟩]
      · rw [if_neg h3]
        by_cases h4 : j / 512 < n + 1 ∧ sec / 2 ^ (j / 512) % 2 = 1
        · exfalso
          by_cases hj2 : j / 512 = n
          · exact hs (hj2 ▸ h4.2)
          · exact h3 ⟨by omega, h4.2⟩
        · rw [if_neg h4]
end Go.Proofs.Ytbpdbgcndfcilaa
namespace Go.Proofs.Ytbpdbgcndfcilaa
open Go.RowKit Go.Sl
set_option maxRecDepth 20000

def supA : Dat := supL (superOf 1 7)
def supB : Dat := supL (superOf 2 9)
theorem supA_length : supA.length = 4096 := supL_length _
theorem supB_length : supB.length = 4096 := supL_length _
theorem supL_rest (s : Sup) {j : Nat} (h1 : 44 ≤ j) (h2 : j < 4096) : (supL s)[j]? = some 0 := by
  have := sup44_length s
  rw [supL, List.getElem?_append_right (by omega), List.getElem?_replicate, if_pos (by omega)]
theorem torn_sup (sec : Nat) : tornP noughts supB sec = noughts ∨ tornP noughts supB sec = supB := by
  have hat := tornK_at noughts_length supB_length sec 8 (by omega)
  have hl : (tornP noughts supB sec).length = 4096 := tornK_length noughts_length supB_length sec 8 (by omega)
  have hz : ∀ j, 512 ≤ j → j < 4096 → (tornP noughts supB sec)[j]? = some 0 := by
    intro j h1 h2
    rw [tornP, hat j h2]
    split
    · exact supL_rest _ (by omega) h2
    · exact noughts_get h2
  by_cases h0 : sec / 2 ^ 0 % 2 = 1
  · right
    refine ext4096 hl supB_length fun j hj => ?_
    rcases Nat.lt_or_ge j 512 with g | g
    · rw [tornP, hat j hj, show j / 512 = 0 by omega, if_pos ⟨by omega, h0⟩]
    · rw [hz j g hj]; exact (supL_rest _ (by omega) hj).symm
  · left
    refine ext4096 hl noughts_length fun j hj => ?_
    rcases Nat.lt_or_ge j 512 with g | g
    · rw [tornP, hat j hj, show j / 512 = 0 by omega, if_neg (fun h => h0 h.2)]
    · rw [hz j g hj, noughts_get hj]
theorem torn_same {b : Dat} (hb : b.length = 4096) (sec : Nat) : tornP b b sec = b := by
  refine ext4096 (tornK_length hb hb sec 8 (by omega)) hb fun j hj => ?_
  rw [tornP, tornK_at hb hb sec 8 (by omega) j hj]
  split <;> rfl
/-- blocks that may lie behind any cut -/
structure PB (K : List Int) (l : List Dat) : Prop where
  len : l.length = 64
  z : l[0]? = some supA
  o : l[1]? = some noughts ∨ l[1]? = some supB
  r : ∀ n : Nat, 2 ≤ n → n < 64 → (n : Int) ∉ K → l[n]? = some noughts
def WB (K : List Int) (ws : List (Int × Dat)) : Prop := ∀ w ∈ ws, (w.1 ∈ K ∧ 2 ≤ w.1) ∨ w = (1, supB)
structure QB (K : List Int) (d : DSt) : Prop where
  safe : PB K d.safe
  now : PB K d.now
  ws : WB K d.writes
theorem PB.set {K : List Int} {l : List Dat} (h : PB K l) {n : Int} (hn : n ∈ K ∧ 2 ≤ n) (b : Dat) : PB K (l.set n.toNat b) := by
  refine ⟨by rw [List.length_set]; exact h.len, by rw [List.getElem?_set_ne (by omega)]; exact h.z, ?_, fun m h1 h2 h3 => ?_⟩
  · rw [List.getElem?_set_ne (by omega)]; exact h.o
  · have : n.toNat ≠ m := by
      intro e
      apply h3
      rw [show ((m : Nat) : Int) = n by omega]; exact hn.1
    rw [List.getElem?_set_ne this]; exact h.r m h1 h2 h3
theorem PB.set1 {K : List Int} {l : List Dat} (h : PB K l) {b : Dat} (hb : b = noughts ∨ b = supB) : PB K (l.set 1 b) := by
  have hl := h.len
  refine ⟨by rw [List.length_set]; exact h.len, by rw [List.getElem?_set_ne (by omega)]; exact h.z, ?_, fun m h1 h2 h3 => ?_⟩
  · rw [List.getElem?_set_self (by omega)]
    rcases hb with rfl | rfl
    · exact .inl rfl
    · exact .inr rfl
  · rw [List.getElem?_set_ne (by omega)]; exact h.r m h1 h2 h3
theorem PB.wr {K : List Int} {l : List Dat} (h : PB K l) {n : Int} {b : Dat} (hw : (n ∈ K ∧ 2 ≤ n) ∨ (n, b) = (1, supB)) : PB K (l.set n.toNat b) := by
  rcases hw with hw | hw
  · exact h.set hw b
  · cases hw
    exact h.set1 (.inr rfl)
theorem QB.stop {K : List Int} {d : DSt} (h : QB K d) : QB K d.stop.1 := by
  obtain ⟨e1, e2, e3, _⟩ := d.stop_same
  exact ⟨by rw [e1]; exact h.safe, by rw [e2]; exact h.now, by rw [e3]; exact h.ws⟩
theorem QB.write {K : List Int} {d : DSt} (h : QB K d) {n : Int} {b : Dat} (hw : (n ∈ K ∧ 2 ≤ n) ∨ (n, b) = (1, supB)) : QB K (d.write n b).1 := by
  unfold DSt.write
  split
  · exact h
  split
  · exact h
  split
  · exact h.stop
  obtain ⟨e1, _, _, _⟩ := d.stop_same
  refine ⟨by show PB K d.stop.1.safe; rw [e1]; exact h.safe, h.now.wr hw, ?_⟩
  intro w hm
  have hm : w ∈ d.writes ++ [(n, b)] := hm
  rcases List.mem_append.1 hm with hm | hm
  · exact h.ws w hm
  · simp only [List.mem_singleton] at hm
    subst hm; exact hw
theorem QB.flush {K : List Int} {d : DSt} (h : QB K d) : QB K d.flush.1 := by
  unfold DSt.flush
  split
  · exact h.stop
  obtain ⟨_, e2, _, _⟩ := d.stop_same
  exact ⟨h.now, by show PB K d.stop.1.now; rw [e2]; exact h.now, fun w hm => (List.not_mem_nil hm).elim⟩
theorem QB.imgs {K : List Int} : ∀ (l : List PImg) (d : DSt), QB K d → (∀ g ∈ l, g.1 ∈ K ∧ 2 ≤ g.1) → QB K (wrImgs l d).1
  | [], _, h, _ => h
  | g :: l, d, h, hl => by
    have h1 := h.write (b := g.2) (.inl (hl g (by simp)))
    rw [wrImgs]
    split
    · exact h1
    · exact QB.imgs l _ h1 fun x hx => hl x (by simp [hx])
theorem QB.last {K : List Int} {d : DSt} (h : QB K d) : QB K (lastWr d 1 (superOf 2 9)).1 := by
  have h1 := h.write (n := 1) (b := supB) (.inr rfl)
  unfold lastWr
  split
  · exact h1
  · exact h1.flush
theorem QB.doP {K : List Int} {d : DSt} (h : QB K d) {l : List PImg} (hl : ∀ g ∈ l, g.1 ∈ K ∧ 2 ≤ g.1) : QB K (doP d l (superOf 2 9) 1).1 := by
  have h1 := QB.imgs l d h hl
  unfold Go.Proofs.Ytbpdbgcndfcilaa.doP
  split
  · exact h
  split
  · exact h1
  split
  · exact h1.flush
  · exact h1.flush.last
theorem flush_done {d : DSt} (h : d.flush.2 = 0) : d.flush.1.writes = [] ∧ d.flush.1.safe = d.now := by
  unfold DSt.flush at h ⊢
  split at h
  · rename_i h'; exact absurd h h'
  · rename_i h'; rw [if_neg h']; exact ⟨rfl, rfl⟩
theorem write_done {d : DSt} {n : Int} {b : Dat} (h : (d.write n b).2 = 0) : (d.write n b).1.now = d.now.set n.toNat b := by
  unfold DSt.write at h ⊢
  split at h
  · rename_i h'; exact absurd h h'
  rename_i h1
  rw [if_neg h1]
  split at h
  · cases h
  rename_i h2
  rw [if_neg h2]
  split at h
  · rename_i h'; exact absurd h h'
  rename_i h3
  rw [if_neg h3]
theorem do_done {d : DSt} (hlen : d.now.length = 64) {l : List PImg} (h : (doP d l (superOf 2 9) 1).2 = 0) : (doP d l (superOf 2 9) 1).1.writes = [] ∧ (doP d l (superOf 2 9) 1).1.safe[1]? = some supB := by
  have hwl : ∀ (l : List PImg) (d : DSt), (wrImgs l d).1.now.length = d.now.length := by
    intro l
    induction l with
    | nil => intro d; rfl
    | cons g l ih =>
      intro d
      have hw : (d.write g.1 g.2).1.now.length = d.now.length := by
        obtain ⟨_, e2, _, _⟩ := d.stop_same
        unfold DSt.write
        split
        · rfl
        split
        · rfl
        split
        · rw [e2]
        · show (d.now.set _ _).length = _; rw [List.length_set]
      rw [wrImgs]
      split
      · exact hw
      · rw [ih, hw]
  have hfl : ∀ e : DSt, e.flush.1.now = e.now := by
    intro e
    obtain ⟨_, e2, _, _⟩ := e.stop_same
    unfold DSt.flush
    split <;> exact e2
  unfold Go.Proofs.Ytbpdbgcndfcilaa.doP at h ⊢
  split at h
  · cases h
  rename_i h0
  rw [if_neg h0]
  split at h
  · rename_i h'; exact absurd h h'
  rename_i h1
  rw [if_neg h1]
  split at h
  · rename_i h'; exact absurd h h'
  rename_i h2
  rw [if_neg h2]
  have hn : (wrImgs l d).1.flush.1.now.length = 64 := by rw [hfl, hwl, hlen]
  generalize (wrImgs l d).1.flush.1 = e at *
  unfold lastWr at h ⊢
  split at h
  · rename_i h'; exact absurd h h'
  rename_i h3
  rw [if_neg h3]
  have h3 : (e.write 1 (supL (superOf 2 9))).2 = 0 := by omega
  obtain ⟨f1, f2⟩ := flush_done h
  refine ⟨f1, ?_⟩
  rw [f2, write_done h3, show (1 : Int).toNat = 1 from rfl, List.getElem?_set_self (by omega)]; rfl
theorem PB.crash {K : List Int} (keep : List Bool) (tn : Int) (sec : Nat) : ∀ (ws : List (Int × Dat)) (i : Nat) (s : List Dat), PB K s → WB K ws → PB K (crashK keep tn sec i ws s)
  | [], _, _, h, _ => h
  | w :: ws, i, s, h, hw => by
    rw [crashK]
    refine PB.crash keep tn sec ws (i + 1) _ ?_ fun x hx => hw x (by simp [hx])
    have h0 := hw w (by simp)
    obtain ⟨n, b⟩ := w
    unfold crash1
    dsimp only at h0 ⊢
    split
    · rcases h0 with h0 | h0
      · exact h.set h0 _
      · cases h0
        refine h.set1 ?_
        rw [show (1 : Int).toNat = 1 from rfl, List.getD_eq_getElem?_getD]
        rcases h.o with ho | ho
        · rw [ho]; exact torn_sup sec
        · rw [ho]; exact .inr (torn_same supB_length sec)
    · split
      · exact h.wr h0
      · exact h
theorem QB.crash {K : List Int} {d : DSt} (h : QB K d) (keep : List Bool) (tn : Int) (sec : Nat) : QB K (d.crash keep tn sec) :=
  ⟨PB.crash keep tn sec _ _ _ h.safe h.ws, PB.crash keep tn sec _ _ _ h.safe h.ws, fun _ hm => (List.not_mem_nil hm).elim⟩
/-! ### the last time, with nothing in the way -/
def wrC : List PImg → DSt → DSt
  | [], d => d
  | g :: l, d => wrC l (d.put g.1 g.2)
theorem wrC_imgs : ∀ (l : List PImg) (d : DSt), d.Calm → DoOk d l → wrImgs l d = (wrC l d, 0)
  | [], _, _, _ => rfl
  | g :: l, d, hc, h => by
    obtain ⟨h1, h2, h3⟩ := h g (by simp)
    rw [wrImgs, DSt.write_calm hc ⟨by omega, h2⟩ h3, wrC]
    simp only [ne_eq, not_true_eq_false, if_false]
    exact wrC_imgs l _ (hc.put _ _) fun x hx => by
      have := h x (by simp [hx])
      rw [DSt.put_len]; exact this
theorem wrC_calm : ∀ (l : List PImg) (d : DSt), d.Calm → (wrC l d).Calm
  | [], _, h => h
  | _ :: l, _, h => wrC_calm l _ (h.put _ _)
theorem wrC_now : ∀ (l : List PImg) (d : DSt), (∀ g ∈ l, 2 ≤ g.1) → (∀ g ∈ l, g.1 < d.now.length) → (wrC l d).now.length = d.now.length ∧ ∀ n : Nat, n < d.now.length → (wrC l d).now[n]? = match lastD l n with
    | some x => some x
    | none => d.now[n]? := by
  intro l
  refine snoc_ind (p := fun l : List PImg => ∀ d : DSt, (∀ g ∈ l, 2 ≤ g.1) → (∀ g ∈ l, g.1 < (d.now.length : Int)) → (wrC l d).now.length = d.now.length ∧ ∀ n : Nat, n < d.now.length → (wrC l d).now[n]? = match lastD l n with
    | some x => some x
    | none => d.now[n]?) ?_ ?_ l
  · intro d _ _; exact ⟨rfl, fun n _ => rfl⟩
  · intro l g ih d h2 h3
    have e : ∀ (l : List PImg) (d : DSt), wrC (l ++ [g]) d = (wrC l d).put g.1 g.2 := by
      intro l
      induction l with
      | nil => intro d; rfl
      | cons x l ih2 => intro d; exact ih2 _
    obtain ⟨q1, q2⟩ := ih d (fun x hx => h2 x (by simp [hx])) (fun x hx => h3 x (by simp [hx]))
    rw [e]
    refine ⟨by rw [DSt.put_len]; exact q1, fun n hn => ?_⟩
    have hg2 := h2 g (by simp)
    have hg3 := h3 g (by simp)
    rw [lastD_snoc]
    show ((wrC l d).now.set g.1.toNat g.2)[n]? = _
    by_cases hgn : g.1 = n
    · rw [if_pos hgn, show g.1.toNat = n by omega, List.getElem?_set_self (by omega)]
    · rw [if_neg hgn, List.getElem?_set_ne (by omega)]
      exact q2 n hn
theorem do_calm {d : DSt} (hc : d.Calm) (hlen : d.now.length = 64) {l : List PImg} (hok : DoOk d l) : ∃ e, doP d l (superOf 2 9) 1 = (e, 0) ∧ e.Calm ∧ e.writes = [] ∧ e.safe = e.now ∧ e.now = (wrC l d).now.set 1 supB ∧ e.now.length = 64 := by
  have hw := wrC_imgs l d hc hok
  have hcw := wrC_calm l d hc
  have hnl := (wrC_now l d (fun g hg => (hok g hg).1) (fun g hg => (hok g hg).2.1)).1
  have hR : RightS (superOf 2 9) := right_of _ _ (by decide) (by decide)
  have f1 := flush_calm hcw
  obtain ⟨e1, he1⟩ : ∃ e1, e1 = ({ wrC l d with safe := (wrC l d).now, writes := [] } : DSt) := ⟨_, rfl⟩
  rw [← he1] at f1
  have ce1 : e1.Calm := by rw [he1]; exact hcw
  have ne1 : e1.now = (wrC l d).now := by rw [he1]
  have w2 : e1.write 1 (supL (superOf 2 9)) = (e1.put 1 supB, 0) := DSt.write_calm ce1 ⟨by decide, by rw [ne1, hnl, hlen]; decide⟩ (supL_length _)
  have f2 : (e1.put 1 supB).flush = ({ e1.put 1 supB with safe := (e1.put 1 supB).now, writes := [] }, 0) := flush_calm ce1
  refine ⟨{ e1.put 1 supB with safe := (e1.put 1 supB).now, writes := [] }, ?_, ce1, rfl, rfl, ?_, ?_⟩
  · unfold Go.Proofs.Ytbpdbgcndfcilaa.doP lastWr
    rw [if_neg (by rintro (h | h | h | h); exact h hR; exact absurd h (by decide); exact absurd h (by decide); exact h hok), hw]
    simp [f1, w2, f2]
  · show e1.now.set _ _ = _; rw [ne1]; rfl
  · show (e1.now.set _ _).length = 64; rw [List.length_set, ne1, hnl, hlen]
/-- what is asked of the first two blocks, behind a crash -/
theorem choose_again {K : List Int} {l : List Dat} (h : PB K l) : (l.getD 1 [] = supB ∧ chooseP (getS (l.getD 0 [])) (getS (l.getD 1 [])) = (superOf 2 9, 1, true)) ∨ (l.getD 1 [] = noughts ∧ chooseP (getS (l.getD 0 [])) (getS (l.getD 1 [])) = (superOf 1 7, 0, true)) := by
  have h0 : l.getD 0 [] = supA := by rw [List.getD_eq_getElem?_getD, h.z]; rfl
  have hA : getS supA = some (superOf 1 7) := get_supL (right_of _ _ (by decide) (by decide))
  have hB : getS supB = some (superOf 2 9) := get_supL (right_of _ _ (by decide) (by decide))
  rw [h0, hA]
  rcases h.o with ho | ho
  · right
    have h1 : l.getD 1 [] = noughts := by rw [List.getD_eq_getElem?_getD, ho]; rfl
    refine ⟨h1, ?_⟩
    rw [h1, show getS noughts = none from get_zeros]; rfl
  · left
    have h1 : l.getD 1 [] = supB := by rw [List.getD_eq_getElem?_getD, ho]; rfl
    refine ⟨h1, ?_⟩
    rw [h1, hB, chooseP, if_neg (by decide)]
end Go.Proofs.Ytbpdbgcndfcilaa
namespace Go.Proofs.Ytbpdbgcndfcilaa
open Go.RowKit Go.Sl
set_option maxRecDepth 20000

theorem lastD_homeK (lo : Int) (l : List PImg) : ∀ (k : Nat) (n : Int), lastD (homeK lo l k) n = if lo ≤ n ∧ n < lo + k then lastD l n else none
  | 0, n => by rw [if_neg (by omega)]; rfl
  | k + 1, n => by
    have ih := lastD_homeK lo l k n
    rw [homeK]
    cases hd : lastD l (lo + k) with
    | none =>
      dsimp only
      rw [List.append_nil, ih]
      by_cases hn : n = lo + k
      · subst hn; rw [if_neg (by omega), if_pos (by omega), hd]
      · by_cases h2 : lo ≤ n ∧ n < lo + k
        · rw [if_pos h2, if_pos (by omega)]
        · rw [if_neg h2, if_neg (by omega)]
    | some d =>
      dsimp only
      rw [lastD_snoc, ih]
      by_cases hn : lo + k = n
      · subst hn; rw [if_pos rfl, if_pos (by omega), hd]
      · rw [if_neg hn]
        by_cases h2 : lo ≤ n ∧ n < lo + k
        · rw [if_pos h2, if_pos (by omega)]
        · rw [if_neg h2, if_neg (by omega)]
theorem lastD_mem : ∀ (l : List PImg) (n : Int) (x : Dat), lastD l n = some x → ∃ g ∈ l, g.1 = n ∧ g.2 = x := by
  intro l
  refine snoc_ind (p := fun l : List PImg => ∀ (n : Int) (x : Dat), lastD l n = some x → ∃ g ∈ l, g.1 = n ∧ g.2 = x) ?_ ?_ l
  · intro n x h; cases h
  · intro l g ih n x h
    rw [lastD_snoc] at h
    split at h
    · rename_i hg
      exact ⟨g, by simp, hg, Option.some.inj h⟩
    · obtain ⟨y, hy, h1⟩ := ih n x h
      exact ⟨y, by simp [hy], h1⟩
theorem lastD_none {l : List PImg} {n : Int} (h : n ∉ l.map Prod.fst) : lastD l n = none := by
  cases hd : lastD l n with
  | none => rfl
  | some x =>
    obtain ⟨g, hg, h1, _⟩ := lastD_mem l n x hd
    exact absurd (List.mem_map.2 ⟨g, hg, h1⟩) h
structure HomL (l L : List PImg) : Prop where
  ok : ∀ g ∈ L, 18 ≤ g.1 ∧ g.1 < 64 ∧ g.2.length = 4096
  last : ∀ n, lastD L n = lastD l n
  few : L.length ≤ 46
theorem home_homL {l : List PImg} (h : ∀ g ∈ l, 18 ≤ g.1 ∧ g.1 < 64 ∧ g.2.length = 4096) : HomL l (homeP l) := by
  have e := homeK_homeP 18 l 46 (fun g hg => by have := h g hg; omega)
  rw [← e]
  refine ⟨fun g hg => ?_, fun n => ?_, ?_⟩
  · have hk := (homeK_keys 18 l 46 g.1).1 (List.mem_map_of_mem hg)
    have hs := homeK_snd 18 l 46
    rw [hs] at hg
    obtain ⟨n, hn, rfl⟩ := List.mem_map.1 hg
    obtain ⟨h1, h2, h3⟩ := hk
    refine ⟨h1, by omega, ?_⟩
    cases hd : lastD l n with
    | none => rw [hd] at h3; cases h3
    | some x =>
      obtain ⟨y, hy, _, q2⟩ := lastD_mem l n x hd
      show ((some x).getD []).length = 4096
      rw [← q2]; exact (h y hy).2.2
  · rw [lastD_homeK]
    split
    · rfl
    · rename_i hn
      cases hd : lastD l n with
      | none => rfl
      | some x =>
        obtain ⟨y, hy, q1, _⟩ := lastD_mem l n x hd
        have := h y hy
        omega
  · have : ∀ k, (homeK 18 l k).length ≤ k := by
      intro k
      induction k with
      | zero => simp [homeK]
      | succ k ih =>
        rw [homeK, List.length_append]
        split <;> simp <;> omega
    exact this 46
theorem getD_some {l : List Dat} {n : Nat} {x : Dat} (h : l[n]? = some x) : l.getD n [] = x := by rw [List.getD_eq_getElem?_getD, h]; rfl
/-- what lies on the disk in the end -/
theorem again_end {l L : List PImg} (h : HomL l L) {d : DSt} (hq : QB (L.map Prod.fst) d) (hc : d.Calm) (hlen : d.now.length = 64) : ∃ e, doP d L (superOf 2 9) 1 = (e, 0) ∧ e.Calm ∧ e.writes = [] ∧ e.safe = e.now ∧ e.now.length = 64 ∧ e.now.getD 0 [] = supA ∧ e.now.getD 1 [] = supB ∧ ∀ n : Nat, 2 ≤ n → n < 64 → e.now.getD n [] = (lastD l n).getD noughts := by
  have hok : DoOk d L := fun g hg => by obtain ⟨h1, h2, h3⟩ := h.ok g hg; exact ⟨by omega, by rw [hlen]; exact h2, h3⟩
  obtain ⟨e, h1, h2, h3, h4, h5, h6⟩ := do_calm hc hlen hok
  obtain ⟨q1, q2⟩ := wrC_now L d (fun g hg => (hok g hg).1) (fun g hg => (hok g hg).2.1)
  have hno : ∀ n : Int, n < 18 → lastD L n = none := fun n hn => lastD_none fun hm => by
    obtain ⟨g, hg, rfl⟩ := List.mem_map.1 hm
    have := h.ok g hg; omega
  refine ⟨e, h1, h2, h3, h4, h6, ?_, ?_, fun n hn1 hn2 => ?_⟩
  · refine getD_some ?_
    rw [h5, List.getElem?_set_ne (by omega), q2 0 (by omega), hno _ (by decide)]
    exact hq.now.z
  · refine getD_some ?_
    rw [h5, List.getElem?_set_self (by omega)]
  · rw [List.getD_eq_getElem?_getD, h5, List.getElem?_set_ne (by omega), q2 n (by omega), h.last]
    cases hd : lastD l n with
    | some x => rfl
    | none =>
      dsimp only
      by_cases hm : (n : Int) ∈ L.map Prod.fst
      · exfalso
        obtain ⟨g, hg, hgn⟩ := List.mem_map.1 hm
        have h7 : lastD L n = none := by rw [h.last, hd]
        have h8 : ∀ (L : List PImg), g ∈ L → lastD L g.1 ≠ none := by
          intro L
          refine snoc_ind (p := fun L : List PImg => g ∈ L → lastD L g.1 ≠ none) (by simp) ?_ L
          intro L y ih hy
          rw [lastD_snoc]
          split
          · simp
          · rename_i hne
            rcases List.mem_append.1 hy with hy | hy
            · exact ih hy
            · simp only [List.mem_singleton] at hy
              subst hy; exact absurd rfl hne
        exact h8 L hg (by rw [hgn]; exact h7)
      · rw [hq.now.r n hn1 hn2 hm]; rfl
end Go.Proofs.Ytbpdbgcndfcilaa
namespace Go.Proofs.Ytbpdbgcndfcilaa
open Go.RowKit Go.Sl
set_option maxRecDepth 20000

theorem wCells_plain (ws : List (Int × Bk)) : ∀ u ∈ wCells ws, Plain u = true := by
  intro u hu
  unfold wCells at hu
  obtain ⟨w, _, hw⟩ := List.mem_flatMap.1 hu
  simp only [List.mem_cons, List.not_mem_nil, or_false] at hw
  rcases hw with rfl | rfl <;> rfl
set_option maxHeartbeats 4000000 in
theorem disk_Copy (b : Nat) (d : DRec) (hnl : 1 ≤ d.now.len ∧ d.now.len ≤ 1000000) (hsl : d.safe.len ≤ 1000000) (hwl : d.writes.len ≤ 1000000) (chS chN chW : List Blk) (safe now : List Bk) (ws : List (Int × Bk)) (I : Imm) (hD : DiskAt I d chS chN chW safe now ws) :
    Tri Try.prog 64 #[.pointer (some ⟨b, 0, none⟩)] I [dChunk b d, chS, chN, chW] fun v J S' =>
      ∃ (b' : Nat) (hS hN hW : Hd) (chS' chN' chW' : List Blk), v = .pointer (some ⟨b', 0, none⟩) ∧ I = J ∧ S' = [dChunk b d, chS, chN, chW, dChunk b' { d with safe := hS, now := hN, writes := hW, count := 0 }, chS', chN', chW'] ∧ DiskAt J { d with safe := hS, now := hN, writes := hW, count := 0 } chS' chN' chW' safe now ws := by
  refine Tri.of (args := [.pointer (some ⟨b, 0, none⟩)]) tabOk Try.func64 rfl (by kernel_rfl) (by kernel_rfl) ?_
  refine Tri.frame1 0 rfl (disk_none b d I) ?_
  rintro v J S' hJ ⟨rfl, rfl, rfl⟩
  refine ⟨_, rfl, ?_⟩
  rw [decide_eq_false (show ¬ d.now.len = 0 by omega)]
  obtain ⟨hSo, hNo, hWo, hokS, hokN, hokW⟩ := hD
  obtain ⟨⟨sa, sl, sc⟩, ⟨na, nl, nc⟩, ⟨wa, wl, wc⟩, count, down, ⟨ao, al⟩, ⟨fo, fl⟩⟩ := d
  dsimp only at hnl hsl hwl hSo hNo hWo
  repeat (first
    | refine LoadD.own 0 rfl _ rfl rfl ?_
    | refine LoadD.own 1 rfl _ rfl rfl ?_
    | refine LoadD.own 2 rfl _ rfl rfl ?_
    | refine LoadD.own 3 rfl _ rfl rfl ?_
    | refine LoadD.own 4 rfl _ rfl rfl ?_
    | refine LoadP.at 0 rfl _ rfl rfl ?_
    | refine LoadP.at 1 rfl _ rfl rfl ?_
    | refine LoadP.at 2 rfl _ rfl rfl ?_
    | refine LoadP.at 3 rfl _ rfl rfl ?_
    | refine LoadP.at 4 rfl _ rfl rfl ?_
    | refine StoreD.st 0 rfl rfl rfl ?_
    | refine StoreD.st 1 rfl rfl rfl ?_
    | refine StoreD.st 2 rfl rfl rfl ?_
    | refine StoreD.st 3 rfl rfl rfl ?_
    | refine StoreD.st 4 rfl rfl rfl ?_
    | refine CmpD.yes rfl ?_
    | refine CmpD.yes (by decide) ?_
    | refine CmpD.no (by decide) ?_
    | refine Chk.mk ⟨rfl, trivial⟩ ?_
    | refine Chk.mk ⟨rfl, rfl, trivial⟩ ?_
    | refine Chk.mk ⟨rfl, rfl, rfl, trivial⟩ ?_
    | refine Chk.mk ⟨rfl, rfl, rfl, rfl, trivial⟩ ?_
    | refine Chk.mk ⟨rfl, rfl, rfl, rfl, rfl, trivial⟩ ?_
    | refine Chk.mk ⟨rfl, rfl, rfl, rfl, rfl, rfl, trivial⟩ ?_)
  conv => whnf
  intro b3
  repeat (first
    | refine LoadD.own 0 rfl _ rfl rfl ?_
    | refine LoadD.own 1 rfl _ rfl rfl ?_
    | refine LoadD.own 2 rfl _ rfl rfl ?_
    | refine LoadD.own 3 rfl _ rfl rfl ?_
    | refine LoadD.own 4 rfl _ rfl rfl ?_
    | refine LoadP.at 0 rfl _ rfl rfl ?_
    | refine LoadP.at 1 rfl _ rfl rfl ?_
    | refine LoadP.at 2 rfl _ rfl rfl ?_
    | refine LoadP.at 3 rfl _ rfl rfl ?_
    | refine LoadP.at 4 rfl _ rfl rfl ?_
    | refine StoreD.st 0 rfl rfl rfl ?_
    | refine StoreD.st 1 rfl rfl rfl ?_
    | refine StoreD.st 2 rfl rfl rfl ?_
    | refine StoreD.st 3 rfl rfl rfl ?_
    | refine StoreD.st 4 rfl rfl rfl ?_
    | refine CmpD.yes rfl ?_
    | refine CmpD.yes (by decide) ?_
    | refine CmpD.no (by decide) ?_
    | refine Chk.mk ⟨rfl, trivial⟩ ?_
    | refine Chk.mk ⟨rfl, rfl, trivial⟩ ?_
    | refine Chk.mk ⟨rfl, rfl, rfl, trivial⟩ ?_
    | refine Chk.mk ⟨rfl, rfl, rfl, rfl, trivial⟩ ?_
    | refine Chk.mk ⟨rfl, rfl, rfl, rfl, rfl, trivial⟩ ?_
    | refine Chk.mk ⟨rfl, rfl, rfl, rfl, rfl, rfl, trivial⟩ ?_)
  refine CodeF.sched [[], [0], [0, 1], [0, 1, 2], [0, 1, 2, 3], [], [5], [5, 6], [5, 6, 7], [0, 1, 2, 3, 4, 5, 6, 7, 8], [], [10], [10, 11], [10, 11, 12], [0, 1, 2, 3, 4, 5, 6, 7, 8, 9, 10, 11, 12, 13], [0, 1, 2, 3, 4, 5, 6, 7, 8, 9, 10, 11, 12, 13, 14], [0, 1, 2, 3, 4, 5, 6, 7, 8, 9, 10, 11, 12, 13, 14, 15], [0, 1, 2, 3, 4, 5, 6, 7, 8, 9, 10, 11, 12, 13, 14, 15, 16], [0, 1, 2, 3, 4, 5, 6, 7, 8, 9, 10, 11, 12, 13, 14, 15, 16, 17], [0, 1, 2, 3, 4, 5, 6, 7, 8, 9, 10, 11, 12, 13, 14, 15, 16, 17, 18], [0, 1, 2, 3, 4, 5, 6, 7, 8, 9, 10, 11, 12, 13, 14, 15, 16, 17, 18, 19], [0, 1, 2, 3, 4, 5, 6, 7, 8, 9, 10, 11, 12, 13, 14, 15, 16, 17, 18, 19, 20], [0, 1, 2, 3, 4, 5, 6, 7, 8, 9, 10, 11, 12, 13, 14, 15, 16, 17, 18, 19, 20, 21]] [0, 1, 2, 3, 5, 6, 7, 8, 10, 11, 12, 13, 4, 9, 14, 15, 16, 17, 18, 19, 20, 21, 22] (by kernel_rfl) ?_
  refine LoadP.at 0 rfl [.slice sa sl sc] rfl rfl ?_
  refine LoadP.at 0 rfl [.slice na nl nc] rfl rfl ?_
  refine LoadP.at 0 rfl [.slice wa wl wc] rfl rfl ?_
  refine Tri.nf (clone_blocks I [dChunk b ⟨⟨sa, sl, sc⟩, ⟨na, nl, nc⟩, ⟨wa, wl, wc⟩, count, down, ⟨ao, al⟩, ⟨fo, fl⟩⟩, chS, chN, chW, dChunk b3 ⟨⟨sa, sl, sc⟩, ⟨na, nl, nc⟩, ⟨wa, wl, wc⟩, count, down, ⟨ao, al⟩, ⟨fo, fl⟩⟩] sa sl sc (safe.map Bk.cell) (by exact hSo.slC 1 rfl) (by intro v hv; obtain ⟨b, _, rfl⟩ := List.mem_map.1 hv; rfl) (by omega)) ?_
  rintro v J3 S3 hJ3 ⟨aS, capS, chS', rfl, hS', rfl, rfl⟩
  repeat (first
    | refine LoadD.own 0 rfl _ rfl rfl ?_
    | refine LoadP.at 0 rfl _ rfl rfl ?_
    | refine StoreD.st 0 rfl rfl rfl ?_
    | refine CmpD.yes rfl ?_
    | refine CmpD.yes (by decide) ?_
    | refine CmpD.no (by decide) ?_
    | refine Chk.mk ⟨rfl, trivial⟩ ?_
    | refine Chk.mk ⟨rfl, rfl, trivial⟩ ?_
    | refine Chk.mk ⟨rfl, rfl, rfl, trivial⟩ ?_
    | refine Chk.mk ⟨rfl, rfl, rfl, rfl, trivial⟩ ?_
    | refine Chk.mk ⟨rfl, rfl, rfl, rfl, rfl, trivial⟩ ?_
    | refine Chk.mk ⟨rfl, rfl, rfl, rfl, rfl, rfl, trivial⟩ ?_)
  refine Tri.nf (clone_blocks I [dChunk b ⟨⟨sa, sl, sc⟩, ⟨na, nl, nc⟩, ⟨wa, wl, wc⟩, count, down, ⟨ao, al⟩, ⟨fo, fl⟩⟩, chS, chN, chW, dChunk b3 ⟨⟨sa, sl, sc⟩, ⟨na, nl, nc⟩, ⟨wa, wl, wc⟩, count, down, ⟨ao, al⟩, ⟨fo, fl⟩⟩, chS'] na nl nc (now.map Bk.cell) (by exact hNo.slC 2 rfl) (by intro v hv; obtain ⟨b, _, rfl⟩ := List.mem_map.1 hv; rfl) (by omega)) ?_
  rintro v J4 S4 hJ4 ⟨aN, capN, chN', rfl, hN', rfl, rfl⟩
  repeat (first
    | refine LoadD.own 0 rfl _ rfl rfl ?_
    | refine LoadP.at 0 rfl _ rfl rfl ?_
    | refine StoreD.st 0 rfl rfl rfl ?_
    | refine CmpD.yes rfl ?_
    | refine CmpD.yes (by decide) ?_
    | refine CmpD.no (by decide) ?_
    | refine Chk.mk ⟨rfl, trivial⟩ ?_
    | refine Chk.mk ⟨rfl, rfl, trivial⟩ ?_
    | refine Chk.mk ⟨rfl, rfl, rfl, trivial⟩ ?_
    | refine Chk.mk ⟨rfl, rfl, rfl, rfl, trivial⟩ ?_
    | refine Chk.mk ⟨rfl, rfl, rfl, rfl, rfl, trivial⟩ ?_
    | refine Chk.mk ⟨rfl, rfl, rfl, rfl, rfl, rfl, trivial⟩ ?_)
  refine Tri.nf (clone_writes I [dChunk b ⟨⟨sa, sl, sc⟩, ⟨na, nl, nc⟩, ⟨wa, wl, wc⟩, count, down, ⟨ao, al⟩, ⟨fo, fl⟩⟩, chS, chN, chW, dChunk b3 ⟨⟨sa, sl, sc⟩, ⟨na, nl, nc⟩, ⟨wa, wl, wc⟩, count, down, ⟨ao, al⟩, ⟨fo, fl⟩⟩, chS', chN'] wa wl wc (wCells ws) (by exact hWo.slC 3 rfl) (wCells_plain ws) (by omega)) ?_
  rintro v J5 S5 hJ5 ⟨aW, capW, chW', rfl, hW', rfl, rfl⟩
  repeat (first
    | refine LoadD.own 0 rfl _ rfl rfl ?_
    | refine LoadP.at 0 rfl _ rfl rfl ?_
    | refine StoreD.st 0 rfl rfl rfl ?_
    | refine CmpD.yes rfl ?_
    | refine CmpD.yes (by decide) ?_
    | refine CmpD.no (by decide) ?_
    | refine Chk.mk ⟨rfl, trivial⟩ ?_
    | refine Chk.mk ⟨rfl, rfl, trivial⟩ ?_
    | refine Chk.mk ⟨rfl, rfl, rfl, trivial⟩ ?_
    | refine Chk.mk ⟨rfl, rfl, rfl, rfl, trivial⟩ ?_
    | refine Chk.mk ⟨rfl, rfl, rfl, rfl, rfl, trivial⟩ ?_
    | refine Chk.mk ⟨rfl, rfl, rfl, rfl, rfl, rfl, trivial⟩ ?_)
  refine StoreD.st 4 rfl rfl rfl ?_
  refine StoreD.st 4 rfl rfl rfl ?_
  refine StoreD.st 4 rfl rfl rfl ?_
  refine StoreD.st 4 rfl rfl rfl ?_
  exact Done.mk ⟨b3, ⟨aS, sl, capS⟩, ⟨aN, nl, capN⟩, ⟨aW, wl, capW⟩, chS', chN', chW', rfl, rfl, rfl, ⟨hS', hN', hW', hokS, hokN, hokW⟩⟩
theorem dk_Copy {I : Imm} {bD : Nat} {st : DSt} {ch : List Blk} (h : Dk I bD st ch) (hf : st.Few 1000000) :
    Tri Try.prog 64 #[.pointer (some ⟨bD, 0, none⟩)] I [ch] fun v J S' => ∃ bC chC, v = .pointer (some ⟨bC, 0, none⟩) ∧ I = J ∧ Dk J bC { st with count := 0 } chC ∧ S' = [ch, chC] := by
  obtain ⟨hw, d, chS, chN, chW, bS, bN, bW, rfl, hD, q1, q2, q3, q4, q5, q6, q7⟩ := h
  have hl := hD.hN.len1
  have hl' : st.now.length = d.now.len := by rw [← q2]; simpa using hl
  have hls := hD.hS.len1
  have hls' : st.safe.length = d.safe.len := by rw [← q1]; simpa using hls
  have hr := hw.range
  have hwl := hw.len
  have hW := hD.hW.n
  rw [wCells_length] at hW
  have hW' : st.writes.length = d.writes.len := by rw [← q3, List.length_map]; omega
  obtain ⟨f1, f2, f3⟩ := hf
  refine Tri.lay (S2 := [dChunk bD d, chS, chN, chW]) (by simp) ?_
  refine Tri.drop (disk_Copy bD d (by omega) (by omega) (by omega) chS chN chW bS bN bW I hD) ?_
  rintro v J S' hJ ⟨b', hS, hN, hWr, chS', chN', chW', rfl, rfl, rfl, hDA⟩
  exact ⟨[dChunk bD d ++ (chS ++ (chN ++ chW)), dChunk b' { d with safe := hS, now := hN, writes := hWr, count := 0 } ++ (chS' ++ (chN' ++ chW'))], Drop.flat (by simp), b', _, rfl, rfl, ⟨⟨hw.len, hw.range, hw.safe, hw.now, hw.writes, hw.arm, hw.fault⟩, _, chS', chN', chW', bS, bN, bW, rfl, hDA, q1, q2, q3, rfl, q5, q6, q7⟩, rfl⟩
end Go.Proofs.Ytbpdbgcndfcilaa
namespace Go.Proofs.Ytbpdbgcndfcilaa
open Go.RowKit Go.Sl
set_option maxRecDepth 20000

theorem open_bools {H : Type} {enc : TypeId × Value → H} {W : World} {held : Bool} {fuel : Nat} {c0 : Value} {x : DataW H × List MemPlace} (h : DataW.trod enc Try.prog W 0 (fun _ => true) held fuel 100 [c0] = some x) :
    ∃ (a : Option Addr) (len cap : Nat) (l : List Bool), c0 = .slice a len cap ∧ Rds (base W) a len (bools l) := by
  obtain ⟨a, len, cap, vs, D, rfl, _, _, hel, hR, _⟩ := open_elems Try.underlying100 (k := 1) (by kernel_rfl) (by omega) h
  obtain ⟨z, hz⟩ := Go.Deep.choose_lt (α := Bool) (n := len) (p := fun i z => vs i = [.bool z]) (fun i hi => by
    obtain ⟨_, n, Pl, ht⟩ := hel i hi
    obtain ⟨b, h1, _⟩ := DataW.trod_bool Try.underlying4 ht
    exact ⟨b, h1⟩)
  refine ⟨a, len, cap, (List.range len).map z, rfl, ?_⟩
  rw [Nat.mul_one] at hR
  have e : (List.range len).flatMap vs = bools ((List.range len).map z) := by
    rw [Go.Deep.flatMap_congr_range (fun i hi => hz i hi)]
    unfold bools
    rw [List.map_map]
    induction List.range len with
    | nil => rfl
    | cons y l ih => simp [ih]
  rw [← e]; exact hR
theorem u8_of_wf {n : Int} (h : (Lit.int .u8 n).wf = true) : ∃ m : Nat, n = m ∧ m < 256 := by
  simp [Lit.wf, IntKind.min, IntKind.max, IntKind.signed, IntKind.bits] at h
  exact ⟨n.toNat, by omega, by omega⟩
end Go.Proofs.Ytbpdbgcndfcilaa
namespace Go.Proofs.Ytbpdbgcndfcilaa
open Go.RowKit Go.Sl
set_option maxRecDepth 20000

/-- a cut, as it lies -/
structure CutV where
  arm : Int
  a : Option Addr
  len : Nat
  cap : Nat
  keep : List Bool
  tn : Int
  sec : Nat
def CutV.cells (c : CutV) : List Value := [.int .i64 c.arm, .slice c.a c.len c.cap, .int .i64 c.tn, .int .u8 c.sec]
def cutCells (l : List CutV) : List Value := l.flatMap CutV.cells
def CutOk (J : Imm) (c : CutV) : Prop := In64 c.arm ∧ In64 c.tn ∧ c.sec < 256 ∧ Rds J c.a c.len (bools c.keep)
theorem cutCells_at {l : List CutV} {i : Nat} (h : i < l.length) : ((cutCells l).drop (i * 4)).take 4 = l[i].cells := by
  induction l generalizing i with
  | nil => simp at h
  | cons g l ih =>
    have e : cutCells (g :: l) = g.cells ++ cutCells l := by simp [cutCells]
    cases i with
    | zero => rw [e]; rfl
    | succ i =>
      have := ih (i := i) (by simpa using h)
      rw [e, show (i + 1) * 4 = g.cells.length + i * 4 by simp [CutV.cells]; omega, ← List.drop_drop, List.drop_left]
      simpa using this
theorem open_cuts {H : Type} {enc : TypeId × Value → H} {W : World} {held : Bool} {fuel : Nat} {c0 : Value} {x : DataW H × List MemPlace} (h : DataW.trod enc Try.prog W 0 (fun _ => true) held fuel 108 [c0] = some x) :
    ∃ (a : Option Addr) (len cap : Nat) (l : List CutV), c0 = .slice a len cap ∧ l.length = len ∧ Rds (base W) a (len * 4) (cutCells l) ∧ ∀ c ∈ l, CutOk (base W) c := by
  obtain ⟨a, len, cap, vs, D, rfl, _, _, hel, hR, _⟩ := open_elems Try.underlying108 (k := 4) (by kernel_rfl) (by omega) h
  have : Inhabited CutV := ⟨⟨0, none, 0, 0, [], 0, 0⟩⟩
  obtain ⟨z, hz⟩ := Go.Deep.choose_lt (α := CutV) (n := len) (p := fun i c => vs i = c.cells ∧ CutOk (base W) c) (fun i hi => by
    obtain ⟨hl, n, Pl, ht⟩ := hel i hi
    match hv : vs i, hl with
    | [v0, v1, v2, v3], _ =>
    rw [hv] at ht
    obtain ⟨y0, y1, y2, y3, n2, _, _, t0, t1, t2, t3⟩ := Go.Joins.trod_struct4 Try.underlying111 ht
    have t0 : DataW.trod enc Try.prog W 0 (fun _ => true) held n2 3 (([v0, v1, v2, v3].drop 0).take (Try.prog.cellsOf 3)) = some y0 := t0
    have t1 : DataW.trod enc Try.prog W 0 (fun _ => true) held n2 100 (([v0, v1, v2, v3].drop 1).take (Try.prog.cellsOf 100)) = some y1 := t1
    have t2 : DataW.trod enc Try.prog W 0 (fun _ => true) held n2 3 (([v0, v1, v2, v3].drop 2).take (Try.prog.cellsOf 3)) = some y2 := t2
    have t3 : DataW.trod enc Try.prog W 0 (fun _ => true) held n2 5 (([v0, v1, v2, v3].drop 3).take (Try.prog.cellsOf 5)) = some y3 := t3
    rw [show Try.prog.cellsOf 3 = 1 from by kernel_rfl] at t0 t2
    rw [show Try.prog.cellsOf 100 = 1 from by kernel_rfl] at t1
    rw [show Try.prog.cellsOf 5 = 1 from by kernel_rfl] at t3
    obtain ⟨m0, h0, _, hw0⟩ := DataW.trod_int Try.underlying3 t0
    obtain ⟨m2, h2, _, hw2⟩ := DataW.trod_int Try.underlying3 t2
    obtain ⟨m3, h3, _, hw3⟩ := DataW.trod_int Try.underlying5 t3
    obtain ⟨a1, len1, cap1, l1, rfl, hR1⟩ := open_bools t1
    obtain ⟨s3, rfl, hs3⟩ := u8_of_wf hw3
    simp only [List.drop_zero, List.drop_succ_cons, List.take_succ_cons, List.take_zero, List.cons.injEq, and_true] at h0 h2 h3
    subst h0 h2 h3
    exact ⟨⟨m0, a1, len1, cap1, l1, m2, s3⟩, rfl, int_of_wf hw0, int_of_wf hw2, hs3, hR1⟩)
  refine ⟨a, len, cap, (List.range len).map z, rfl, by simp, ?_, ?_⟩
  · have e : (List.range len).flatMap vs = cutCells ((List.range len).map z) := by
      rw [Go.Deep.flatMap_congr_range (fun i hi => (hz i hi).1)]
      unfold cutCells
      rw [List.flatMap_map]
    rw [← e]; exact hR
  · intro g hg
    obtain ⟨i, hi, rfl⟩ := List.mem_map.1 hg
    exact (hz i (List.mem_range.1 hi)).2
end Go.Proofs.Ytbpdbgcndfcilaa
namespace Go.Proofs.Ytbpdbgcndfcilaa
open Go.RowKit Go.Sl
set_option maxRecDepth 20000

end Go.Proofs.Ytbpdbgcndfcilaa
namespace Go.Proofs.Ytbpdbgcndfcilaa
open Go.RowKit Go.Sl
set_option maxRecDepth 20000

end Go.Proofs.Ytbpdbgcndfcilaa

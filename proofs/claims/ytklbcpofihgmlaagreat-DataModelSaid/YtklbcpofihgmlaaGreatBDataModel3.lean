/- Texts of this claim laid together: FsP, FsQ, FsR, Tab, Bytes, Sums, FsE, FsS, FsT, FsU, SameInts, Made, Layout, Spc, Same, Oct, Nb, Clone, Xt1, Xt2, Ly, Xt3, Xt4, Xt5. -/
import Derived.Test.YtklbcpofihgmlaaGreatRows
import Derived.Test.YtklbcpofihgmlaaGreatBDataModel1
import Derived.Test.YtklbcpofihgmlaaGreatProg
import Derived.KernelRfl
import Derived.Laws.BitsAllLaws
import Derived.Test.YtklbcpofihgmlaaGreatBDataModel2
namespace Go.Proofs.YtklbcpofihgmlaaGreat
structure Xt where
  at_:Nat
  start:Nat
  count:Nat
deriving DecidableEq
def Xt.blks (x:Xt):List Nat:=(List.range x.count).map (x.start+·)
def rightX:Nat→List Xt→Bool
  | _,[]=>true
  | e,x :: l=>Nat.ble 1 x.count && Nat.ble e x.at_ && Nat.ble 1 x.start && Nat.ble x.count 512 && Nat.ble (x.at_+x.count) 512 && Nat.ble (x.start+x.count) 512 && rightX (x.at_+x.count) l
structure XtOk (e:Nat) (x:Xt):Prop where
  one:1≤x.count
  ge:e≤x.at_
  st:1≤x.start
  few:x.count≤512
  ato:x.at_+x.count≤512
  sto:x.start+x.count≤512
theorem rightX_cons {e:Nat} {x:Xt} {l:List Xt}:rightX e (x :: l)=true↔XtOk e x∧rightX (x.at_+x.count) l=true:=by
  simp only [rightX,Bool.and_eq_true,Nat.ble_eq]
  constructor
  · rintro ⟨⟨⟨⟨⟨⟨a,b⟩,c⟩,d⟩,f⟩,g⟩,h⟩; exact ⟨⟨a,b,c,d,f,g⟩,h⟩
  · rintro ⟨⟨a,b,c,d,f,g⟩,h⟩; exact ⟨⟨⟨⟨⟨⟨a,b⟩,c⟩,d⟩,f⟩,g⟩,h⟩
theorem rightX_mono {e e':Nat} (h:e'≤e):∀ {l:List Xt},rightX e l=true→rightX e' l=true
  | [],_=>rfl
  | x :: l,hl=>by
    rw [rightX_cons] at hl ⊢
    exact ⟨⟨hl.1.one,Nat.le_trans h hl.1.ge,hl.1.st,hl.1.few,hl.1.ato,hl.1.sto⟩,hl.2⟩
theorem rightX_mem {e:Nat}:∀ {l:List Xt},rightX e l=true→∀ x ∈ l,XtOk e x
  | x :: l,hl,y,hy=>by
    rw [rightX_cons] at hl
    rcases List.mem_cons.1 hy with rfl | hy
    · exact hl.1
    · have:=rightX_mem hl.2 y hy
      exact ⟨this.one,by have:=this.ge; have:=hl.1.ge; omega,this.st,this.few,this.ato,this.sto⟩
def endX:Nat→List Xt→Nat
  | e,[]=>e
  | _,x :: l=>endX (x.at_+x.count) l
theorem rightX_append {e:Nat}:∀ {l m:List Xt},rightX e (l++m)=true↔rightX e l=true∧rightX (endX e l) m=true
  | [],m=>by simp [rightX,endX]
  | x :: l,m=>by
    rw [List.cons_append,rightX_cons,rightX_cons,rightX_append (l:=l),endX,and_assoc]
theorem endX_ge {e:Nat}:∀ {l:List Xt},rightX e l=true→e≤endX e l
  | [],_=>Nat.le_refl _
  | x :: l,h=>by
    rw [rightX_cons] at h
    have:=endX_ge h.2
    have:=h.1.ge
    simp only [endX]; omega
def findP:List Xt→Nat→Option Nat
  | [],_=>none
  | x :: l,k=>if x.at_≤k∧k < x.at_+x.count then some (x.start+k - x.at_) else findP l k
theorem findP_mem {k b:Nat}:∀ {l:List Xt},findP l k=some b→∃ x ∈ l,x.at_≤k∧k < x.at_+x.count∧b=x.start+k - x.at_
  | x :: l,h=>by
    rw [findP] at h
    split at h
    · rename_i hk; cases h; exact ⟨x,by simp,hk.1,hk.2,rfl⟩
    · obtain ⟨y,hy,r⟩:=findP_mem h; exact ⟨y,by simp [hy],r⟩
theorem findP_of_mem {e k:Nat}:∀ {l:List Xt},rightX e l=true→∀ x ∈ l,x.at_≤k→k < x.at_+x.count→findP l k=some (x.start+k - x.at_)
  | y :: l,h,x,hx,h1,h2=>by
    rw [rightX_cons] at h
    rw [findP]
    rcases List.mem_cons.1 hx with rfl | hx
    · rw [if_pos ⟨h1,h2⟩]
    · have:=(rightX_mem h.2 x hx).ge
      rw [if_neg (by omega)]
      exact findP_of_mem h.2 x hx h1 h2
def blksX (l:List Xt):List Nat:=l.flatMap Xt.blks
theorem mem_blks {x:Xt} {b:Nat}:b ∈ x.blks↔x.start≤b∧b < x.start+x.count:=by
  simp only [Xt.blks,List.mem_map,List.mem_range]
  constructor
  · rintro ⟨a,h,rfl⟩; omega
  · rintro ⟨h1,h2⟩; exact ⟨b - x.start,by omega,by omega⟩
theorem mem_blksX {l:List Xt} {b:Nat}:b ∈ blksX l↔∃ x ∈ l,x.start≤b∧b < x.start+x.count:=by
  simp only [blksX,List.mem_flatMap,mem_blks]
theorem findP_blk {l:List Xt} {k b:Nat} (h:findP l k=some b):b ∈ blksX l:=by
  obtain ⟨x,hx,h1,h2,rfl⟩:=findP_mem h
  exact mem_blksX.2 ⟨x,hx,by omega,by omega⟩
def hol:Nat→Option Nat→List Bool→List (Nat × Nat)
  | _,none,[]=>[]
  | i,some s,[]=>[(s,i - s)]
  | i,none,true :: l=>hol (i+1) none l
  | i,none,false :: l=>hol (i+1) (some i) l
  | i,some s,false :: l=>hol (i+1) (some s) l
  | i,some s,true :: l=>(s,i - s) :: hol (i+1) none l
def bestS (n:Nat) (eg:(Nat × Nat) × (Nat × Nat)) (x:Nat × Nat):(Nat × Nat) × (Nat × Nat) :=
  (bif Nat.ble n x.2 && (Nat.beq eg.1.2 0 || Nat.blt x.2 eg.1.2) then x else eg.1,bif Nat.blt eg.2.2 x.2 then x else eg.2)
def bestP (used:List Bool) (n:Nat):Nat × Nat :=
  let eg:=(hol 0 none used).foldl (bestS n) ((0,0),(0,0))
  bif Nat.blt 0 eg.1.2 then (eg.1.1,n) else eg.2
def markP:Nat→Nat→List Bool→List Bool
  | 0,0,l=>l
  | _,_,[]=>[]
  | 0,c+1,_ :: l=>true :: markP 0 c l
  | s+1,c,b :: l=>b :: markP s c l
def clearP:Nat→Nat→List Bool→List Bool
  | 0,0,l=>l
  | _,_,[]=>[]
  | 0,c+1,_ :: l=>false :: clearP 0 c l
  | s+1,c,b :: l=>b :: clearP s c l
def allocP:Nat→List Bool→Nat→Option (List Bool × List (Nat × Nat))
  | _,used,0=>some (used,[])
  | 0,_,_+1=>none
  | f+1,used,n+1 =>
    let x:=bestP used (n+1)
    match x.2 with
    | 0=>none
    | c+1=>match allocP f (markP x.1 (c+1) used) (n+1 - (c+1)) with
      | none=>none
      | some (u,xs)=>some (u,x :: xs)
theorem markP_length:∀ (s c:Nat) (l:List Bool),(markP s c l).length=l.length
  | 0,0,l=>by cases l <;> rfl
  | 0,c+1,[]=>rfl
  | s+1,c,[]=>by cases c <;> rfl
  | 0,c+1,_ :: l=>by simp [markP,markP_length 0 c l]
  | s+1,c,_ :: l=>by cases c <;> simp [markP,markP_length s _ l]
theorem markP_get:∀ (s c:Nat) (l:List Bool) (i:Nat),i < l.length→(markP s c l)[i]?=some (decide (s≤i∧i < s+c) || l.getD i true)
  | 0,0,l,i,hi=>by
    have:markP 0 0 l=l:=by cases l <;> rfl
    rw [this,List.getElem?_eq_getElem hi]
    simp [List.getD,List.getElem?_eq_getElem hi]
  | s,c,[],i,hi=>by simp at hi
  | 0,c+1,b :: l,0,_=>by simp [markP]
  | 0,c+1,b :: l,i+1,hi=>by
    have:=markP_get 0 c l i (by simpa using hi)
    simp only [markP,List.getElem?_cons_succ,this,List.getD_cons_succ]
    congr 2
    simp only [decide_eq_decide]; omega
  | s+1,c,b :: l,0,_=>by cases c <;> simp [markP]
  | s+1,c,b :: l,i+1,hi=>by
    have:=markP_get s c l i (by simpa using hi)
    have e:markP (s+1) c (b :: l)=b :: markP s c l:=by cases c <;> rfl
    rw [e]
    simp only [List.getElem?_cons_succ,this,List.getD_cons_succ]
    congr 2
    simp only [decide_eq_decide]; omega
theorem clearP_length:∀ (s c:Nat) (l:List Bool),(clearP s c l).length=l.length
  | 0,0,l=>by cases l <;> rfl
  | 0,c+1,[]=>rfl
  | s+1,c,[]=>by cases c <;> rfl
  | 0,c+1,_ :: l=>by simp [clearP,clearP_length 0 c l]
  | s+1,c,_ :: l=>by cases c <;> simp [clearP,clearP_length s _ l]
theorem clearP_get:∀ (s c:Nat) (l:List Bool) (i:Nat),i < l.length→(clearP s c l)[i]?=some (!decide (s≤i∧i < s+c) && l.getD i false)
  | 0,0,l,i,hi=>by
    have:clearP 0 0 l=l:=by cases l <;> rfl
    rw [this,List.getElem?_eq_getElem hi]
    simp [List.getD,List.getElem?_eq_getElem hi]
  | s,c,[],i,hi=>by simp at hi
  | 0,c+1,b :: l,0,_=>by simp [clearP]
  | 0,c+1,b :: l,i+1,hi=>by
    have:=clearP_get 0 c l i (by simpa using hi)
    simp only [clearP,List.getElem?_cons_succ,this,List.getD_cons_succ]
    congr 3
    simp only [decide_eq_decide]; omega
  | s+1,c,b :: l,0,_=>by cases c <;> simp [clearP]
  | s+1,c,b :: l,i+1,hi=>by
    have:=clearP_get s c l i (by simpa using hi)
    have e:clearP (s+1) c (b :: l)=b :: clearP s c l:=by cases c <;> rfl
    rw [e]
    simp only [List.getElem?_cons_succ,this,List.getD_cons_succ]
    congr 3
    simp only [decide_eq_decide]; omega
structure IsHole (used:List Bool) (x:Nat × Nat):Prop where
  pos:0 < x.2
  le:x.1+x.2≤used.length
  free:∀ i,x.1≤i→i < x.1+x.2→used[i]?=some false
theorem hol_ok:∀ (l:List Bool) (i:Nat) (o:Option Nat) (used:List Bool),used.drop i=l→i≤used.length→(∀ s,o=some s→s < i∧∀ j,s≤j→j < i→used[j]?=some false)→∀ x ∈ hol i o l,IsHole used x
  | [],i,none,used,_,_,_,x,hx=>by simp [hol] at hx
  | [],i,some s,used,hl,hi,ho,x,hx=>by
    simp only [hol,List.mem_singleton] at hx
    subst hx
    obtain ⟨h1,h2⟩:=ho s rfl
    exact ⟨by show 0 < i - s; omega,by show s+(i - s)≤_; omega,fun j h3 h4=>h2 j h3 (by simp only [] at h4; omega)⟩
  | b :: l,i,o,used,hl,hi,ho,x,hx=>by
    have hlt:i < used.length:=by
      rcases Nat.lt_or_ge i used.length with g | g
      · exact g
      · rw [List.drop_eq_nil_of_le g] at hl; cases hl
    have hb:used[i]?=some b:=by
      have:=congrArg (·[0]?) hl
      simpa using this
    have hd:used.drop (i+1)=l:=by rw [← List.drop_drop,hl]; rfl
    cases o with
    | none =>
      cases b with
      | true=>exact hol_ok l (i+1) none used hd hlt (fun s h=>by cases h) x hx
      | false =>
        refine hol_ok l (i+1) (some i) used hd hlt (fun s h=>?_) x hx
        cases h
        exact ⟨by omega,fun j h1 h2=>by rw [show j=i by omega]; exact hb⟩
    | some s =>
      obtain ⟨h1,h2⟩:=ho s rfl
      cases b with
      | true =>
        rcases List.mem_cons.1 hx with rfl | hx
        · exact ⟨by show 0 < i - s; omega,by show s+(i - s)≤_; omega,fun j h3 h4=>h2 j h3 (by simp only [] at h4; omega)⟩
        · exact hol_ok l (i+1) none used hd hlt (fun s h=>by cases h) x hx
      | false =>
        refine hol_ok l (i+1) (some s) used hd hlt (fun s' h=>?_) x hx
        cases h
        refine ⟨by omega,fun j h3 h4=>?_⟩
        rcases Nat.lt_or_ge j i with g | g
        · exact h2 j h3 g
        · rw [show j=i by omega]; exact hb
theorem hol_some:∀ (l:List Bool) (i s:Nat),s < i→hol i (some s) l≠[]
  | [],_,_,_,h=>by simp [hol] at h
  | false :: l,i,s,hs,h=>hol_some l (i+1) s (by omega) (by simpa [hol] using h)
  | true :: l,i,s,_,h=>by simp [hol] at h
theorem hol_none:∀ (l:List Bool) (i:Nat),hol i none l=[]→∀ b ∈ l,b=true
  | [],_,_,b,hb=>by simp at hb
  | true :: l,i,h,b,hb=>by
    rcases List.mem_cons.1 hb with rfl | hb
    · rfl
    · exact hol_none l (i+1) (by simpa [hol] using h) b hb
  | false :: l,i,h,b,hb=>absurd (by simpa [hol] using h) (hol_some l (i+1) i (by omega))
theorem best_fold (n:Nat) (used:List Bool):∀ (hs:List (Nat × Nat)) (eg:(Nat × Nat) × (Nat × Nat)),(∀ x ∈ hs,IsHole used x) →
    (eg.1.2=0∨(IsHole used eg.1∧n≤eg.1.2))→(eg.2.2=0∨IsHole used eg.2) →
    let r:=hs.foldl (bestS n) eg
    (r.1.2=0∨(IsHole used r.1∧n≤r.1.2))∧(r.2.2=0∨IsHole used r.2)∧(0 < eg.2.2∨hs≠[]→0 < r.2.2)
  | [],eg,_,h1,h2=>⟨h1,h2,fun h=>by simpa using h⟩
  | x :: hs,eg,hh,h1,h2=>by
    have hx:=hh x (by simp)
    have ih:=best_fold n used hs (bestS n eg x) (fun y hy=>hh y (by simp [hy]))
      (by
        unfold bestS
        cases hc:(Nat.ble n x.2 && (Nat.beq eg.1.2 0 || Nat.blt x.2 eg.1.2)) with
        | true =>
          simp only [Bool.and_eq_true,Nat.ble_eq] at hc
          right; exact ⟨hx,hc.1⟩
        | false=>exact h1)
      (by
        unfold bestS
        cases hc:Nat.blt eg.2.2 x.2 with
        | true=>right; exact hx
        | false=>exact h2)
    refine ⟨ih.1,ih.2.1,fun _=>ih.2.2 (.inl ?_)⟩
    show 0 < (bestS n eg x).2.2
    unfold bestS
    cases hc:Nat.blt eg.2.2 x.2 with
    | true=>exact hx.pos
    | false =>
      have:=hx.pos
      have:¬ eg.2.2 < x.2:=by intro h; rw [← Nat.blt_eq] at h; rw [hc] at h; cases h
      show 0 < eg.2.2
      omega
theorem bestP_ok (used:List Bool) (n:Nat) (hn:0 < n):(0 < (bestP used n).2→IsHole used (bestP used n))∧((bestP used n).2=0→∀ b ∈ used,b=true):=by
  have h:=best_fold n used (hol 0 none used) ((0,0),(0,0)) (hol_ok used 0 none used (by simp) (by simp) (fun s h=>by cases h)) (.inl rfl) (.inl rfl)
  simp only [] at h
  obtain ⟨h1,h2,h3⟩:=h
  unfold bestP
  simp only []
  cases hc:Nat.blt 0 ((hol 0 none used).foldl (bestS n) ((0,0),(0,0))).1.2 with
  | true =>
    rw [Nat.blt_eq] at hc
    rcases h1 with h1 | ⟨h1,h4⟩
    · omega
    refine ⟨fun _=>⟨hn,?_,fun i h5 h6=>h1.free i h5 ?_⟩,fun h=>?_⟩
    · have:=h1.le; simp only [cond_true] at *; omega
    · simp only [cond_true] at *; omega
    · simp only [cond_true] at h; omega
  | false =>
    simp only [cond_false]
    refine ⟨fun h=>?_,fun h=>?_⟩
    · rcases h2 with h2 | h2
      · omega
      · exact h2
    · refine hol_none used 0 ?_
      rcases Decidable.em (hol 0 none used=[]) with g | g
      · exact g
      · have:=h3 (.inr g); omega
theorem bestP_le (used:List Bool) (n:Nat):(bestP used n).2≤n:=by
  unfold bestP
  simp only []
  cases hc:Nat.blt 0 ((hol 0 none used).foldl (bestS n) ((0,0),(0,0))).1.2 with
  | true=>exact Nat.le_refl _
  | false =>
    simp only [cond_false]
    have key:∀ (hs:List (Nat × Nat)) (eg:(Nat × Nat) × (Nat × Nat)),(eg.1.2=0→eg.2.2≤n)→((∀ x ∈ hs,0 < x.2))→(hs.foldl (bestS n) eg).1.2=0→(hs.foldl (bestS n) eg).2.2≤n:=by
      intro hs
      induction hs with
      | nil=>intro eg h _ h0; exact h h0
      | cons x hs ih =>
        intro eg h hp h0
        refine ih _ ?_ (fun y hy=>hp y (by simp [hy])) h0
        intro h1
        unfold bestS at h1 ⊢
        have hx:=hp x (by simp)
        cases hq:(Nat.ble n x.2 && (Nat.beq eg.1.2 0 || Nat.blt x.2 eg.1.2)) with
        | true=>rw [hq] at h1; simp only [cond_true] at h1; omega
        | false =>
          rw [hq] at h1
          simp only [cond_false] at h1
          have e1:Nat.beq eg.1.2 0=true:=by rw [h1]; rfl
          rw [e1,Bool.true_or,Bool.and_true] at hq
          have e2:¬ n≤x.2:=by intro hh; rw [← Nat.ble_eq] at hh; rw [hh] at hq; cases hq
          cases hc:Nat.blt eg.2.2 x.2 with
          | true=>show x.2≤n; omega
          | false=>exact h h1
    refine key _ _ (fun _=>Nat.zero_le _) (fun x hx=>(hol_ok used 0 none used (by simp) (by simp) (fun s h=>by cases h) x hx).pos) ?_
    have:¬ 0 < ((hol 0 none used).foldl (bestS n) ((0,0),(0,0))).1.2:=by intro hh; rw [← Nat.blt_eq] at hh; rw [hc] at hh; cases hh
    omega
structure Found (used:List Bool) (n:Nat) (used':List Bool) (xs:List (Nat × Nat)):Prop where
  len:used'.length=used.length
  sum:(xs.map Prod.snd).sum=n
  pos:∀ x ∈ xs,0 < x.2∧x.1+x.2≤used.length∧∀ i,x.1≤i→i < x.1+x.2→used[i]?=some false
  apart:xs.Pairwise fun x y=>x.1+x.2≤y.1∨y.1+y.2≤x.1
  now:∀ i,i < used.length→used'[i]?=some (decide (∃ x ∈ xs,x.1≤i∧i < x.1+x.2) || used.getD i true)
def freeN (used:List Bool):Nat:=(used.filter (!·)).length
theorem markP_free:∀ (s c:Nat) (l:List Bool),s+c≤l.length→(∀ i,s≤i→i < s+c→l[i]?=some false)→freeN (markP s c l)+c=freeN l
  | 0,0,l,_,_=>by cases l <;> rfl
  | 0,c+1,[],h,_=>by simp at h
  | s+1,c,[],h,_=>by simp at h
  | 0,c+1,b :: l,h,hf=>by
    have hb:=hf 0 (Nat.le_refl _) (by omega)
    simp only [List.getElem?_cons_zero,Option.some.injEq] at hb
    subst hb
    have:=markP_free 0 c l (by simp only [List.length_cons] at h; omega) (fun i h1 h2=>by have:=hf (i+1) (by omega) (by omega); simpa using this)
    simp only [markP,freeN,List.filter_cons,Bool.not_true,Bool.not_false] at this ⊢
    simp only [if_true,List.length_cons,Bool.false_eq_true,if_false]
    omega
  | s+1,c,b :: l,h,hf=>by
    have:=markP_free s c l (by simp only [List.length_cons] at h; omega) (fun i h1 h2=>by have:=hf (i+1) (by omega) (by omega); simpa using this)
    have e:markP (s+1) c (b :: l)=b :: markP s c l:=by cases c <;> rfl
    rw [e]
    simp only [freeN,List.filter_cons] at this ⊢
    cases b <;> simp only [Bool.not_true,Bool.not_false,if_true,List.length_cons,Bool.false_eq_true,if_false] <;> omega
theorem freeN_zero {used:List Bool} (h:∀ b ∈ used,b=true):freeN used=0:=by
  unfold freeN
  rw [List.length_eq_zero_iff,List.filter_eq_nil_iff]
  intro b hb
  rw [h b hb]; simp
theorem allocP_ok:∀ (f:Nat) (used:List Bool) (n:Nat),n≤f →
    (∀ u xs,allocP f used n=some (u,xs)→Found used n u xs)∧(allocP f used n=none→freeN used < n)
  | f,used,0,_=>by
    have e:allocP f used 0=some (used,[]):=by cases f <;> rfl
    rw [e]
    refine ⟨fun u xs h=>?_,fun h=>by cases h⟩
    cases h
    exact ⟨rfl,rfl,by simp,by simp,fun i hi=>by simp [List.getD,List.getElem?_eq_getElem hi]⟩
  | 0,used,n+1,h=>by omega
  | f+1,used,n+1,hf=>by
    have hb:=bestP_ok used (n+1) (by omega)
    have hle:=bestP_le used (n+1)
    rw [allocP]
    try simp only []
    cases hc:(bestP used (n+1)).2 with
    | zero =>
      simp only []
      refine ⟨fun u xs h=>(by cases h),fun _=>?_⟩
      have:=freeN_zero (hb.2 hc)
      omega
    | succ c =>
      simp only []
      have hh:=hb.1 (by omega)
      have ih:=allocP_ok f (markP (bestP used (n+1)).1 (c+1) used) (n+1 - (c+1)) (by omega)
      have hfree:=hh.free
      have hl:=hh.le
      rw [hc] at hfree hl
      have hmf:=markP_free (bestP used (n+1)).1 (c+1) used hl hfree
      cases hr:allocP f (markP (bestP used (n+1)).1 (c+1) used) (n+1 - (c+1)) with
      | none =>
        refine ⟨fun u xs h=>(by cases h),fun _=>?_⟩
        have:=ih.2 hr
        omega
      | some r =>
        obtain ⟨u,xs⟩:=r
        refine ⟨fun u' xs' h=>?_,fun h=>by cases h⟩
        simp only [Option.some.injEq,Prod.mk.injEq] at h
        obtain ⟨rfl,rfl⟩:=h
        have hF:=ih.1 u xs hr
        have hml:=markP_length (bestP used (n+1)).1 (c+1) used
        have hxs:∀ y ∈ xs,0 < y.2∧y.1+y.2≤used.length∧(∀ i,y.1≤i→i < y.1+y.2→used[i]?=some false)∧∀ i,y.1≤i→i < y.1+y.2→¬ ((bestP used (n+1)).1≤i∧i < (bestP used (n+1)).1+(c+1)):=by
          intro y hy
          obtain ⟨h1,h2,h3⟩:=hF.pos y hy
          rw [hml] at h2
          have h4:∀ i,y.1≤i→i < y.1+y.2→used[i]?=some false∧¬ ((bestP used (n+1)).1≤i∧i < (bestP used (n+1)).1+(c+1)):=by
            intro i h5 h6
            have h7:=h3 i h5 h6
            have hi:i < used.length:=by omega
            rw [markP_get _ _ _ _ hi] at h7
            simp only [Option.some.injEq,Bool.or_eq_false_iff,decide_eq_false_iff_not] at h7
            refine ⟨?_,h7.1⟩
            have h8:=h7.2
            rw [List.getD_eq_getElem?_getD,List.getElem?_eq_getElem hi] at h8
            rw [List.getElem?_eq_getElem hi]
            simp only [Option.getD_some] at h8
            rw [h8]
          exact ⟨h1,h2,fun i a b=>(h4 i a b).1,fun i a b=>(h4 i a b).2⟩
        refine ⟨hF.len.trans hml,?_,?_,?_,?_⟩
        · rw [List.map_cons,List.sum_cons,hF.sum,hc]; omega
        · intro y hy
          rcases List.mem_cons.1 hy with rfl | hy
          · rw [hc]; exact ⟨by omega,hl,hfree⟩
          · exact ⟨(hxs y hy).1,(hxs y hy).2.1,(hxs y hy).2.2.1⟩
        · rw [List.pairwise_cons]
          refine ⟨fun y hy=>?_,hF.apart⟩
          obtain ⟨h1,_,_,h4⟩:=hxs y hy
          rw [hc]
          rcases Nat.lt_or_ge y.1 (bestP used (n+1)).1 with g | g
          · right
            rcases Nat.lt_or_ge (bestP used (n+1)).1 (y.1+y.2) with g2 | g2
            · exact absurd ⟨Nat.le_refl _,by omega⟩ (h4 (bestP used (n+1)).1 (by omega) g2)
            · exact g2
          · left
            rcases Nat.lt_or_ge y.1 ((bestP used (n+1)).1+(c+1)) with g2 | g2
            · exact absurd ⟨g,g2⟩ (h4 y.1 (Nat.le_refl _) (by omega))
            · exact g2
        · intro i hi
          rw [hF.now i (by rw [hml]; exact hi)]
          rw [List.getD_eq_getElem?_getD,markP_get _ _ _ _ hi]
          simp only [Option.getD_some,Option.some.injEq]
          rw [← Bool.or_assoc]
          congr 1
          rw [Bool.eq_iff_iff]
          simp only [Bool.or_eq_true,decide_eq_true_eq]
          constructor
          · rintro (⟨y,hy,h⟩ | h)
            · exact ⟨y,List.mem_cons_of_mem _ hy,h⟩
            · exact ⟨_,List.mem_cons_self,by rw [hc]; exact h⟩
          · rintro ⟨y,hy,h⟩
            rcases List.mem_cons.1 hy with e | hy
            · right; rw [e,hc] at h; exact h
            · left; exact ⟨y,hy,h⟩
end Go.Proofs.YtklbcpofihgmlaaGreat
namespace Go.Proofs.YtklbcpofihgmlaaGreat
def joinsX (a b:Xt):Bool:=Nat.beq (a.at_+a.count) b.at_ && Nat.beq (a.start+a.count) b.start
def mergeX (a b:Xt):Xt:=⟨a.at_,a.start,a.count+b.count⟩
def idxX (l:List Xt) (k:Nat):Nat:=match l with
  | []=>0
  | y :: l=>bif Nat.ble k y.at_ then 0 else idxX l k+1
def insX (l:List Xt) (x:Xt):List Xt:=match l with
  | []=>[x]
  | y :: l=>bif Nat.ble x.at_ y.at_ then x :: y :: l else y :: insX l x
def joinAt:Nat→List Xt→List Xt
  | 0,a :: b :: l=>bif joinsX a b then mergeX a b :: l else a :: b :: l
  | 0,l=>l
  | _+1,[]=>[]
  | j+1,a :: l=>a :: joinAt j l
def addP (l:List Xt) (x:Xt):List Xt:=match idxX l x.at_ with
  | 0=>joinAt 0 (insX l x)
  | i+1=>joinAt i (joinAt (i+1) (insX l x))
theorem insX_eq (x:Xt):∀ (l:List Xt),insX l x=l.take (idxX l x.at_)++x :: l.drop (idxX l x.at_)
  | []=>rfl
  | y :: l=>by
    rw [insX,idxX]
    cases hb:Nat.ble x.at_ y.at_ with
    | true=>rfl
    | false=>simp only [cond_false,List.take_succ_cons,List.drop_succ_cons,List.cons_append]; rw [insX_eq x l]
theorem idxX_le (k:Nat):∀ (l:List Xt),idxX l k≤l.length
  | []=>Nat.le_refl _
  | y :: l=>by
    rw [idxX]
    cases Nat.ble k y.at_ with
    | true=>exact Nat.zero_le _
    | false=>simp only [cond_false,List.length_cons]; have:=idxX_le k l; omega
theorem joinsX_iff {a b:Xt}:joinsX a b=true↔a.at_+a.count=b.at_∧a.start+a.count=b.start:=by
  simp only [joinsX,Bool.and_eq_true,Nat.beq_eq]
theorem joinAt_find (k:Nat):∀ (j:Nat) (l:List Xt),findP (joinAt j l) k=findP l k
  | 0,[]=>rfl
  | 0,[a]=>rfl
  | _+1,[]=>rfl
  | j+1,a :: l=>by
    show findP (a :: joinAt j l) k=_
    simp only [findP]
    rw [joinAt_find k j l]
  | 0,a :: b :: l=>by
    rw [joinAt]
    cases hj:joinsX a b with
    | false=>rfl
    | true =>
      obtain ⟨h1,h2⟩:=joinsX_iff.1 hj
      simp only [cond_true,findP,mergeX]
      by_cases g1:a.at_≤k∧k < a.at_+a.count
      · rw [if_pos g1,if_pos (by omega)]
      · rw [if_neg g1]
        by_cases g2:b.at_≤k∧k < b.at_+b.count
        · rw [if_pos g2,if_pos (by omega)]; congr 1; omega
        · rw [if_neg g2,if_neg (by omega)]
theorem joinAt_right:∀ (j e:Nat) (l:List Xt),rightX e l=true→rightX e (joinAt j l)=true
  | 0,_,[],h=>h
  | 0,_,[a],h=>h
  | _+1,_,[],h=>h
  | j+1,e,a :: l,h=>by
    show rightX e (a :: joinAt j l)=true
    rw [rightX_cons] at h ⊢
    exact ⟨h.1,joinAt_right j _ l h.2⟩
  | 0,e,a :: b :: l,h=>by
    rw [joinAt]
    cases hj:joinsX a b with
    | false=>exact h
    | true =>
      obtain ⟨h1,h2⟩:=joinsX_iff.1 hj
      simp only [cond_true]
      rw [rightX_cons,rightX_cons] at h
      obtain ⟨ha,hb,hl⟩:=h
      have:=hb.ato; have:=hb.sto; have:=ha.one
      rw [rightX_cons]
      refine ⟨⟨by show 1≤a.count+b.count; omega,ha.ge,ha.st,by show a.count+b.count≤512; omega,by show a.at_+(a.count+b.count)≤512; omega,by show a.start+(a.count+b.count)≤512; omega⟩,?_⟩
      show rightX (a.at_+(a.count+b.count)) l=true
      rw [show a.at_+(a.count+b.count)=b.at_+b.count by omega]
      exact hl
theorem blks_add (s a b:Nat) (p q:Nat):(Xt.mk p s (a+b)).blks=(Xt.mk p s a).blks++(Xt.mk q (s+a) b).blks:=by
  simp only [Xt.blks,List.range_add,List.map_append,List.map_map]
  congr 1
  apply List.map_congr_left
  intro x _
  simp only [Function.comp]; omega
theorem joinAt_blks:∀ (j:Nat) (l:List Xt),blksX (joinAt j l)=blksX l
  | 0,[]=>rfl
  | 0,[a]=>rfl
  | _+1,[]=>rfl
  | j+1,a :: l=>by
    show blksX (a :: joinAt j l)=_
    have:=joinAt_blks j l
    simp only [blksX,List.flatMap_cons] at this ⊢
    rw [this]
  | 0,a :: b :: l=>by
    rw [joinAt]
    cases hj:joinsX a b with
    | false=>rfl
    | true =>
      obtain ⟨h1,h2⟩:=joinsX_iff.1 hj
      simp only [cond_true,blksX,List.flatMap_cons,← List.append_assoc]
      congr 1
      have:=blks_add a.start a.count b.count a.at_ b.at_
      rw [h2] at this
      exact this
theorem joinAt_length:∀ (j:Nat) (l:List Xt),(joinAt j l).length≤l.length
  | 0,[]=>Nat.le_refl _
  | 0,[a]=>Nat.le_refl _
  | _+1,[]=>Nat.le_refl _
  | j+1,a :: l=>by
    show (a :: joinAt j l).length≤_
    have:=joinAt_length j l
    simp only [List.length_cons]; omega
  | 0,a :: b :: l=>by
    rw [joinAt]
    cases joinsX a b <;> simp
theorem insX_right {x:Xt}:∀ {l:List Xt} {e:Nat},rightX e l=true→XtOk e x→(∀ k,x.at_≤k→k < x.at_+x.count→findP l k=none)→rightX e (insX l x)=true
  | [],e,_,hx,_=>by rw [insX,rightX_cons]; exact ⟨hx,rfl⟩
  | y :: l,e,h,hx,hn=>by
    rw [rightX_cons] at h
    rw [insX]
    cases hb:Nat.ble x.at_ y.at_ with
    | true =>
      rw [Nat.ble_eq] at hb
      simp only [cond_true]
      have hle:x.at_+x.count≤y.at_:=by
        rcases Nat.lt_or_ge y.at_ (x.at_+x.count) with g | g
        · have:=hn y.at_ hb g
          rw [findP,if_pos ⟨Nat.le_refl _,by have:=h.1.one; omega⟩] at this
          cases this
        · exact g
      rw [rightX_cons,rightX_cons]
      exact ⟨hx,⟨h.1.one,hle,h.1.st,h.1.few,h.1.ato,h.1.sto⟩,h.2⟩
    | false =>
      have hb:¬ x.at_≤y.at_:=by intro g; rw [← Nat.ble_eq] at g; rw [g] at hb; cases hb
      simp only [cond_false]
      have hle:y.at_+y.count≤x.at_:=by
        rcases Nat.lt_or_ge x.at_ (y.at_+y.count) with g | g
        · have:=hn x.at_ (Nat.le_refl _) (by have:=hx.one; omega)
          rw [findP,if_pos ⟨by omega,g⟩] at this
          cases this
        · exact g
      rw [rightX_cons]
      refine ⟨h.1,insX_right h.2 ⟨hx.one,hle,hx.st,hx.few,hx.ato,hx.sto⟩ fun k h1 h2=>?_⟩
      have:=hn k h1 h2
      rw [findP,if_neg (by omega)] at this
      exact this
theorem insX_find {x:Xt} (k:Nat):∀ {l:List Xt} {e:Nat},rightX e (insX l x)=true→findP (insX l x) k=if x.at_≤k∧k < x.at_+x.count then some (x.start+k - x.at_) else findP l k
  | [],e,_=>rfl
  | y :: l,e,h=>by
    rw [insX] at h ⊢
    cases hb:Nat.ble x.at_ y.at_ with
    | true=>rw [cond_true,findP]
    | false =>
      rw [hb,cond_false,rightX_cons] at h
      rw [cond_false,findP,insX_find k h.2,findP]
      by_cases g:x.at_≤k∧k < x.at_+x.count
      · have hm:x ∈ insX l x:=by rw [insX_eq]; simp
        have:=(rightX_mem h.2 x hm).ge
        rw [if_pos g,if_neg (by omega),if_pos g]
      · rw [if_neg g,if_neg g]
theorem insX_blks (x:Xt) (l:List Xt):(blksX (insX l x)).Perm (x.blks++blksX l):=by
  rw [insX_eq]
  have:blksX l=blksX (l.take (idxX l x.at_))++blksX (l.drop (idxX l x.at_)):=by
    unfold blksX; rw [← List.flatMap_append,List.take_append_drop]
  rw [this]
  simp only [blksX,List.flatMap_append,List.flatMap_cons]
  rw [← List.append_assoc,← List.append_assoc]
  exact List.Perm.append_right _ List.perm_append_comm
theorem insX_length (x:Xt) (l:List Xt):(insX l x).length=l.length+1:=by
  rw [insX_eq]
  have:=idxX_le x.at_ l
  simp; omega
structure Added (l:List Xt) (x:Xt) (l':List Xt):Prop where
  right:rightX 0 l'=true
  find:∀ k,findP l' k=if x.at_≤k∧k < x.at_+x.count then some (x.start+k - x.at_) else findP l k
  blks:(blksX l').Perm (x.blks++blksX l)
  len:l'.length≤l.length+1
theorem addP_ok {l:List Xt} {x:Xt} (h:rightX 0 l=true) (hx:XtOk 0 x) (hn:∀ k,x.at_≤k→k < x.at_+x.count→findP l k=none):Added l x (addP l x):=by
  have hr:=insX_right h hx hn
  unfold addP
  have base:∀ l',(∃ j,l'=joinAt j (insX l x))→Added l x l':=by
    rintro l' ⟨j,rfl⟩
    refine ⟨joinAt_right _ _ _ hr,fun k=>by rw [joinAt_find,insX_find k hr],?_,?_⟩
    · rw [joinAt_blks]; exact insX_blks x l
    · rw [← insX_length x l]; exact joinAt_length _ _
  cases hi:idxX l x.at_ with
  | zero=>exact base _ ⟨0,rfl⟩
  | succ i =>
    have hb:=base (joinAt (i+1) (insX l x)) ⟨_,rfl⟩
    refine ⟨joinAt_right _ _ _ hb.right,fun k=>by rw [joinAt_find]; exact hb.find k,?_,?_⟩
    · rw [joinAt_blks]; exact hb.blks
    · exact Nat.le_trans (joinAt_length _ _) hb.len
def keptP (at_:Nat):List Xt→List Xt
  | []=>[]
  | x :: l=>bif Nat.blt 0 (min (at_ - x.at_) x.count) then ⟨x.at_,x.start,min (at_ - x.at_) x.count⟩ :: keptP at_ l else keptP at_ l
def restP (at_:Nat):List Xt→List Xt
  | []=>[]
  | x :: l=>bif Nat.blt (min (at_ - x.at_) x.count) x.count then ⟨x.at_+min (at_ - x.at_) x.count,x.start+min (at_ - x.at_) x.count,x.count - min (at_ - x.at_) x.count⟩ :: restP at_ l else restP at_ l
theorem blt_false {a b:Nat} (h:Nat.blt a b=false):b≤a:=by
  rcases Nat.lt_or_ge a b with g | g
  · rw [← Nat.blt_eq] at g; rw [g] at h; cases h
  · exact g
theorem keptP_right (at_:Nat):∀ {l:List Xt} {e:Nat},rightX e l=true→rightX e (keptP at_ l)=true
  | [],_,h=>h
  | x :: l,e,h=>by
    rw [rightX_cons] at h
    have ih:=keptP_right at_ h.2
    have hx:=h.1
    rw [keptP]
    cases hb:Nat.blt 0 (min (at_ - x.at_) x.count) with
    | true =>
      rw [Nat.blt_eq] at hb
      have:=hx.ato; have:=hx.sto; have:=hx.few
      rw [cond_true,rightX_cons]
      refine ⟨⟨hb,hx.ge,hx.st,by show min _ _≤512; omega,by show x.at_+min _ _≤512; omega,by show x.start+min _ _≤512; omega⟩,rightX_mono ?_ ih⟩
      show x.at_+min _ _≤_; omega
    | false =>
      rw [cond_false]
      exact rightX_mono (by have:=hx.ge; omega) ih
theorem restP_right (at_:Nat):∀ {l:List Xt} {e:Nat},rightX e l=true→rightX e (restP at_ l)=true
  | [],_,h=>h
  | x :: l,e,h=>by
    rw [rightX_cons] at h
    have ih:=restP_right at_ h.2
    have hx:=h.1
    have:=hx.ge; have:=hx.ato; have:=hx.sto; have:=hx.st; have:=hx.few
    rw [restP]
    cases hb:Nat.blt (min (at_ - x.at_) x.count) x.count with
    | true =>
      rw [Nat.blt_eq] at hb
      rw [cond_true,rightX_cons]
      refine ⟨⟨by show 1≤x.count - min _ _; omega,by show e≤x.at_+min _ _; omega,by show 1≤x.start+min _ _; omega,by show x.count - min _ _≤512; omega,by show x.at_+min _ _+(x.count - min _ _)≤512; omega,by show x.start+min _ _+(x.count - min _ _)≤512; omega⟩,?_⟩
      show rightX (x.at_+min _ _+(x.count - min _ _)) _=true
      rw [show x.at_+min (at_ - x.at_) x.count+(x.count - min (at_ - x.at_) x.count)=x.at_+x.count by omega]
      exact ih
    | false =>
      rw [cond_false]
      exact rightX_mono (by omega) ih
theorem keptP_find (at_ k:Nat):∀ (l:List Xt),findP (keptP at_ l) k=if k < at_ then findP l k else none
  | []=>by simp [keptP,findP]
  | x :: l=>by
    have ih:=keptP_find at_ k l
    rw [keptP,findP]
    cases hb:Nat.blt 0 (min (at_ - x.at_) x.count) with
    | true =>
      rw [Nat.blt_eq] at hb
      simp only [cond_true,findP]
      rw [ih]
      by_cases h1:k < at_
      · rw [if_pos h1,if_pos h1]
        by_cases h2:x.at_≤k∧k < x.at_+x.count
        · rw [if_pos h2,if_pos (by omega)]
        · rw [if_neg h2,if_neg (by omega)]
      · rw [if_neg h1,if_neg h1,if_neg (by omega)]
    | false =>
      have hb:=blt_false hb
      simp only [cond_false]
      rw [ih]
      by_cases h1:k < at_
      · rw [if_pos h1,if_pos h1,if_neg (by omega)]
      · rw [if_neg h1,if_neg h1]
theorem cutP_blks (at_:Nat):∀ (l:List Xt),(blksX l).Perm (blksX (keptP at_ l)++blksX (restP at_ l))
  | []=>List.Perm.refl _
  | x :: l=>by
    have ih:=cutP_blks at_ l
    have hx:x.blks=(Xt.mk x.at_ x.start (min (at_ - x.at_) x.count)).blks++(Xt.mk (x.at_+min (at_ - x.at_) x.count) (x.start+min (at_ - x.at_) x.count) (x.count - min (at_ - x.at_) x.count)).blks:=by
      have:=blks_add x.start (min (at_ - x.at_) x.count) (x.count - min (at_ - x.at_) x.count) x.at_ (x.at_+min (at_ - x.at_) x.count)
      rw [show min (at_ - x.at_) x.count+(x.count - min (at_ - x.at_) x.count)=x.count by omega] at this
      exact this
    have e1:blksX (keptP at_ (x :: l))=(Xt.mk x.at_ x.start (min (at_ - x.at_) x.count)).blks++blksX (keptP at_ l):=by
      rw [keptP]
      cases hb:Nat.blt 0 (min (at_ - x.at_) x.count) with
      | true=>simp [blksX]
      | false =>
        have hb:=blt_false hb
        have:min (at_ - x.at_) x.count=0:=by omega
        rw [this]; simp [Xt.blks]
    have e2:blksX (restP at_ (x :: l))=(Xt.mk (x.at_+min (at_ - x.at_) x.count) (x.start+min (at_ - x.at_) x.count) (x.count - min (at_ - x.at_) x.count)).blks++blksX (restP at_ l):=by
      rw [restP]
      cases hb:Nat.blt (min (at_ - x.at_) x.count) x.count with
      | true=>simp [blksX]
      | false =>
        have hb:=blt_false hb
        have:x.count - min (at_ - x.at_) x.count=0:=by omega
        rw [this]; simp [Xt.blks]
    rw [e1,e2]
    have e3:blksX (x :: l)=x.blks++blksX l:=by simp [blksX]
    rw [e3,hx]
    simp only [List.append_assoc]
    refine List.Perm.append_left _ ?_
    refine (List.Perm.append_left _ ih).trans ?_
    rw [← List.append_assoc,← List.append_assoc]
    exact List.Perm.append_right _ List.perm_append_comm
theorem cutP_none (at_:Nat):∀ (l:List Xt),restP at_ l=[]→(∀ x ∈ l,1≤x.count)→keptP at_ l=l
  | [],_,_=>rfl
  | x :: l,h,hp=>by
    have h1:=hp x (by simp)
    rw [restP] at h
    cases hb:Nat.blt (min (at_ - x.at_) x.count) x.count with
    | true=>rw [hb] at h; cases h
    | false =>
      rw [hb] at h
      have hb:=blt_false hb
      rw [keptP,cutP_none at_ l h (fun y hy=>hp y (by simp [hy]))]
      have e:min (at_ - x.at_) x.count=x.count:=by omega
      rw [e]
      have:Nat.blt 0 x.count=true:=by rw [Nat.blt_eq]; omega
      rw [this]; rfl
theorem keptP_length (at_:Nat):∀ (l:List Xt),(keptP at_ l).length≤l.length
  | []=>Nat.le_refl _
  | x :: l=>by
    have:=keptP_length at_ l
    rw [keptP]
    cases Nat.blt 0 (min (at_ - x.at_) x.count)
    · simp only [cond_false,List.length_cons]; omega
    · simp only [cond_true,List.length_cons]; omega
end Go.Proofs.YtklbcpofihgmlaaGreat
namespace Go.Proofs.YtklbcpofihgmlaaGreat
theorem allocP_free:∀ (f:Nat) (used:List Bool) (n:Nat) (u:List Bool) (xs:List (Nat × Nat)),allocP f used n=some (u,xs)→freeN u+n=freeN used
  | f,used,0,u,xs,h=>by
    have e:allocP f used 0=some (used,[]):=by cases f <;> rfl
    rw [e] at h; cases h; rfl
  | 0,used,n+1,u,xs,h=>by cases h
  | f+1,used,n+1,u,xs,h=>by
    have hb:=bestP_ok used (n+1) (by omega)
    have hle:=bestP_le used (n+1)
    rw [allocP] at h
    try simp only [] at h
    cases hc:(bestP used (n+1)).2 with
    | zero=>rw [hc] at h; cases h
    | succ c =>
      rw [hc] at h
      simp only [] at h
      have hh:=hb.1 (by omega)
      have hfree:=hh.free
      have hl:=hh.le
      rw [hc] at hfree hl
      have hmf:=markP_free (bestP used (n+1)).1 (c+1) used hl hfree
      cases hr:allocP f (markP (bestP used (n+1)).1 (c+1) used) (n+1 - (c+1)) with
      | none=>rw [hr] at h; cases h
      | some r =>
        obtain ⟨u',xs'⟩:=r
        rw [hr] at h
        simp only [Option.some.injEq,Prod.mk.injEq] at h
        obtain ⟨rfl,rfl⟩:=h
        have:=allocP_free f _ _ _ _ hr
        omega
def lackP (all:List Xt):Nat→Nat→Nat
  | _,0=>0
  | k,c+1=>bif (findP all k).isSome then 0 else lackP all (k+1) c+1
theorem lackP_le (all:List Xt):∀ (c k:Nat),lackP all k c≤c
  | 0,_=>Nat.le_refl _
  | c+1,k=>by
    rw [lackP]
    cases (findP all k).isSome with
    | true=>exact Nat.zero_le _
    | false=>have:=lackP_le all c (k+1); simp only [cond_false]; omega
theorem lackP_none (all:List Xt):∀ (c k j:Nat),k≤j→j < k+lackP all k c→findP all j=none
  | 0,k,j,h1,h2=>by simp only [lackP] at h2; omega
  | c+1,k,j,h1,h2=>by
    rw [lackP] at h2
    cases hf:(findP all k).isSome with
    | true=>rw [hf] at h2; simp only [cond_true] at h2; omega
    | false =>
      rw [hf] at h2
      simp only [cond_false] at h2
      rcases Nat.lt_or_ge k j with g | g
      · exact lackP_none all c (k+1) j g (by omega)
      · rw [show j=k by omega]; simpa using hf
theorem lackP_stop (all:List Xt):∀ (c k:Nat),lackP all k c < c→(findP all (k+lackP all k c)).isSome=true
  | 0,k,h=>by simp [lackP] at h
  | c+1,k,h=>by
    rw [lackP] at h ⊢
    cases hf:(findP all k).isSome with
    | true=>simpa using hf
    | false =>
      rw [hf] at h
      simp only [cond_false] at h ⊢
      have:=lackP_stop all c (k+1) (by omega)
      rw [show k+(lackP all (k+1) c+1)=k+1+lackP all (k+1) c by omega]
      exact this
def placeP:Nat→List (Nat × Nat)→List Xt→List Xt
  | _,[],all=>all
  | k,x :: xs,all=>placeP (k+x.2) xs (addP all ⟨k,x.1,x.2⟩)
def zerP (xs:List (Nat × Nat)):List Nat:=xs.flatMap fun x=>(List.range x.2).map (x.1+·)
theorem mem_zerP {xs:List (Nat × Nat)} {b:Nat}:b ∈ zerP xs↔∃ x ∈ xs,x.1≤b∧b < x.1+x.2:=by
  simp only [zerP,List.mem_flatMap,List.mem_map,List.mem_range]
  constructor
  · rintro ⟨x,hx,a,h,rfl⟩; exact ⟨x,hx,by omega,by omega⟩
  · rintro ⟨x,hx,h1,h2⟩; exact ⟨x,hx,b - x.1,by omega,by omega⟩
theorem zerP_length:∀ (xs:List (Nat × Nat)),(zerP xs).length=(xs.map Prod.snd).sum
  | []=>rfl
  | x :: xs=>by
    have:=zerP_length xs
    unfold zerP at this ⊢
    rw [List.flatMap_cons,List.length_append,this]; simp
theorem range_nodup (s c:Nat):((List.range c).map (s+·)).Nodup:=by
  rw [List.nodup_iff_pairwise_ne,List.pairwise_map]
  refine (List.nodup_range (n:=c)).imp fun {a b} h=>?_
  omega
theorem zerP_nodup:∀ {xs:List (Nat × Nat)},(xs.Pairwise fun x y=>x.1+x.2≤y.1∨y.1+y.2≤x.1)→(zerP xs).Nodup
  | [],_=>by simp [zerP]
  | x :: xs,h=>by
    rw [List.pairwise_cons] at h
    have ih:=zerP_nodup h.2
    have e:zerP (x :: xs)=(List.range x.2).map (x.1+·)++zerP xs:=by simp [zerP]
    rw [e,List.nodup_append]
    refine ⟨range_nodup _ _,ih,?_⟩
    intro a ha b hb hab
    subst hab
    obtain ⟨y,hy,h1,h2⟩:=mem_zerP.1 hb
    simp only [List.mem_map,List.mem_range] at ha
    obtain ⟨i,hi,rfl⟩:=ha
    rcases h.1 y hy with g | g <;> omega
structure Placed (k m:Nat) (xs:List (Nat × Nat)) (all all':List Xt):Prop where
  right:rightX 0 all'=true
  same:∀ j,¬ (k≤j∧j < k+m)→findP all' j=findP all j
  new:∀ j,k≤j→j < k+m→∃ b,findP all' j=some b∧b ∈ zerP xs
  blks:(blksX all').Perm (zerP xs++blksX all)
  len:all'.length≤all.length+xs.length
theorem placeP_ok (n:Nat) (hn:n≤512):∀ (xs:List (Nat × Nat)) (k m:Nat) (all:List Xt),rightX 0 all=true→(xs.map Prod.snd).sum=m→k+m≤512 →
    (∀ x ∈ xs,0 < x.2∧1≤x.1∧x.1+x.2≤n)→(∀ j,k≤j→j < k+m→findP all j=none)→Placed k m xs all (placeP k xs all)
  | [],k,m,all,hr,hs,hk,_,_=>by
    simp only [List.map_nil,List.sum_nil] at hs
    subst hs
    exact ⟨hr,fun _ _=>rfl,fun j h1 h2=>by omega,by simp [zerP,placeP],Nat.le_refl _⟩
  | x :: xs,k,m,all,hr,hs,hk,hx,hno=>by
    simp only [List.map_cons,List.sum_cons] at hs
    obtain ⟨h1,h2,h3⟩:=hx x (by simp)
    have hA:=addP_ok hr (x:=⟨k,x.1,x.2⟩) ⟨h1,Nat.zero_le _,h2,by show x.2≤512; omega,by show k+x.2≤512; omega,by show x.1+x.2≤512; omega⟩ (fun j a b=>hno j a (by simp only [] at b; omega))
    have hf:=hA.find
    simp only [] at hf
    have ih:=placeP_ok n hn xs (k+x.2) (m - x.2) (addP all ⟨k,x.1,x.2⟩) hA.right (by omega) (by omega) (fun y hy=>hx y (by simp [hy]))
      (fun j a b=>by rw [hf j,if_neg (by omega)]; exact hno j (by omega) (by omega))
    have e:zerP (x :: xs)=(Xt.mk k x.1 x.2).blks++zerP xs:=by simp [zerP,Xt.blks]
    refine ⟨ih.right,?_,?_,?_,?_⟩
    · intro j hj
      show findP (placeP (k+x.2) xs (addP all ⟨k,x.1,x.2⟩)) j=_
      rw [ih.same j (by omega),hf j,if_neg (by omega)]
    · intro j a b
      show ∃ y,findP (placeP (k+x.2) xs (addP all ⟨k,x.1,x.2⟩)) j=some y∧_
      rcases Nat.lt_or_ge j (k+x.2) with g | g
      · rw [ih.same j (by omega),hf j,if_pos ⟨a,g⟩]
        exact ⟨_,rfl,by rw [mem_zerP]; exact ⟨x,by simp,by omega,by omega⟩⟩
      · obtain ⟨y,h4,h5⟩:=ih.new j g (by omega)
        exact ⟨y,h4,by rw [e]; exact List.mem_append_right _ h5⟩
    · show (blksX (placeP (k+x.2) xs (addP all ⟨k,x.1,x.2⟩))).Perm _
      refine ih.blks.trans ?_
      rw [e]
      refine (List.Perm.append_left _ hA.blks).trans ?_
      rw [← List.append_assoc]
      exact List.Perm.append_right _ List.perm_append_comm
    · show (placeP (k+x.2) xs (addP all ⟨k,x.1,x.2⟩)).length≤_
      have:=ih.len
      have:=hA.len
      simp only [List.length_cons]; omega
structure Gr where
  used:List Bool
  all:List Xt
  zer:List Nat
def growP:Nat→Nat→Nat→Gr→Option Gr
  | 0,_,_,g=>some g
  | f+1,k,to,g=>bif Nat.blt k to then (match lackP g.all k (to - k) with
      | 0=>growP f (k+1) to g
      | m+1=>match allocP (m+1) g.used (m+1) with
        | none=>none
        | some (u,xs)=>growP f (k+(m+1)+1) to ⟨u,placeP k xs g.all,g.zer++zerP xs⟩)
    else some g
structure TakenB (n:Nat) (used:List Bool) (bs:List Nat) (O:Nat→Prop):Prop where
  len:used.length=n
  iff:∀ i,i < n→(used[i]?=some true↔i ∈ bs∨O i)
  nodup:bs.Nodup
  apart:∀ i ∈ bs,¬ O i∧i < n
theorem TakenB.free {n:Nat} {used:List Bool} {bs:List Nat} {O:Nat→Prop} (h:TakenB n used bs O) {i:Nat} (hi:used[i]?=some false):i < n∧i ∉ bs∧¬ O i:=by
  have hlt:i < n:=by
    rw [← h.len]
    rcases Nat.lt_or_ge i used.length with g | g
    · exact g
    · rw [List.getElem?_eq_none g] at hi; cases hi
  have:=h.iff i hlt
  refine ⟨hlt,fun hm=>?_,fun hm=>?_⟩
  · rw [this.2 (.inl hm)] at hi; cases hi
  · rw [this.2 (.inr hm)] at hi; cases hi
theorem TakenB.take {n:Nat} {used:List Bool} {bs:List Nat} {O:Nat→Prop} (h:TakenB n used bs O) {m:Nat} {u:List Bool} {xs:List (Nat × Nat)} (hf:Found used m u xs) {bs':List Nat} (hp:bs'.Perm (zerP xs++bs)):TakenB n u bs' O:=by
  have hz:∀ i ∈ zerP xs,used[i]?=some false:=fun i hi=>by
    obtain ⟨x,hx,h1,h2⟩:=mem_zerP.1 hi
    exact (hf.pos x hx).2.2 i h1 h2
  refine ⟨hf.len.trans h.len,fun i hi=>?_,?_,?_⟩
  · rw [hf.now i (by rw [h.len]; exact hi),hp.mem_iff,List.mem_append,mem_zerP]
    have:=h.iff i hi
    have hlt:i < used.length:=by rw [h.len]; exact hi
    rw [List.getElem?_eq_getElem hlt] at this
    rw [List.getD_eq_getElem?_getD,List.getElem?_eq_getElem hlt]
    simp only [Option.some.injEq,Option.getD_some,Bool.or_eq_true,decide_eq_true_eq] at this ⊢
    rw [this,or_assoc]
  · rw [hp.nodup_iff,List.nodup_append]
    refine ⟨zerP_nodup hf.apart,h.nodup,?_⟩
    intro a ha b hb hab
    subst hab
    exact (h.free (hz a ha)).2.1 hb
  · intro i hi
    rw [hp.mem_iff,List.mem_append] at hi
    rcases hi with hi | hi
    · exact ⟨(h.free (hz i hi)).2.2,(h.free (hz i hi)).1⟩
    · exact h.apart i hi
structure Grown (n k to:Nat) (g g':Gr) (O:Nat→Prop):Prop where
  right:rightX 0 g'.all=true
  own:TakenB n g'.used (blksX g'.all) O
  old:∀ j b,findP g.all j=some b→findP g'.all j=some b
  same:∀ j,¬ (k≤j∧j < to)→findP g'.all j=findP g.all j
  all:∀ j,k≤j→j < to→(findP g'.all j).isSome=true
  new:∃ zs,g'.zer=g.zer++zs∧(blksX g'.all).Perm (zs++blksX g.all)∧(∀ b ∈ zs,g.used[b]?=some false)∧(∀ j b,findP g.all j=none→findP g'.all j=some b→b ∈ zs)∧freeN g'.used+zs.length=freeN g.used∧zs.length≤to - k
theorem growP_ok (n:Nat) (hn:n≤512) (O:Nat→Prop) (hO:O 0) (to:Nat) (hto:to≤512):∀ (f k:Nat) (g:Gr),to - k≤f→rightX 0 g.all=true→TakenB n g.used (blksX g.all) O →
    (∀ g',growP f k to g=some g'→Grown n k to g g' O)∧(growP f k to g=none→freeN g.used < to - k)
  | 0,k,g,hf,hr,ho=>by
    refine ⟨fun g' h=>?_,fun h=>by cases h⟩
    cases h
    exact ⟨hr,ho,fun _ _ h=>h,fun _ _=>rfl,fun j h1 h2=>by omega,[],by simp,List.Perm.refl _,by simp,fun j b h1 h2=>(by rw [h1] at h2; cases h2),rfl,Nat.zero_le _⟩
  | f+1,k,g,hf,hr,ho=>by
    rw [growP]
    cases hlt:Nat.blt k to with
    | false =>
      have:=blt_false hlt
      refine ⟨fun g' h=>?_,fun h=>by cases h⟩
      cases h
      exact ⟨hr,ho,fun _ _ h=>h,fun _ _=>rfl,fun j h1 h2=>by omega,[],by simp,List.Perm.refl _,by simp,fun j b h1 h2=>(by rw [h1] at h2; cases h2),rfl,Nat.zero_le _⟩
    | true =>
      rw [Nat.blt_eq] at hlt
      simp only [cond_true]
      have hle:=lackP_le g.all (to - k) k
      have hst:=lackP_stop g.all (to - k) k
      have hnn:=lackP_none g.all (to - k) k
      cases hm:lackP g.all k (to - k) with
      | zero =>
        simp only []
        have ih:=growP_ok n hn O hO to hto f (k+1) g (by omega) hr ho
        rw [hm] at hst
        have hk:(findP g.all k).isSome=true:=hst (by omega)
        refine ⟨fun g' h=>?_,fun h=>by have:=ih.2 h; omega⟩
        have hg:=ih.1 g' h
        obtain ⟨zs,z1,z2,z3,z4,z5,z6⟩:=hg.new
        refine ⟨hg.right,hg.own,hg.old,fun j hj=>hg.same j (by omega),fun j h1 h2=>?_,zs,z1,z2,z3,z4,z5,by omega⟩
        rcases Nat.lt_or_ge k j with q | q
        · exact hg.all j q h2
        · rw [show j=k by omega]
          obtain ⟨b,hb⟩:=Option.isSome_iff_exists.1 hk
          rw [hg.old k b hb]; rfl
      | succ m =>
        simp only []
        rw [hm] at hle hst hnn
        have hal:=allocP_ok (m+1) g.used (m+1) (Nat.le_refl _)
        have hfr:=allocP_free (m+1) g.used (m+1)
        cases ha:allocP (m+1) g.used (m+1) with
        | none=>exact ⟨fun g' h=>(by cases h),fun _=>by have:=hal.2 ha; omega⟩
        | some r =>
          obtain ⟨u,xs⟩:=r
          simp only []
          have hF:=hal.1 u xs ha
          have hfr:=hfr u xs ha
          have hz:∀ i ∈ zerP xs,g.used[i]?=some false:=fun i hi=>by
            obtain ⟨x,hx,h1,h2⟩:=mem_zerP.1 hi
            exact (hF.pos x hx).2.2 i h1 h2
          have hpos:∀ x ∈ xs,0 < x.2∧1≤x.1∧x.1+x.2≤n:=by
            intro x hx
            obtain ⟨h1,h2,h3⟩:=hF.pos x hx
            refine ⟨h1,?_,by rw [← ho.len]; exact h2⟩
            rcases Nat.eq_zero_or_pos x.1 with e | e
            · exact absurd hO (by have:=(ho.free (h3 0 (by omega) (by omega))).2.2; exact this)
            · exact e
          have hP:=placeP_ok n hn xs k (m+1) g.all hr hF.sum (by omega) hpos (fun j h1 h2=>hnn j h1 h2)
          have ho':TakenB n u (blksX (placeP k xs g.all)) O:=ho.take hF hP.blks
          have ih:=growP_ok n hn O hO to hto f (k+(m+1)+1) ⟨u,placeP k xs g.all,g.zer++zerP xs⟩ (by omega) hP.right ho'
          refine ⟨fun g' h=>?_,fun h=>?_⟩
          · have hg:=ih.1 g' h
            obtain ⟨zs,z1,z2,z3,z4,z5,z6⟩:=hg.new
            simp only [] at z1 z2 z3 z4 z5 z6
            have hold:∀ j b,findP g.all j=some b→findP (placeP k xs g.all) j=some b:=by
              intro j b hb
              rw [hP.same j]; exact hb
              intro hj
              rw [hnn j hj.1 hj.2] at hb; cases hb
            have hlen:(zerP xs).length=m+1:=by rw [zerP_length]; exact hF.sum
            refine ⟨hg.right,hg.own,fun j b hb=>hg.old j b (hold j b hb),fun j hj=>?_,fun j h1 h2=>?_,zerP xs++zs,by rw [z1,List.append_assoc],?_,?_,?_,?_,?_⟩
            · rw [hg.same j (by omega)]; exact hP.same j (by omega)
            · rcases Nat.lt_or_ge j (k+(m+1)+1) with q | q
              · rcases Nat.lt_or_ge j (k+(m+1)) with q2 | q2
                · obtain ⟨b,hb,_⟩:=hP.new j h1 q2
                  rw [hg.old j b hb]; rfl
                · have hj:j=k+(m+1):=by omega
                  have:=hst (by omega)
                  rw [← hj] at this
                  obtain ⟨b,hb⟩:=Option.isSome_iff_exists.1 this
                  rw [hg.old j b (hold j b hb)]; rfl
              · exact hg.all j q h2
            · refine z2.trans ((List.Perm.append_left _ hP.blks).trans ?_)
              rw [← List.append_assoc]
              exact List.Perm.append_right _ List.perm_append_comm
            · intro b hb
              rcases List.mem_append.1 hb with hb | hb
              · exact hz b hb
              · have h3:=z3 b hb
                have hbl:=ho'.free h3
                have hb3:=hF.now b (by rw [ho.len]; exact hbl.1)
                rw [h3] at hb3
                simp only [Option.some.injEq] at hb3
                have hb4:g.used.getD b true=false:=by
                  have:=hb3.symm
                  rw [Bool.or_eq_false_iff] at this
                  exact this.2
                have hlt:b < g.used.length:=by rw [ho.len]; exact hbl.1
                rw [List.getD_eq_getElem?_getD,List.getElem?_eq_getElem hlt] at hb4
                rw [List.getElem?_eq_getElem hlt]
                simp only [Option.getD_some] at hb4
                rw [hb4]
            · intro j b h1 h2
              by_cases q:k≤j∧j < k+(m+1)
              · obtain ⟨b',hb',hz'⟩:=hP.new j q.1 q.2
                have:=hg.old j b' hb'
                rw [h2] at this
                cases this
                exact List.mem_append_left _ hz'
              · rw [← hP.same j q] at h1
                exact List.mem_append_right _ (z4 j b h1 h2)
            · rw [List.length_append]; omega
            · rw [List.length_append]; omega
          · have:=ih.2 h
            simp only [] at this
            omega
end Go.Proofs.YtklbcpofihgmlaaGreat
namespace Go.Proofs.YtklbcpofihgmlaaGreat
open Go.Sl
noncomputable def tab:Tab:=[
  (0,⟨Tryz.t0.desc,Tryz.t0.size,(Tryz.t0.zero).getD undef,Tryz.t0.bytes⟩),
  (1,⟨Tryz.t1.desc,Tryz.t1.size,(Tryz.t1.zero).getD undef,Tryz.t1.bytes⟩),
  (2,⟨Tryz.t2.desc,Tryz.t2.size,(Tryz.t2.zero).getD undef,Tryz.t2.bytes⟩),
  (3,⟨Tryz.t3.desc,Tryz.t3.size,(Tryz.t3.zero).getD undef,Tryz.t3.bytes⟩),
  (4,⟨Tryz.t4.desc,Tryz.t4.size,(Tryz.t4.zero).getD undef,Tryz.t4.bytes⟩),
  (5,⟨Tryz.t5.desc,Tryz.t5.size,(Tryz.t5.zero).getD undef,Tryz.t5.bytes⟩),
  (6,⟨Tryz.t5.desc,Tryz.t6.size,(Tryz.t6.zero).getD undef,Tryz.t6.bytes⟩),
  (7,⟨Tryz.t7.desc,Tryz.t7.size,(Tryz.t7.zero).getD undef,Tryz.t7.bytes⟩),
  (8,⟨Tryz.t7.desc,Tryz.t8.size,(Tryz.t8.zero).getD undef,Tryz.t8.bytes⟩),
  (9,⟨Tryz.t9.desc,Tryz.t9.size,(Tryz.t9.zero).getD undef,Tryz.t9.bytes⟩),
  (10,⟨Tryz.t9.desc,Tryz.t10.size,(Tryz.t10.zero).getD undef,Tryz.t10.bytes⟩),
  (11,⟨Tryz.t9.desc,Tryz.t11.size,(Tryz.t11.zero).getD undef,Tryz.t11.bytes⟩),
  (12,⟨Tryz.t12.desc,Tryz.t12.size,(Tryz.t12.zero).getD undef,Tryz.t12.bytes⟩),
  (13,⟨Tryz.t13.desc,Tryz.t13.size,(Tryz.t13.zero).getD undef,Tryz.t13.bytes⟩),
  (14,⟨Tryz.t13.desc,Tryz.t14.size,(Tryz.t14.zero).getD undef,Tryz.t14.bytes⟩),
  (15,⟨Tryz.t15.desc,Tryz.t15.size,(Tryz.t15.zero).getD undef,Tryz.t15.bytes⟩),
  (16,⟨Tryz.t16.desc,Tryz.t16.size,(Tryz.t16.zero).getD undef,Tryz.t16.bytes⟩),
  (17,⟨Tryz.t17.desc,Tryz.t17.size,(Tryz.t17.zero).getD undef,Tryz.t17.bytes⟩),
  (18,⟨Tryz.t18.desc,Tryz.t18.size,(Tryz.t18.zero).getD undef,Tryz.t18.bytes⟩),
  (19,⟨Tryz.t18.desc,Tryz.t19.size,(Tryz.t19.zero).getD undef,Tryz.t19.bytes⟩),
  (20,⟨Tryz.t20.desc,Tryz.t20.size,(Tryz.t20.zero).getD undef,Tryz.t20.bytes⟩),
  (21,⟨Tryz.t21.desc,Tryz.t21.size,(Tryz.t21.zero).getD undef,Tryz.t21.bytes⟩),
  (22,⟨Tryz.t22.desc,Tryz.t22.size,(Tryz.t22.zero).getD undef,Tryz.t22.bytes⟩),
  (23,⟨Tryz.t23.desc,Tryz.t23.size,(Tryz.t23.zero).getD undef,Tryz.t23.bytes⟩),
  (24,⟨Tryz.t23.desc,Tryz.t24.size,(Tryz.t24.zero).getD undef,Tryz.t24.bytes⟩),
  (25,⟨Tryz.t25.desc,Tryz.t25.size,(Tryz.t25.zero).getD undef,Tryz.t25.bytes⟩),
  (26,⟨Tryz.t26.desc,Tryz.t26.size,(Tryz.t26.zero).getD undef,Tryz.t26.bytes⟩),
  (27,⟨Tryz.t3.desc,Tryz.t27.size,(Tryz.t27.zero).getD undef,Tryz.t27.bytes⟩),
  (28,⟨Tryz.t28.desc,Tryz.t28.size,(Tryz.t28.zero).getD undef,Tryz.t28.bytes⟩),
  (29,⟨Tryz.t29.desc,Tryz.t29.size,(Tryz.t29.zero).getD undef,Tryz.t29.bytes⟩),
  (30,⟨Tryz.t30.desc,Tryz.t30.size,(Tryz.t30.zero).getD undef,Tryz.t30.bytes⟩),
  (31,⟨Tryz.t31.desc,Tryz.t31.size,(Tryz.t31.zero).getD undef,Tryz.t31.bytes⟩),
  (32,⟨Tryz.t32.desc,Tryz.t32.size,(Tryz.t32.zero).getD undef,Tryz.t32.bytes⟩),
  (33,⟨Tryz.t33.desc,Tryz.t33.size,(Tryz.t33.zero).getD undef,Tryz.t33.bytes⟩),
  (34,⟨Tryz.t34.desc,Tryz.t34.size,(Tryz.t34.zero).getD undef,Tryz.t34.bytes⟩),
  (35,⟨Tryz.t35.desc,Tryz.t35.size,(Tryz.t35.zero).getD undef,Tryz.t35.bytes⟩),
  (36,⟨Tryz.t35.desc,Tryz.t36.size,(Tryz.t36.zero).getD undef,Tryz.t36.bytes⟩),
  (37,⟨Tryz.t37.desc,Tryz.t37.size,(Tryz.t37.zero).getD undef,Tryz.t37.bytes⟩),
  (38,⟨Tryz.t38.desc,Tryz.t38.size,(Tryz.t38.zero).getD undef,Tryz.t38.bytes⟩),
  (39,⟨Tryz.t39.desc,Tryz.t39.size,(Tryz.t39.zero).getD undef,Tryz.t39.bytes⟩),
  (40,⟨Tryz.t40.desc,Tryz.t40.size,(Tryz.t40.zero).getD undef,Tryz.t40.bytes⟩),
  (41,⟨Tryz.t41.desc,Tryz.t41.size,(Tryz.t41.zero).getD undef,Tryz.t41.bytes⟩),
  (42,⟨Tryz.t42.desc,Tryz.t42.size,(Tryz.t42.zero).getD undef,Tryz.t42.bytes⟩),
  (43,⟨Tryz.t43.desc,Tryz.t43.size,(Tryz.t43.zero).getD undef,Tryz.t43.bytes⟩),
  (44,⟨Tryz.t33.desc,Tryz.t44.size,(Tryz.t44.zero).getD undef,Tryz.t44.bytes⟩),
  (45,⟨Tryz.t45.desc,Tryz.t45.size,(Tryz.t45.zero).getD undef,Tryz.t45.bytes⟩),
  (46,⟨Tryz.t46.desc,Tryz.t46.size,(Tryz.t46.zero).getD undef,Tryz.t46.bytes⟩),
  (47,⟨Tryz.t47.desc,Tryz.t47.size,(Tryz.t47.zero).getD undef,Tryz.t47.bytes⟩),
  (48,⟨Tryz.t48.desc,Tryz.t48.size,(Tryz.t48.zero).getD undef,Tryz.t48.bytes⟩),
  (49,⟨Tryz.t49.desc,Tryz.t49.size,(Tryz.t49.zero).getD undef,Tryz.t49.bytes⟩),
  (50,⟨Tryz.t50.desc,Tryz.t50.size,(Tryz.t50.zero).getD undef,Tryz.t50.bytes⟩),
  (51,⟨Tryz.t51.desc,Tryz.t51.size,(Tryz.t51.zero).getD undef,Tryz.t51.bytes⟩),
  (52,⟨Tryz.t52.desc,Tryz.t52.size,(Tryz.t52.zero).getD undef,Tryz.t52.bytes⟩),
  (53,⟨Tryz.t52.desc,Tryz.t53.size,(Tryz.t53.zero).getD undef,Tryz.t53.bytes⟩),
  (54,⟨Tryz.t54.desc,Tryz.t54.size,(Tryz.t54.zero).getD undef,Tryz.t54.bytes⟩),
  (55,⟨Tryz.t55.desc,Tryz.t55.size,(Tryz.t55.zero).getD undef,Tryz.t55.bytes⟩),
  (56,⟨Tryz.t56.desc,Tryz.t56.size,(Tryz.t56.zero).getD undef,Tryz.t56.bytes⟩),
  (57,⟨Tryz.t57.desc,Tryz.t57.size,(Tryz.t57.zero).getD undef,Tryz.t57.bytes⟩),
  (58,⟨Tryz.t58.desc,Tryz.t58.size,(Tryz.t58.zero).getD undef,Tryz.t58.bytes⟩),
  (59,⟨Tryz.t59.desc,Tryz.t59.size,(Tryz.t59.zero).getD undef,Tryz.t59.bytes⟩),
  (60,⟨Tryz.t60.desc,Tryz.t60.size,(Tryz.t60.zero).getD undef,Tryz.t60.bytes⟩),
  (61,⟨Tryz.t61.desc,Tryz.t61.size,(Tryz.t61.zero).getD undef,Tryz.t61.bytes⟩),
  (62,⟨Tryz.t62.desc,Tryz.t62.size,(Tryz.t62.zero).getD undef,Tryz.t62.bytes⟩),
  (63,⟨Tryz.t63.desc,Tryz.t63.size,(Tryz.t63.zero).getD undef,Tryz.t63.bytes⟩),
  (64,⟨Tryz.t64.desc,Tryz.t64.size,(Tryz.t64.zero).getD undef,Tryz.t64.bytes⟩),
  (65,⟨Tryz.t65.desc,Tryz.t65.size,(Tryz.t65.zero).getD undef,Tryz.t65.bytes⟩),
  (66,⟨Tryz.t66.desc,Tryz.t66.size,(Tryz.t66.zero).getD undef,Tryz.t66.bytes⟩),
  (67,⟨Tryz.t67.desc,Tryz.t67.size,(Tryz.t67.zero).getD undef,Tryz.t67.bytes⟩),
  (68,⟨Tryz.t68.desc,Tryz.t68.size,(Tryz.t68.zero).getD undef,Tryz.t68.bytes⟩),
  (69,⟨Tryz.t68.desc,Tryz.t69.size,(Tryz.t69.zero).getD undef,Tryz.t69.bytes⟩),
  (70,⟨Tryz.t70.desc,Tryz.t70.size,(Tryz.t70.zero).getD undef,Tryz.t70.bytes⟩),
  (71,⟨Tryz.t71.desc,Tryz.t71.size,(Tryz.t71.zero).getD undef,Tryz.t71.bytes⟩),
  (72,⟨Tryz.t72.desc,Tryz.t72.size,(Tryz.t72.zero).getD undef,Tryz.t72.bytes⟩),
  (73,⟨Tryz.t73.desc,Tryz.t73.size,(Tryz.t73.zero).getD undef,Tryz.t73.bytes⟩),
  (74,⟨Tryz.t5.desc,Tryz.t74.size,(Tryz.t74.zero).getD undef,Tryz.t74.bytes⟩),
  (75,⟨Tryz.t75.desc,Tryz.t75.size,(Tryz.t75.zero).getD undef,Tryz.t75.bytes⟩),
  (76,⟨Tryz.t76.desc,Tryz.t76.size,(Tryz.t76.zero).getD undef,Tryz.t76.bytes⟩),
  (77,⟨Tryz.t76.desc,Tryz.t77.size,(Tryz.t77.zero).getD undef,Tryz.t77.bytes⟩),
  (78,⟨Tryz.t78.desc,Tryz.t78.size,(Tryz.t78.zero).getD undef,Tryz.t78.bytes⟩),
  (79,⟨Tryz.t79.desc,Tryz.t79.size,(Tryz.t79.zero).getD undef,Tryz.t79.bytes⟩),
  (80,⟨Tryz.t80.desc,Tryz.t80.size,(Tryz.t80.zero).getD undef,Tryz.t80.bytes⟩),
  (81,⟨Tryz.t81.desc,Tryz.t81.size,(Tryz.t81.zero).getD undef,Tryz.t81.bytes⟩),
  (82,⟨Tryz.t82.desc,Tryz.t82.size,(Tryz.t82.zero).getD undef,Tryz.t82.bytes⟩),
  (83,⟨Tryz.t83.desc,Tryz.t83.size,(Tryz.t83.zero).getD undef,Tryz.t83.bytes⟩),
  (84,⟨Tryz.t83.desc,Tryz.t84.size,(Tryz.t84.zero).getD undef,Tryz.t84.bytes⟩),
  (85,⟨Tryz.t85.desc,Tryz.t85.size,(Tryz.t85.zero).getD undef,Tryz.t85.bytes⟩),
  (86,⟨Tryz.t86.desc,Tryz.t86.size,(Tryz.t86.zero).getD undef,Tryz.t86.bytes⟩),
  (87,⟨Tryz.t87.desc,Tryz.t87.size,(Tryz.t87.zero).getD undef,Tryz.t87.bytes⟩),
  (88,⟨Tryz.t88.desc,Tryz.t88.size,(Tryz.t88.zero).getD undef,Tryz.t88.bytes⟩),
  (89,⟨Tryz.t89.desc,Tryz.t89.size,(Tryz.t89.zero).getD undef,Tryz.t89.bytes⟩),
  (90,⟨Tryz.t90.desc,Tryz.t90.size,(Tryz.t90.zero).getD undef,Tryz.t90.bytes⟩),
  (91,⟨Tryz.t91.desc,Tryz.t91.size,(Tryz.t91.zero).getD undef,Tryz.t91.bytes⟩),
  (92,⟨Tryz.t92.desc,Tryz.t92.size,(Tryz.t92.zero).getD undef,Tryz.t92.bytes⟩),
  (93,⟨Tryz.t93.desc,Tryz.t93.size,(Tryz.t93.zero).getD undef,Tryz.t93.bytes⟩),
  (94,⟨Tryz.t94.desc,Tryz.t94.size,(Tryz.t94.zero).getD undef,Tryz.t94.bytes⟩),
  (95,⟨Tryz.t95.desc,Tryz.t95.size,(Tryz.t95.zero).getD undef,Tryz.t95.bytes⟩),
  (96,⟨Tryz.t95.desc,Tryz.t96.size,(Tryz.t96.zero).getD undef,Tryz.t96.bytes⟩),
  (97,⟨Tryz.t97.desc,Tryz.t97.size,(Tryz.t97.zero).getD undef,Tryz.t97.bytes⟩),
  (98,⟨Tryz.t98.desc,Tryz.t98.size,(Tryz.t98.zero).getD undef,Tryz.t98.bytes⟩),
  (99,⟨Tryz.t99.desc,Tryz.t99.size,(Tryz.t99.zero).getD undef,Tryz.t99.bytes⟩),
  (100,⟨Tryz.t100.desc,Tryz.t100.size,(Tryz.t100.zero).getD undef,Tryz.t100.bytes⟩),
  (101,⟨Tryz.t101.desc,Tryz.t101.size,(Tryz.t101.zero).getD undef,Tryz.t101.bytes⟩),
  (102,⟨Tryz.t102.desc,Tryz.t102.size,(Tryz.t102.zero).getD undef,Tryz.t102.bytes⟩),
  (103,⟨Tryz.t103.desc,Tryz.t103.size,(Tryz.t103.zero).getD undef,Tryz.t103.bytes⟩),
  (104,⟨Tryz.t104.desc,Tryz.t104.size,(Tryz.t104.zero).getD undef,Tryz.t104.bytes⟩),
  (105,⟨Tryz.t104.desc,Tryz.t105.size,(Tryz.t105.zero).getD undef,Tryz.t105.bytes⟩),
  (106,⟨Tryz.t106.desc,Tryz.t106.size,(Tryz.t106.zero).getD undef,Tryz.t106.bytes⟩),
  (107,⟨Tryz.t107.desc,Tryz.t107.size,(Tryz.t107.zero).getD undef,Tryz.t107.bytes⟩),
  (108,⟨Tryz.t108.desc,Tryz.t108.size,(Tryz.t108.zero).getD undef,Tryz.t108.bytes⟩),
  (109,⟨Tryz.t109.desc,Tryz.t109.size,(Tryz.t109.zero).getD undef,Tryz.t109.bytes⟩),
  (110,⟨Tryz.t110.desc,Tryz.t110.size,(Tryz.t110.zero).getD undef,Tryz.t110.bytes⟩),
  (111,⟨Tryz.t111.desc,Tryz.t111.size,(Tryz.t111.zero).getD undef,Tryz.t111.bytes⟩),
  (112,⟨Tryz.t111.desc,Tryz.t112.size,(Tryz.t112.zero).getD undef,Tryz.t112.bytes⟩),
  (113,⟨Tryz.t113.desc,Tryz.t113.size,(Tryz.t113.zero).getD undef,Tryz.t113.bytes⟩),
  (114,⟨Tryz.t114.desc,Tryz.t114.size,(Tryz.t114.zero).getD undef,Tryz.t114.bytes⟩),
  (115,⟨Tryz.t115.desc,Tryz.t115.size,(Tryz.t115.zero).getD undef,Tryz.t115.bytes⟩),
  (116,⟨Tryz.t116.desc,Tryz.t116.size,(Tryz.t116.zero).getD undef,Tryz.t116.bytes⟩),
  (117,⟨Tryz.t117.desc,Tryz.t117.size,(Tryz.t117.zero).getD undef,Tryz.t117.bytes⟩),
  (118,⟨Tryz.t118.desc,Tryz.t118.size,(Tryz.t118.zero).getD undef,Tryz.t118.bytes⟩),
  (119,⟨Tryz.t119.desc,Tryz.t119.size,(Tryz.t119.zero).getD undef,Tryz.t119.bytes⟩),
  (120,⟨Tryz.t119.desc,Tryz.t120.size,(Tryz.t120.zero).getD undef,Tryz.t120.bytes⟩),
  (121,⟨Tryz.t121.desc,Tryz.t121.size,(Tryz.t121.zero).getD undef,Tryz.t121.bytes⟩),
  (122,⟨Tryz.t122.desc,Tryz.t122.size,(Tryz.t122.zero).getD undef,Tryz.t122.bytes⟩),
  (123,⟨Tryz.t123.desc,Tryz.t123.size,(Tryz.t123.zero).getD undef,Tryz.t123.bytes⟩),
  (124,⟨Tryz.t124.desc,Tryz.t124.size,(Tryz.t124.zero).getD undef,Tryz.t124.bytes⟩),
  (125,⟨Tryz.t125.desc,Tryz.t125.size,(Tryz.t125.zero).getD undef,Tryz.t125.bytes⟩),
  (126,⟨Tryz.t126.desc,Tryz.t126.size,(Tryz.t126.zero).getD undef,Tryz.t126.bytes⟩),
  (127,⟨Tryz.t127.desc,Tryz.t127.size,(Tryz.t127.zero).getD undef,Tryz.t127.bytes⟩),
  (128,⟨Tryz.t128.desc,Tryz.t128.size,(Tryz.t128.zero).getD undef,Tryz.t128.bytes⟩),
  (129,⟨Tryz.t129.desc,Tryz.t129.size,(Tryz.t129.zero).getD undef,Tryz.t129.bytes⟩),
  (130,⟨Tryz.t130.desc,Tryz.t130.size,(Tryz.t130.zero).getD undef,Tryz.t130.bytes⟩),
  (131,⟨Tryz.t131.desc,Tryz.t131.size,(Tryz.t131.zero).getD undef,Tryz.t131.bytes⟩),
  (132,⟨Tryz.t132.desc,Tryz.t132.size,(Tryz.t132.zero).getD undef,Tryz.t132.bytes⟩),
  (133,⟨Tryz.t133.desc,Tryz.t133.size,(Tryz.t133.zero).getD undef,Tryz.t133.bytes⟩),
  (134,⟨Tryz.t134.desc,Tryz.t134.size,(Tryz.t134.zero).getD undef,Tryz.t134.bytes⟩),
  (135,⟨Tryz.t135.desc,Tryz.t135.size,(Tryz.t135.zero).getD undef,Tryz.t135.bytes⟩),
  (136,⟨Tryz.t136.desc,Tryz.t136.size,(Tryz.t136.zero).getD undef,Tryz.t136.bytes⟩),
  (137,⟨Tryz.t137.desc,Tryz.t137.size,(Tryz.t137.zero).getD undef,Tryz.t137.bytes⟩),
  (138,⟨Tryz.t138.desc,Tryz.t138.size,(Tryz.t138.zero).getD undef,Tryz.t138.bytes⟩),
  (139,⟨Tryz.t139.desc,Tryz.t139.size,(Tryz.t139.zero).getD undef,Tryz.t139.bytes⟩),
  (140,⟨Tryz.t140.desc,Tryz.t140.size,(Tryz.t140.zero).getD undef,Tryz.t140.bytes⟩),
  (141,⟨Tryz.t141.desc,Tryz.t141.size,(Tryz.t141.zero).getD undef,Tryz.t141.bytes⟩),
  (142,⟨Tryz.t142.desc,Tryz.t142.size,(Tryz.t142.zero).getD undef,Tryz.t142.bytes⟩),
  (143,⟨Tryz.t143.desc,Tryz.t143.size,(Tryz.t143.zero).getD undef,Tryz.t143.bytes⟩),
  (144,⟨Tryz.t144.desc,Tryz.t144.size,(Tryz.t144.zero).getD undef,Tryz.t144.bytes⟩),
  (145,⟨Tryz.t145.desc,Tryz.t145.size,(Tryz.t145.zero).getD undef,Tryz.t145.bytes⟩),
  (146,⟨Tryz.t145.desc,Tryz.t146.size,(Tryz.t146.zero).getD undef,Tryz.t146.bytes⟩),
  (147,⟨Tryz.t147.desc,Tryz.t147.size,(Tryz.t147.zero).getD undef,Tryz.t147.bytes⟩),
  (148,⟨Tryz.t148.desc,Tryz.t148.size,(Tryz.t148.zero).getD undef,Tryz.t148.bytes⟩),
  (149,⟨Tryz.t149.desc,Tryz.t149.size,(Tryz.t149.zero).getD undef,Tryz.t149.bytes⟩),
  (150,⟨Tryz.t150.desc,Tryz.t150.size,(Tryz.t150.zero).getD undef,Tryz.t150.bytes⟩),
  (151,⟨Tryz.t151.desc,Tryz.t151.size,(Tryz.t151.zero).getD undef,Tryz.t151.bytes⟩),
  (152,⟨Tryz.t152.desc,Tryz.t152.size,(Tryz.t152.zero).getD undef,Tryz.t152.bytes⟩),
  (153,⟨Tryz.t153.desc,Tryz.t153.size,(Tryz.t153.zero).getD undef,Tryz.t153.bytes⟩),
  (154,⟨Tryz.t154.desc,Tryz.t154.size,(Tryz.t154.zero).getD undef,Tryz.t154.bytes⟩),
  (155,⟨Tryz.t155.desc,Tryz.t155.size,(Tryz.t155.zero).getD undef,Tryz.t155.bytes⟩),
  (156,⟨Tryz.t156.desc,Tryz.t156.size,(Tryz.t156.zero).getD undef,Tryz.t156.bytes⟩),
  (157,⟨Tryz.t157.desc,Tryz.t157.size,(Tryz.t157.zero).getD undef,Tryz.t157.bytes⟩),
  (158,⟨Tryz.t158.desc,Tryz.t158.size,(Tryz.t158.zero).getD undef,Tryz.t158.bytes⟩),
  (159,⟨Tryz.t159.desc,Tryz.t159.size,(Tryz.t159.zero).getD undef,Tryz.t159.bytes⟩),
  (160,⟨Tryz.t160.desc,Tryz.t160.size,(Tryz.t160.zero).getD undef,Tryz.t160.bytes⟩),
  (161,⟨Tryz.t161.desc,Tryz.t161.size,(Tryz.t161.zero).getD undef,Tryz.t161.bytes⟩),
  (162,⟨Tryz.t162.desc,Tryz.t162.size,(Tryz.t162.zero).getD undef,Tryz.t162.bytes⟩),
  (163,⟨Tryz.t163.desc,Tryz.t163.size,(Tryz.t163.zero).getD undef,Tryz.t163.bytes⟩),
  (164,⟨Tryz.t164.desc,Tryz.t164.size,(Tryz.t164.zero).getD undef,Tryz.t164.bytes⟩),
  (165,⟨Tryz.t165.desc,Tryz.t165.size,(Tryz.t165.zero).getD undef,Tryz.t165.bytes⟩),
  (166,⟨Tryz.t166.desc,Tryz.t166.size,(Tryz.t166.zero).getD undef,Tryz.t166.bytes⟩),
  (167,⟨Tryz.t167.desc,Tryz.t167.size,(Tryz.t167.zero).getD undef,Tryz.t167.bytes⟩),
  (168,⟨Tryz.t168.desc,Tryz.t168.size,(Tryz.t168.zero).getD undef,Tryz.t168.bytes⟩),
  (169,⟨Tryz.t169.desc,Tryz.t169.size,(Tryz.t169.zero).getD undef,Tryz.t169.bytes⟩),
  (170,⟨Tryz.t170.desc,Tryz.t170.size,(Tryz.t170.zero).getD undef,Tryz.t170.bytes⟩),
  (171,⟨Tryz.t171.desc,Tryz.t171.size,(Tryz.t171.zero).getD undef,Tryz.t171.bytes⟩),
  (172,⟨Tryz.t172.desc,Tryz.t172.size,(Tryz.t172.zero).getD undef,Tryz.t172.bytes⟩),
  (173,⟨Tryz.t173.desc,Tryz.t173.size,(Tryz.t173.zero).getD undef,Tryz.t173.bytes⟩),
  (174,⟨Tryz.t174.desc,Tryz.t174.size,(Tryz.t174.zero).getD undef,Tryz.t174.bytes⟩),
  (175,⟨Tryz.t175.desc,Tryz.t175.size,(Tryz.t175.zero).getD undef,Tryz.t175.bytes⟩),
  (176,⟨Tryz.t176.desc,Tryz.t176.size,(Tryz.t176.zero).getD undef,Tryz.t176.bytes⟩),
  (177,⟨Tryz.t177.desc,Tryz.t177.size,(Tryz.t177.zero).getD undef,Tryz.t177.bytes⟩),
  (178,⟨Tryz.t178.desc,Tryz.t178.size,(Tryz.t178.zero).getD undef,Tryz.t178.bytes⟩),
  (179,⟨Tryz.t179.desc,Tryz.t179.size,(Tryz.t179.zero).getD undef,Tryz.t179.bytes⟩),
  (180,⟨Tryz.t180.desc,Tryz.t180.size,(Tryz.t180.zero).getD undef,Tryz.t180.bytes⟩),
  (181,⟨Tryz.t181.desc,Tryz.t181.size,(Tryz.t181.zero).getD undef,Tryz.t181.bytes⟩),
  (182,⟨Tryz.t182.desc,Tryz.t182.size,(Tryz.t182.zero).getD undef,Tryz.t182.bytes⟩),
  (183,⟨Tryz.t183.desc,Tryz.t183.size,(Tryz.t183.zero).getD undef,Tryz.t183.bytes⟩),
  (184,⟨Tryz.t184.desc,Tryz.t184.size,(Tryz.t184.zero).getD undef,Tryz.t184.bytes⟩),
  (185,⟨Tryz.t185.desc,Tryz.t185.size,(Tryz.t185.zero).getD undef,Tryz.t185.bytes⟩),
  (186,⟨Tryz.t186.desc,Tryz.t186.size,(Tryz.t186.zero).getD undef,Tryz.t186.bytes⟩),
  (187,⟨Tryz.t187.desc,Tryz.t187.size,(Tryz.t187.zero).getD undef,Tryz.t187.bytes⟩),
  (188,⟨Tryz.t188.desc,Tryz.t188.size,(Tryz.t188.zero).getD undef,Tryz.t188.bytes⟩),
  (189,⟨Tryz.t189.desc,Tryz.t189.size,(Tryz.t189.zero).getD undef,Tryz.t189.bytes⟩),
  (190,⟨Tryz.t190.desc,Tryz.t190.size,(Tryz.t190.zero).getD undef,Tryz.t190.bytes⟩),
  (191,⟨Tryz.t191.desc,Tryz.t191.size,(Tryz.t191.zero).getD undef,Tryz.t191.bytes⟩),
  (192,⟨Tryz.t192.desc,Tryz.t192.size,(Tryz.t192.zero).getD undef,Tryz.t192.bytes⟩),
  (193,⟨Tryz.t193.desc,Tryz.t193.size,(Tryz.t193.zero).getD undef,Tryz.t193.bytes⟩),
  (194,⟨Tryz.t194.desc,Tryz.t194.size,(Tryz.t194.zero).getD undef,Tryz.t194.bytes⟩),
  (195,⟨Tryz.t195.desc,Tryz.t195.size,(Tryz.t195.zero).getD undef,Tryz.t195.bytes⟩),
  (196,⟨Tryz.t196.desc,Tryz.t196.size,(Tryz.t196.zero).getD undef,Tryz.t196.bytes⟩),
  (197,⟨Tryz.t197.desc,Tryz.t197.size,(Tryz.t197.zero).getD undef,Tryz.t197.bytes⟩),
  (198,⟨Tryz.t198.desc,Tryz.t198.size,(Tryz.t198.zero).getD undef,Tryz.t198.bytes⟩),
  (199,⟨Tryz.t198.desc,Tryz.t199.size,(Tryz.t199.zero).getD undef,Tryz.t199.bytes⟩),
  (200,⟨Tryz.t200.desc,Tryz.t200.size,(Tryz.t200.zero).getD undef,Tryz.t200.bytes⟩),
  (201,⟨Tryz.t201.desc,Tryz.t201.size,(Tryz.t201.zero).getD undef,Tryz.t201.bytes⟩),
  (202,⟨Tryz.t202.desc,Tryz.t202.size,(Tryz.t202.zero).getD undef,Tryz.t202.bytes⟩),
  (203,⟨Tryz.t203.desc,Tryz.t203.size,(Tryz.t203.zero).getD undef,Tryz.t203.bytes⟩),
  (204,⟨Tryz.t204.desc,Tryz.t204.size,(Tryz.t204.zero).getD undef,Tryz.t204.bytes⟩),
  (205,⟨Tryz.t205.desc,Tryz.t205.size,(Tryz.t205.zero).getD undef,Tryz.t205.bytes⟩),
  (206,⟨Tryz.t206.desc,Tryz.t206.size,(Tryz.t206.zero).getD undef,Tryz.t206.bytes⟩),
  (207,⟨Tryz.t207.desc,Tryz.t207.size,(Tryz.t207.zero).getD undef,Tryz.t207.bytes⟩),
  (208,⟨Tryz.t208.desc,Tryz.t208.size,(Tryz.t208.zero).getD undef,Tryz.t208.bytes⟩),
  (209,⟨Tryz.t209.desc,Tryz.t209.size,(Tryz.t209.zero).getD undef,Tryz.t209.bytes⟩),
  (210,⟨Tryz.t210.desc,Tryz.t210.size,(Tryz.t210.zero).getD undef,Tryz.t210.bytes⟩),
  (211,⟨Tryz.t211.desc,Tryz.t211.size,(Tryz.t211.zero).getD undef,Tryz.t211.bytes⟩),
  (212,⟨Tryz.t211.desc,Tryz.t212.size,(Tryz.t212.zero).getD undef,Tryz.t212.bytes⟩),
  (213,⟨Tryz.t213.desc,Tryz.t213.size,(Tryz.t213.zero).getD undef,Tryz.t213.bytes⟩),
  (214,⟨Tryz.t214.desc,Tryz.t214.size,(Tryz.t214.zero).getD undef,Tryz.t214.bytes⟩),
  (215,⟨Tryz.t215.desc,Tryz.t215.size,(Tryz.t215.zero).getD undef,Tryz.t215.bytes⟩),
  (216,⟨Tryz.t216.desc,Tryz.t216.size,(Tryz.t216.zero).getD undef,Tryz.t216.bytes⟩),
  (217,⟨Tryz.t217.desc,Tryz.t217.size,(Tryz.t217.zero).getD undef,Tryz.t217.bytes⟩),
  (218,⟨Tryz.t3.desc,Tryz.t218.size,(Tryz.t218.zero).getD undef,Tryz.t218.bytes⟩),
  (219,⟨Tryz.t219.desc,Tryz.t219.size,(Tryz.t219.zero).getD undef,Tryz.t219.bytes⟩),
  (220,⟨Tryz.t220.desc,Tryz.t220.size,(Tryz.t220.zero).getD undef,Tryz.t220.bytes⟩),
  (221,⟨Tryz.t221.desc,Tryz.t221.size,(Tryz.t221.zero).getD undef,Tryz.t221.bytes⟩),
  (222,⟨Tryz.t222.desc,Tryz.t222.size,(Tryz.t222.zero).getD undef,Tryz.t222.bytes⟩),
  (223,⟨Tryz.t223.desc,Tryz.t223.size,(Tryz.t223.zero).getD undef,Tryz.t223.bytes⟩),
  (224,⟨Tryz.t224.desc,Tryz.t224.size,(Tryz.t224.zero).getD undef,Tryz.t224.bytes⟩),
  (225,⟨Tryz.t225.desc,Tryz.t225.size,(Tryz.t225.zero).getD undef,Tryz.t225.bytes⟩),
  (226,⟨Tryz.t226.desc,Tryz.t226.size,(Tryz.t226.zero).getD undef,Tryz.t226.bytes⟩),
  (227,⟨Tryz.t227.desc,Tryz.t227.size,(Tryz.t227.zero).getD undef,Tryz.t227.bytes⟩),
  (228,⟨Tryz.t113.desc,Tryz.t228.size,(Tryz.t228.zero).getD undef,Tryz.t228.bytes⟩),
  (229,⟨Tryz.t229.desc,Tryz.t229.size,(Tryz.t229.zero).getD undef,Tryz.t229.bytes⟩),
  (230,⟨Tryz.t230.desc,Tryz.t230.size,(Tryz.t230.zero).getD undef,Tryz.t230.bytes⟩),
  (231,⟨Tryz.t231.desc,Tryz.t231.size,(Tryz.t231.zero).getD undef,Tryz.t231.bytes⟩),
  (232,⟨Tryz.t232.desc,Tryz.t232.size,(Tryz.t232.zero).getD undef,Tryz.t232.bytes⟩),
  (233,⟨Tryz.t233.desc,Tryz.t233.size,(Tryz.t233.zero).getD undef,Tryz.t233.bytes⟩),
  (234,⟨Tryz.t234.desc,Tryz.t234.size,(Tryz.t234.zero).getD undef,Tryz.t234.bytes⟩),
  (235,⟨Tryz.t235.desc,Tryz.t235.size,(Tryz.t235.zero).getD undef,Tryz.t235.bytes⟩),
  (236,⟨Tryz.t236.desc,Tryz.t236.size,(Tryz.t236.zero).getD undef,Tryz.t236.bytes⟩),
  (237,⟨Tryz.t237.desc,Tryz.t237.size,(Tryz.t237.zero).getD undef,Tryz.t237.bytes⟩),
  (238,⟨Tryz.t238.desc,Tryz.t238.size,(Tryz.t238.zero).getD undef,Tryz.t238.bytes⟩),
  (239,⟨Tryz.t239.desc,Tryz.t239.size,(Tryz.t239.zero).getD undef,Tryz.t239.bytes⟩),
  (240,⟨Tryz.t239.desc,Tryz.t240.size,(Tryz.t240.zero).getD undef,Tryz.t240.bytes⟩),
  (241,⟨Tryz.t241.desc,Tryz.t241.size,(Tryz.t241.zero).getD undef,Tryz.t241.bytes⟩),
  (242,⟨Tryz.t242.desc,Tryz.t242.size,(Tryz.t242.zero).getD undef,Tryz.t242.bytes⟩),
  (243,⟨Tryz.t242.desc,Tryz.t243.size,(Tryz.t243.zero).getD undef,Tryz.t243.bytes⟩),
  (244,⟨Tryz.t244.desc,Tryz.t244.size,(Tryz.t244.zero).getD undef,Tryz.t244.bytes⟩),
  (245,⟨Tryz.t5.desc,Tryz.t245.size,(Tryz.t245.zero).getD undef,Tryz.t245.bytes⟩),
  (246,⟨Tryz.t5.desc,Tryz.t246.size,(Tryz.t246.zero).getD undef,Tryz.t246.bytes⟩),
  (247,⟨Tryz.t247.desc,Tryz.t247.size,(Tryz.t247.zero).getD undef,Tryz.t247.bytes⟩),
  (248,⟨Tryz.t248.desc,Tryz.t248.size,(Tryz.t248.zero).getD undef,Tryz.t248.bytes⟩),
  (249,⟨Tryz.t21.desc,Tryz.t249.size,(Tryz.t249.zero).getD undef,Tryz.t249.bytes⟩),
  (250,⟨Tryz.t21.desc,Tryz.t250.size,(Tryz.t250.zero).getD undef,Tryz.t250.bytes⟩),
  (251,⟨Tryz.t251.desc,Tryz.t251.size,(Tryz.t251.zero).getD undef,Tryz.t251.bytes⟩),
  (252,⟨Tryz.t251.desc,Tryz.t252.size,(Tryz.t252.zero).getD undef,Tryz.t252.bytes⟩),
  (253,⟨Tryz.t253.desc,Tryz.t253.size,(Tryz.t253.zero).getD undef,Tryz.t253.bytes⟩)]
set_option maxRecDepth 100000 in
theorem tabOk:TabOk Tryz.prog tab:=.of (by kernel_rfl)
end Go.Proofs.YtklbcpofihgmlaaGreat
namespace Go.Proofs.YtklbcpofihgmlaaGreat
open Go.RowKit Go.Sl
@[reducible] def byte (b:UInt8):Value:=.int .u8 (b.toNat:Int)
abbrev Dat:=List UInt8
def bts (l:List UInt8):List Value:=l.map byte
theorem bts_length (l:List UInt8):(bts l).length=l.length:=by simp [bts]
theorem bts_append (l m:List UInt8):bts (l++m)=bts l++bts m:=by simp [bts]
theorem bts_plain (l:List UInt8):∀ v ∈ bts l,Plain v=true:=by
  intro v hv
  obtain ⟨z,_,rfl⟩:=List.mem_map.1 hv
  rfl
theorem bts_get {l:List UInt8} {i:Nat} {b:UInt8} (h:l[i]?=some b):(bts l)[i]?=some (byte b):=by simp [bts,h]
theorem wrap_u8 (v:Nat):IntKind.u8.wrap (v:Int)=((UInt8.ofNat v).toNat:Int):=by
  simp [IntKind.wrap,IntKind.signed,IntKind.bits]
theorem shr_nat (v s:Nat) (b:Int) (hb:b=s) (hs:s≤64):(v:Int).fdiv (2 ^ (min b.toNat IntKind.u64.bits))=((v / 2 ^ s:Nat):Int):=by
  subst hb
  rw [Int.toNat_natCast,show IntKind.u64.bits=64 from rfl,Nat.min_eq_left hs,Int.fdiv_eq_ediv_of_nonneg _ (by exact_mod_cast Nat.zero_le _)]
  simp
def be (v n:Nat):List UInt8:=(List.range n).map fun i=>UInt8.ofNat (v / 2 ^ (8 * (n - 1 - i)))
theorem be_length (v n:Nat):(be v n).length=n:=by simp [be]
abbrev OwnB (ch:List Blk) (a:Option Addr) (len cap:Nat) (l:List UInt8):Prop:=OwnC ch 1 a len cap (bts l)
theorem octets_add (I:Imm) (S:St) (a:Option Addr) (len cap:Nat) (l:List UInt8) (h:SlC I S a len (bts l)) (v:Nat) (_hv:v < 18446744073709551616) (n:Nat) (hn:n≤8) (hlen:len≤1000000) :
    Tri Tryz.prog 155 #[.slice a len cap,.int .u64 v,.int .i64 n] I S fun r J S'=>∃ a' cap' ch,r=.slice a' (len+n) cap'∧OwnB ch a' (len+n) cap' (l++be v n)∧I=J∧S'=S++[ch]:=by
  have hll:l.length=len:=by rw [← bts_length,h.len]
  refine Tri.of (args:=[.slice a len cap,.int .u64 v,.int .i64 n]) tabOk Tryz.func155 rfl (by kernel_rfl) (by kernel_rfl) ?_
  refine ToD.i64 (by omega) (by omega) ?_
  refine makeD tabOk rfl rfl rfl len (len+n) rfl rfl (by omega) (by show 1 * (len+n)≤_; omega) (by omega) (by show (len+n) * 1≤_; omega) rfl (by decide) ?_
  intro b
  refine copyD tabOk rfl rfl rfl rfl rfl rfl rfl S.length (last_get S _) (SrcOk.slice tabOk rfl (by show SlC I _ a (len * 1) _; rw [Nat.mul_one]; exact h.more _) (bts_plain l)) (Nat.le_refl _) (by rw [rows_length]; show 0+len * 1≤(len+n) * 1; omega) (Nat.le_refl _) ?_
  rw [last_set,splice_rows _ _ _ _ (by show _=len * 1; rw [bts_length]; omega)]
  have hown0:OwnB [(b,row (bts l++rows n [.int .u8 0]) 5)] (some ⟨b,0,none⟩) len (len+n) l:=.of (by rw [bts_length]; omega) (by omega) (by rw [rows_length]; simp)
  refine CodeF.loopD [1,2,7,19,20] (fun vs J S'=>∃ (i:Nat) (a':Option Addr) (cap':Nat) (ch:List Blk),i≤n∧OwnB ch a' (len+i) cap' (l++(be v n).take i)∧vs=[.int .u64 v,.int .i64 n,.slice a' (len+i) cap',.int .i64 n,.int .i64 i]∧I=J∧S'=S++[ch])
    (fun vs _ _=>match vs with | [_,_,_,_,.int _ i]=>((n:Int) - i).toNat | _=>0) ?_ ?_
  · exact ⟨_,Drop.refl _,0,_,_,_,by omega,by rw [Nat.add_zero,List.take_zero,List.append_nil]; exact hown0,rfl,rfl,rfl⟩
  rintro vs g J S' hJ ⟨i,a',cap',ch,hi,hown,rfl,rfl,rfl⟩
  refine CmpD.split (fun c1=>?_) (fun c1=>?_)
  · refine ToD.i64 (by omega) (by omega) ?_
    refine ToD.i64 (by omega) (by omega) ?_
    refine ToD.i64 (by omega) (by omega) ?_
    refine Chk.mk (by omega) ?_
    refine ToD.to ((v / 2 ^ (8 * (n - 1 - i)):Nat):Int) (shr_nat v _ _ (by omega) (by omega)) ?_
    refine ToD.to _ (wrap_u8 _) ?_
    conv=>whnf
    intro bN
    refine appendD tabOk rfl rfl rfl rfl rfl rfl rfl S.length (two_get S _ _) hown (SrcOk.slice (n:=1) (news:=bts [UInt8.ofNat (v / 2 ^ (8 * (n - 1 - i)))]) tabOk rfl ((OwnC.whole (len:=1) (size:=1) rfl).slC (S.length+1) (two_get1 S _ _)) (bts_plain _)) rfl (by show (len+i+1) * 1≤_; omega) (by omega) ?_
    intro a3 cap3 ch3 hown3
    rw [two_set]
    refine ToD.i64 (by omega) (by omega) ?_
    refine ⟨_,Drop.init _ _,⟨i+1,a3,cap3,ch3,by omega,?_,rfl,rfl,rfl⟩,?_⟩
    · rw [← bts_append] at hown3
      have e:l++(be v n).take (i+1)=l++(be v n).take i++[UInt8.ofNat (v / 2 ^ (8 * (n - 1 - i)))]:=by
        rw [List.take_add_one,List.append_assoc]
        congr 2
        have:i < n:=by omega
        simp [be,this]
      rw [e]; exact hown3
    · show ((n:Int) - ((i:Int)+1)).toNat < ((n:Int) - (i:Int)).toNat
      omega
  · obtain rfl:i=n:=by omega
    refine Done.mk ⟨a',cap',ch,rfl,?_,rfl,rfl⟩
    rwa [List.take_of_length_le (by rw [be_length]; omega)] at hown
theorem wrap_u64 (v:Nat) (h:v < 18446744073709551616):IntKind.u64.wrap (v:Int)=(v:Int):=wrap_u rfl (by omega) (by show (v:Int) < 2 ^ 64; omega)
theorem octets_Add16 (I:Imm) (S:St) (a:Option Addr) (len cap:Nat) (l:List UInt8) (h:SlC I S a len (bts l)) (v:Nat) (hv:v < 65536) (hlen:len≤1000000) :
    Tri Tryz.prog 120 #[.slice a len cap,.int .u16 v] I S fun r J S'=>∃ a' cap' ch,r=.slice a' (len+2) cap'∧OwnB ch a' (len+2) cap' (l++be v 2)∧I=J∧S'=S++[ch]:=by
  refine Tri.of (args:=[.slice a len cap,.int .u16 v]) tabOk Tryz.func120 rfl (by kernel_rfl) (by kernel_rfl) ?_
  refine ToD.to (v:Int) (wrap_u64 v (by omega)) ?_
  refine (octets_add I S a len cap l h v (by omega) 2 (by omega) hlen).mono ?_
  rintro r J S' hJ ⟨a',cap',ch,rfl,hown,rfl,rfl⟩
  exact Done.mk ⟨a',cap',ch,rfl,hown,rfl,rfl⟩
theorem octets_Add32 (I:Imm) (S:St) (a:Option Addr) (len cap:Nat) (l:List UInt8) (h:SlC I S a len (bts l)) (v:Nat) (hv:v < 4294967296) (hlen:len≤1000000) :
    Tri Tryz.prog 122 #[.slice a len cap,.int .u32 v] I S fun r J S'=>∃ a' cap' ch,r=.slice a' (len+4) cap'∧OwnB ch a' (len+4) cap' (l++be v 4)∧I=J∧S'=S++[ch]:=by
  refine Tri.of (args:=[.slice a len cap,.int .u32 v]) tabOk Tryz.func122 rfl (by kernel_rfl) (by kernel_rfl) ?_
  refine ToD.to (v:Int) (wrap_u64 v (by omega)) ?_
  refine (octets_add I S a len cap l h v (by omega) 4 (by omega) hlen).mono ?_
  rintro r J S' hJ ⟨a',cap',ch,rfl,hown,rfl,rfl⟩
  exact Done.mk ⟨a',cap',ch,rfl,hown,rfl,rfl⟩
end Go.Proofs.YtklbcpofihgmlaaGreat
namespace Go.Proofs.YtklbcpofihgmlaaGreat
open Go.RowKit Go.Sl
def turn (r:Nat):Nat:=if r % 2=1 then (r / 2) ^^^ 2197175160 else r / 2
def turns:Nat→Nat→Nat
  | 0,r=>r
  | k+1,r=>turn (turns k r)
def crcReg (r:Nat) (l:List UInt8):Nat:=l.foldl (fun r c=>turns 8 (r ^^^ c.toNat)) r
def crcMore (sum:Nat) (l:List UInt8):Nat:=crcReg (sum ^^^ 4294967295) l ^^^ 4294967295
theorem turn_lt {r:Nat} (h:r < 4294967296):turn r < 4294967296:=by
  unfold turn
  split
  · exact Nat.xor_lt_two_pow (n:=32) (by omega) (by omega)
  · omega
theorem turns_lt {r:Nat} (h:r < 4294967296):∀ k,turns k r < 4294967296
  | 0=>h
  | k+1=>turn_lt (turns_lt h k)
theorem crcReg_lt {r:Nat} (h:r < 4294967296) (l:List UInt8):crcReg r l < 4294967296:=by
  induction l generalizing r with
  | nil=>exact h
  | cons c l ih =>
    have:=c.toNat_lt
    exact ih (turns_lt (Nat.xor_lt_two_pow (n:=32) h (by omega)) 8)
theorem crcReg_snoc (r:Nat) (l:List UInt8) (c:UInt8):crcReg r (l++[c])=turns 8 (crcReg r l ^^^ c.toNat):=by simp [crcReg]
theorem wrap_u32 (v:Nat) (h:v < 4294967296):IntKind.u32.wrap (v:Int)=(v:Int):=wrap_u rfl (by omega) (by show (v:Int) < 2 ^ 32; omega)
theorem not_u32 (n:Nat) (h:n < 4294967296):bits .xor .u32 (if IntKind.u32.signed then -1 else IntKind.u32.max) (n:Int)=((n ^^^ 4294967295:Nat):Int):=by
  show bits .xor .u32 ((4294967295:Nat):Int) (n:Int)=_
  rw [u32_xor_nat _ _ (by decide) h,Nat.xor_comm]
theorem sums_turn (b:Nat) (r:Nat) (hr:r < 4294967296) (I:Imm):Tri Tryz.prog 178 #[.pointer (some ⟨b,0,none⟩)] I [[(b,row [.int .u32 r] 167)]] fun _ J S'=>I=J∧S'=[[(b,row [.int .u32 (turn r)] 167)]]:=by
  refine Tri.of (args:=[.pointer (some ⟨b,0,none⟩)]) tabOk Tryz.func178 rfl (by kernel_rfl) (by kernel_rfl) ?_
  refine LoadD.own 0 rfl _ rfl rfl ?_
  refine ToD.to ((r % 2:Nat):Int) (by rw [show (1:Int)=((1:Nat):Int) from rfl,u32_and_nat r 1 hr (by omega),Nat.and_one_is_mod]) ?_
  refine LoadD.own 0 rfl _ rfl rfl ?_
  refine Chk.mk (by omega) ?_
  refine ToD.to ((r / 2:Nat):Int) (by rw [show (1:Int).toNat=1 from rfl,show min 1 IntKind.u32.bits=1 from rfl,Int.fdiv_eq_ediv_of_nonneg _ (by omega)]; omega) ?_
  refine StoreD.st 0 rfl rfl rfl ?_
  refine CmpD.split (fun c=>?_) (fun c=>?_)
  · refine LoadD.own 0 rfl _ rfl rfl ?_
    refine ToD.to (((r / 2) ^^^ 2197175160:Nat):Int) (u32_xor_nat _ _ (by omega) (by decide)) ?_
    refine StoreD.st 0 rfl rfl rfl ?_
    refine Done.mk ⟨rfl,?_⟩
    rw [turn,if_pos (by omega)]; rfl
  · refine Done.mk ⟨rfl,?_⟩
    rw [turn,if_neg (by omega)]; rfl
theorem sums_More (I:Imm) (S:St) (sum:Nat) (hsum:sum < 4294967296) (a:Option Addr) (len cap:Nat) (l:List UInt8) (h:SlC I S a len (bts l)) (hlen:len≤9223372036854775806) :
    Tri Tryz.prog 156 #[.int .u32 sum,.slice a len cap] I S fun v J S'=>v=.int .u32 (crcMore sum l)∧I=J∧S'=S:=by
  have hll:l.length=len:=by rw [← bts_length,h.len]
  refine Tri.drop ?_ (fun _ _ _ _ h=>h)
  refine Tri.of (args:=[.int .u32 sum,.slice a len cap]) tabOk Tryz.func156 rfl (by kernel_rfl) (by kernel_rfl) ?_
  refine ToD.to ((sum ^^^ 4294967295:Nat):Int) (not_u32 sum hsum) ?_
  conv=>whnf
  intro b
  refine StoreD.st S.length (last_get S _) rfl rfl ?_
  rw [last_set]
  have hs0:sum ^^^ 4294967295 < 4294967296:=Nat.xor_lt_two_pow (n:=32) hsum (by decide)
  refine CodeF.loopD [5,6,12,13,14] (fun vs J S'=>∃ i:Nat,i≤len∧vs=[.pointer (some ⟨b,0,none⟩),.func (.func 178) #[] #[.pointer (some ⟨b,0,none⟩)],.slice a len cap,.int .i64 len,.int .i64 i]∧I=J ∧
      S'=S++[[(b,row [.int .u32 (crcReg (sum ^^^ 4294967295) (l.take i))] 167)]])
    (fun vs _ _=>match vs with | [_,_,_,_,.int _ i]=>((len:Int) - i).toNat | _=>0) ?_ ?_
  · exact ⟨_,Drop.refl _,0,by omega,rfl,rfl,rfl⟩
  rintro vs g J S' hJ ⟨i,hi,rfl,rfl,rfl⟩
  have hreg:=crcReg_lt hs0 (l.take i)
  refine CmpD.split (fun c1=>?_) (fun c1=>?_)
  · rcases h.mem with h0 | ⟨bA,off,rfl,hcA⟩
    · omega
    have hil:i < l.length:=by omega
    refine Chk.mk (by omega) ?_
    refine LoadD.mk [byte l[i]] ?_ ?_
    · have:=(h.more [(b,row [.int .u32 (crcReg (sum ^^^ 4294967295) (l.take i))] 167)]).mem
      rcases this with h0 | ⟨bB,off2,hB,hcB⟩
      · omega
      · cases hB
        exact hcB.at (bts_get (List.getElem?_eq_getElem hil))
    have hb8:=(l[i]).toNat_lt
    refine LoadD.own S.length (last_get S _) _ rfl rfl ?_
    refine ToD.to ((l[i]).toNat:Int) (wrap_u32 _ (by omega)) ?_
    refine ToD.to ((crcReg (sum ^^^ 4294967295) (l.take i) ^^^ (l[i]).toNat:Nat):Int) (u32_xor_nat _ _ hreg (by omega)) ?_
    refine StoreD.st S.length (last_get S _) rfl rfl ?_
    rw [last_set]
    obtain ⟨r,hr⟩:∃ r,r=crcReg (sum ^^^ 4294967295) (l.take i) ^^^ (l[i]).toNat:=⟨_,rfl⟩
    have hrl:r < 4294967296:=by rw [hr]; exact Nat.xor_lt_two_pow (n:=32) hreg (by omega)
    rw [← hr]
    refine CodeF.loopD [5,6,12,13,14,22] (fun vs J S'=>∃ k:Nat,k≤8∧vs=[.pointer (some ⟨b,0,none⟩),.func (.func 178) #[] #[.pointer (some ⟨b,0,none⟩)],.slice (some ⟨bA,off,none⟩) len cap,.int .i64 len,.int .i64 i,.int .i64 k]∧I=J ∧
        S'=S++[[(b,row [.int .u32 (turns k r)] 167)]])
      (fun vs _ _=>match vs with | [_,_,_,_,_,.int _ k]=>((8:Int) - k).toNat | _=>0) ?_ ?_
    · exact ⟨_,Drop.refl _,0,by omega,rfl,rfl,rfl⟩
    rintro vs g J S' hJ ⟨k,hk,rfl,rfl,rfl⟩
    refine CmpD.split (fun c2=>?_) (fun c2=>?_)
    · refine Tri.frame1 S.length (last_get S _) (sums_turn b _ (turns_lt hrl k) _) ?_
      rintro v J S' hJ ⟨rfl,rfl⟩
      refine ⟨_,rfl,?_⟩
      rw [spineS_eq,last_set]
      refine ToD.i64 (by omega) (by omega) ?_
      refine ⟨_,Drop.refl _,⟨k+1,by omega,rfl,rfl,rfl⟩,?_⟩
      show ((8:Int) - ((k:Int)+1)).toNat < ((8:Int) - (k:Int)).toNat
      omega
    obtain rfl:k=8:=by omega
    refine ToD.i64 (by omega) (by omega) ?_
    refine ⟨_,Drop.refl _,⟨i+1,by omega,rfl,rfl,?_⟩,?_⟩
    · have:l.take (i+1)=l.take i++[l[i]]:=by rw [List.take_add_one,List.getElem?_eq_getElem hil]; rfl
      rw [this,crcReg_snoc,← hr]
    · show ((len:Int) - ((i:Int)+1)).toNat < ((len:Int) - (i:Int)).toNat
      omega
  refine LoadD.own S.length (last_get S _) _ rfl rfl ?_
  refine ToD.to ((crcReg (sum ^^^ 4294967295) (l.take i) ^^^ 4294967295:Nat):Int) (not_u32 _ hreg) ?_
  refine Done.mk ⟨_,Drop.init _ _,?_,rfl,rfl⟩
  rw [crcMore,List.take_of_length_le (by omega)]; rfl
theorem sums_Crc (I:Imm) (S:St) (a:Option Addr) (len cap:Nat) (l:List UInt8) (h:SlC I S a len (bts l)) (hlen:len≤9223372036854775806) :
    Tri Tryz.prog 123 #[.slice a len cap] I S fun v J S'=>v=.int .u32 (crcMore 0 l)∧I=J∧S'=S:=by
  refine Tri.of (args:=[.slice a len cap]) tabOk Tryz.func123 rfl (by kernel_rfl) (by kernel_rfl) ?_
  refine (sums_More I S 0 (by omega) a len cap l h hlen).mono ?_
  rintro v J S' hJ ⟨rfl,rfl,rfl⟩
  exact Done.mk ⟨rfl,rfl,rfl⟩
end Go.Proofs.YtklbcpofihgmlaaGreat
namespace Go.Proofs.YtklbcpofihgmlaaGreat
open Go.RowKit Go.Sl
def xtL (x:Xt):List UInt8:=be x.at_ 2++be x.start 2++be x.count 2
def xtsL (l:List Xt):List UInt8:=l.flatMap xtL
theorem xtL_length (x:Xt):(xtL x).length=6:=by simp [xtL,be_length]
theorem xtsL_length:∀ (l:List Xt),(xtsL l).length=6 * l.length
  | []=>rfl
  | x :: l=>by
    have:=xtsL_length l
    unfold xtsL at this ⊢
    rw [List.flatMap_cons,List.length_append,this,xtL_length,List.length_cons]; omega
theorem xtsL_append (l m:List Xt):xtsL (l++m)=xtsL l++xtsL m:=by simp [xtsL]
structure Fi where
  kind:Nat
  links:Nat
  size:Nat
  node:Nat
  ext:List Xt
def noFi:Fi:=⟨0,0,0,0,[]⟩
def Fi.direct (f:Fi):List Xt:=f.ext.take 3
def ino60 (f:Fi):List UInt8:=[UInt8.ofNat f.kind,UInt8.ofNat f.direct.length]++be f.links 2++be f.size 4++xtsL f.direct++List.replicate (18 - 6 * f.direct.length) 0++be f.node 2++List.replicate 32 0
def inoL (f:Fi):List UInt8:=match f.kind with
  | 0=>List.replicate 64 0
  | _=>ino60 f++be (crcMore 0 (ino60 f)) 4
theorem direct_le (f:Fi):f.direct.length≤3:=by simp [Fi.direct]; omega
theorem ino60_length (f:Fi):(ino60 f).length=60:=by
  have:=direct_le f
  simp only [ino60,List.length_append,be_length,xtsL_length,List.length_replicate,List.length_cons,List.length_nil]; omega
theorem inoL_length (f:Fi):(inoL f).length=64:=by
  unfold inoL
  split
  · simp
  · rw [List.length_append,ino60_length,be_length]
def nodeB (l:List Xt):List UInt8:=xtsL l++List.replicate (4088 - 6 * l.length) 0
def nodeL (l:List Xt):List UInt8:=be l.length 2++be 0 2++be (crcMore 0 (nodeB l)) 4++nodeB l
theorem nodeB_length {l:List Xt} (h:l.length≤250):(nodeB l).length=4088:=by
  rw [nodeB,List.length_append,xtsL_length,List.length_replicate]; omega
theorem nodeL_length {l:List Xt} (h:l.length≤250):(nodeL l).length=4096:=by
  rw [nodeL,List.length_append,nodeB_length h]; simp [be_length]
def bitsTo (used:List Bool):Nat→List UInt8
  | 0=>List.replicate 4096 0
  | m+1=>bif used.getD m false then (bitsTo used m).set (m / 8) ((bitsTo used m).getD (m / 8) 0 ||| UInt8.ofNat (2 ^ (m % 8))) else bitsTo used m
def bitsL (used:List Bool):List UInt8:=bitsTo used used.length
theorem bitsTo_length (used:List Bool):∀ (m:Nat),(bitsTo used m).length=4096
  | 0=>List.length_replicate
  | m+1=>by
    rw [bitsTo]
    cases used.getD m false with
    | true=>rw [cond_true,List.length_set]; exact bitsTo_length used m
    | false=>exact bitsTo_length used m
theorem bitsL_length (used:List Bool):(bitsL used).length=4096:=bitsTo_length _ _
theorem bit_or (b:UInt8) (k j:Nat) (hk:k < 8):(b ||| UInt8.ofNat (2 ^ k)).toNat.testBit j=(b.toNat.testBit j || decide (k=j)):=by
  have h:2 ^ k < 256:=Nat.pow_lt_pow_right (n:=8) (by omega) hk
  rw [UInt8.toNat_or,UInt8.toNat_ofNat',Nat.mod_eq_of_lt h,Nat.testBit_or,Nat.testBit_two_pow]
theorem bitsTo_bit (used:List Bool):∀ (m:Nat),m≤4096 * 8→∀ n,n < 4096 * 8→((bitsTo used m).getD (n / 8) 0).toNat.testBit (n % 8)=(decide (n < m) && used.getD n false)
  | 0,_,n,hn=>by
    simp only [bitsTo,Nat.not_lt_zero,decide_false,Bool.false_and]
    have:(List.replicate 4096 (0:UInt8)).getD (n / 8) 0=0:=by
      rw [List.getD_eq_getElem?_getD,List.getElem?_replicate]
      split <;> rfl
    rw [this]; simp
  | m+1,hm,n,hn=>by
    have ih:=bitsTo_bit used m (by omega) n hn
    have hl:=bitsTo_length used m
    rw [bitsTo]
    cases hu:used.getD m false with
    | true =>
      rw [cond_true]
      by_cases hd:n / 8=m / 8
      · have hlt:m / 8 < (bitsTo used m).length:=by omega
        rw [hd] at ih ⊢
        rw [List.getD_eq_getElem?_getD,List.getElem?_set_self hlt,Option.getD_some,bit_or _ _ _ (by omega),ih]
        by_cases he:m=n
        · subst he; rw [hu]; simp
        · have:¬ m % 8=n % 8:=by omega
          rw [show decide (m % 8=n % 8)=false by simp [this],Bool.or_false]
          congr 1
          simp only [decide_eq_decide]; omega
      · have e:((bitsTo used m).set (m / 8) ((bitsTo used m).getD (m / 8) 0 ||| UInt8.ofNat (2 ^ (m % 8)))).getD (n / 8) 0=(bitsTo used m).getD (n / 8) 0:=by
          rw [List.getD_eq_getElem?_getD,List.getElem?_set_ne (fun h=>hd h.symm),List.getD_eq_getElem?_getD]
        rw [e,ih]
        congr 1
        simp only [decide_eq_decide]; omega
    | false =>
      rw [cond_false,ih]
      by_cases he:n=m
      · subst he; rw [hu]; simp
      · congr 1
        simp only [decide_eq_decide]; omega
theorem bitsL_bit (used:List Bool) (hu:used.length≤4096 * 8) {n:Nat} {b:Bool} (h:used[n]?=some b):((bitsL used).getD (n / 8) 0).toNat.testBit (n % 8)=b:=by
  have hn:n < used.length:=by
    rcases Nat.lt_or_ge n used.length with g | g
    · exact g
    · rw [List.getElem?_eq_none g] at h; cases h
  rw [bitsL,bitsTo_bit used _ hu n (by omega)]
  rw [List.getD_eq_getElem?_getD,h]
  simp [hn]
def inoBlk (fi:Nat→Fi) (k:Nat):List UInt8:=(List.range 64).flatMap fun j=>inoL (fi (64 * k+j+1))
end Go.Proofs.YtklbcpofihgmlaaGreat
namespace Go.Proofs.YtklbcpofihgmlaaGreat
abbrev Bs:=Nat→List UInt8
def upd (V:Bs) (i:Nat) (d:List UInt8):Bs:=fun j=>if j=i then d else V j
theorem upd_same (V:Bs) (i:Nat) (d:List UInt8):upd V i d i=d:=if_pos rfl
theorem upd_other (V:Bs) {i j:Nat} (d:List UInt8) (h:j≠i):upd V i d j=V j:=if_neg h
theorem upd_self (V:Bs) (i:Nat):upd V i (V i)=V:=by
  funext j; unfold upd; split
  · subst_vars; rfl
  · rfl
def layN (n:Nat):Nat:=if n / 8 < 16 then 16 else n / 8
def bitsB (n:Nat):Nat:=2+layN n
def inoB (n:Nat):Nat:=3+layN n
def datB (n:Nat):Nat:=3+layN n+n / 16
def zer4:List UInt8:=List.replicate 4096 0
def blksF (f:Fi):List Nat:=blksX f.ext++(if f.node=0 then [] else [f.node])
def fbyte (V:Bs) (f:Fi) (k:Nat):UInt8:=match findP f.ext (k / 4096) with
  | some b=>(V b).getD (k % 4096) 0
  | none=>0
def content (V:Bs) (f:Fi):List UInt8:=(List.range f.size).map (fbyte V f)
structure FiOk (n:Nat) (V:Bs) (f:Fi):Prop where
  right:rightX 0 f.ext=true
  kind:f.kind≤2
  links:f.links≤100
  size:f.size≤131072
  none:f.kind=0→f=noFi
  rng:∀ x ∈ f.ext,datB n≤x.start∧x.start+x.count≤n
  node0:f.node=0↔f.ext.length≤3
  node:f.node≠0→datB n≤f.node∧f.node < n∧V f.node=nodeL (f.ext.drop 3)
  ends:∀ x ∈ f.ext,x.at_+x.count≤(f.size+4095) / 4096
  tail:∀ k,f.size≤k→fbyte V f k=0
structure Fs where
  used:List Bool
  fi:Nat→Fi
  V:Bs
structure FsOk (n:Nat) (s:Fs):Prop where
  n64:64≤n∧n≤512
  len:s.used.length=n
  bits:s.V (bitsB n)=bitsL s.used
  inos:∀ k,k < n / 16→s.V (inoB n+k)=inoBlk s.fi k
  vlen:∀ i,i < n→(s.V i).length=4096
  fi:∀ j,FiOk n s.V (s.fi j)
  out:∀ j,j=0∨64 * (n / 16) < j→s.fi j=noFi
  own:∀ i,i < n→(s.used[i]?=some true↔i < datB n∨∃ j,i ∈ blksF (s.fi j))
  nodup:∀ j,(blksF (s.fi j)).Nodup
  apart:∀ j k i,i ∈ blksF (s.fi j)→i ∈ blksF (s.fi k)→j=k
theorem layN_range {n:Nat} (h:64≤n∧n≤512):16≤layN n∧layN n≤64∧datB n < n∧datB n=inoB n+n / 16∧inoB n=bitsB n+1:=by
  unfold datB inoB bitsB layN; split <;> omega
theorem blksF_rng {n:Nat} {V:Bs} {f:Fi} (h:FiOk n V f):∀ i ∈ blksF f,datB n≤i∧i < n:=by
  intro i hi
  unfold blksF at hi
  rcases List.mem_append.1 hi with hi | hi
  · obtain ⟨x,hx,h1,h2⟩:=mem_blksX.1 hi
    have:=h.rng x hx; omega
  · split at hi
    · cases hi
    · rename_i hn
      simp only [List.mem_singleton] at hi
      subst hi
      have:=h.node hn; exact ⟨this.1,this.2.1⟩
def Oth (n:Nat) (s:Fs) (i:Nat):Nat→Prop:=fun b=>b < datB n∨∃ j,j≠i∧b ∈ blksF (s.fi j)
theorem FsOk.taken {n:Nat} {s:Fs} (h:FsOk n s) (i:Nat):TakenB n s.used (blksF (s.fi i)) (Oth n s i):=by
  refine ⟨h.len,fun b hb=>?_,h.nodup i,fun b hb=>⟨?_,(blksF_rng (h.fi i) b hb).2⟩⟩
  · rw [h.own b hb]
    constructor
    · rintro (g | ⟨j,g⟩)
      · exact .inr (.inl g)
      · by_cases e:j=i
        · subst e; exact .inl g
        · exact .inr (.inr ⟨j,e,g⟩)
    · rintro (g | g | ⟨j,_,g⟩)
      · exact .inr ⟨i,g⟩
      · exact .inl g
      · exact .inr ⟨j,g⟩
  · rintro (g | ⟨j,e,g⟩)
    · have:=(blksF_rng (h.fi i) b hb).1; omega
    · exact e (h.apart j i b g hb)
theorem nodeL_of {V:Bs} {n:Nat} {f:Fi} (h:FiOk n V f):f.ext.length≤253:=by
  have key:∀ (l:List Xt) (e:Nat),rightX e l=true→(∀ x ∈ l,x.at_+x.count≤32)→e≤32→l.length+e≤32:=by
    intro l
    induction l with
    | nil=>intro e _ _ he; simpa using he
    | cons x l ih =>
      intro e hr hx he
      rw [rightX_cons] at hr
      have h1:=hx x (by simp)
      have:=ih (x.at_+x.count) hr.2 (fun y hy=>hx y (by simp [hy])) h1
      have:=hr.1.one; have:=hr.1.ge
      simp only [List.length_cons]; omega
  have:=h.size
  have:=key f.ext 0 h.right (fun x hx=>by have:=h.ends x hx; omega) (by omega)
  omega
def keepU (used:List Bool) (node:Nat) (all:List Xt):Option (List Bool × Nat) :=
  if all.length≤3 then some (if node=0 then used else clearP node 1 used,0)
  else if node=0 then (match allocP 1 used 1 with
    | some (u,x :: _)=>some (u,x.1)
    | _=>none)
  else some (used,node)
theorem alloc_one {used:List Bool} (h:0 < freeN used):∃ u s,allocP 1 used 1=some (u,[(s,1)])∧Found used 1 u [(s,1)]:=by
  have ha:=allocP_ok 1 used 1 (Nat.le_refl _)
  cases hr:allocP 1 used 1 with
  | none=>have:=ha.2 hr; omega
  | some r =>
    obtain ⟨u,xs⟩:=r
    have hF:=ha.1 u xs hr
    match xs,hF with
    | [],hF=>have:=hF.sum; simp at this
    | [x],hF =>
      have:=hF.sum
      simp only [List.map_cons,List.map_nil,List.sum_cons,List.sum_nil] at this
      obtain ⟨a,b⟩:=x
      simp only [] at this
      have:b=1:=by omega
      subst this
      exact ⟨u,a,rfl,hF⟩
    | x :: y :: l,hF =>
      have h1:=hF.sum
      have h2:=hF.pos x (by simp)
      have h3:=hF.pos y (by simp)
      simp only [List.map_cons,List.sum_cons] at h1
      omega
theorem TakenB.give {n:Nat} {used:List Bool} {bs:List Nat} {O:Nat→Prop} (h:TakenB n used bs O) {s c:Nat} {bs':List Nat} (hp:bs.Perm ((Xt.mk 0 s c).blks++bs')):TakenB n (clearP s c used) bs' O:=by
  have hnd:=h.nodup
  rw [hp.nodup_iff,List.nodup_append] at hnd
  refine ⟨(clearP_length _ _ _).trans h.len,fun i hi=>?_,hnd.2.1,fun i hi=>h.apart i ((hp.mem_iff).2 (List.mem_append_right _ hi))⟩
  have hlt:i < used.length:=by rw [h.len]; exact hi
  have:=h.iff i hi
  rw [clearP_get _ _ _ _ hlt]
  rw [List.getElem?_eq_getElem hlt] at this
  rw [List.getD_eq_getElem?_getD,List.getElem?_eq_getElem hlt]
  simp only [Option.some.injEq,Option.getD_some,Bool.and_eq_true,Bool.not_eq_true',decide_eq_false_iff_not] at this ⊢
  rw [this,hp.mem_iff,List.mem_append,mem_blks]
  show (¬(s≤i∧i < s+c)∧(((s≤i∧i < s+c)∨i ∈ bs')∨O i))↔_
  constructor
  · rintro ⟨g,(g1 | g1) | g1⟩
    · exact absurd g1 g
    · exact .inl g1
    · exact .inr g1
  · intro g
    refine ⟨fun hc=>?_,?_⟩
    · have hm:i ∈ (Xt.mk 0 s c).blks:=mem_blks.2 hc
      rcases g with g | g
      · exact hnd.2.2 i hm i g rfl
      · exact (h.apart i ((hp.mem_iff).2 (List.mem_append_left _ hm))).1 g
    · rcases g with g | g
      · exact .inl (.inr g)
      · exact .inr g
theorem clearP_free:∀ (s c:Nat) (l:List Bool),s+c≤l.length→(∀ i,s≤i→i < s+c→l[i]?=some true)→freeN (clearP s c l)=freeN l+c
  | 0,0,l,_,_=>by cases l <;> rfl
  | 0,c+1,[],h,_=>by simp at h
  | s+1,c,[],h,_=>by simp at h
  | 0,c+1,b :: l,h,hf=>by
    have hb:=hf 0 (Nat.le_refl _) (by omega)
    simp only [List.getElem?_cons_zero,Option.some.injEq] at hb
    subst hb
    have:=clearP_free 0 c l (by simp only [List.length_cons] at h; omega) (fun i h1 h2=>by have:=hf (i+1) (by omega) (by omega); simpa using this)
    simp only [clearP,freeN,List.filter_cons,Bool.not_true,Bool.not_false] at this ⊢
    simp only [if_true,List.length_cons,Bool.false_eq_true,if_false]
    omega
  | s+1,c,b :: l,h,hf=>by
    have:=clearP_free s c l (by simp only [List.length_cons] at h; omega) (fun i h1 h2=>by have:=hf (i+1) (by omega) (by omega); simpa using this)
    have e:clearP (s+1) c (b :: l)=b :: clearP s c l:=by cases c <;> rfl
    rw [e]
    simp only [freeN,List.filter_cons] at this ⊢
    cases b <;> simp only [Bool.not_true,Bool.not_false,if_true,List.length_cons,Bool.false_eq_true,if_false] <;> omega
def nodB (node:Nat):List Nat:=if node=0 then [] else [node]
theorem blksF_eq (f:Fi):blksF f=blksX f.ext++nodB f.node:=rfl
structure Kept (n:Nat) (used:List Bool) (node:Nat) (all:List Xt) (O:Nat→Prop) (used':List Bool) (node':Nat):Prop where
  own:TakenB n used' (blksX all++nodB node') O
  node0:node'=0↔all.length≤3
  rng:node'≠0→(node'=node∨used[node']?=some false)∧node' < n
  less:freeN used≤freeN used'+1
theorem keepU_ok {n:Nat} {used:List Bool} {node:Nat} {all:List Xt} {O:Nat→Prop} (h:TakenB n used (blksX all++nodB node) O) (hO:O 0) :
    (∀ u m,keepU used node all=some (u,m)→Kept n used node all O u m)∧(keepU used node all=none→freeN used=0∧3 < all.length∧node=0):=by
  unfold keepU
  split
  · rename_i h3
    refine ⟨fun u m e=>?_,fun e=>by cases e⟩
    simp only [Option.some.injEq,Prod.mk.injEq] at e
    obtain ⟨rfl,rfl⟩:=e
    split
    · rename_i h0
      subst h0
      exact ⟨h,by simp [h3],fun g=>absurd rfl g,by omega⟩
    · rename_i h0
      have hnode:node ∈ blksX all++nodB node:=by simp [nodB,h0]
      have hp:(blksX all++nodB node).Perm ((Xt.mk 0 node 1).blks++blksX all):=by
        have:nodB node=(Xt.mk 0 node 1).blks:=by simp [nodB,h0,Xt.blks]
        rw [this]; exact List.perm_append_comm
      refine ⟨by simpa [nodB] using h.give hp,by simp [h3],fun g=>absurd rfl g,?_⟩
      have hn:=(h.apart node hnode).2
      have:=clearP_free node 1 used (by rw [h.len]; omega) (fun i h1 h2=>by
        have:i=node:=by omega
        subst this
        exact (h.iff i hn).2 (.inl hnode))
      omega
  · rename_i h3
    split
    · rename_i h0
      subst h0
      refine ⟨fun u m e=>?_,fun e=>?_⟩
      · have hpos:0 < freeN used:=by
          rcases Nat.eq_zero_or_pos (freeN used) with g | g
          · cases hr:allocP 1 used 1 with
            | none=>rw [hr] at e; cases e
            | some r=>obtain ⟨u',xs⟩:=r; have:=allocP_free 1 used 1 u' xs hr; omega
          · exact g
        obtain ⟨u',s,hr,hF⟩:=alloc_one hpos
        rw [hr] at e
        simp only [Option.some.injEq,Prod.mk.injEq] at e
        obtain ⟨rfl,rfl⟩:=e
        have hs:used[s]?=some false:=(hF.pos (s,1) (by simp)).2.2 s (Nat.le_refl _) (by show s < s+1; omega)
        have hfr:=h.free hs
        have hs0:s≠0:=by rintro rfl; exact hfr.2.2 hO
        have hfree:=allocP_free 1 used 1 u' _ hr
        refine ⟨?_,by constructor <;> intro g <;> omega,fun _=>⟨.inr hs,hfr.1⟩,by omega⟩
        refine h.take hF ?_
        have e1:nodB s=[s]:=if_neg hs0
        have e2:zerP [(s,1)]=[s]:=by simp [zerP]
        have e3:nodB 0=[]:=rfl
        rw [e1,e2,e3,List.append_nil]; exact List.perm_append_comm
      · rcases Nat.eq_zero_or_pos (freeN used) with g | g
        · exact ⟨g,by omega,rfl⟩
        · obtain ⟨u',s,hr,hF⟩:=alloc_one g
          rw [hr] at e; cases e
    · rename_i h0
      refine ⟨fun u m e=>?_,fun e=>by cases e⟩
      simp only [Option.some.injEq,Prod.mk.injEq] at e
      obtain ⟨rfl,rfl⟩:=e
      exact ⟨h,by constructor <;> intro g <;> omega,fun _=>⟨.inl rfl,(h.apart node (by simp [nodB,h0])).2⟩,by omega⟩
end Go.Proofs.YtklbcpofihgmlaaGreat
namespace Go.Proofs.YtklbcpofihgmlaaGreat
def updF (fi:Nat→Fi) (i:Nat) (f:Fi):Nat→Fi:=fun j=>if j=i then f else fi j
theorem updF_same (fi:Nat→Fi) (i:Nat) (f:Fi):updF fi i f i=f:=if_pos rfl
theorem updF_other (fi:Nat→Fi) {i j:Nat} (f:Fi) (h:j≠i):updF fi i f j=fi j:=if_neg h
theorem noFi_ok (n:Nat) (V:Bs):FiOk n V noFi :=
  ⟨rfl,by decide,by decide,by decide,fun _=>rfl,fun x hx=>(by cases hx),by simp [noFi],fun h=>absurd rfl h,fun x hx=>(by cases hx),fun k _=>rfl⟩
theorem fbyte_agree {V V':Bs} {f:Fi} (h:∀ b ∈ blksF f,V' b=V b) (k:Nat):fbyte V' f k=fbyte V f k:=by
  unfold fbyte
  cases hf:findP f.ext (k / 4096) with
  | none=>rfl
  | some b=>simp only []; rw [h b (by rw [blksF_eq]; exact List.mem_append_left _ (findP_blk hf))]
theorem FiOk.agree {n:Nat} {V V':Bs} {f:Fi} (h:FiOk n V f) (ha:∀ b ∈ blksF f,V' b=V b):FiOk n V' f :=
  ⟨h.right,h.kind,h.links,h.size,h.none,h.rng,h.node0,fun hn=>by
    obtain ⟨h1,h2,h3⟩:=h.node hn
    exact ⟨h1,h2,by rw [ha f.node (by rw [blksF_eq]; exact List.mem_append_right _ (by simp [nodB,hn]))]; exact h3⟩,h.ends,fun k hk=>by rw [fbyte_agree ha]; exact h.tail k hk⟩
theorem content_agree {V V':Bs} {f:Fi} (h:∀ b ∈ blksF f,V' b=V b):content V' f=content V f:=by
  unfold content
  apply List.map_congr_left
  intro k _
  exact fbyte_agree h k
structure Turned (n:Nat) (s:Fs) (i:Nat) (u:List Bool) (f':Fi) (V':Bs):Prop where
  num:1≤i∧i≤64 * (n / 16)
  own:TakenB n u (blksF f') (Oth n s i)
  ok:FiOk n V' f'
  bits:V' (bitsB n)=bitsL u
  inos:∀ k,k < n / 16→V' (inoB n+k)=inoBlk (updF s.fi i f') k
  vlen:∀ j,j < n→(V' j).length=4096
  other:∀ j,j≠i→∀ b ∈ blksF (s.fi j),V' b=s.V b
theorem Turned.fs {n:Nat} {s:Fs} {i:Nat} {u:List Bool} {f':Fi} {V':Bs} (h:FsOk n s) (t:Turned n s i u f' V'):FsOk n ⟨u,updF s.fi i f',V'⟩:=by
  refine ⟨h.n64,t.own.len,t.bits,t.inos,t.vlen,fun j=>?_,fun j hj=>?_,fun b hb=>?_,fun j=>?_,fun j k b h1 h2=>?_⟩
  · by_cases e:j=i
    · subst e; show FiOk n V' (updF s.fi j f' j); rw [updF_same]; exact t.ok
    · show FiOk n V' (updF s.fi i f' j); rw [updF_other _ _ e]; exact (h.fi j).agree (t.other j e)
  · have:j≠i:=by have:=t.num; omega
    show updF s.fi i f' j=_
    rw [updF_other _ _ this]; exact h.out j hj
  · show u[b]?=some true↔b < datB n∨∃ j,b ∈ blksF (updF s.fi i f' j)
    rw [t.own.iff b hb]
    constructor
    · rintro (g | g | ⟨j,e,g⟩)
      · exact .inr ⟨i,by rw [updF_same]; exact g⟩
      · exact .inl g
      · exact .inr ⟨j,by rw [updF_other _ _ e]; exact g⟩
    · rintro (g | ⟨j,g⟩)
      · exact .inr (.inl g)
      · by_cases e:j=i
        · subst e; rw [updF_same] at g; exact .inl g
        · rw [updF_other _ _ e] at g; exact .inr (.inr ⟨j,e,g⟩)
  · by_cases e:j=i
    · subst e; show (blksF (updF s.fi j f' j)).Nodup; rw [updF_same]; exact t.own.nodup
    · show (blksF (updF s.fi i f' j)).Nodup; rw [updF_other _ _ e]; exact h.nodup j
  · simp only [] at h1 h2
    by_cases e:j=i
    · subst e
      rw [updF_same] at h1
      by_cases e2:k=j
      · exact e2.symm
      · rw [updF_other _ _ e2] at h2
        exact absurd (.inr ⟨k,e2,h2⟩) (t.own.apart b h1).1
    · rw [updF_other _ _ e] at h1
      by_cases e2:k=i
      · subst e2
        rw [updF_same] at h2
        exact absurd (.inr ⟨j,e,h1⟩) (t.own.apart b h2).1
      · rw [updF_other _ _ e2] at h2
        exact h.apart j k b h1 h2
theorem Turned.others {n:Nat} {s:Fs} {i:Nat} {u:List Bool} {f':Fi} {V':Bs} (t:Turned n s i u f' V') (j:Nat) (hj:j≠i):content V' (updF s.fi i f' j)=content s.V (s.fi j):=by
  rw [updF_other _ _ hj]; exact content_agree (t.other j hj)
def patch (old:List UInt8) (o:Nat) (p:List UInt8):List UInt8:=old.take o++p++old.drop (o+p.length)
theorem patch_length {old p:List UInt8} {o:Nat} (h:o+p.length≤old.length):(patch old o p).length=old.length:=by
  simp only [patch,List.length_append,List.length_take,List.length_drop]; omega
theorem patch_get {old p:List UInt8} {o:Nat} (h:o+p.length≤old.length) (j:Nat):(patch old o p).getD j 0=if o≤j∧j < o+p.length then p.getD (j - o) 0 else old.getD j 0:=by
  have key:(patch old o p)[j]?=if o≤j∧j < o+p.length then p[j - o]? else old[j]?:=by
    unfold patch
    rw [List.append_assoc]
    rcases Nat.lt_or_ge j o with g | g
    · rw [List.getElem?_append_left (by rw [List.length_take]; omega),List.getElem?_take_of_lt g,if_neg (by omega)]
    · rw [List.getElem?_append_right (by rw [List.length_take]; omega),List.length_take,Nat.min_eq_left (by omega)]
      rcases Nat.lt_or_ge j (o+p.length) with g2 | g2
      · rw [if_pos ⟨g,g2⟩,List.getElem?_append_left (by omega)]
      · rw [if_neg (by omega),List.getElem?_append_right (by omega),List.getElem?_drop]
        congr 1; omega
  rw [List.getD_eq_getElem?_getD,key]
  split
  · rw [List.getD_eq_getElem?_getD]
  · rw [List.getD_eq_getElem?_getD]
def wrP (all:List Xt) (at_:Nat) (b:List UInt8):Nat→Nat→Bs→Bs
  | 0,_,V=>V
  | f+1,k,V=>bif Nat.blt k (at_+b.length) then
      wrP all at_ b f (k+min (4096 - k % 4096) (at_+b.length - k)) (upd V ((findP all (k / 4096)).getD 0) (patch (V ((findP all (k / 4096)).getD 0)) (k % 4096) ((b.drop (k - at_)).take (4096 - k % 4096))))
    else V
theorem findP_inj {k k' b:Nat}:∀ {l:List Xt},(blksX l).Nodup→findP l k=some b→findP l k'=some b→k=k'
  | x :: l,hn,h1,h2=>by
    have e:blksX (x :: l)=x.blks++blksX l:=by simp [blksX]
    rw [e,List.nodup_append] at hn
    rw [findP] at h1 h2
    split at h1
    · rename_i g1
      split at h2
      · rename_i g2
        simp only [Option.some.injEq] at h1 h2; omega
      · have m1:b ∈ x.blks:=mem_blks.2 (by simp only [Option.some.injEq] at h1; omega)
        exact absurd rfl (hn.2.2 b m1 b (findP_blk h2))
    · split at h2
      · rename_i g2
        have m1:b ∈ x.blks:=mem_blks.2 (by simp only [Option.some.injEq] at h2; omega)
        exact absurd rfl (hn.2.2 b m1 b (findP_blk h1))
      · exact findP_inj hn.2.1 h1 h2
structure WrOk (all:List Xt) (at_:Nat) (b:List UInt8) (V0 V:Bs) (k:Nat):Prop where
  len:∀ i,(V i).length=(V0 i).length
  byte:∀ q d o,findP all q=some d→o < 4096→(V d).getD o 0=if at_≤4096 * q+o∧4096 * q+o < k then b.getD (4096 * q+o - at_) 0 else (V0 d).getD o 0
  other:∀ i,i ∉ blksX all→V i=V0 i
theorem WrOk.refl (all:List Xt) (at_:Nat) (b:List UInt8) (V:Bs):WrOk all at_ b V V at_ :=
  ⟨fun _=>rfl,fun q d o _ _=>by rw [if_neg (by omega)],fun _ _=>rfl⟩
theorem WrOk.step {all:List Xt} {at_:Nat} {b:List UInt8} {V0 V:Bs} {k:Nat} (h:WrOk all at_ b V0 V k) (hn:(blksX all).Nodup) (hk:at_≤k∧k < at_+b.length) {d:Nat} (hd:findP all (k / 4096)=some d) (hl:(V0 d).length=4096) :
    WrOk all at_ b V0 (upd V d (patch (V d) (k % 4096) ((b.drop (k - at_)).take (4096 - k % 4096)))) (k+min (4096 - k % 4096) (at_+b.length - k)):=by
  have hpl:((b.drop (k - at_)).take (4096 - k % 4096)).length=min (4096 - k % 4096) (at_+b.length - k):=by
    rw [List.length_take,List.length_drop]; omega
  have hVl:(V d).length=4096:=by rw [h.len]; exact hl
  have hfit:k % 4096+((b.drop (k - at_)).take (4096 - k % 4096)).length≤(V d).length:=by rw [hpl,hVl]; omega
  refine ⟨fun i=>?_,fun q e o hq ho=>?_,fun i hi=>?_⟩
  · by_cases e:i=d
    · subst e; rw [upd_same,patch_length hfit]; exact h.len i
    · rw [upd_other _ _ e]; exact h.len i
  · by_cases ed:e=d
    · subst ed
      have hqk:q=k / 4096:=findP_inj hn hq hd
      subst hqk
      rw [upd_same,patch_get hfit,hpl]
      have hb:=h.byte (k / 4096) e o hq ho
      by_cases g:k % 4096≤o∧o < k % 4096+min (4096 - k % 4096) (at_+b.length - k)
      · rw [if_pos g,if_pos (by omega)]
        simp only [List.getD_eq_getElem?_getD]
        congr 1
        rw [List.getElem?_take_of_lt (by omega),List.getElem?_drop]
        congr 1; omega
      · rw [if_neg g,hb]
        by_cases g2:at_≤4096 * (k / 4096)+o∧4096 * (k / 4096)+o < k
        · rw [if_pos g2,if_pos (by omega)]
        · rw [if_neg g2,if_neg (by omega)]
    · rw [upd_other _ _ ed,h.byte q e o hq ho]
      have hqk:q≠k / 4096:=by
        rintro rfl
        rw [hq] at hd; cases hd; exact ed rfl
      by_cases g2:at_≤4096 * q+o∧4096 * q+o < k
      · rw [if_pos g2,if_pos (by omega)]
      · rw [if_neg g2,if_neg (by omega)]
  · rw [upd_other _ _ (fun e=>hi (by rw [e]; exact findP_blk hd))]
    exact h.other i hi
theorem wrP_ok {all:List Xt} {at_:Nat} {b:List UInt8} {V0:Bs} (hn:(blksX all).Nodup) (hall:∀ q,at_ / 4096≤q→q < (at_+b.length+4095) / 4096→∃ d,findP all q=some d∧(V0 d).length=4096) :
    ∀ (f k:Nat) (V:Bs),at_≤k→k≤at_+b.length→at_+b.length - k≤f→WrOk all at_ b V0 V k→WrOk all at_ b V0 (wrP all at_ b f k V) (at_+b.length)
  | 0,k,V,h1,h2,hf,h=>by
    have:k=at_+b.length:=by omega
    rw [wrP]; rw [← this]; exact h
  | f+1,k,V,h1,h2,hf,h=>by
    rw [wrP]
    cases hc:Nat.blt k (at_+b.length) with
    | false =>
      have:=blt_false hc
      have:k=at_+b.length:=by omega
      rw [cond_false,← this]; exact h
    | true =>
      rw [Nat.blt_eq] at hc
      rw [cond_true]
      obtain ⟨d,hd,hl⟩:=hall (k / 4096) (by omega) (by omega)
      rw [hd,Option.getD_some]
      exact wrP_ok hn hall f _ _ (by omega) (by omega) (by omega) (h.step hn ⟨h1,hc⟩ hd hl)
def growV (n:Nat) (V:Bs) (g:Gr):Bs:=fun j=>if j=bitsB n then bitsL g.used else if j ∈ g.zer then zer4 else V j
def keepV (n:Nat) (V:Bs) (u:List Bool) (m:Nat) (all:List Xt):Bs:=fun j=>if j=bitsB n then bitsL u else if m≠0∧j=m then nodeL (all.drop 3) else V j
def setV (n:Nat) (V:Bs) (fi:Nat→Fi) (i:Nat):Bs:=upd V (inoB n+(i - 1) / 64) (inoBlk fi ((i - 1) / 64))
def lastB (e:Nat):Nat:=(e+4095) / 4096
def growG (s:Fs) (i at_ len:Nat):Option Gr:=growP (lastB (at_+len) - at_ / 4096) (at_ / 4096) (lastB (at_+len)) ⟨s.used,(s.fi i).ext,[]⟩
def writeF (f:Fi) (m:Nat) (all:List Xt) (e:Nat):Fi:={ f with size:=max f.size e,node:=m,ext:=all }
def writeU (n:Nat) (s:Fs) (i at_:Nat) (b:List UInt8):Option Fs:=match growG s i at_ b.length with
  | none=>none
  | some g=>match keepU g.used (s.fi i).node g.all with
    | none=>none
    | some (u,m)=>some ⟨u,updF s.fi i (writeF (s.fi i) m g.all (at_+b.length)),setV n (wrP g.all at_ b b.length at_ (keepV n (growV n s.V g) u m g.all)) (updF s.fi i (writeF (s.fi i) m g.all (at_+b.length))) i⟩
theorem inoBlk_other {fi:Nat→Fi} {i k:Nat} {f:Fi} (hi:1≤i) (h:k≠(i - 1) / 64):inoBlk (updF fi i f) k=inoBlk fi k:=by
  unfold inoBlk
  apply congrArg List.flatten
  apply List.map_congr_left
  intro j hj
  rw [List.mem_range] at hj
  rw [updF_other]
  omega
theorem inoBlk_length (fi:Nat→Fi) (k:Nat):(inoBlk fi k).length=4096:=by
  unfold inoBlk
  have:∀ (l:List Nat),(l.flatMap fun j=>inoL (fi (64 * k+j+1))).length=64 * l.length:=by
    intro l
    induction l with
    | nil=>rfl
    | cons a l ih=>rw [List.flatMap_cons,List.length_append,ih,inoL_length,List.length_cons]; omega
  rw [this,List.length_range]
theorem rng_of {n:Nat} {u:List Bool} {f:Fi} {s:Fs} {i:Nat} (h:TakenB n u (blksF f) (Oth n s i)) (hr:rightX 0 f.ext=true):∀ x ∈ f.ext,datB n≤x.start∧x.start+x.count≤n:=by
  intro x hx
  have h1:=(rightX_mem hr x hx).one
  have key:∀ b,x.start≤b→b < x.start+x.count→datB n≤b∧b < n:=by
    intro b g1 g2
    have hm:b ∈ blksF f:=by rw [blksF_eq]; exact List.mem_append_left _ (mem_blksX.2 ⟨x,hx,g1,g2⟩)
    have:=h.apart b hm
    refine ⟨?_,this.2⟩
    rcases Nat.lt_or_ge b (datB n) with g | g
    · exact absurd (.inl g) this.1
    · exact g
  have:=key x.start (Nat.le_refl _) (by omega)
  have:=key (x.start+x.count - 1) (by omega) (by omega)
  omega
theorem last_find {l:List Xt} (hr:rightX 0 l=true) {x:Xt} (hx:x ∈ l):∃ d,findP l (x.at_+x.count - 1)=some d:=by
  have:=(rightX_mem hr x hx).one
  exact ⟨_,findP_of_mem hr x hx (by omega) (by omega)⟩
structure Written (n:Nat) (s:Fs) (i at_:Nat) (b:List UInt8) (s':Fs):Prop where
  ok:FsOk n s'
  fi:∀ j,j≠i→s'.fi j=s.fi j∧content s'.V (s'.fi j)=content s.V (s.fi j)
  same:(s'.fi i).kind=(s.fi i).kind∧(s'.fi i).links=(s.fi i).links∧(s'.fi i).size=max (s.fi i).size (at_+b.length)
  byte:∀ k,fbyte s'.V (s'.fi i) k=if at_≤k∧k < at_+b.length then b.getD (k - at_) 0 else fbyte s.V (s.fi i) k
theorem write_ok {n:Nat} {s:Fs} (h:FsOk n s) {i at_:Nat} {b:List UInt8} (hi:1≤i∧i≤64 * (n / 16)) (hk:(s.fi i).kind≠0) (hb:0 < b.length) (hm:at_+b.length≤131072) :
    (∀ s',writeU n s i at_ b=some s'→Written n s i at_ b s')∧(writeU n s i at_ b=none→freeN s.used < lastB (at_+b.length) - at_ / 4096+1):=by
  have hL:=layN_range h.n64
  have hf:=h.fi i
  have hT:=h.taken i
  have hO0:Oth n s i 0:=.inl (by unfold datB; omega)
  have hT1:TakenB n s.used (blksX (s.fi i).ext) (fun b=>Oth n s i b∨b ∈ nodB (s.fi i).node):=by
    rw [blksF_eq] at hT
    have hnd:=hT.nodup
    rw [List.nodup_append] at hnd
    refine ⟨hT.len,fun b hb=>?_,hnd.1,fun b hb=>⟨?_,(hT.apart b (List.mem_append_left _ hb)).2⟩⟩
    · rw [hT.iff b hb,List.mem_append]
      constructor
      · rintro ((g | g) | g)
        · exact .inl g
        · exact .inr (.inr g)
        · exact .inr (.inl g)
      · rintro (g | g | g)
        · exact .inl (.inl g)
        · exact .inr g
        · exact .inl (.inr g)
    · rintro (g | g)
      · exact (hT.apart b (List.mem_append_left _ hb)).1 g
      · exact hnd.2.2 b hb b g rfl
  have hG:=growP_ok n h.n64.2 (fun b=>Oth n s i b∨b ∈ nodB (s.fi i).node) (.inl hO0) (lastB (at_+b.length)) (by unfold lastB; omega) (lastB (at_+b.length) - at_ / 4096) (at_ / 4096) ⟨s.used,(s.fi i).ext,[]⟩ (Nat.le_refl _) hf.right hT1
  unfold writeU growG
  cases hg:growP (lastB (at_+b.length) - at_ / 4096) (at_ / 4096) (lastB (at_+b.length)) ⟨s.used,(s.fi i).ext,[]⟩ with
  | none=>exact ⟨fun s' e=>(by cases e),fun _=>by have:=hG.2 hg; simp only [] at this; omega⟩
  | some g =>
    simp only []
    have hg:=hG.1 g hg
    obtain ⟨zs,z1,z2,z3,z4,z5,z6⟩:=hg.new
    simp only [List.nil_append] at z1 z2 z3 z4 z5
    subst z1
    have hT2:TakenB n g.used (blksX g.all++nodB (s.fi i).node) (Oth n s i):=by
      have ho:=hg.own
      refine ⟨ho.len,fun b hb=>?_,?_,fun b hb=>?_⟩
      · rw [ho.iff b hb,List.mem_append]
        constructor
        · rintro (g | g | g)
          · exact .inl (.inl g)
          · exact .inr g
          · exact .inl (.inr g)
        · rintro ((g | g) | g)
          · exact .inl g
          · exact .inr (.inr g)
          · exact .inr (.inl g)
      · rw [List.nodup_append]
        refine ⟨ho.nodup,by unfold nodB; split <;> simp,fun a ha c hc e=>?_⟩
        subst e
        exact (ho.apart a ha).1 (.inr hc)
      · rcases List.mem_append.1 hb with g | g
        · exact ⟨fun q=>(ho.apart b g).1 (.inl q),(ho.apart b g).2⟩
        · rw [blksF_eq] at hT
          exact hT.apart b (List.mem_append_right _ g)
    have hK:=keepU_ok hT2 hO0
    cases hkp:keepU g.used (s.fi i).node g.all with
    | none=>exact ⟨fun s' e=>(by cases e),fun _=>by have:=(hK.2 hkp).1; omega⟩
    | some r =>
      obtain ⟨u,m⟩:=r
      simp only []
      refine ⟨fun s' e=>?_,fun e=>by cases e⟩
      simp only [Option.some.injEq] at e
      subst e
      have hKp:=hK.1 u m hkp
      have hTf:TakenB n u (blksF (writeF (s.fi i) m g.all (at_+b.length))) (Oth n s i):=hKp.own
      have hrng:=rng_of hTf hg.right
      have hge:∀ d,d ∈ blksF (writeF (s.fi i) m g.all (at_+b.length))→datB n≤d∧d < n:=by
        intro d hd
        have:=hTf.apart d hd
        refine ⟨?_,this.2⟩
        rcases Nat.lt_or_ge d (datB n) with q | q
        · exact absurd (.inl q) this.1
        · exact q
      have hblk:∀ {q d},findP g.all q=some d→d ∈ blksF (writeF (s.fi i) m g.all (at_+b.length)):=fun hq=>by
        rw [blksF_eq]; exact List.mem_append_left _ (findP_blk hq)
      have hzge:∀ d ∈ g.zer,datB n≤d∧d < n:=fun d hd=>by
        refine hge d ?_
        rw [blksF_eq]; exact List.mem_append_left _ (z2.mem_iff.2 (List.mem_append_left _ hd))
      have hnd:(blksX g.all).Nodup:=hg.own.nodup
      have hmn:m≠0→m ∉ blksX g.all:=by
        intro h0 hmm
        have:=hKp.own.nodup
        rw [List.nodup_append] at this
        exact this.2.2 m hmm m (by simp [nodB,h0]) rfl
      have hmge:m≠0→datB n≤m∧m < n:=by
        intro h0
        refine hge m ?_
        rw [blksF_eq]; exact List.mem_append_right _ (by show m ∈ nodB m; simp [nodB,h0])
      have hV2len:∀ j,j < n→(keepV n (growV n s.V g) u m g.all j).length=4096:=by
        intro j hj
        unfold keepV growV
        split
        · exact bitsL_length _
        · split
          · refine nodeL_length ?_
            rw [List.length_drop]
            have hlim:g.all.length≤253:=by
              have key:∀ (l:List Xt) (e:Nat),rightX e l=true→(∀ x ∈ l,x.at_+x.count≤32)→e≤32→l.length+e≤32:=by
                intro l
                induction l with
                | nil=>intro e _ _ he; simpa using he
                | cons x l ih =>
                  intro e hr hx he
                  rw [rightX_cons] at hr
                  have h1:=hx x (by simp)
                  have:=ih (x.at_+x.count) hr.2 (fun y hy=>hx y (by simp [hy])) h1
                  have:=hr.1.one; have:=hr.1.ge
                  simp only [List.length_cons]; omega
              have:=key g.all 0 hg.right (fun x hx=>by
                have h1:=(rightX_mem hg.right x hx).one
                obtain ⟨d,hd⟩:=last_find hg.right hx
                by_cases q:at_ / 4096≤x.at_+x.count - 1∧x.at_+x.count - 1 < lastB (at_+b.length)
                · unfold lastB at q; omega
                · have:=hg.same _ q
                  rw [hd] at this
                  obtain ⟨y,hy,y1,y2,_⟩:=findP_mem this.symm
                  have:=hf.ends y hy
                  have:=hf.size
                  omega) (by omega)
              omega
            omega
          · split
            · exact List.length_replicate
            · exact h.vlen j hj
      have hW:WrOk g.all at_ b (keepV n (growV n s.V g) u m g.all) (wrP g.all at_ b b.length at_ (keepV n (growV n s.V g) u m g.all)) (at_+b.length):=by
        refine wrP_ok hnd (fun q q1 q2=>?_) b.length at_ _ (Nat.le_refl _) (by omega) (by omega) (WrOk.refl _ _ _ _)
        have:=hg.all q q1 q2
        obtain ⟨d,hd⟩:=Option.isSome_iff_exists.1 this
        exact ⟨d,hd,hV2len d (hge d (hblk hd)).2⟩
      have hV2:∀ {q d},findP g.all q=some d→keepV n (growV n s.V g) u m g.all d=if d ∈ g.zer then zer4 else s.V d:=by
        intro q d hq
        have h1:=hge d (hblk hq)
        unfold keepV growV
        rw [if_neg (by omega),if_neg,if_neg (by omega)]
        rintro ⟨h0,rfl⟩
        exact hmn h0 (findP_blk hq)
      have hfin:∀ d,datB n≤d→setV n (wrP g.all at_ b b.length at_ (keepV n (growV n s.V g) u m g.all)) (updF s.fi i (writeF (s.fi i) m g.all (at_+b.length))) i d=wrP g.all at_ b b.length at_ (keepV n (growV n s.V g) u m g.all) d:=by
        intro d hd
        unfold setV
        rw [upd_other]
        omega
      have hbyte:∀ k,fbyte (setV n (wrP g.all at_ b b.length at_ (keepV n (growV n s.V g) u m g.all)) (updF s.fi i (writeF (s.fi i) m g.all (at_+b.length))) i) (writeF (s.fi i) m g.all (at_+b.length)) k=if at_≤k∧k < at_+b.length then b.getD (k - at_) 0 else fbyte s.V (s.fi i) k:=by
        intro k
        unfold fbyte
        show (match findP g.all (k / 4096) with | some b=>_ | none=>_)=_
        cases hq:findP g.all (k / 4096) with
        | none =>
          simp only []
          have hout:¬ (at_≤k∧k < at_+b.length):=by
            intro hc
            have:=hg.all (k / 4096) (by omega) (by unfold lastB; omega)
            rw [hq] at this; cases this
          rw [if_neg hout]
          cases hq0:findP (s.fi i).ext (k / 4096) with
          | none=>rfl
          | some d=>have:=hg.old _ _ hq0; rw [hq] at this; cases this
        | some d =>
          simp only []
          have hd:=hge d (hblk hq)
          rw [hfin d hd.1,hW.byte (k / 4096) d (k % 4096) hq (Nat.mod_lt _ (by omega)),hV2 hq]
          have e1:4096 * (k / 4096)+k % 4096=k:=by omega
          rw [e1]
          split
          · rfl
          · cases hq0:findP (s.fi i).ext (k / 4096) with
            | none =>
              rw [if_pos (z4 _ _ hq0 hq)]
              simp only [zer4,List.getD_eq_getElem?_getD,List.getElem?_replicate]
              split <;> rfl
            | some d' =>
              have:=hg.old _ _ hq0
              rw [hq] at this
              cases this
              rw [if_neg]
              intro hz
              have h1:=z3 d hz
              have h2:=(hT1.free h1).2.1
              exact h2 (findP_blk hq0)
      have hTurn:Turned n s i u (writeF (s.fi i) m g.all (at_+b.length)) (setV n (wrP g.all at_ b b.length at_ (keepV n (growV n s.V g) u m g.all)) (updF s.fi i (writeF (s.fi i) m g.all (at_+b.length))) i):=by
        have hwo:∀ j,j < datB n→wrP g.all at_ b b.length at_ (keepV n (growV n s.V g) u m g.all) j=keepV n (growV n s.V g) u m g.all j:=by
          intro j hj
          refine hW.other j (fun hm=>?_)
          have:=hge j (by rw [blksF_eq]; exact List.mem_append_left _ hm)
          omega
        refine ⟨hi,hTf,?_,?_,?_,?_,?_⟩
        · refine ⟨hg.right,hf.kind,hf.links,?_,fun e=>absurd e hk,hrng,hKp.node0,fun h0=>?_,fun x hx=>?_,fun k hkk=>?_⟩
          · show max _ _≤_; have:=hf.size; omega
          · have h0:m≠0:=h0
            refine ⟨(hmge h0).1,(hmge h0).2,?_⟩
            show setV n _ _ i m=nodeL (g.all.drop 3)
            rw [hfin m (hmge h0).1,hW.other m (hmn h0)]
            unfold keepV
            have:=(hmge h0).1
            rw [if_neg (by omega),if_pos ⟨h0,rfl⟩]
          · have hx:x ∈ g.all:=hx
            have h1:=(rightX_mem hg.right x hx).one
            obtain ⟨d,hd⟩:=last_find hg.right hx
            show x.at_+x.count≤(max (s.fi i).size (at_+b.length)+4095) / 4096
            by_cases q:at_ / 4096≤x.at_+x.count - 1∧x.at_+x.count - 1 < lastB (at_+b.length)
            · unfold lastB at q; omega
            · have:=hg.same _ q
              rw [hd] at this
              obtain ⟨y,hy,y1,y2,_⟩:=findP_mem this.symm
              have:=hf.ends y hy
              omega
          · have hkk:max (s.fi i).size (at_+b.length)≤k:=hkk
            rw [hbyte k,if_neg (by omega)]
            exact hf.tail k (by omega)
        · unfold setV
          rw [upd_other _ _ (by omega),hwo _ (by omega)]
          unfold keepV; rw [if_pos rfl]
        · intro k hkn
          unfold setV
          by_cases e:k=(i - 1) / 64
          · subst e; rw [upd_same]
          · rw [upd_other _ _ (by omega),hwo _ (by omega),inoBlk_other hi.1 e]
            unfold keepV growV
            rw [if_neg (by omega),if_neg,if_neg (by omega),if_neg,h.inos k hkn]
            · intro hz; have:=hzge _ hz; omega
            · rintro ⟨h0,h1⟩; have:=hmge h0; omega
        · intro j hj
          unfold setV
          by_cases e:j=inoB n+(i - 1) / 64
          · rw [e,upd_same]; exact inoBlk_length _ _
          · rw [upd_other _ _ e,hW.len]; exact hV2len j hj
        · intro j hj d hd
          have hOth:Oth n s i d:=.inr ⟨j,hj,hd⟩
          have hdr:=blksF_rng (h.fi j) d hd
          have hnot:d ∉ blksF (writeF (s.fi i) m g.all (at_+b.length)):=fun hm=>(hTf.apart d hm).1 hOth
          rw [blksF_eq] at hnot
          rw [hfin d hdr.1,hW.other d (fun hm=>hnot (List.mem_append_left _ hm))]
          unfold keepV growV
          rw [if_neg (by omega),if_neg,if_neg (by omega),if_neg]
          · intro hz; exact hnot (List.mem_append_left _ (z2.mem_iff.2 (List.mem_append_left _ hz)))
          · rintro ⟨h0,rfl⟩
            exact hnot (List.mem_append_right _ (by show d ∈ nodB d; simp [nodB,h0]))
      refine ⟨hTurn.fs h,fun j hj=>⟨updF_other _ _ hj,hTurn.others j hj⟩,?_,fun k=>?_⟩
      · show (updF s.fi i _ i).kind=_∧(updF s.fi i _ i).links=_∧(updF s.fi i _ i).size=_
        rw [updF_same]; exact ⟨rfl,rfl,rfl⟩
      · show fbyte _ (updF s.fi i _ i) k=_
        rw [updF_same]; exact hbyte k
end Go.Proofs.YtklbcpofihgmlaaGreat
namespace Go.Proofs.YtklbcpofihgmlaaGreat
def freeX (used:List Bool) (l:List Xt):List Bool:=l.foldl (fun u x=>clearP x.start x.count u) used
theorem TakenB.gives {n:Nat} {O:Nat→Prop}:∀ {l:List Xt} {used:List Bool} {bs bs':List Nat},TakenB n used bs O→bs.Perm (blksX l++bs')→TakenB n (freeX used l) bs' O
  | [],used,bs,bs',h,hp=>by
    have hp:bs.Perm bs':=by simpa [blksX] using hp
    exact ⟨h.len,fun i hi=>by rw [← hp.mem_iff]; exact h.iff i hi,hp.nodup_iff.1 h.nodup,fun i hi=>h.apart i (hp.mem_iff.2 hi)⟩
  | x :: l,used,bs,bs',h,hp=>by
    have e:blksX (x :: l)=(Xt.mk 0 x.start x.count).blks++blksX l:=by simp [blksX,Xt.blks]
    rw [e,List.append_assoc] at hp
    exact TakenB.gives (used:=clearP x.start x.count used) (h.give hp) (List.Perm.refl _)
theorem freeX_length (l:List Xt):∀ (used:List Bool),(freeX used l).length=used.length:=by
  induction l with
  | nil=>intro used; rfl
  | cons x l ih=>intro used; show (freeX (clearP x.start x.count used) l).length=_; rw [ih,clearP_length]
def TakenAll:List Bool→List Xt→Prop
  | _,[]=>True
  | u,x :: l=>(∀ i,x.start≤i→i < x.start+x.count→u[i]?=some true)∧TakenAll (clearP x.start x.count u) l
theorem TakenB.all {n:Nat} {O:Nat→Prop}:∀ {l:List Xt} {used:List Bool} {bs bs':List Nat},TakenB n used bs O→bs.Perm (blksX l++bs')→TakenAll used l
  | [],_,_,_,_,_=>trivial
  | x :: l,used,bs,bs',h,hp=>by
    have e:blksX (x :: l)=(Xt.mk 0 x.start x.count).blks++blksX l:=by simp [blksX,Xt.blks]
    rw [e,List.append_assoc] at hp
    refine ⟨fun i h1 h2=>?_,TakenB.all (h.give hp) (List.Perm.refl _)⟩
    have hm:i ∈ bs:=hp.mem_iff.2 (List.mem_append_left _ (mem_blks.2 ⟨h1,h2⟩))
    exact (h.iff i (h.apart i hm).2).2 (.inl hm)
structure Cut where
  used:List Bool
  node:Nat
  ext:List Xt
  V:Bs
def tailV (V:Bs) (kept:List Xt) (size:Nat):Bs:=match findP kept (size / 4096) with
  | some d=>if 0 < size % 4096 then upd V d ((V d).take (size % 4096)++List.replicate (4096 - size % 4096) 0) else V
  | none=>V
def cutU (n:Nat) (s:Fs) (i size:Nat):Cut :=
  let kept:=keptP (lastB size) (s.fi i).ext
  match keepU (freeX s.used (restP (lastB size) (s.fi i).ext)) (s.fi i).node kept with
  | some (u,m)=>⟨u,m,kept,tailV (keepV n s.V u m kept) kept size⟩
  | none=>⟨s.used,0,kept,s.V⟩
def sizeF (f:Fi) (m:Nat) (all:List Xt) (size:Nat):Fi:={ f with size:=size,node:=m,ext:=all }
def truncU (n:Nat) (s:Fs) (i size:Nat):Fs :=
  let c:=if size < (s.fi i).size then cutU n s i size else ⟨s.used,(s.fi i).node,(s.fi i).ext,s.V⟩
  ⟨c.used,updF s.fi i (sizeF (s.fi i) c.node c.ext size),setV n c.V (updF s.fi i (sizeF (s.fi i) c.node c.ext size)) i⟩
structure Shortened (n:Nat) (s:Fs) (i size:Nat) (s':Fs):Prop where
  ok:FsOk n s'
  fi:∀ j,j≠i→s'.fi j=s.fi j∧content s'.V (s'.fi j)=content s.V (s.fi j)
  same:(s'.fi i).kind=(s.fi i).kind∧(s'.fi i).links=(s.fi i).links∧(s'.fi i).size=size
  byte:∀ k,fbyte s'.V (s'.fi i) k=if k < size then fbyte s.V (s.fi i) k else 0
theorem keptP_mem (a:Nat):∀ {l:List Xt} {x:Xt},x ∈ keptP a l→∃ y ∈ l,x.at_=y.at_∧x.start=y.start∧x.count≤y.count∧x.at_+x.count≤a
  | y :: l,x,hx=>by
    rw [keptP] at hx
    cases hb:Nat.blt 0 (min (a - y.at_) y.count) with
    | true =>
      rw [hb,cond_true] at hx
      rw [Nat.blt_eq] at hb
      rcases List.mem_cons.1 hx with rfl | hx
      · exact ⟨y,by simp,rfl,rfl,by show min _ _≤_; omega,by show y.at_+min _ _≤a; omega⟩
      · obtain ⟨z,hz,r⟩:=keptP_mem a hx; exact ⟨z,by simp [hz],r⟩
    | false =>
      rw [hb,cond_false] at hx
      obtain ⟨z,hz,r⟩:=keptP_mem a hx; exact ⟨z,by simp [hz],r⟩
theorem setV_data {n:Nat} (h:64≤n∧n≤512) {i:Nat} (hi:1≤i∧i≤64 * (n / 16)) (V:Bs) (fi:Nat→Fi) {d:Nat} (hd:datB n≤d):setV n V fi i d=V d:=by
  have hL:=layN_range h
  unfold setV
  rw [upd_other]
  omega
theorem setV_inos {n:Nat} (h:64≤n∧n≤512) {s:Fs} (hs:FsOk n s) {i:Nat} (hi:1≤i∧i≤64 * (n / 16)) {f':Fi} {V:Bs} (hV:∀ k,k < n / 16→V (inoB n+k)=s.V (inoB n+k)) :
    ∀ k,k < n / 16→setV n V (updF s.fi i f') i (inoB n+k)=inoBlk (updF s.fi i f') k:=by
  have hL:=layN_range h
  intro k hk
  unfold setV
  by_cases e:k=(i - 1) / 64
  · subst e; rw [upd_same]
  · rw [upd_other _ _ (by omega),inoBlk_other hi.1 e,hV k hk,hs.inos k hk]
theorem cut_ok {n:Nat} {s:Fs} (h:FsOk n s) {i size:Nat} (hi:1≤i∧i≤64 * (n / 16)) (hk:(s.fi i).kind≠0) (hlt:size < (s.fi i).size) :
    (∃ u m,keepU (freeX s.used (restP (lastB size) (s.fi i).ext)) (s.fi i).node (keptP (lastB size) (s.fi i).ext)=some (u,m))∧Shortened n s i size (truncU n s i size):=by
  have hL:=layN_range h.n64
  have hf:=h.fi i
  have hT:=h.taken i
  have hO0:Oth n s i 0:=.inl (by unfold datB; omega)
  rw [blksF_eq] at hT
  have hp:(blksX (s.fi i).ext++nodB (s.fi i).node).Perm (blksX (restP (lastB size) (s.fi i).ext)++(blksX (keptP (lastB size) (s.fi i).ext)++nodB (s.fi i).node)):=by
    refine (List.Perm.append_right _ (cutP_blks (lastB size) (s.fi i).ext)).trans ?_
    rw [← List.append_assoc]
    exact List.Perm.append_right _ List.perm_append_comm
  have hT2:=hT.gives hp
  have hK:=keepU_ok hT2 hO0
  have hex:∃ u m,keepU (freeX s.used (restP (lastB size) (s.fi i).ext)) (s.fi i).node (keptP (lastB size) (s.fi i).ext)=some (u,m):=by
    cases hkp:keepU (freeX s.used (restP (lastB size) (s.fi i).ext)) (s.fi i).node (keptP (lastB size) (s.fi i).ext) with
    | some r=>exact ⟨r.1,r.2,rfl⟩
    | none =>
      obtain ⟨_,h1,h2⟩:=hK.2 hkp
      have:=hf.node0.1 h2
      have:=keptP_length (lastB size) (s.fi i).ext
      omega
  refine ⟨hex,?_⟩
  obtain ⟨u,m,hkp⟩:=hex
  have hKp:=hK.1 u m hkp
  have hr:=keptP_right (lastB size) hf.right
  have hTf:TakenB n u (blksF (sizeF (s.fi i) m (keptP (lastB size) (s.fi i).ext) size)) (Oth n s i):=hKp.own
  have hge:∀ d,d ∈ blksF (sizeF (s.fi i) m (keptP (lastB size) (s.fi i).ext) size)→datB n≤d∧d < n:=by
    intro d hd
    have:=hTf.apart d hd
    refine ⟨?_,this.2⟩
    rcases Nat.lt_or_ge d (datB n) with q | q
    · exact absurd (.inl q) this.1
    · exact q
  have hblk:∀ {q d},findP (keptP (lastB size) (s.fi i).ext) q=some d→d ∈ blksF (sizeF (s.fi i) m (keptP (lastB size) (s.fi i).ext) size):=fun hq=>by
    rw [blksF_eq]; exact List.mem_append_left _ (findP_blk hq)
  have hmn:m≠0→m ∉ blksX (keptP (lastB size) (s.fi i).ext):=by
    intro h0 hmm
    have:=hKp.own.nodup
    rw [List.nodup_append] at this
    exact this.2.2 m hmm m (by simp [nodB,h0]) rfl
  have hmge:m≠0→datB n≤m∧m < n:=by
    intro h0
    refine hge m ?_
    rw [blksF_eq]; exact List.mem_append_right _ (by show m ∈ nodB m; simp [nodB,h0])
  have hnd:(blksX (keptP (lastB size) (s.fi i).ext)).Nodup:=(List.nodup_append.1 hKp.own.nodup).1
  have hV1:∀ {q d},findP (keptP (lastB size) (s.fi i).ext) q=some d→keepV n s.V u m (keptP (lastB size) (s.fi i).ext) d=s.V d:=by
    intro q d hq
    have h1:=hge d (hblk hq)
    unfold keepV
    rw [if_neg (by omega),if_neg]
    rintro ⟨h0,rfl⟩
    exact hmn h0 (findP_blk hq)
  have hV1len:∀ j,j < n→(keepV n s.V u m (keptP (lastB size) (s.fi i).ext) j).length=4096:=by
    intro j hj
    unfold keepV
    split
    · exact bitsL_length _
    · split
      · refine nodeL_length ?_
        rw [List.length_drop]
        have:=nodeL_of hf
        have:=keptP_length (lastB size) (s.fi i).ext
        omega
      · exact h.vlen j hj
  have htail:∀ j,tailV (keepV n s.V u m (keptP (lastB size) (s.fi i).ext)) (keptP (lastB size) (s.fi i).ext) size j=if findP (keptP (lastB size) (s.fi i).ext) (size / 4096)=some j∧0 < size % 4096 then (s.V j).take (size % 4096)++List.replicate (4096 - size % 4096) 0 else keepV n s.V u m (keptP (lastB size) (s.fi i).ext) j:=by
    intro j
    unfold tailV
    cases hq:findP (keptP (lastB size) (s.fi i).ext) (size / 4096) with
    | none=>simp
    | some d =>
      simp only [Option.some.injEq]
      by_cases h0:0 < size % 4096
      · rw [if_pos h0]
        by_cases e:j=d
        · subst e; rw [upd_same,if_pos ⟨rfl,h0⟩,hV1 hq]
        · rw [upd_other _ _ e,if_neg (fun hc=>e hc.1.symm)]
      · rw [if_neg h0,if_neg (fun hc=>h0 hc.2)]
  have htr:truncU n s i size=⟨u,updF s.fi i (sizeF (s.fi i) m (keptP (lastB size) (s.fi i).ext) size),setV n (tailV (keepV n s.V u m (keptP (lastB size) (s.fi i).ext)) (keptP (lastB size) (s.fi i).ext) size) (updF s.fi i (sizeF (s.fi i) m (keptP (lastB size) (s.fi i).ext) size)) i⟩:=by
    unfold truncU cutU
    simp only []
    rw [if_pos hlt,hkp]
  rw [htr]
  have hbyte:∀ k,fbyte (setV n (tailV (keepV n s.V u m (keptP (lastB size) (s.fi i).ext)) (keptP (lastB size) (s.fi i).ext) size) (updF s.fi i (sizeF (s.fi i) m (keptP (lastB size) (s.fi i).ext) size)) i) (sizeF (s.fi i) m (keptP (lastB size) (s.fi i).ext) size) k=if k < size then fbyte s.V (s.fi i) k else 0:=by
    intro k
    unfold fbyte
    show (match findP (keptP (lastB size) (s.fi i).ext) (k / 4096) with | some b=>_ | none=>_)=_
    have hkf:=keptP_find (lastB size) (k / 4096) (s.fi i).ext
    cases hq:findP (keptP (lastB size) (s.fi i).ext) (k / 4096) with
    | none =>
      simp only []
      split
      · rename_i hks
        rw [hq,if_pos (by unfold lastB; omega)] at hkf
        rw [← hkf]
      · rfl
    | some d =>
      simp only []
      rw [hq] at hkf
      have hkl:k / 4096 < lastB size:=by
        rcases Nat.lt_or_ge (k / 4096) (lastB size) with g | g
        · exact g
        · rw [if_neg (by omega)] at hkf; cases hkf
      rw [if_pos hkl] at hkf
      rw [setV_data h.n64 hi _ _ (hge d (hblk hq)).1,htail d]
      have hdl:=h.vlen d (hge d (hblk hq)).2
      rw [← hkf]
      simp only []
      by_cases hc:findP (keptP (lastB size) (s.fi i).ext) (size / 4096)=some d∧0 < size % 4096
      · rw [if_pos hc]
        have hqs:k / 4096=size / 4096:=findP_inj hnd hq hc.1
        simp only [List.getD_eq_getElem?_getD]
        split
        · rw [List.getElem?_append_left (by rw [List.length_take]; omega),List.getElem?_take_of_lt (by omega)]
        · rw [List.getElem?_append_right (by rw [List.length_take]; omega),List.getElem?_replicate]
          split <;> rfl
      · rw [if_neg hc,hV1 hq]
        split
        · rfl
        · rename_i hks
          exfalso
          unfold lastB at hkl
          have h1:k / 4096=size / 4096:=by omega
          refine hc ⟨by rw [← h1]; exact hq,by omega⟩
  have hTurn:Turned n s i u (sizeF (s.fi i) m (keptP (lastB size) (s.fi i).ext) size) (setV n (tailV (keepV n s.V u m (keptP (lastB size) (s.fi i).ext)) (keptP (lastB size) (s.fi i).ext) size) (updF s.fi i (sizeF (s.fi i) m (keptP (lastB size) (s.fi i).ext) size)) i):=by
    have hlow:∀ j,(∀ q,findP (keptP (lastB size) (s.fi i).ext) q≠some j)→tailV (keepV n s.V u m (keptP (lastB size) (s.fi i).ext)) (keptP (lastB size) (s.fi i).ext) size j=keepV n s.V u m (keptP (lastB size) (s.fi i).ext) j:=by
      intro j hj
      rw [htail,if_neg]
      rintro ⟨h1,_⟩
      exact hj _ h1
    have hnoq:∀ j,j < datB n→∀ q,findP (keptP (lastB size) (s.fi i).ext) q≠some j:=by
      intro j hj q hq
      have:=hge j (hblk hq); omega
    refine ⟨hi,hTf,?_,?_,?_,?_,?_⟩
    · refine ⟨hr,hf.kind,hf.links,?_,fun e=>absurd e hk,rng_of hTf hr,hKp.node0,fun h0=>?_,fun x hx=>?_,fun k hkk=>?_⟩
      · show size≤_; have:=hf.size; omega
      · have h0:m≠0:=h0
        refine ⟨(hmge h0).1,(hmge h0).2,?_⟩
        show setV n _ _ i m=nodeL ((keptP (lastB size) (s.fi i).ext).drop 3)
        rw [setV_data h.n64 hi _ _ (hmge h0).1,hlow m (fun q hq=>hmn h0 (findP_blk hq))]
        unfold keepV
        have:=(hmge h0).1
        rw [if_neg (by omega),if_pos ⟨h0,rfl⟩]
      · obtain ⟨y,hy,_,_,_,h4⟩:=keptP_mem (lastB size) hx
        exact h4
      · have hkk:size≤k:=hkk
        rw [hbyte k,if_neg (by omega)]
    · unfold setV
      rw [upd_other _ _ (by omega),hlow _ (hnoq _ (by omega))]
      unfold keepV; rw [if_pos rfl]
    · refine setV_inos h.n64 h hi fun k hkn=>?_
      rw [hlow _ (hnoq _ (by omega))]
      unfold keepV
      rw [if_neg (by omega),if_neg]
      rintro ⟨h0,h1⟩; have:=hmge h0; omega
    · intro j hj
      unfold setV
      by_cases e:j=inoB n+(i - 1) / 64
      · rw [e,upd_same]; exact inoBlk_length _ _
      · rw [upd_other _ _ e,htail]
        split
        · rw [List.length_append,List.length_take,List.length_replicate,h.vlen j hj]
          rename_i hc; have:=hc.2; omega
        · exact hV1len j hj
    · intro j hj d hd
      have hOth:Oth n s i d:=.inr ⟨j,hj,hd⟩
      have hdr:=blksF_rng (h.fi j) d hd
      have hnot:d ∉ blksF (sizeF (s.fi i) m (keptP (lastB size) (s.fi i).ext) size):=fun hm=>(hTf.apart d hm).1 hOth
      rw [setV_data h.n64 hi _ _ hdr.1,hlow d (fun q hq=>hnot (hblk hq))]
      rw [blksF_eq] at hnot
      unfold keepV
      rw [if_neg (by omega),if_neg]
      rintro ⟨h0,rfl⟩
      exact hnot (List.mem_append_right _ (by show d ∈ nodB d; simp [nodB,h0]))
  refine ⟨hTurn.fs h,fun j hj=>⟨updF_other _ _ hj,hTurn.others j hj⟩,?_,fun k=>?_⟩
  · show (updF s.fi i _ i).kind=_∧(updF s.fi i _ i).links=_∧(updF s.fi i _ i).size=_
    rw [updF_same]; exact ⟨rfl,rfl,rfl⟩
  · show fbyte _ (updF s.fi i _ i) k=_
    rw [updF_same]; exact hbyte k
theorem same_ok {n:Nat} {s:Fs} (h:FsOk n s) {i:Nat} (hi:1≤i∧i≤64 * (n / 16)) {f':Fi} (he:f'.ext=(s.fi i).ext∧f'.node=(s.fi i).node) (hok:FiOk n s.V f') :
    Turned n s i s.used f' (setV n s.V (updF s.fi i f') i):=by
  have hL:=layN_range h.n64
  have hb:blksF f'=blksF (s.fi i):=by rw [blksF_eq,blksF_eq,he.1,he.2]
  refine ⟨hi,by rw [hb]; exact h.taken i,?_,?_,setV_inos h.n64 h hi (fun _ _=>rfl),?_,?_⟩
  · exact hok.agree fun b hbm=>setV_data h.n64 hi _ _ (blksF_rng hok b hbm).1
  · unfold setV; rw [upd_other _ _ (by omega)]; exact h.bits
  · intro j hj
    unfold setV
    by_cases e:j=inoB n+(i - 1) / 64
    · rw [e,upd_same]; exact inoBlk_length _ _
    · rw [upd_other _ _ e]; exact h.vlen j hj
  · intro j _ d hd
    exact setV_data h.n64 hi _ _ (blksF_rng (h.fi j) d hd).1
theorem trunc_ok {n:Nat} {s:Fs} (h:FsOk n s) {i size:Nat} (hi:1≤i∧i≤64 * (n / 16)) (hk:(s.fi i).kind≠0) (hs:size≤131072):Shortened n s i size (truncU n s i size):=by
  by_cases hlt:size < (s.fi i).size
  · exact (cut_ok h hi hk hlt).2
  have hf:=h.fi i
  have htr:truncU n s i size=⟨s.used,updF s.fi i (sizeF (s.fi i) (s.fi i).node (s.fi i).ext size),setV n s.V (updF s.fi i (sizeF (s.fi i) (s.fi i).node (s.fi i).ext size)) i⟩:=by
    unfold truncU
    simp only []
    rw [if_neg hlt]
  rw [htr]
  have hfb:∀ (V:Bs) k,fbyte V (sizeF (s.fi i) (s.fi i).node (s.fi i).ext size) k=fbyte V (s.fi i) k:=fun _ _=>rfl
  have hok:FiOk n s.V (sizeF (s.fi i) (s.fi i).node (s.fi i).ext size) :=
    ⟨hf.right,hf.kind,hf.links,hs,fun e=>absurd e hk,hf.rng,hf.node0,hf.node,fun x hx=>by have:=hf.ends x hx; show _≤(size+4095) / 4096; omega,fun k hkk=>by
      have hkk:size≤k:=hkk
      rw [hfb]; exact hf.tail k (by omega)⟩
  have hTurn:=same_ok h hi (f':=sizeF (s.fi i) (s.fi i).node (s.fi i).ext size) ⟨rfl,rfl⟩ hok
  refine ⟨hTurn.fs h,fun j hj=>⟨updF_other _ _ hj,hTurn.others j hj⟩,?_,fun k=>?_⟩
  · show (updF s.fi i _ i).kind=_∧(updF s.fi i _ i).links=_∧(updF s.fi i _ i).size=_
    rw [updF_same]; exact ⟨rfl,rfl,rfl⟩
  · show fbyte _ (updF s.fi i _ i) k=_
    rw [updF_same,hfb,fbyte_agree (fun b hbm=>setV_data h.n64 hi _ _ (blksF_rng hf b hbm).1)]
    split
    · rfl
    · exact hf.tail k (by omega)
def eraseUsed (s:Fs) (i:Nat):List Bool:=if (s.fi i).node=0 then freeX s.used (s.fi i).ext else clearP (s.fi i).node 1 (freeX s.used (s.fi i).ext)
def eraseU (n:Nat) (s:Fs) (i:Nat):Fs:=⟨eraseUsed s i,updF s.fi i noFi,setV n (upd s.V (bitsB n) (bitsL (eraseUsed s i))) (updF s.fi i noFi) i⟩
theorem erase_ok {n:Nat} {s:Fs} (h:FsOk n s) {i:Nat} (hi:1≤i∧i≤64 * (n / 16)):FsOk n (eraseU n s i)∧(∀ j,j≠i→(eraseU n s i).fi j=s.fi j∧content (eraseU n s i).V ((eraseU n s i).fi j)=content s.V (s.fi j))∧(eraseU n s i).fi i=noFi:=by
  have hL:=layN_range h.n64
  have hT:=h.taken i
  rw [blksF_eq] at hT
  have hT1:=hT.gives (l:=(s.fi i).ext) (List.Perm.refl _)
  have hT2:TakenB n (eraseUsed s i) (blksF noFi) (Oth n s i):=by
    unfold eraseUsed
    split
    · rename_i h0
      rw [h0] at hT1; exact hT1
    · rename_i h0
      refine hT1.give ?_
      have:nodB (s.fi i).node=(Xt.mk 0 (s.fi i).node 1).blks:=by simp [nodB,h0,Xt.blks]
      rw [this]
      show ((Xt.mk 0 (s.fi i).node 1).blks).Perm ((Xt.mk 0 (s.fi i).node 1).blks++[])
      rw [List.append_nil]
  have hTurn:Turned n s i (eraseUsed s i) noFi (setV n (upd s.V (bitsB n) (bitsL (eraseUsed s i))) (updF s.fi i noFi) i):=by
    refine ⟨hi,hT2,noFi_ok _ _,?_,setV_inos h.n64 h hi (fun k hk=>upd_other _ _ (by omega)),?_,?_⟩
    · unfold setV; rw [upd_other _ _ (by omega),upd_same]
    · intro j hj
      unfold setV
      by_cases e:j=inoB n+(i - 1) / 64
      · rw [e,upd_same]; exact inoBlk_length _ _
      · rw [upd_other _ _ e]
        by_cases e2:j=bitsB n
        · rw [e2,upd_same]; exact bitsL_length _
        · rw [upd_other _ _ e2]; exact h.vlen j hj
    · intro j _ d hd
      have hdr:=blksF_rng (h.fi j) d hd
      rw [setV_data h.n64 hi _ _ hdr.1,upd_other _ _ (by omega)]
  exact ⟨hTurn.fs h,fun j hj=>⟨updF_other _ _ hj,hTurn.others j hj⟩,updF_same _ _ _⟩
def newFi (kind:Nat):Fi:=⟨kind,1,0,0,[]⟩
def newU (n:Nat) (s:Fs) (i kind:Nat):Fs:=⟨s.used,updF s.fi i (newFi kind),setV n s.V (updF s.fi i (newFi kind)) i⟩
theorem new_ok {n:Nat} {s:Fs} (h:FsOk n s) {i kind:Nat} (hi:1≤i∧i≤64 * (n / 16)) (hk:kind=1∨kind=2) (h0:s.fi i=noFi):FsOk n (newU n s i kind)∧(∀ j,j≠i→(newU n s i kind).fi j=s.fi j∧content (newU n s i kind).V ((newU n s i kind).fi j)=content s.V (s.fi j))∧(newU n s i kind).fi i=newFi kind:=by
  have hok:FiOk n s.V (newFi kind) :=
    ⟨rfl,by show kind≤2; omega,by show (1:Nat)≤100; omega,by show 0≤_; omega,fun e=>(by have e:kind=0:=e; omega),fun x hx=>(by cases hx),by simp [newFi],fun e=>absurd rfl e,fun x hx=>(by cases hx),fun k _=>rfl⟩
  have hTurn:=same_ok h hi (f':=newFi kind) (by rw [h0]; exact ⟨rfl,rfl⟩) hok
  exact ⟨hTurn.fs h,fun j hj=>⟨updF_other _ _ hj,hTurn.others j hj⟩,updF_same _ _ _⟩
end Go.Proofs.YtklbcpofihgmlaaGreat
namespace Go.Proofs.YtklbcpofihgmlaaGreat
open Go.RowKit Go.Sl
def ints (z:List Int):List Value:=z.map (Value.int .i64)
theorem ints_get {z:List Int} {i:Nat} {x:Int} (h:z[i]?=some x):(ints z)[i]?=some (.int .i64 x):=by simp [ints,h]
theorem ints_plain (l:List Int):∀ v ∈ ints l,Plain v=true:=by
  intro v hv
  obtain ⟨z,_,rfl⟩:=List.mem_map.1 hv
  rfl
theorem same_ints (c0:List Blk) (I:Imm) (a1 a2:Option Addr) (n1 n2 cap1 cap2:Nat) (z1 z2:List Int) (h1:SlC I [c0] a1 n1 (ints z1)) (h2:SlC I [c0] a2 n2 (ints z2)) (hn:n1≤9223372036854775806) :
    Tri Tryz.prog 101 #[.slice a1 n1 cap1,.slice a2 n2 cap2] I [c0] fun v J S'=>∃ b,v=.bool b∧(b=true↔z1=z2)∧I=J∧S'=[c0]:=by
  have hl1:z1.length=n1:=by rw [← h1.len]; simp [ints]
  have hl2:z2.length=n2:=by rw [← h2.len]; simp [ints]
  refine Tri.of (args:=[.slice a1 n1 cap1,.slice a2 n2 cap2]) tabOk Tryz.func101 rfl (by kernel_rfl) (by kernel_rfl) ?_
  refine CmpD.split (fun c1=>?_) (fun c1=>?_)
  rotate_left
  · refine Done.mk ⟨false,rfl,?_,rfl,rfl⟩
    constructor
    · intro h; cases h
    · rintro rfl; omega
  obtain rfl:n1=n2:=by omega
  refine CodeF.loopD [0,1,5] (fun vs J S'=>∃ i:Nat,i≤n1∧z1.take i=z2.take i∧vs=[.slice a1 n1 cap1,.slice a2 n1 cap2,.int .i64 i]∧I=J∧S'=[c0])
    (fun vs _ _=>match vs with | [_,_,.int _ i]=>((n1:Int) - i).toNat | _=>0) ?_ ?_
  · exact ⟨_,Drop.refl _,0,by omega,rfl,rfl,rfl,rfl⟩
  rintro vs g J S' hJ ⟨i,hi,heq,rfl,rfl,rfl⟩
  refine CmpD.split (fun c2=>?_) (fun c2=>?_)
  · rcases h1.mem with q0 | ⟨b1,o1,rfl,hc1⟩
    · omega
    rcases h2.mem with q0 | ⟨b2,o2,rfl,hc2⟩
    · omega
    have g1:z1[i]?=some (z1[i]'(by omega)):=List.getElem?_eq_getElem _
    have g2:z2[i]?=some (z2[i]'(by omega)):=List.getElem?_eq_getElem _
    generalize z1[i]'(by omega)=x1 at g1
    generalize z2[i]'(by omega)=x2 at g2
    have t1:z1.take (i+1)=z1.take i++[x1]:=by rw [List.take_add_one,g1]; rfl
    have t2:z2.take (i+1)=z2.take i++[x2]:=by rw [List.take_add_one,g2]; rfl
    refine CodeF.sched [[],[],[0,1],[0,1,2],[],[],[4,5],[4,5,6],[0,1,2,3,4,5,6,7]] [0,1,2,3,4,5,6,7,8] (by kernel_rfl) ?_
    refine Chk.mk (by omega) ?_
    refine LoadP.own 0 [.int .i64 x1] (hc1.at (ints_get g1)) ?_
    refine Chk.mk (by omega) ?_
    refine LoadP.own 0 [.int .i64 x2] (hc2.at (ints_get g2)) ?_
    refine CmpD.split (fun c3=>?_) (fun c3=>?_)
    · refine ToD.i64 (by omega) (by omega) ?_
      refine ⟨_,Drop.refl _,⟨i+1,by omega,by rw [t1,t2,heq,c3],rfl,rfl,rfl⟩,?_⟩
      show ((n1:Int) - ((i:Int)+1)).toNat < ((n1:Int) - (i:Int)).toNat
      omega
    · refine Done.mk ⟨false,rfl,?_,rfl,rfl⟩
      constructor
      · intro h; cases h
      · rintro rfl
        rw [g1] at g2; cases g2; exact absurd rfl c3
  · refine Done.mk ⟨true,rfl,?_,rfl,rfl⟩
    have e1:z1.take i=z1:=List.take_of_length_le (by omega)
    have e2:z2.take i=z2:=List.take_of_length_le (by omega)
    rw [e1,e2] at heq
    simp [heq]
end Go.Proofs.YtklbcpofihgmlaaGreat
namespace Go.Proofs.YtklbcpofihgmlaaGreat
open Go.RowKit Go.Sl
def u8of (y:Int):UInt8:=UInt8.ofNat (y % 256).toNat
theorem u8_ex (y:Int):IntKind.u8.wrap y=((u8of y).toNat:Int):=by
  have h:IntKind.u8.wrap y=y % 256:=by simp [IntKind.wrap,IntKind.signed,IntKind.bits]
  unfold u8of
  rw [h]
  have h1:=Int.emod_nonneg y (show (256:Int)≠0 by omega)
  have h2:=Int.emod_lt_of_pos y (show (0:Int) < 256 by omega)
  simp only [UInt8.toNat_ofNat']
  omega
def madeS (x:Int):Int:=IntKind.u64.wrap (IntKind.u64.wrap (x * 2862933555777941757)+3037000493)
def madeX (seed:Int):Nat→Int
  | 0=>madeS (IntKind.u64.wrap seed)
  | k+1=>madeS (madeX seed k)
def madeB (seed:Int) (i:Nat):UInt8:=u8of ((madeX seed ((i+8) / 8)).fdiv (2 ^ (min (40:Int).toNat IntKind.u64.bits)))
def madeL (seed:Int) (n:Nat):List UInt8:=(List.range n).map (madeB seed)
theorem madeL_length (seed:Int) (n:Nat):(madeL seed n).length=n:=by simp [madeL]
def madeP (seed:Int) (n i:Nat):List UInt8:=(List.range n).map fun j=>if j < i then madeB seed j else 0
theorem madeP_length (seed:Int) (n i:Nat):(madeP seed n i).length=n:=by simp [madeP]
theorem madeP_zero (seed:Int) (n:Nat):madeP seed n 0=List.replicate n 0:=by
  apply List.ext_getElem
  · simp [madeP]
  · intro i h1 h2; simp [madeP]
theorem madeP_all (seed:Int) (n:Nat):madeP seed n n=madeL seed n:=by
  apply List.ext_getElem
  · simp [madeP,madeL]
  · intro i h1 h2
    simp [madeP] at h1
    simp [madeP,madeL,h1]
theorem madeP_set (seed:Int) (n i:Nat):(madeP seed n i).set i (madeB seed i)=madeP seed n (i+1):=by
  apply List.ext_getElem
  · simp [madeP]
  · intro j h1 h2
    simp only [madeP,List.getElem_set,List.getElem_map,List.getElem_range]
    by_cases hj:i=j
    · subst hj; simp
    · rw [if_neg hj]
      by_cases h:j < i
      · rw [if_pos h,if_pos (by omega)]
      · rw [if_neg h,if_neg (by omega)]
attribute [irreducible] madeS madeL
theorem Rds.of_own {ch:List Blk} {a:Option Addr} {len cap:Nat} {vs:List Value} (h:OwnC ch 1 a len cap vs) {J:Imm} (hJ:∀ x ∈ ch,J x.1=some x.2):Rds J a len vs:=by
  refine ⟨by rw [h.n,Nat.mul_one],?_⟩
  rcases h.at' with h0 | ⟨b,pre,post,T,ha,hc,hp⟩
  · left; have:=h.le; omega
  · right
    refine ⟨b,_,_,T,(0,0),ha,hJ (b,_) (by rw [hc]; exact List.mem_singleton.2 rfl),?_⟩
    have:=own_take pre vs post
    rw [h.n,Nat.mul_one] at this
    exact this
theorem made_own (seed:Int) (n:Nat) (hn:n≤1000000) (I:Imm):Tri Tryz.prog 16 #[.int .i64 seed,.int .i64 n] I [] fun v J S' =>
    ∃ b ch,v=.slice (some ⟨b,0,none⟩) n n∧OwnB ch (some ⟨b,0,none⟩) n n (madeL seed n)∧I=J∧S'=[ch]:=by
  refine Tri.of (args:=[.int .i64 seed,.int .i64 n]) tabOk Tryz.func16 rfl (by kernel_rfl) (by kernel_rfl) ?_
  refine makeD tabOk rfl rfl rfl n n rfl rfl (Nat.le_refl _) (by show 1 * n≤_; omega) (by omega) (by show n * 1≤_; omega) rfl (by decide) ?_
  intro b
  refine ToD.keep ?_
  refine ToD.keep ?_
  refine ToD.to (madeX seed 0) (by unfold madeX madeS; rfl) ?_
  have hz:∀ n:Nat,rows n (List.cons (Value.int .u8 0) [])=bts (List.replicate n 0):=by
    intro n
    induction n with
    | zero=>rfl
    | succ n ih =>
      have e:rows (n+1) [Value.int .u8 0]=Value.int .u8 0 :: rows n [Value.int .u8 0]:=by simp [rows,List.replicate_succ]
      rw [e,ih]; rfl
  refine CodeF.loopD [1,5,6,7] (fun vs J S'=>∃ (i:Nat),i≤n∧vs=[.int .i64 n,.slice (some ⟨b,0,none⟩) n n,.int .u64 (madeX seed ((i+7) / 8)),.int .i64 i]∧I=J∧S'=[[(b,row (bts (madeP seed n i)) 5)]])
    (fun vs _ _=>match vs with | [_,_,_,.int _ i]=>((n:Int) - i).toNat | _=>0) ?_ ?_
  · exact ⟨_,Drop.refl _,0,by omega,rfl,rfl,by rw [madeP_zero,← hz]; rfl⟩
  rintro vs g J S' hJ ⟨i,hi,rfl,rfl,rfl⟩
  refine CmpD.split (fun c1=>?_) (fun c1=>?_)
  · refine Chk.mk (by omega) ?_
    refine ToD.rem (by omega) ?_
    have hin:i < n:=by omega
    have st:splice (bts (madeP seed n i)) (0+i) [byte (madeB seed i)]=bts (madeP seed n (i+1)):=by
      rw [← madeP_set]
      have hl:=madeP_length seed n i
      generalize madeP seed n i=l at hl ⊢
      have hlb:=bts_length l
      rw [Nat.zero_add]
      unfold splice bts
      rw [List.map_set,List.set_eq_take_append_cons_drop,if_pos (by rw [List.length_map]; omega)]
      simp
    refine CmpD.split (fun c2=>?_) (fun c2=>?_)
    · refine ToD.keep ?_
      have e1:(i+7) / 8+1=(i+8) / 8:=by omega
      refine ToD.to (madeX seed ((i+8) / 8)) (by rw [← e1,madeX]; unfold madeS; rfl) ?_
      refine Chk.mk (by omega) ?_
      refine ToD.keep ?_
      refine ToD.to _ (u8_ex _) ?_
      refine Chk.mk (by omega) ?_
      refine StoreD.to 0 rfl _ st (by rw [bts_length,madeP_length]; show 0+i+1≤_; omega) (.inr (.inr (Nat.le_refl _))) _ rfl ?_
      refine ToD.i64 (by omega) (by omega) ?_
      refine ⟨_,Drop.refl _,⟨i+1,by omega,rfl,rfl,rfl⟩,?_⟩
      show ((n:Int) - ((i:Int)+1)).toNat < ((n:Int) - (i:Int)).toNat
      omega
    · refine Chk.mk (by omega) ?_
      have e1:(i+7) / 8=(i+8) / 8:=by omega
      rw [e1]
      refine ToD.keep ?_
      refine ToD.to _ (u8_ex _) ?_
      refine Chk.mk (by omega) ?_
      refine StoreD.to 0 rfl _ st (by rw [bts_length,madeP_length]; show 0+i+1≤_; omega) (.inr (.inr (Nat.le_refl _))) _ rfl ?_
      refine ToD.i64 (by omega) (by omega) ?_
      refine ⟨_,Drop.refl _,⟨i+1,by omega,rfl,rfl,rfl⟩,?_⟩
      show ((n:Int) - ((i:Int)+1)).toNat < ((n:Int) - (i:Int)).toNat
      omega
  · obtain rfl:i=n:=by omega
    rw [madeP_all]
    refine Done.mk ⟨b,_,rfl,⟨by rw [bts_length,madeL_length]; omega,Nat.le_refl _,.inr ⟨b,[],[],5,rfl,by simp,by simp⟩⟩,rfl,rfl⟩
theorem made (seed:Int) (n:Nat) (hn:n≤1000000) (I:Imm):Tri Tryz.prog 16 #[.int .i64 seed,.int .i64 n] I [] fun v J _=>∃ a,v=.slice a n n∧Rds J a n (bts (madeL seed n)):=by
  refine Tri.fixed (made_own seed n hn I) ?_
  rintro v J S' hJ ⟨b,ch,rfl,hown,rfl,rfl⟩
  exact ⟨0,ch,rfl,fun J' hJ' hm=>⟨_,rfl,Rds.of_own hown hm⟩⟩
end Go.Proofs.YtklbcpofihgmlaaGreat
namespace Go.Proofs.YtklbcpofihgmlaaGreat
open Go.RowKit Go.Sl
@[reducible] def layV (b l lb bi i ib d:Int):Value:=.agg #[.int .i64 b,.int .i64 l,.int .i64 lb,.int .i64 bi,.int .i64 i,.int .i64 ib,.int .i64 d]
def layL (n:Int):Int:=if n / 8 < 16 then 16 else n / 8
def layA (n:Int):Value:=if n < 64∨512 < n then .tuple #[layV 0 0 0 0 0 0 0,.int .i64 2] else .tuple #[layV n 2 (layL n) (2+layL n) (3+layL n) (n / 16) (3+layL n+n / 16),.int .i64 0]
theorem layL_range {n:Int} (h:64≤n∧n≤512):16≤layL n∧layL n≤64:=by unfold layL; split <;> omega
theorem layout_Of (n:Int) (I:Imm):Tri Tryz.prog 87 #[.int .i64 n] I [] fun v J _=>v=layA n∧I=J:=by
  refine Tri.of (args:=[.int .i64 n]) tabOk Tryz.func87 rfl (by kernel_rfl) (by kernel_rfl) ?_
  conv=>whnf
  intro b0
  refine CmpD.split (fun c1=>?_) (fun c1=>?_)
  · refine StoreD.st 0 rfl rfl rfl ?_
    refine LoadD.own 0 rfl _ rfl rfl ?_
    refine Done.mk ⟨?_,rfl⟩
    rw [layA,if_pos (by omega)]; rfl
  refine CmpD.split (fun c2=>?_) (fun c2=>?_)
  · refine StoreD.st 0 rfl rfl rfl ?_
    refine LoadD.own 0 rfl _ rfl rfl ?_
    refine Done.mk ⟨?_,rfl⟩
    rw [layA,if_pos (by omega)]; rfl
  have hL:=layL_range (n:=n) (by omega)
  refine Chk.mk (by omega) ?_
  refine ToD.quo (by omega) (by omega) (by omega) ?_
  refine ToD.to (layL n) (by unfold layL; split <;> split <;> omega) ?_
  refine Chk.mk (by omega) ?_
  refine ToD.quo (by omega) (by omega) (by omega) ?_
  conv=>whnf
  intro b1
  refine StoreD.st 1 rfl rfl rfl ?_
  refine LoadD.own 1 rfl _ rfl rfl ?_
  refine LoadD.own 1 rfl _ rfl rfl ?_
  refine ToD.i64 (by omega) (by omega) ?_
  refine StoreD.st 1 rfl rfl rfl ?_
  refine LoadD.own 1 rfl _ rfl rfl ?_
  refine ToD.to (3+layL n) (by rw [wrap_i64 (by omega) (by omega)]; omega) ?_
  refine StoreD.st 1 rfl rfl rfl ?_
  refine LoadD.own 1 rfl _ rfl rfl ?_
  refine LoadD.own 1 rfl _ rfl rfl ?_
  refine ToD.i64 (by omega) (by omega) ?_
  refine StoreD.st 1 rfl rfl rfl ?_
  refine LoadD.own 1 rfl _ rfl rfl ?_
  refine StoreD.st 0 rfl rfl rfl ?_
  refine LoadD.own 0 rfl _ rfl rfl ?_
  refine Done.mk ⟨?_,rfl⟩
  rw [layA,if_neg (by omega)]; rfl
set_option maxHeartbeats 2000000 in
theorem ref_Of (n:Int) (I:Imm):Tri Tryz.prog 46 #[.int .i64 n] I [] fun v J _=>v=layA n∧I=J:=by
  refine Tri.of (args:=[.int .i64 n]) tabOk Tryz.func46 rfl (by kernel_rfl) (by kernel_rfl) ?_
  conv=>whnf
  intro b0
  refine CmpD.split (fun c1=>?_) (fun c1=>?_)
  · refine StoreD.st 0 rfl rfl rfl ?_
    refine LoadD.own 0 rfl _ rfl rfl ?_
    refine Done.mk ⟨?_,rfl⟩
    rw [layA,if_pos (by omega)]; rfl
  refine CmpD.split (fun c2=>?_) (fun c2=>?_)
  · refine StoreD.st 0 rfl rfl rfl ?_
    refine LoadD.own 0 rfl _ rfl rfl ?_
    refine Done.mk ⟨?_,rfl⟩
    rw [layA,if_pos (by omega)]; rfl
  have hL:=layL_range (n:=n) (by omega)
  refine Chk.mk (by omega) ?_
  refine ToD.quo (by omega) (by omega) (by omega) ?_
  refine CmpD.split (fun c3=>?_) (fun c3=>?_)
  · have hl:layL n=16:=by unfold layL; rw [if_pos c3]
    conv=>whnf
    intro b1
    refine StoreD.st 1 rfl rfl rfl ?_
    refine StoreD.st 1 rfl rfl rfl ?_
    refine StoreD.st 1 rfl rfl rfl ?_
    refine ToD.to (2+layL n) (by rw [hl,wrap_i64 (by omega) (by omega)]) ?_
    refine StoreD.st 1 rfl rfl rfl ?_
    refine ToD.to (3+layL n) (by rw [wrap_i64 (by omega) (by omega)]; omega) ?_
    refine StoreD.st 1 rfl rfl rfl ?_
    refine Chk.mk (by omega) ?_
    refine ToD.quo (by omega) (by omega) (by omega) ?_
    refine StoreD.st 1 rfl rfl rfl ?_
    refine Chk.mk (by omega) ?_
    refine ToD.quo (by omega) (by omega) (by omega) ?_
    refine ToD.i64 (by omega) (by omega) ?_
    refine StoreD.st 1 rfl rfl rfl ?_
    refine LoadD.own 1 rfl _ rfl rfl ?_
    refine StoreD.st 0 rfl rfl rfl ?_
    refine LoadD.own 0 rfl _ rfl rfl ?_
    refine Done.mk ⟨?_,rfl⟩
    rw [layA,if_neg (by omega),hl]; rfl
  · have hl:layL n=n / 8:=by unfold layL; rw [if_neg c3]
    conv=>whnf
    intro b1
    refine StoreD.st 1 rfl rfl rfl ?_
    refine StoreD.st 1 rfl rfl rfl ?_
    refine StoreD.st 1 rfl rfl rfl ?_
    refine ToD.to (2+layL n) (by rw [hl,wrap_i64 (by omega) (by omega)]) ?_
    refine StoreD.st 1 rfl rfl rfl ?_
    refine ToD.to (3+layL n) (by rw [wrap_i64 (by omega) (by omega)]; omega) ?_
    refine StoreD.st 1 rfl rfl rfl ?_
    refine Chk.mk (by omega) ?_
    refine ToD.quo (by omega) (by omega) (by omega) ?_
    refine StoreD.st 1 rfl rfl rfl ?_
    refine Chk.mk (by omega) ?_
    refine ToD.quo (by omega) (by omega) (by omega) ?_
    refine ToD.i64 (by omega) (by omega) ?_
    refine StoreD.st 1 rfl rfl rfl ?_
    refine LoadD.own 1 rfl _ rfl rfl ?_
    refine StoreD.st 0 rfl rfl rfl ?_
    refine LoadD.own 0 rfl _ rfl rfl ?_
    refine Done.mk ⟨?_,rfl⟩
    rw [layA,if_neg (by omega),hl]; rfl
end Go.Proofs.YtklbcpofihgmlaaGreat
namespace Go.Proofs.YtklbcpofihgmlaaGreat
open Go.RowKit Go.Sl
structure SpC (P:Program) (σ:Type) where
  t:TypeId
  p:Option Addr
  frd:FuncId
  fwr:FuncId
  lrd : Leads P t "Read" frd
  lwr : Leads P t "Write" fwr
  R:σ→Imm→List Blk→Prop
  n:Nat
  blk:σ→Bs
  can:Int→Prop
  canW:Int→Prop
  rd:σ→σ→Prop
  wr:σ→Nat→List UInt8→σ→Prop
  up:∀ {s I J c},R s I c→I.le J→R s J c
  rd_refl:∀ s,rd s s
  rd_trans:∀ {a b c},rd a b→rd b c→rd a c
  room:σ→Nat
  rd_room:∀ {s s'},rd s s'→room s'=room s
  wr_room:∀ {s k d s'},wr s k d s'→room s≤room s'+1
  rd_blk:∀ {s s'},rd s s'→blk s'=blk s
  wr_blk:∀ {s k d s'},wr s k d s'→blk s'=upd (blk s) k d
  len:∀ {s I c i},R s I c→i < n→(blk s i).length=4096
  read:∀ {I c s} (k:Nat),R s I c→k < n→Tri P frd #[.pointer p,.int .i64 k] I [c] fun v J S'=>∃ c' s',R s' J c'∧rd s s' ∧
    ((∃ e,e≠0∧can e∧v=.tuple #[.slice none 0 0,.int .i64 e]∧S'=[c',[]]) ∨
     (∃ a cap ch,v=.tuple #[.slice a 4096 cap,.int .i64 0]∧OwnB ch a 4096 cap (blk s k)∧S'=[c',ch]))
  write:∀ {I c s} (k:Nat) {a cap d},R s I c→k < n→0 < room s→d.length=4096→Rds I a 4096 (bts d)→Tri P fwr #[.pointer p,.int .i64 k,.slice a 4096 cap] I [c] fun v J S'=>∃ c' s',S'=[c']∧R s' J c' ∧
    ((∃ e,e≠0∧canW e∧rd s s'∧v=.int .i64 e)∨(v=.int .i64 0∧wr s k d s'))
abbrev SpC.v {P:Program} {σ:Type} (sp:SpC P σ):Value:=.iface sp.t (.pointer sp.p)
inductive SpC.To {P:Program} {σ:Type} (sp:SpC P σ):σ→σ→Prop
  | rd {a b}:sp.rd a b→To sp a b
  | wr {a b c k d}:To sp a b→sp.wr b k d c→To sp a c
  | more {a b c}:To sp a b→sp.rd b c→To sp a c
theorem SpC.To.refl {P:Program} {σ:Type} {sp:SpC P σ} (s:σ):sp.To s s:=.rd (sp.rd_refl s)
theorem SpC.To.trans {P:Program} {σ:Type} {sp:SpC P σ} {a b c:σ} (h:sp.To a b) (k:sp.To b c):sp.To a c:=by
  induction k with
  | rd h1=>exact h.more h1
  | wr _ h1 ih=>exact ih.wr h1
  | more _ h1 ih=>exact ih.more h1
def layVn (n:Nat):Value:=layV n 2 (layN n:Nat) (bitsB n:Nat) (inoB n:Nat) (n / 16:Nat) (datB n:Nat)
def xtV (x:Xt):List Value:=[.int .i64 (x.at_:Nat),.int .i64 (x.start:Nat),.int .i64 (x.count:Nat)]
def xtsV (l:List Xt):List Value:=l.flatMap xtV
theorem xtsV_length:∀ (l:List Xt),(xtsV l).length=l.length * 3
  | []=>rfl
  | x :: l=>by
    have:=xtsV_length l
    unfold xtsV at this ⊢
    rw [List.flatMap_cons,List.length_append,this,List.length_cons]
    show 3+_=_; omega
theorem xtsV_append (l m:List Xt):xtsV (l++m)=xtsV l++xtsV m:=by simp [xtsV]
theorem xtsV_plain (l:List Xt):∀ v ∈ xtsV l,Plain v=true:=by
  intro v hv
  unfold xtsV at hv
  obtain ⟨x,_,hv⟩:=List.mem_flatMap.1 hv
  simp only [xtV,List.mem_cons,List.not_mem_nil,or_false] at hv
  rcases hv with rfl | rfl | rfl <;> rfl
def inoV (f:Fi) (a:Option Addr) (cap:Nat):Value:=.agg #[.int .u8 (f.kind:Nat),.int .i64 (f.links:Nat),.int .i64 (f.size:Nat),.slice a f.direct.length cap,.int .i64 (f.node:Nat)]
structure IOk (f:Fi):Prop where
  right:rightX 0 f.ext=true
  kind:f.kind≤2
  links:f.links≤100
  size:f.size≤131072
  node:f.node≤511
  none:f.kind=0→f=noFi
theorem FiOk.iok {n:Nat} {V:Bs} {f:Fi} (h:FiOk n V f) (hn:n≤512):IOk f:=by
  refine ⟨h.right,h.kind,h.links,h.size,?_,h.none⟩
  by_cases h0:f.node=0
  · omega
  · have:=(h.node h0).2.1; omega
end Go.Proofs.YtklbcpofihgmlaaGreat
namespace Go.Proofs.YtklbcpofihgmlaaGreat
open Go.RowKit Go.Sl
set_option maxRecDepth 20000
theorem same_bytes {I:Imm} {S:St} {a1 a2:Option Addr} {n1 n2 c1 c2:Nat} {l1 l2:List UInt8} (h1:SlC I S a1 n1 (bts l1)) (h2:SlC I S a2 n2 (bts l2)) :
    Tri Tryz.prog 18 #[.slice a1 n1 c1,.slice a2 n2 c2] I S fun v J S'=>v=.bool (decide (l1=l2))∧I=J∧S'=S:=by
  refine Tri.of (args:=[.slice a1 n1 c1,.slice a2 n2 c2]) tabOk Tryz.func18 rfl (by kernel_rfl) (by kernel_rfl) ?_
  refine convStrD tabOk rfl rfl rfl rfl rfl h1 ?_
  refine convStrD tabOk rfl rfl rfl rfl rfl h2 ?_
  refine CmpD.keep ?_
  refine Done.mk ⟨?_,rfl,rfl⟩
  rw [bytes_toList,bytes_toList]; rfl
theorem bytes_Equal {I:Imm} {S:St} {a1 a2:Option Addr} {n1 n2 c1 c2:Nat} {l1 l2:List UInt8} (h1:SlC I S a1 n1 (bts l1)) (h2:SlC I S a2 n2 (bts l2)) :
    Tri Tryz.prog 104 #[.slice a1 n1 c1,.slice a2 n2 c2] I S fun v J S'=>v=.bool (decide (l1=l2))∧I=J∧S'=S:=by
  refine Tri.of (args:=[.slice a1 n1 c1,.slice a2 n2 c2]) tabOk Tryz.func104 rfl (by kernel_rfl) (by kernel_rfl) ?_
  refine convStrD tabOk rfl rfl rfl rfl rfl h1 ?_
  refine convStrD tabOk rfl rfl rfl rfl rfl h2 ?_
  refine CmpD.keep ?_
  refine Done.mk ⟨?_,rfl,rfl⟩
  rw [bytes_toList,bytes_toList]; rfl
end Go.Proofs.YtklbcpofihgmlaaGreat
namespace Go.Proofs.YtklbcpofihgmlaaGreat
open Go.RowKit Go.Sl
set_option maxRecDepth 20000
theorem snoc_ind {α:Type} {p:List α→Prop} (h0:p []) (h1:∀ l a,p l→p (l++[a])) (l:List α):p l:=by
  have:∀ n (l:List α),l.length=n→p l:=by
    intro n
    induction n with
    | zero=>intro l hl; rw [List.length_eq_zero_iff.1 hl]; exact h0
    | succ n ih =>
      intro l hl
      have hne:l≠[]:=by rintro rfl; simp at hl
      rw [← List.dropLast_concat_getLast hne]
      exact h1 _ _ (ih _ (by rw [List.length_dropLast]; omega))
  exact this _ l rfl
def nb (l:List UInt8):Nat:=l.foldl (fun v b=>v * 256 ||| b.toNat) 0
theorem nb_snoc (l:List UInt8) (b:UInt8):nb (l++[b])=nb l * 256 ||| b.toNat:=by simp [nb]
theorem nb_lt (l:List UInt8):nb l < 2 ^ (8 * l.length):=by
  refine snoc_ind (p:=fun l=>nb l < 2 ^ (8 * l.length)) (by simp [nb]) ?_ l
  · intro l b ih
    rw [nb_snoc,List.length_append,List.length_singleton]
    have hb:b.toNat < 2 ^ (8 * (l.length+1)):=Nat.lt_of_lt_of_le b.toNat_lt (Nat.pow_le_pow_right (by omega) (by omega))
    refine Nat.or_lt_two_pow ?_ hb
    rw [show 8 * (l.length+1)=8 * l.length+8 by omega,Nat.pow_add]
    omega
def numV (l:List UInt8) (at_:Int) (n:Nat):Nat × Bool:=if at_ < 0∨(l.length:Int) - n < at_ then (0,false) else (nb ((l.drop at_.toNat).take n),true)
theorem octets_number {I:Imm} {S:St} {a:Option Addr} {len cap:Nat} {l:List UInt8} (h:SlC I S a len (bts l)) (hlen:len≤1000000000) (at_:Int) (hat:In64 at_) (n:Nat) (hn:n≤8) :
    Tri Tryz.prog 147 #[.slice a len cap,.int .i64 at_,.int .i64 n] I S fun v J S'=>v=.tuple #[.int .u64 (numV l at_ n).1,.bool (numV l at_ n).2]∧I=J∧S'=S:=by
  have hl:l.length=len:=by rw [← bts_length,h.len]
  unfold In64 at hat
  unfold numV
  refine Tri.of (args:=[.slice a len cap,.int .i64 at_,.int .i64 n]) tabOk Tryz.func147 rfl (by kernel_rfl) (by kernel_rfl) ?_
  refine CmpD.split (fun c1=>?_) (fun c1=>?_)
  · rw [if_pos (.inl c1)]; exact Done.mk ⟨rfl,rfl,rfl⟩
  refine ToD.i64 (by omega) (by omega) ?_
  refine CmpD.split (fun c2=>?_) (fun c2=>?_)
  · rw [if_pos (.inr (by rw [hl]; exact c2))]; exact Done.mk ⟨rfl,rfl,rfl⟩
  rw [if_neg (by rw [hl]; omega)]
  obtain ⟨k,rfl⟩:∃ k:Nat,at_=k:=⟨at_.toNat,by omega⟩
  rw [show ((k:Int)).toNat=k from rfl]
  refine CodeF.loopD [0,1,8,20,21] (fun vs J' S'=>∃ (i:Nat),i≤n∧vs=[.slice a len cap,.int .i64 k,.int .u64 (nb ((l.drop k).take i):Nat),.int .i64 n,.int .i64 i]∧I=J'∧S'=S)
    (fun vs _ _=>match vs with | [_,_,_,_,.int _ i]=>((n:Int) - i).toNat | _=>0) ?_ ?_
  · exact ⟨_,Drop.refl _,0,by omega,rfl,rfl,rfl⟩
  rintro vs g J' S' hJ' ⟨i,hi,rfl,rfl,rfl⟩
  refine CmpD.split (fun c3=>?_) (fun c3=>?_)
  · have hin:k+i < l.length:=by omega
    rcases h.mem with h0 | ⟨b,off,rfl,hc⟩
    · omega
    have hv:=nb_lt ((l.drop k).take i)
    have hvl:((l.drop k).take i).length≤7:=by rw [List.length_take]; omega
    have hv2:nb ((l.drop k).take i) < 2 ^ 56:=Nat.lt_of_lt_of_le hv (Nat.pow_le_pow_right (by omega) (by omega))
    have htk:(l.drop k).take (i+1)=(l.drop k).take i++[l[k+i]]:=by
      rw [List.take_add_one,List.getElem?_drop,List.getElem?_eq_getElem hin]; rfl
    refine Chk.mk (by omega) ?_
    refine ToD.to ((nb ((l.drop k).take i) * 256:Nat):Int) ?_ ?_
    · rw [wrap_u rfl (by show 0≤(nb ((l.drop k).take i):Int) * 2 ^ 8; omega) (by show (nb ((l.drop k).take i):Int) * 2 ^ 8 < 2 ^ 64; omega)]
      show (nb ((l.drop k).take i):Int) * 2 ^ 8=_; omega
    refine ToD.i64 (by omega) (by omega) ?_
    refine Chk.mk (by omega) ?_
    refine LoadD.mk [byte l[k+i]] (hc.at (i:=k+i) (bts_get (List.getElem?_eq_getElem hin))) ?_
    have hb:=l[k+i].toNat_lt
    refine ToD.to ((l[k+i].toNat:Nat):Int) (wrap_u rfl (by omega) (by show (l[k+i].toNat:Int) < 2 ^ 64; omega)) ?_
    refine ToD.to ((nb ((l.drop k).take i) * 256 ||| l[k+i].toNat:Nat):Int) (u64_or_nat _ _ (by omega) (by omega)) ?_
    refine ToD.i64 (by omega) (by omega) ?_
    refine ⟨_,Drop.refl _,⟨i+1,by omega,by rw [htk,nb_snoc]; rfl,rfl,rfl⟩,?_⟩
    show ((n:Int) - ((i:Int)+1)).toNat < ((n:Int) - (i:Int)).toNat
    omega
  · obtain rfl:i=n:=by omega
    exact Done.mk ⟨rfl,rfl,rfl⟩
end Go.Proofs.YtklbcpofihgmlaaGreat
namespace Go.Proofs.YtklbcpofihgmlaaGreat
open Go.RowKit Go.Sl
set_option maxRecDepth 20000
theorem be_snoc (v n:Nat):be v (n+1)=be (v / 256) n++[UInt8.ofNat v]:=by
  unfold be
  rw [List.range_succ,List.map_append,List.map_singleton]
  congr 1
  · apply List.map_congr_left
    intro i hi
    have:=List.mem_range.1 hi
    congr 1
    rw [show 8 * (n+1 - 1 - i)=8+8 * (n - 1 - i) by omega,Nat.pow_add,Nat.div_div_eq_div_mul]
  · congr 2
    rw [show 8 * (n+1 - 1 - n)=0 by omega]; simp
theorem or_low (a b:Nat) (h:b < 256):a * 256 ||| b=a * 256+b:=by
  have:=Nat.shiftLeft_add_eq_or_of_lt (i:=8) (b:=b) (by omega) a
  rw [Nat.shiftLeft_eq] at this
  exact this.symm
theorem nb_be:∀ (n v:Nat),v < 256 ^ n→nb (be v n)=v
  | 0,v,h=>by simp [be,nb] at *; omega
  | n+1,v,h=>by
    rw [be_snoc,nb_snoc,nb_be n (v / 256) (by rw [Nat.pow_succ] at h; omega)]
    have e:(UInt8.ofNat v).toNat=v % 256:=by simp [UInt8.toNat_ofNat']
    rw [e,or_low _ _ (by omega)]; omega
theorem numV_at {l:Dat} {k n:Nat} {x:Dat} {T:Dat} (h:l.drop k=x++T) (hx:x.length=n) (hn:0 < n):numV l (k:Nat) n=(nb x,true):=by
  have hl:=congrArg List.length h
  rw [List.length_drop,List.length_append,hx] at hl
  unfold numV
  rw [if_neg (by omega),Int.toNat_natCast,h,← hx,List.take_left]
end Go.Proofs.YtklbcpofihgmlaaGreat
namespace Go.Proofs.YtklbcpofihgmlaaGreat
open Go.RowKit Go.Sl
theorem clone_bytes (I:Imm) (S:St) (a:Option Addr) (len cap:Nat) (vs:List Value) (h:SlC I S a (len * 1) vs) (h1:∀ u ∈ vs,Plain u=true) (hlen:len * 1≤140737488355328) :
    Tri Tryz.prog 96 #[.slice a len cap] I S fun v J S'=>∃ a' cap' ch,v=.slice a' len cap'∧OwnC ch 1 a' len cap' vs∧I=J∧S'=S++[ch]:=by
  refine Tri.drop ?_ (fun _ _ _ _ h=>h)
  refine Tri.of (args:=[.slice a len cap]) tabOk Tryz.func96 rfl (by kernel_rfl) (by kernel_rfl) ?_
  cases a with
  | none =>
    have h0:=SlC.nil_len h
    obtain rfl:len=0:=by omega
    have:vs=[]:=List.length_eq_zero_iff.1 (by simpa using h.len)
    subst this
    exact Done.mk ⟨_,Drop.and (Drop.refl _),none,0,[],rfl,OwnC.nil _ _,rfl,rfl⟩
  | some p =>
    conv=>whnf
    intro b
    refine appendD tabOk rfl rfl rfl rfl rfl rfl rfl S.length (last_get S _) (OwnC.whole (vs:=[]) rfl) (SrcOk.slice tabOk rfl (h.more _) h1) rfl (by show (0+len) * 1≤_; omega) (by omega) ?_
    intro a' cap' ch hown
    rw [last_set]
    rw [Nat.zero_add] at hown ⊢
    exact Done.mk ⟨_,Drop.refl _,a',cap',ch,rfl,hown,rfl,rfl⟩
end Go.Proofs.YtklbcpofihgmlaaGreat
namespace Go.Proofs.YtklbcpofihgmlaaGreat
open Go.RowKit Go.Sl
set_option maxRecDepth 20000
@[reducible] def xV (x:Xt):Value:=.agg #[.int .i64 (x.at_:Nat),.int .i64 (x.start:Nat),.int .i64 (x.count:Nat)]
def boxE (b e:Nat):List Blk:=[(b,row [.int .i64 (e:Nat)] 3)]
theorem right1 (b e:Nat) (x:Xt) (h:XtOk e x) (I:Imm) :
    Tri Tryz.prog 142 #[xV x,.pointer (some ⟨b,0,none⟩)] I [boxE b e] fun v J S'=>v=.bool false∧I=J∧S'=[boxE b (x.at_+x.count)]:=by
  obtain ⟨a,s,c⟩:=x
  obtain ⟨h1,h2,h3,h4,h5,h6⟩:=h
  dsimp only at *
  refine Tri.drop ?_ (fun _ _ _ _ h=>h)
  refine Tri.of (args:=[.agg #[.int .i64 (a:Nat),.int .i64 (s:Nat),.int .i64 (c:Nat)],.pointer (some ⟨b,0,none⟩)]) tabOk Tryz.func142 rfl (by kernel_rfl) (by kernel_rfl) ?_
  conv=>whnf
  intro b1
  repeat (first | refine LoadD.own 0 rfl _ rfl rfl ?_ | refine LoadD.own 1 rfl _ rfl rfl ?_ | refine StoreD.st 0 rfl rfl rfl ?_ | refine ToD.i64 (by omega) (by omega) ?_ | refine CmpD.no (by omega) ?_)
  refine Done.mk ⟨_,Drop.take 1 _,rfl,rfl,?_⟩
  show [[(b,row [Value.int .i64 ((a:Int)+(c:Int))] 3)]]=[[(b,row [Value.int .i64 ((a+c:Nat):Int)] 3)]]
  rw [Int.natCast_add]
theorem xts_at {l:List Xt} {i:Nat} {x:Xt} (h:l[i]?=some x):((xtsV l).drop (i * 3)).take 3=xtV x:=by
  induction l generalizing i with
  | nil=>simp at h
  | cons y l ih =>
    have e:xtsV (y :: l)=xtV y++xtsV l:=by simp [xtsV]
    rw [e]
    cases i with
    | zero=>simp at h; subst h; rfl
    | succ i =>
      rw [show (i+1) * 3=3+i * 3 by omega,← List.drop_drop]
      exact ih (by simpa using h)
theorem idx_none {I:Imm} {S:St} (g:FuncId) (caps:List Value) (l:List Xt) (a:Option Addr) (len cap:Nat) (hll:l.length=len) (hlen:len≤1000000) (hs:SlC I S a (len * 3) (xtsV l)) (c:Nat→List Blk)
    (hg:∀ i x,l[i]?=some x→Tri Tryz.prog g (xV x :: caps).toArray I [c i] fun v J S'=>v=.bool false∧I=J∧S'=[c (i+1)]) :
    Tri Tryz.prog 93 #[.slice a len cap,.func (.func g) #[] caps.toArray] I (S++[c 0]) fun v J S'=>v=.int .i64 (-1)∧I=J∧S'=S++[c len]:=by
  refine Tri.of (args:=[.slice a len cap,.func (.func g) #[] caps.toArray]) tabOk Tryz.func93 rfl (by kernel_rfl) (by kernel_rfl) ?_
  refine CodeF.loopD [0,1,7,8] (fun vs J S'=>∃ i:Nat,i≤len∧vs=[.slice a len cap,.func (.func g) #[] caps.toArray,.int .i64 len,.int .i64 i]∧I=J∧S'=S++[c i])
    (fun vs _ _=>match vs with | [_,_,_,.int _ i]=>((len:Int) - i).toNat | _=>0) ?_ ?_
  · exact ⟨_,Drop.refl _,0,by omega,rfl,rfl,rfl⟩
  rintro vs gE J S' hJ ⟨i,hi,rfl,rfl,rfl⟩
  refine CmpD.split (fun (c1:(i:Int) < len)=>?_) (fun (c1:¬ (i:Int) < len)=>?_)
  · obtain ⟨b,off,rfl,hc⟩:=(hs.more (c i)).cells (by omega)
    obtain ⟨x,hx⟩:∃ x,l[i]?=some x:=⟨_,List.getElem?_eq_getElem (by omega)⟩
    refine Chk.mk (by omega) ?_
    refine LoadD.mk (xtV x) (by have:=hc.part (i:=i * 3) (m:=3) (by omega); rw [xts_at hx] at this; exact this) ?_
    refine forceL_to ?_
    refine Tri.castA (args:=(xV x :: caps).toArray) (by simp; rfl) ?_
    refine Tri.frame1 S.length (last_get S _) (hg i x hx) ?_
    rintro v J S' hJ ⟨rfl,rfl,rfl⟩
    refine ⟨_,rfl,?_⟩
    rw [spineS_eq,last_set]
    refine ToD.to (((i+1:Nat)):Int) (by rw [wrap_i64 (by omega) (by omega)]; omega) ?_
    refine ⟨_,Drop.refl _,⟨i+1,by omega,rfl,rfl,rfl⟩,?_⟩
    show ((len:Int) - ((i+1:Nat):Int)).toNat < ((len:Int) - (i:Int)).toNat; omega
  · obtain rfl:i=len:=by omega
    exact Done.mk ⟨rfl,rfl,rfl⟩
theorem cont_none {I:Imm} {S:St} (g:FuncId) (caps:List Value) (l:List Xt) (a:Option Addr) (len cap:Nat) (hll:l.length=len) (hlen:len≤1000000) (hs:SlC I S a (len * 3) (xtsV l)) (c:Nat→List Blk)
    (hg:∀ i x,l[i]?=some x→Tri Tryz.prog g (xV x :: caps).toArray I [c i] fun v J S'=>v=.bool false∧I=J∧S'=[c (i+1)]) :
    Tri Tryz.prog 134 #[.slice a len cap,.func (.func g) #[] caps.toArray] I (S++[c 0]) fun v J S'=>v=.bool false∧I=J∧S'=S++[c len]:=by
  refine Tri.of (args:=[.slice a len cap,.func (.func g) #[] caps.toArray]) tabOk Tryz.func134 rfl (by kernel_rfl) (by kernel_rfl) ?_
  refine (idx_none g caps l a len cap hll hlen hs c hg).mono ?_
  rintro v J S' hJ ⟨rfl,rfl,rfl⟩
  refine CmpD.no (by decide) ?_
  exact Done.mk ⟨rfl,rfl,rfl⟩
theorem right_at {l:List Xt} (h:rightX 0 l=true) {i:Nat} {x:Xt} (hx:l[i]?=some x):XtOk (endX 0 (l.take i)) x∧endX 0 (l.take (i+1))=x.at_+x.count:=by
  have hlt:i < l.length:=by
    rcases Nat.lt_or_ge i l.length with g | g
    · exact g
    · rw [List.getElem?_eq_none g] at hx; cases hx
  have e:l[i]=x:=by rw [List.getElem?_eq_getElem hlt] at hx; exact Option.some.inj hx
  have hl:l=l.take i++x :: l.drop (i+1):=by rw [← e,← List.drop_eq_getElem_cons hlt,List.take_append_drop]
  rw [hl,rightX_append,rightX_cons] at h
  refine ⟨h.2.1,?_⟩
  rw [List.take_add_one,hx]
  have key:∀ (m:List Xt) (e:Nat),endX e (m++[x])=x.at_+x.count:=by
    intro m
    induction m with
    | nil=>intro e; rfl
    | cons y m ih=>intro e; exact ih _
  exact key _ _
theorem super_Right {I:Imm} {S:St} (l:List Xt) (hr:rightX 0 l=true) (a:Option Addr) (len cap:Nat) (hll:l.length=len) (hlen:len≤1000000) (hs:SlC I S a (len * 3) (xtsV l)) :
    Tri Tryz.prog 92 #[.slice a len cap] I S fun v J S'=>v=.bool true∧I=J∧S'=S:=by
  refine Tri.drop ?_ (fun _ _ _ _ h=>h)
  refine Tri.of (args:=[.slice a len cap]) tabOk Tryz.func92 rfl (by kernel_rfl) (by kernel_rfl) ?_
  conv=>whnf
  intro b
  refine StoreD.st S.length (last_get S _) rfl rfl ?_
  rw [last_set]
  refine (cont_none 142 [.pointer (some ⟨b,0,none⟩)] l a len cap hll hlen hs (fun i=>boxE b (endX 0 (l.take i))) ?_).mono ?_
  · intro i x hx
    obtain ⟨h1,h2⟩:=right_at hr hx
    simp only [h2]
    exact right1 b _ x h1 I
  rintro v J S' hJ ⟨rfl,rfl,rfl⟩
  exact Done.mk ⟨_,Drop.init _ _,rfl,rfl,rfl⟩
theorem super_within (a n b:Int) (I:Imm) (S:St) (h:a≤n∧n≤b):Tri Tryz.prog 154 #[.int .i64 a,.int .i64 n,.int .i64 b] I S fun v J S'=>v=.bool true∧I=J∧S'=S:=by
  refine Tri.of (args:=[.int .i64 a,.int .i64 n,.int .i64 b]) tabOk Tryz.func154 rfl (by kernel_rfl) (by kernel_rfl) ?_
  refine CmpD.yes (by omega) ?_
  refine CmpD.yes (by omega) ?_
  exact Done.mk ⟨rfl,rfl,rfl⟩
def partX (x:Xt) (k:Nat):Dat:=(([be x.at_ 2,be x.start 2,be x.count 2]:List Dat).take k).flatten
def threeX (x:Xt):List Nat:=[x.at_,x.start,x.count]
theorem partX_succ (x:Xt):∀ k v,(threeX x)[k]?=some v→partX x (k+1)=partX x k++be v 2
  | 0,v,h=>by cases h; rfl
  | 1,v,h=>by cases h; simp [partX]
  | 2,v,h=>by cases h; simp [partX]
  | k+3,v,h=>by simp [threeX] at h
theorem partX_all (x:Xt):partX x 3=xtL x:=by simp [partX,xtL]
theorem xtsL_snoc {l:List Xt} {i:Nat} {x:Xt} (h:l[i]?=some x):xtsL (l.take (i+1))=xtsL (l.take i)++xtL x:=by
  rw [List.take_add_one,h,xtsL_append]; simp [xtsL]
theorem two_set1 (S:St) (x y z:List Blk):(S++[x]++[y]).set (S.length+1) z=S++[x]++[z]:=by simp
theorem drop_swap (S:St) (a t n:List Blk):Drop (S++[a]++[t]++[n]) (S++[n]++[t]):=by
  refine ⟨a,?_⟩
  simp only [List.flatten_append,List.flatten_cons,List.flatten_nil,List.append_nil,List.append_assoc]
  refine List.Perm.append_left _ ?_
  refine List.perm_append_comm.trans ?_
  rw [← List.append_assoc]
  exact List.Perm.append_right _ List.perm_append_comm
theorem drop_mid (S:St) (a t n:List Blk):Drop (S++[a]++[t]++[n]) (S++[a]++[n]):=by
  refine ⟨t,?_⟩
  simp only [List.flatten_append,List.flatten_cons,List.flatten_nil,List.append_nil,List.append_assoc]
  exact List.Perm.append_left _ (List.Perm.append_left _ List.perm_append_comm)
theorem super_extents {I:Imm} {S:St} (l:List Xt) (hr:rightX 0 l=true) (a:Option Addr) (len cap:Nat) (hll:l.length=len) (hs:SlC I S a (len * 3) (xtsV l)) (a0:Option Addr) (n0 cap0:Nat) (l0:Dat) (c0:List Blk) (h0:OwnB c0 a0 n0 cap0 l0) (hn:n0+6 * len≤900000) :
    Tri Tryz.prog 121 #[.slice a0 n0 cap0,.slice a len cap] I (S++[c0]) fun v J S'=>∃ a' cap' ch,v=.slice a' (n0+6 * len) cap'∧OwnB ch a' (n0+6 * len) cap' (l0++xtsL l)∧I=J∧S'=S++[ch]:=by
  have hl0:l0.length=n0:=by have:=h0.len1; rwa [bts_length] at this
  refine Tri.of (args:=[.slice a0 n0 cap0,.slice a len cap]) tabOk Tryz.func121 rfl (by kernel_rfl) (by kernel_rfl) ?_
  refine CodeF.loopD [0,9,10,11] (fun vs J S'=>∃ (i:Nat) (a':Option Addr) (cap':Nat) (ch:List Blk),i≤len∧OwnB ch a' (n0+6 * i) cap' (l0++xtsL (l.take i))∧vs=[.slice a' (n0+6 * i) cap',.slice a len cap,.int .i64 len,.int .i64 i]∧I=J∧S'=S++[ch])
    (fun vs _ _=>match vs with | [_,_,_,.int _ i]=>((len:Int) - i).toNat | _=>0) ?_ ?_
  · exact ⟨_,Drop.refl _,0,a0,cap0,c0,by omega,by simpa [xtsL] using h0,rfl,rfl,rfl⟩
  rintro vs gE J S' hJ ⟨i,a',cap',ch,hi,hch,rfl,rfl,rfl⟩
  refine CmpD.split (fun (c1:(i:Int) < len)=>?_) (fun (c1:¬ (i:Int) < len)=>?_)
  · obtain ⟨b,off,rfl,hc⟩:=(hs.more ch).cells (by omega)
    obtain ⟨x,hx⟩:∃ x,l[i]?=some x:=⟨_,List.getElem?_eq_getElem (by omega)⟩
    have hxok:=rightX_mem hr x (List.mem_of_getElem? hx)
    refine Chk.mk (by omega) ?_
    refine LoadD.mk (xtV x) (by have:=hc.part (i:=i * 3) (m:=3) (by omega); rw [xts_at hx] at this; exact this) ?_
    conv=>whnf
    intro bx
    refine StoreD.st (S.length+1) (two_get1 S _ _) rfl rfl ?_
    rw [two_set1]
    refine LoadD.own (S.length+1) (two_get1 S _ _) _ rfl rfl ?_
    refine LoadD.own (S.length+1) (two_get1 S _ _) _ rfl rfl ?_
    refine LoadD.own (S.length+1) (two_get1 S _ _) _ rfl rfl ?_
    conv=>whnf
    intro b3
    refine CodeF.loopD [0,9,10,11,21,22,23] (fun vs J S'=>∃ (k:Nat) (a':Option Addr) (cap':Nat) (ch:List Blk),k≤3∧OwnB ch a' (n0+6 * i+2 * k) cap' (l0++xtsL (l.take i)++partX x k) ∧
        vs=[.slice a' (n0+6 * i+2 * k:Nat) cap',.slice (some ⟨b,off,none⟩) len cap,.int .i64 len,.int .i64 i,.slice (some ⟨b3,0,none⟩) 3 3,.int .i64 3,.int .i64 k]∧I=J∧S'=S++[ch]++[[(b3,row ((threeX x).map fun v:Nat=>Value.int .i64 v) 3)]])
      (fun vs _ _=>match vs with | [_,_,_,_,_,_,.int _ k]=>((3:Int) - k).toNat | _=>0) ?_ ?_
    · refine ⟨_,drop_mid _ _ _ _,0,a',cap',ch,by omega,?_,rfl,rfl,rfl⟩
      rw [show partX x 0=[] from rfl,List.append_nil]; exact hch
    rintro vs gE2 J S' hJ ⟨k,a2,cap2,ch2,hk,hch2,rfl,rfl,rfl⟩
    refine CmpD.split (fun (c2:(k:Int) < 3)=>?_) (fun (c2:¬ (k:Int) < 3)=>?_)
    · obtain ⟨v,hv⟩:∃ v,(threeX x)[k]?=some v:=⟨_,List.getElem?_eq_getElem (by show k < 3; omega)⟩
      have hvlt:v≤512:=by
        have:=List.mem_of_getElem? hv
        simp only [threeX,List.mem_cons,List.not_mem_nil,or_false] at this
        have:=hxok.ato; have:=hxok.sto; have:=hxok.few
        omega
      refine Chk.mk (by omega) ?_
      refine LoadD.own (S.length+1) (two_get1 S _ _) [Value.int .i64 (v:Nat)] ?_ rfl ?_
      · rw [Int.toNat_natCast]
        have:((threeX x).map fun v:Nat=>Value.int .i64 v)[k]?=some (Value.int .i64 (v:Nat)):=by rw [List.getElem?_map,hv]; rfl
        have hlt:k < ((threeX x).map fun v:Nat=>Value.int .i64 v).length:=by show k < 3; omega
        show (List.drop (addOff 0 k 1) _).take 1=_
        rw [addOff_eq,Nat.zero_add,Nat.mul_one,List.drop_eq_getElem_cons hlt]
        rw [List.getElem?_eq_getElem hlt] at this
        rw [Option.some.inj this]; rfl
      refine ToD.u16 (by omega) (by omega) ?_
      refine (octets_Add16 I _ a2 (n0+6 * i+2 * k) cap2 (l0++xtsL (l.take i)++partX x k) ((hch2.slC1 S.length (two_get S _ _))) v (by omega) (by omega)).mono ?_
      rintro r J S' hJ ⟨a3,cap3,ch3,rfl,hch3,rfl,rfl⟩
      refine ToD.i64 (by omega) (by omega) ?_
      refine ⟨_,drop_swap _ _ _ _,⟨k+1,a3,cap3,ch3,by omega,?_,rfl,rfl,rfl⟩,?_⟩
      · rw [partX_succ x k v hv,← List.append_assoc]; exact hch3
      · show ((3:Int) - ((k:Int)+1)).toNat < ((3:Int) - (k:Int)).toNat; omega
    · obtain rfl:k=3:=by omega
      refine ToD.i64 (by omega) (by omega) ?_
      refine ⟨_,Drop.init _ _,⟨i+1,a2,cap2,ch2,by omega,?_,rfl,rfl,rfl⟩,?_⟩
      · rw [xtsL_snoc hx,← List.append_assoc,← partX_all]; exact hch2
      · show ((len:Int) - ((i:Int)+1)).toNat < ((len:Int) - (i:Int)).toNat; omega
  · obtain rfl:i=len:=by omega
    rw [List.take_of_length_le (by omega)] at hch
    exact Done.mk ⟨_,_,ch,rfl,hch,rfl,rfl⟩
end Go.Proofs.YtklbcpofihgmlaaGreat
namespace Go.Proofs.YtklbcpofihgmlaaGreat
open Go.RowKit Go.Sl
set_option maxRecDepth 20000
theorem rightX_take {e:Nat} {l:List Xt} (h:rightX e l=true) (k:Nat):rightX e (l.take k)=true:=by
  have:=List.take_append_drop k l
  rw [← this,rightX_append] at h
  exact h.1
theorem right_inode {I:Imm} (k l s nd:Nat) (d:List Xt) (a:Option Addr) (n cap:Nat) (hn:d.length=n) (hr:rightX 0 d=true) (hd:Rds I a (n * 3) (xtsV d)) (h:k≤2∧l≤100∧s≤131072∧nd≤511∧n≤3) (h0:k=0→l=0∧s=0∧nd=0∧n=0) :
    Tri Tryz.prog 119 #[.agg #[.int .u8 (k:Nat),.int .i64 (l:Nat),.int .i64 (s:Nat),.slice a n cap,.int .i64 (nd:Nat)]] I [] fun v J _=>v=.bool true∧I=J:=by
  obtain ⟨h1,h2,h3,h4,h5⟩:=h
  refine Tri.of (args:=[.agg #[.int .u8 (k:Nat),.int .i64 (l:Nat),.int .i64 (s:Nat),.slice a n cap,.int .i64 (nd:Nat)]]) tabOk Tryz.func119 rfl (by kernel_rfl) (by kernel_rfl) ?_
  conv=>whnf
  intro b
  repeat (first | refine LoadD.own 0 rfl _ rfl rfl ?_)
  refine CmpD.split (fun (c1:(k:Int)=0)=>?_) (fun (c1:¬ (k:Int)=0)=>?_)
  · obtain ⟨rfl,rfl,rfl,rfl⟩:=h0 (by omega)
    repeat (first | refine LoadD.own 0 rfl _ rfl rfl ?_ | refine CmpD.yes rfl ?_)
    exact Done.mk ⟨rfl,rfl⟩
  repeat (first | refine LoadD.own 0 rfl _ rfl rfl ?_)
  refine CmpD.yes (by omega) ?_
  repeat (first | refine LoadD.own 0 rfl _ rfl rfl ?_)
  refine Tri.nf (super_within 0 l 100 I _ (by omega)) ?_
  rintro _ _ _ _ ⟨rfl,rfl,rfl⟩
  repeat (first | refine LoadD.own 0 rfl _ rfl rfl ?_)
  refine Tri.nf (super_within 0 s 131072 I _ (by omega)) ?_
  rintro _ _ _ _ ⟨rfl,rfl,rfl⟩
  repeat (first | refine LoadD.own 0 rfl _ rfl rfl ?_)
  refine Tri.nf (super_within 0 nd 511 I _ (by omega)) ?_
  rintro _ _ _ _ ⟨rfl,rfl,rfl⟩
  repeat (first | refine LoadD.own 0 rfl _ rfl rfl ?_)
  refine CmpD.yes (by omega) ?_
  repeat (first | refine LoadD.own 0 rfl _ rfl rfl ?_)
  refine Tri.nf (super_Right d hr a n cap hn (by omega) hd.slC) ?_
  rintro _ _ _ _ ⟨rfl,rfl,rfl⟩
  exact Done.mk ⟨rfl,rfl⟩
theorem crcMore_lt (s:Nat) (h:s < 4294967296) (l:Dat):crcMore s l < 4294967296:=Nat.xor_lt_two_pow (n:=32) (crcReg_lt (Nat.xor_lt_two_pow (n:=32) h (by decide)) l) (by decide)
theorem u8_small {k:Nat} (h:k < 256):byte (UInt8.ofNat k)=.int .u8 (k:Nat):=by
  show Value.int .u8 ((UInt8.ofNat k).toNat:Int)=_
  rw [UInt8.toNat_ofNat',Nat.mod_eq_of_lt h]
theorem bts_zeros (n:Nat):bts (List.replicate n 0)=rows n [Value.int .u8 0]:=by
  simp [rows,bts,byte]
theorem super_PutInode {I:Imm} (f:Fi) (hf:IOk f) (a:Option Addr) (cap:Nat) (hd:Rds I a (f.direct.length * 3) (xtsV f.direct)) :
    Tri Tryz.prog 79 #[inoV f a cap] I [] fun v J S'=>∃ a' cap' ch,v=.tuple #[.slice a' 64 cap',.int .i64 0]∧OwnB ch a' 64 cap' (inoL f)∧I=J∧S'=[ch]:=by
  have hdl:=direct_le f
  have hr:rightX 0 f.direct=true:=rightX_take hf.right 3
  have hnone:=hf.none
  have hk:=hf.kind; have hl:=hf.links; have hs:=hf.size; have hnd:=hf.node
  have hino:inoL f=match f.kind with
    | 0=>List.replicate 64 0
    | _=>ino60 f++be (crcMore 0 (ino60 f)) 4:=rfl
  have h60:ino60 f=[UInt8.ofNat f.kind,UInt8.ofNat f.direct.length]++be f.links 2++be f.size 4++xtsL f.direct++List.replicate (18 - 6 * f.direct.length) 0++be f.node 2++List.replicate 32 0:=rfl
  have hl60:=ino60_length f
  have h0:f.kind=0→f.links=0∧f.size=0∧f.node=0∧f.direct.length=0:=fun e=>by rw [hnone e]; exact ⟨rfl,rfl,rfl,rfl⟩
  unfold inoV
  generalize f.direct=d at *
  generalize f.kind=k at *
  generalize f.links=l at *
  generalize f.size=s at *
  generalize f.node=nd at *
  generalize inoL f=out at *
  generalize ino60 f=o60 at *
  generalize hn:d.length=n at *
  refine Tri.drop ?_ (fun _ _ _ _ h=>h)
  refine Tri.of (args:=[.agg #[.int .u8 (k:Nat),.int .i64 (l:Nat),.int .i64 (s:Nat),.slice a n cap,.int .i64 (nd:Nat)]]) tabOk Tryz.func79 rfl (by kernel_rfl) (by kernel_rfl) ?_
  conv=>whnf
  intro b
  repeat (first | refine LoadD.own 0 rfl _ rfl rfl ?_)
  refine Tri.free (right_inode k l s nd d a n cap hn hr hd ⟨hk,hl,hs,hnd,hdl⟩ h0) ?_
  rintro v J A' hJ ⟨rfl,rfl⟩
  repeat (first | refine LoadD.own 0 rfl _ rfl rfl ?_)
  refine CmpD.split (fun (c1:(k:Int)=0)=>?_) (fun (c1:¬ (k:Int)=0)=>?_)
  · obtain rfl:k=0:=by omega
    refine makeD tabOk rfl rfl rfl 64 64 rfl rfl (by omega) (by decide) (by omega) (by decide) rfl (by decide) ?_
    intro bz
    refine Done.mk ⟨_,Drop.pick [1] _ rfl,some ⟨bz,0,none⟩,64,_,rfl,?_,rfl,rfl⟩
    rw [hino]
    show OwnC _ 1 _ 64 64 (bts (List.replicate 64 0))
    rw [bts_zeros]
    exact OwnC.made rfl (Nat.le_refl _)
  repeat (first | refine LoadD.own 0 rfl _ rfl rfl ?_)
  refine ToD.u8 (by omega) (by omega) ?_
  conv=>whnf
  intro b2
  repeat (first | refine LoadD.own 0 rfl _ rfl rfl ?_)
  refine ToD.u16 (by omega) (by omega) ?_
  have e2:bts [UInt8.ofNat k,UInt8.ofNat n]=[.int .u8 (k:Nat),.int .u8 (n:Nat)]:=by
    show [byte (UInt8.ofNat k),byte (UInt8.ofNat n)]=_
    rw [u8_small (by omega),u8_small (by omega)]
  refine Tri.nf (octets_Add16 I _ (some ⟨b2,0,none⟩) 2 2 [UInt8.ofNat k,UInt8.ofNat n] (by rw [e2]; exact OwnC.slC1 (OwnC.whole rfl) 1 rfl) l (by omega) (by omega)) ?_
  rintro v J S' hJ ⟨a3,cap3,ch3,rfl,hch3,rfl,rfl⟩
  refine CodeF.dropD (Drop.pick [0,2] _ rfl) ?_
  refine CodeF.sched [[],[],[1],[1,2],[0,1,2,3],[],[5],[0,1,2,3,4,5,6],[0,1,2,3,4,5,6,7]] [0,1,2,3,5,6,4,7,8] (by kernel_rfl) ?_
  repeat (first | refine LoadP.at 0 rfl _ rfl rfl ?_)
  refine ToD.u32 (by omega) (by omega) ?_
  repeat (first | refine LoadP.at 0 rfl _ rfl rfl ?_)
  refine Tri.nf (octets_Add32 I _ a3 4 cap3 _ (by exact hch3.slC1 1 rfl) s (by omega) (by omega)) ?_
  rintro v J S' hJ ⟨a4,cap4,ch4,rfl,hch4,rfl,rfl⟩
  repeat (first | refine Chk.mk ⟨rfl,trivial⟩ ?_ | refine Chk.mk ⟨rfl,rfl,trivial⟩ ?_ | refine Chk.mk trivial ?_)
  refine Tri.nf (super_extents (S:=[_,_]) d hr a n cap hn hd.slC a4 8 cap4 _ ch4 hch4 (by omega)) ?_
  rintro v J S' hJ ⟨a5,cap5,ch5,rfl,hch5,rfl,rfl⟩
  refine ToD.to ((18 - 6 * n:Nat):Int) (by rw [wrap_i64 (by omega) (by omega)]; omega) ?_
  refine appendZD tabOk rfl rfl rfl rfl rfl rfl rfl rfl 2 rfl hch5 (18 - 6 * n) rfl rfl (by decide) (by decide) (by show _ * 1≤_; omega) (by omega) ?_
  intro a6 cap6 ch6 hch6
  have e6:8+6 * n+(18 - 6 * n)=26:=by omega
  have hch6:OwnB ch6 a6 26 cap6 ([UInt8.ofNat k,UInt8.ofNat n]++be l 2++be s 4++xtsL d++List.replicate (18 - 6 * n) 0):=by
    show OwnC ch6 1 a6 26 cap6 (bts _)
    rw [bts_append,bts_zeros,← e6]; exact hch6
  rw [e6]
  repeat (first | refine LoadD.own 0 rfl _ rfl rfl ?_)
  refine ToD.u16 (by omega) (by omega) ?_
  refine Tri.nf (octets_Add16 I _ a6 26 cap6 _ (by exact hch6.slC1 2 rfl) nd (by omega) (by omega)) ?_
  rintro v J S' hJ ⟨a7,cap7,ch7,rfl,hch7,rfl,rfl⟩
  refine ToD.to ((32:Nat):Int) (by decide) ?_
  refine appendZD tabOk rfl rfl rfl rfl rfl rfl rfl rfl 3 rfl hch7 32 rfl rfl (by decide) (by decide) (by decide) (by decide) ?_
  intro a8 cap8 ch8 hch8
  have hch8:OwnB ch8 a8 60 cap8 o60:=by
    show OwnC ch8 1 a8 60 cap8 (bts _)
    rw [h60,bts_append,bts_zeros]; exact hch8
  refine Tri.nf (sums_Crc I _ a8 60 cap8 o60 (by exact hch8.slC1 3 rfl) (by omega)) ?_
  rintro v J S' hJ ⟨rfl,rfl,rfl⟩
  refine Tri.nf (octets_Add32 I _ a8 60 cap8 o60 (by exact hch8.slC1 3 rfl) (crcMore 0 o60) (crcMore_lt 0 (by decide) _) (by omega)) ?_
  rintro v J S' hJ ⟨a9,cap9,ch9,rfl,hch9,rfl,rfl⟩
  refine Done.mk ⟨_,Drop.pick [4] _ rfl,a9,cap9,ch9,rfl,?_,rfl,rfl⟩
  cases k with
  | zero=>omega
  | succ k=>rw [hino]; exact hch9
end Go.Proofs.YtklbcpofihgmlaaGreat
namespace Go.Proofs.YtklbcpofihgmlaaGreat
open Go.RowKit Go.Sl
set_option maxRecDepth 20000
theorem layA_n {n:Nat} (h:64≤n∧n≤512):layA (n:Int)=.tuple #[layVn n,.int .i64 0]:=by
  have e1:layL (n:Int)=(layN n:Nat):=by unfold layL layN; split <;> split <;> omega
  rw [layA,if_neg (by omega),e1]
  unfold layVn bitsB inoB datB
  have e2:((2+layN n:Nat):Int)=2+(layN n:Nat):=by omega
  have e3:((3+layN n:Nat):Int)=3+(layN n:Nat):=by omega
  have e4:((n / 16:Nat):Int)=(n:Int) / 16:=by omega
  have e5:((3+layN n+n / 16:Nat):Int)=3+(layN n:Nat)+(n:Int) / 16:=by omega
  rw [e2,e3,e4,e5]
theorem layout_Of_n (n:Nat) (h:64≤n∧n≤512) (I:Imm):Tri Tryz.prog 87 #[.int .i64 (n:Nat)] I [] fun v J _=>v=.tuple #[layVn n,.int .i64 0]∧I=J:=by
  refine (layout_Of (n:Int) I).mono ?_
  rintro v J S' hJ ⟨rfl,rfl⟩
  exact ⟨layA_n h,rfl⟩
theorem ToD.quoN {a b:Nat} {K:Int→Prop} (ha:a≤9223372036854775807) (g:K ((a / b:Nat):Int)):ToD (IntKind.i64.wrap ((a:Int).tdiv (b:Int))) K :=
  ToD.quo (by omega) (by omega) (by omega) (by rw [← Int.natCast_ediv]; exact g)
theorem ToD.remN {a b:Nat} {K:Int→Prop} (g:K ((a % b:Nat):Int)):ToD ((a:Int).tmod (b:Int)) K :=
  ToD.rem (by omega) (by rw [← Int.natCast_emod]; exact g)
def layI (n:Nat):List Int:=[(n:Nat),2,(layN n:Nat),(bitsB n:Nat),(inoB n:Nat),(n / 16:Nat),(datB n:Nat)]
theorem layn_cmp {o:Oper} {ρ:Env} {op:BinOp} {yt:TypeId} {x y:Operand} {K:Value→Prop} (n m:Nat) (ho:o.op=.binOp op 24 x y yt) (hop:op=.eql∨op=.neq)
    (hx:ρ.ev x=layVn n) (hy:ρ.ev y=layVn m) (h:CmpD (layI n=layI m) fun t=>boolF (xor (op == .neq) t) fun t=>K (.bool t)):PureD Tryz.prog o ρ K :=
  eq_ints (k:=.i64) tabOk (layI n) (layI m) ho hop rfl hx hy (by kernel_rfl) (by kernel_rfl) (by kernel_rfl) rfl rfl h
theorem layout_right (n:Nat) (h:64≤n∧n≤512) (I:Imm):Tri Tryz.prog 145 #[layVn n] I [] fun v J _=>v=.bool true∧I=J:=by
  refine Tri.of (args:=[layVn n]) tabOk Tryz.func145 rfl (by kernel_rfl) (by kernel_rfl) ?_
  conv=>whnf
  intro b
  repeat (first | refine LoadD.own 0 rfl _ rfl rfl ?_)
  refine Tri.free (layout_Of_n n h I) ?_
  rintro v J _ hJ ⟨rfl,rfl⟩
  conv=>whnf
  intro b2
  repeat (first | refine LoadD.own 0 rfl _ rfl rfl ?_ | refine LoadD.own 1 rfl _ rfl rfl ?_ | refine StoreD.st 1 rfl rfl rfl ?_ | refine CmpD.yes rfl ?_)
  refine layn_cmp n n rfl (.inl rfl) rfl rfl ?_
  refine CmpD.yes rfl ?_
  exact Done.mk ⟨rfl,rfl⟩
theorem layout_Inode (n i:Nat) (h:64≤n∧n≤512) (hi:1≤i∧i≤64 * (n / 16)) (I:Imm) :
    Tri Tryz.prog 118 #[layVn n,.int .i64 (i:Nat)] I [] fun v J _=>v=.tuple #[.int .i64 (inoB n+(i - 1) / 64:Nat),.int .i64 ((i - 1) % 64 * 64:Nat),.int .i64 0]∧I=J:=by
  have hL:=layN_range h
  refine Tri.of (args:=[layVn n,.int .i64 (i:Nat)]) tabOk Tryz.func118 rfl (by kernel_rfl) (by kernel_rfl) ?_
  conv=>whnf
  intro b
  repeat (first | refine LoadD.own 0 rfl _ rfl rfl ?_)
  refine Tri.free (layout_right n h I) ?_
  rintro v J _ hJ ⟨rfl,rfl⟩
  refine CmpD.no (by omega) ?_
  repeat (first | refine LoadD.own 0 rfl _ rfl rfl ?_)
  refine ToD.i64 (by omega) (by omega) ?_
  refine CmpD.no (by omega) ?_
  repeat (first | refine LoadD.own 0 rfl _ rfl rfl ?_)
  refine ToD.to ((i - 1:Nat):Int) (by rw [wrap_i64 (by omega) (by omega)]; omega) ?_
  refine Chk.mk (by decide) ?_
  refine ToD.quoN (b:=64) (by omega) ?_
  refine ToD.to ((inoB n+(i - 1) / 64:Nat):Int) (by rw [wrap_i64 (by omega) (by omega)]; omega) ?_
  refine ToD.to ((i - 1:Nat):Int) (by rw [wrap_i64 (by omega) (by omega)]; omega) ?_
  refine Chk.mk (by decide) ?_
  refine ToD.remN (b:=64) ?_
  refine ToD.to (((i - 1) % 64 * 64:Nat):Int) (by rw [wrap_i64 (by omega) (by omega)]; omega) ?_
  exact Done.mk ⟨rfl,rfl⟩
theorem shl_bit:∀ m:Nat,m < 8→IntKind.u8.wrap ((1:Int) * 2 ^ (min ((m:Nat):Int).toNat IntKind.u8.bits))=((UInt8.ofNat (2 ^ m)).toNat:Int):=by decide
theorem layout_Bit (n k:Nat) (h:64≤n∧n≤512) (hk:k < n) (I:Imm) :
    Tri Tryz.prog 102 #[layVn n,.int .i64 (k:Nat)] I [] fun v J _=>v=.tuple #[.int .i64 (k / 8:Nat),byte (UInt8.ofNat (2 ^ (k % 8))),.int .i64 0]∧I=J:=by
  refine Tri.of (args:=[layVn n,.int .i64 (k:Nat)]) tabOk Tryz.func102 rfl (by kernel_rfl) (by kernel_rfl) ?_
  conv=>whnf
  intro b
  repeat (first | refine LoadD.own 0 rfl _ rfl rfl ?_)
  refine Tri.free (layout_right n h I) ?_
  rintro v J _ hJ ⟨rfl,rfl⟩
  refine CmpD.no (by omega) ?_
  repeat (first | refine LoadD.own 0 rfl _ rfl rfl ?_)
  refine CmpD.no (by omega) ?_
  refine CodeF.sched [[],[0],[],[2],[2,3],[0,1],[0,1,2,3,4,5],[0,1,2,3,4,5,6]] [0,1,2,3,4,5,6,7] (by kernel_rfl) ?_
  refine Chk.mk (by decide) ?_
  refine ToD.quoN (b:=8) (by omega) ?_
  refine Chk.mk (by decide) ?_
  refine ToD.remN (b:=8) ?_
  have hm:k % 8 < 8:=Nat.mod_lt _ (by decide)
  refine Chk.mk (by omega) ?_
  refine ToD.to ((UInt8.ofNat (2 ^ (k % 8))).toNat:Int) (shl_bit _ hm) ?_
  exact Done.mk ⟨rfl,rfl⟩
variable {σ:Type} (sp:SpC Tryz.prog σ)
theorem bits_wrong (hn:64≤sp.n∧sp.n≤512) (I:Imm):Tri Tryz.prog 78 #[sp.v,layVn sp.n] I [] fun v J _=>v=.int .i64 0∧I=J:=by
  refine Tri.of (args:=[sp.v,layVn sp.n]) tabOk Tryz.func78 rfl (by kernel_rfl) (by kernel_rfl) ?_
  conv=>whnf
  intro b
  repeat (first | refine LoadD.own 0 rfl _ rfl rfl ?_)
  refine Tri.free (layout_Of_n sp.n hn I) ?_
  rintro v J _ hJ ⟨rfl,rfl⟩
  conv=>whnf
  intro b2
  repeat (first | refine LoadD.own 0 rfl _ rfl rfl ?_ | refine LoadD.own 1 rfl _ rfl rfl ?_ | refine StoreD.st 1 rfl rfl rfl ?_ | refine CmpD.yes rfl ?_)
  refine layn_cmp sp.n sp.n rfl (.inr rfl) rfl rfl ?_
  refine CmpD.yes rfl ?_
  exact Done.mk ⟨rfl,rfl⟩
theorem data_wrong (hn:64≤sp.n∧sp.n≤512) (I:Imm):Tri Tryz.prog 50 #[sp.v,layVn sp.n] I [] fun v J _=>v=.int .i64 0∧I=J:=by
  refine Tri.of (args:=[sp.v,layVn sp.n]) tabOk Tryz.func50 rfl (by kernel_rfl) (by kernel_rfl) ?_
  conv=>whnf
  intro b
  repeat (first | refine LoadD.own 0 rfl _ rfl rfl ?_)
  refine Tri.free (layout_Of_n sp.n hn I) ?_
  rintro v J _ hJ ⟨rfl,rfl⟩
  conv=>whnf
  intro b2
  repeat (first | refine LoadD.own 0 rfl _ rfl rfl ?_ | refine LoadD.own 1 rfl _ rfl rfl ?_ | refine StoreD.st 1 rfl rfl rfl ?_ | refine CmpD.yes rfl ?_)
  refine layn_cmp sp.n sp.n rfl (.inr rfl) rfl rfl ?_
  refine CmpD.yes rfl ?_
  exact Done.mk ⟨rfl,rfl⟩
theorem extents_wrong (hn:64≤sp.n∧sp.n≤512) {I:Imm} (f:Fi) (hf:IOk f) (a:Option Addr) (cap:Nat) (hd:Rds I a (f.direct.length * 3) (xtsV f.direct)):Tri Tryz.prog 130 #[sp.v,layVn sp.n,inoV f a cap] I [] fun v J _=>v=.int .i64 0∧I=J:=by
  refine Tri.of (args:=[sp.v,layVn sp.n,inoV f a cap]) tabOk Tryz.func130 rfl (by kernel_rfl) (by kernel_rfl) ?_
  conv=>whnf
  intro b
  conv=>whnf
  intro b1
  repeat (first | refine LoadD.own 0 rfl _ rfl rfl ?_)
  refine Tri.free (layout_Of_n sp.n hn I) ?_
  rintro v J _ hJ ⟨rfl,rfl⟩
  conv=>whnf
  intro b2
  repeat (first | refine LoadD.own 0 rfl _ rfl rfl ?_ | refine LoadD.own 2 rfl _ rfl rfl ?_ | refine StoreD.st 2 rfl rfl rfl ?_ | refine CmpD.yes rfl ?_)
  refine layn_cmp sp.n sp.n rfl (.inr rfl) rfl rfl ?_
  refine CmpD.yes rfl ?_
  repeat (first | refine LoadD.own 1 rfl _ rfl rfl ?_)
  refine Tri.free (super_PutInode f hf a cap hd) ?_
  rintro v J _ hJ ⟨a',cap',ch,rfl,hch,rfl,-⟩
  exact Done.mk ⟨rfl,rfl⟩
end Go.Proofs.YtklbcpofihgmlaaGreat
namespace Go.Proofs.YtklbcpofihgmlaaGreat
open Go.RowKit Go.Sl
set_option maxRecDepth 20000
theorem xts_drop {d:List Xt} {i:Nat} {x:Xt} (h:d[i]?=some x) (Y:Dat):∃ Z,(xtsL d++Y).drop (6 * i)=xtL x++Z:=by
  induction d generalizing i with
  | nil=>simp at h
  | cons y d ih =>
    have e:xtsL (y :: d)=xtL y++xtsL d:=by simp [xtsL]
    rw [e]
    cases i with
    | zero=>simp at h; subst h; exact ⟨xtsL d++Y,by simp⟩
    | succ i =>
      obtain ⟨Z,hZ⟩:=ih (i:=i) (by simpa using h)
      refine ⟨Z,?_⟩
      rw [show 6 * (i+1)=6+6 * i by omega,← List.drop_drop,List.append_assoc,← xtL_length y,List.drop_left]
      exact hZ
theorem num2 {l:Dat} {k v:Nat} {T:Dat} (h:l.drop k=be v 2++T) (hv:v < 65536):numV l (k:Nat) 2=(v,true):=by
  rw [numV_at h (be_length _ _) (by omega),nb_be 2 v hv]
theorem drop_app {l x T:Dat} {k n:Nat} (h:l.drop k=x++T) (hn:x.length=n):l.drop (k+n)=T:=by
  rw [← List.drop_drop,h,← hn,List.drop_left]
theorem three_get2 (S:St) (x y z:List Blk):(S++[x]++[y]++[z])[S.length+2]?=some z:=by simp
theorem drop_set3 (S:St) (x y z y':List Blk):Drop ((S++[x]++[y]++[z]).set (S.length+1) y') (S++[x]++[y']):=by
  have e:(S++[x]++[y]++[z]).set (S.length+1) y'=S++[x]++[y']++[z]:=by simp
  rw [e]; exact Drop.init _ _
theorem drop_box (S:St) (a c:List Blk):Drop (S++[a]++[c]) (S++[c]):=by
  refine ⟨a,?_⟩
  simp only [List.flatten_append,List.flatten_cons,List.flatten_nil,List.append_nil,List.append_assoc]
  exact List.Perm.append_left _ List.perm_append_comm
section
variable {I:Imm} {S:St}
theorem octets_U16 {a:Option Addr} {len cap:Nat} {l:List UInt8} (h:SlC I S a len (bts l)) (hlen:len≤1000000000) (at_:Nat) (hat:at_≤1000000000) (v:Nat) (hv:numV l (at_:Nat) 2=(v,true)) (hvl:v < 65536) :
    Tri Tryz.prog 107 #[.slice a len cap,.int .i64 (at_:Nat)] I S fun r J S'=>r=.tuple #[.int .u16 (v:Nat),.bool true]∧I=J∧S'=S:=by
  refine Tri.of (args:=[.slice a len cap,.int .i64 (at_:Nat)]) tabOk Tryz.func107 rfl (by kernel_rfl) (by kernel_rfl) ?_
  refine Tri.nf (octets_number h hlen (at_:Nat) (by unfold In64; omega) 2 (by omega)) ?_
  rintro v J S' hJ ⟨rfl,rfl,rfl⟩
  rw [spineS_eq,hv]
  refine ToD.u16 (by omega) (by omega) ?_
  exact Done.mk ⟨rfl,rfl,rfl⟩
theorem octets_U32 {a:Option Addr} {len cap:Nat} {l:List UInt8} (h:SlC I S a len (bts l)) (hlen:len≤1000000000) (at_:Nat) (hat:at_≤1000000000) (v:Nat) (hv:numV l (at_:Nat) 4=(v,true)) (hvl:v < 4294967296) :
    Tri Tryz.prog 108 #[.slice a len cap,.int .i64 (at_:Nat)] I S fun r J S'=>r=.tuple #[.int .u32 (v:Nat),.bool true]∧I=J∧S'=S:=by
  refine Tri.of (args:=[.slice a len cap,.int .i64 (at_:Nat)]) tabOk Tryz.func108 rfl (by kernel_rfl) (by kernel_rfl) ?_
  refine Tri.nf (octets_number h hlen (at_:Nat) (by unfold In64; omega) 4 (by omega)) ?_
  rintro v J S' hJ ⟨rfl,rfl,rfl⟩
  rw [spineS_eq,hv]
  refine ToD.u32 (by omega) (by omega) ?_
  exact Done.mk ⟨rfl,rfl,rfl⟩
theorem taken1 {a:Option Addr} {len cap:Nat} {l:Dat} (h:SlC I S a len (bts l)) (hlen:len≤1000000000) (b k:Nat) {T:TypeId} (hk:S[k]?=some [(b,row [.slice a len cap] T)]) (at_:Nat) (hat:at_≤1000000000) (v:Nat) (hv:numV l (at_:Nat) 2=(v,true)) (hvl:v < 65536) :
    Tri Tryz.prog 148 #[.int .i64 (at_:Nat),.pointer (some ⟨b,0,none⟩)] I S fun r J S'=>r=.int .i64 (v:Nat)∧I=J∧S'=S:=by
  refine Tri.of (args:=[.int .i64 (at_:Nat),.pointer (some ⟨b,0,none⟩)]) tabOk Tryz.func148 rfl (by kernel_rfl) (by kernel_rfl) ?_
  refine LoadD.own k hk _ rfl rfl ?_
  refine Tri.nf (octets_U16 h hlen at_ hat v hv hvl) ?_
  rintro r J S' hJ ⟨rfl,rfl,rfl⟩
  rw [spineS_eq]
  refine ToD.i64 (by omega) (by omega) ?_
  exact Done.mk ⟨rfl,rfl,rfl⟩
theorem super_taken {a:Option Addr} {len cap:Nat} {l:Dat} (h:SlC I S a len (bts l)) (hlen:len≤1000000) (at_ n:Nat) (d:List Xt) (hr:rightX 0 d=true) (hn:d.length=n) (Y:Dat) (hd:l.drop at_=xtsL d++Y) (hat:at_+6 * n≤len) :
    Tri Tryz.prog 109 #[.slice a len cap,.int .i64 (at_:Nat),.int .i64 (n:Nat)] I S fun v J S'=>∃ a' cap' ch,v=.slice a' n cap'∧OwnC ch 3 a' n cap' (xtsV d)∧I=J∧S'=S++[ch]:=by
  refine Tri.drop ?_ (fun _ _ _ _ h=>h)
  refine Tri.of (args:=[.slice a len cap,.int .i64 (at_:Nat),.int .i64 (n:Nat)]) tabOk Tryz.func109 rfl (by kernel_rfl) (by kernel_rfl) ?_
  conv=>whnf
  intro b
  refine CodeF.loopD [1,7,8,12,13] (fun vs J S'=>∃ (i:Nat) (a':Option Addr) (cap':Nat) (ch:List Blk),i≤n∧OwnC ch 3 a' i cap' (xtsV (d.take i))∧vs=[.int .i64 (at_:Nat),.slice a' i cap',.func (.func 148) #[] #[.pointer (some ⟨b,0,none⟩)],.int .i64 n,.int .i64 i]∧I=J∧S'=S++[[(b,row [.slice a len cap] 29)]]++[ch])
    (fun vs _ _=>match vs with | [_,_,_,_,.int _ i]=>((n:Int) - i).toNat | _=>0) ?_ ?_
  · exact ⟨_,Drop.and (Drop.refl _),0,none,0,[],by omega,OwnC.nil _ _,rfl,rfl,rfl⟩
  rintro vs gE J S' hJ ⟨i,a',cap',ch,hi,hch,rfl,rfl,rfl⟩
  refine CmpD.split (fun (c1:(i:Int) < n)=>?_) (fun (c1:¬ (i:Int) < n)=>?_)
  · obtain ⟨x,hx⟩:∃ x,d[i]?=some x:=⟨_,List.getElem?_eq_getElem (by omega)⟩
    have hxok:=rightX_mem hr x (List.mem_of_getElem? hx)
    obtain ⟨Z,hZ⟩:=xts_drop hx Y
    rw [← hd,List.drop_drop] at hZ
    unfold xtL at hZ
    rw [List.append_assoc,List.append_assoc] at hZ
    have hZ2:=drop_app hZ (be_length _ _)
    have hZ3:=drop_app hZ2 (be_length _ _)
    have:=hxok.ato; have:=hxok.sto; have:=hxok.few
    have n1:=num2 hZ (by omega)
    have n2:=num2 hZ2 (by omega)
    have n3:=num2 hZ3 (by omega)
    refine ToD.to ((6 * i:Nat):Int) (by rw [wrap_i64 (by omega) (by omega)]; omega) ?_
    refine ToD.to ((at_+6 * i:Nat):Int) (by rw [wrap_i64 (by omega) (by omega)]; omega) ?_
    refine Tri.nf (taken1 ((h.more _).more ch) (by omega) b S.length (two_get S _ _) (at_+6 * i) (by omega) x.at_ n1 (by omega)) ?_
    rintro r J S' hJ ⟨rfl,rfl,rfl⟩
    rw [spineS_eq]
    refine ToD.to ((at_+6 * i+2:Nat):Int) (by rw [wrap_i64 (by omega) (by omega)]; omega) ?_
    refine Tri.nf (taken1 ((h.more _).more ch) (by omega) b S.length (two_get S _ _) (at_+6 * i+2) (by omega) x.start n2 (by omega)) ?_
    rintro r J S' hJ ⟨rfl,rfl,rfl⟩
    rw [spineS_eq]
    refine ToD.to ((at_+6 * i+2+2:Nat):Int) (by rw [wrap_i64 (by omega) (by omega)]; omega) ?_
    refine Tri.nf (taken1 ((h.more _).more ch) (by omega) b S.length (two_get S _ _) (at_+6 * i+2+2) (by omega) x.count n3 (by omega)) ?_
    rintro r J S' hJ ⟨rfl,rfl,rfl⟩
    rw [spineS_eq]
    conv=>whnf
    intro b1
    have hsrc:SlC I (S++[[(b,row [.slice a len cap] 29)]]++[ch]++[[(b1,row (xtV x) 112)]]) (some ⟨b1,0,none⟩) (1 * 3) (xtV x):=(OwnC.whole (len:=1) (size:=3) rfl).slC (S.length+2) (three_get2 _ _ _ _)
    refine appendD tabOk rfl rfl rfl rfl rfl rfl rfl (S.length+1) (by simp) hch (SrcOk.slice (n:=1) (news:=xtV x) tabOk rfl hsrc (by intro v hv; simp [xtV] at hv; rcases hv with rfl | rfl | rfl <;> rfl)) rfl (by show (i+1) * 24≤_; omega) (by omega) ?_
    intro a2 cap2 ch2 hch2
    refine ToD.i64 (by omega) (by omega) ?_
    refine ⟨_,drop_set3 _ _ _ _ _,⟨i+1,a2,cap2,ch2,by omega,?_,rfl,rfl,rfl⟩,?_⟩
    · rw [List.take_add_one,hx,xtsV_append]
      have:xtsV (some x).toList=xtV x:=by simp [xtsV]
      rw [this]; exact hch2
    · show ((n:Int) - ((i:Int)+1)).toNat < ((n:Int) - (i:Int)).toNat; omega
  · obtain rfl:i=n:=by omega
    rw [List.take_of_length_le (by omega)] at hch
    exact Done.mk ⟨_,drop_box _ _ _,a',cap',ch,rfl,hch,rfl,rfl⟩
end
end Go.Proofs.YtklbcpofihgmlaaGreat
namespace Go.Proofs.YtklbcpofihgmlaaGreat
open Go.RowKit Go.Sl
set_option maxRecDepth 20000
theorem ino_shape (f:Fi) (hf:IOk f):(∃ Y,inoL f=[UInt8.ofNat f.kind,UInt8.ofNat f.direct.length]++(be f.links 2++(be f.size 4++(xtsL f.direct++Y))))∧∃ Z,(inoL f).drop 26=be f.node 2++Z:=by
  by_cases h0:f.kind=0
  · rw [hf.none h0]
    refine ⟨⟨List.replicate 56 0,by decide⟩,List.replicate 36 0,by decide⟩
  · have e:inoL f=ino60 f++be (crcMore 0 (ino60 f)) 4:=by
      unfold inoL
      split
      · omega
      · rfl
    rw [e]
    have hd:=direct_le f
    refine ⟨⟨List.replicate (18 - 6 * f.direct.length) 0++be f.node 2++List.replicate 32 0++be (crcMore 0 (ino60 f)) 4,by unfold ino60; simp only [List.append_assoc]⟩,List.replicate 32 0++be (crcMore 0 (ino60 f)) 4,?_⟩
    have hl:([UInt8.ofNat f.kind,UInt8.ofNat f.direct.length]++be f.links 2++be f.size 4++xtsL f.direct++List.replicate (18 - 6 * f.direct.length) 0).length=26:=by
      simp only [List.length_append,be_length,xtsL_length,List.length_replicate,List.length_cons,List.length_nil]; omega
    have key:∀ (A B C:Dat),A.length=26→(A++B++C).drop 26=B++C:=fun A B C h=>by rw [← h,List.append_assoc,List.drop_left]
    have e2:ino60 f=([UInt8.ofNat f.kind,UInt8.ofNat f.direct.length]++be f.links 2++be f.size 4++xtsL f.direct++List.replicate (18 - 6 * f.direct.length) 0)++(be f.node 2++List.replicate 32 0):=by unfold ino60; simp only [List.append_assoc]
    generalize crcMore 0 (ino60 f)=cr
    rw [e2,key _ _ _ hl,List.append_assoc]
theorem Rds.of_ownS {ch:List Blk} {a:Option Addr} {size len cap:Nat} {vs:List Value} (h:OwnC ch size a len cap vs) {J:Imm} (hJ:∀ x ∈ ch,J x.1=some x.2):Rds J a (len * size) vs:=by
  refine ⟨h.n,?_⟩
  rcases h.at' with h0 | ⟨b,pre,post,T,ha,hc,hp⟩
  · left; have:=h.le; rw [show len=0 by omega]; simp
  · right
    refine ⟨b,_,_,T,(0,0),ha,hJ (b,_) (by rw [hc]; exact List.mem_singleton.2 rfl),?_⟩
    have:=own_take pre vs post
    rwa [h.n] at this
def noIno:List Value:=[.int .u8 0,.int .i64 0,.int .i64 0,.slice none 0 0,.int .i64 0]
theorem super_GetInode {I:Imm} (f:Fi) (hf:IOk f) (a:Option Addr) (cap:Nat) (hb:Rds I a 64 (bts (inoL f))) :
    Tri Tryz.prog 63 #[.slice a 64 cap] I [] fun v J _=>∃ a' cap',v=.tuple #[inoV f a' cap',.int .i64 0]∧Rds J a' (f.direct.length * 3) (xtsV f.direct):=by
  have hdl:=direct_le f
  have hr:rightX 0 f.direct=true:=rightX_take hf.right 3
  obtain ⟨⟨Y,hY⟩,Z,hZ⟩:=ino_shape f hf
  have hk:=hf.kind; have hl:=hf.links; have hs:=hf.size; have hnd:=hf.node
  have hput:=super_PutInode (I:=I) f hf
  obtain ⟨b,off,cb,Tb,fb,rfl,hIb,hcb⟩:∃ b off c T fr,a=some ⟨b,off,none⟩∧I b=some (row c T fr)∧(c.drop off).take 64=bts (inoL f):=by
    rcases hb.mem with h | h
    · cases h
    · exact h
  have hb0:(inoL f)[0]?=some (UInt8.ofNat f.kind):=by rw [hY]; rfl
  have hb1:(inoL f)[1]?=some (UInt8.ofNat f.direct.length):=by rw [hY]; rfl
  have d2:(inoL f).drop 2=be f.links 2++(be f.size 4++(xtsL f.direct++Y)):=by rw [hY]; rfl
  have d4:=drop_app d2 (be_length _ _)
  have d8:(inoL f).drop 8=xtsL f.direct++Y:=drop_app d4 (be_length _ _)
  have n2:=num2 d2 (by omega)
  have n4:numV (inoL f) ((4:Nat):Int) 4=(f.size,true):=by rw [numV_at d4 (be_length _ _) (by omega),nb_be 4 _ (by show _ < 256 ^ 4; omega)]
  have n26:=num2 hZ (by omega)
  have hput2:∀ {I':Imm} (a':Option Addr) (cap':Nat),Rds I' a' (f.direct.length * 3) (xtsV f.direct)→_:=fun {I'} a' cap' h=>super_PutInode (I:=I') f hf a' cap' h
  unfold inoV at *
  generalize f.direct=d at *
  generalize f.kind=k at *
  generalize f.links=l at *
  generalize f.size=s at *
  generalize f.node=nd at *
  generalize inoL f=L at *
  generalize hn:d.length=n at *
  refine Tri.drop (Q:=fun v J _=>_) ?_ (fun v J S' _ h=>⟨S',Drop.refl _,h⟩)
  refine Tri.of (args:=[.slice (some ⟨b,off,none⟩) 64 cap]) tabOk Tryz.func63 rfl (by kernel_rfl) (by kernel_rfl) ?_
  conv=>whnf
  intro b2
  repeat (first | refine CmpD.yes rfl ?_)
  refine Tri.free (octets_U16 (S:=[]) hb.slC (by omega) 2 (by omega) l n2 (by omega)) ?_
  rintro v J _ hJ ⟨rfl,rfl,-⟩
  refine Tri.free (octets_U32 (S:=[]) hb.slC (by omega) 4 (by omega) s n4 (by omega)) ?_
  rintro v J _ hJ ⟨rfl,rfl,-⟩
  refine Tri.free (octets_U16 (S:=[]) hb.slC (by omega) 26 (by omega) nd n26 (by omega)) ?_
  rintro v J _ hJ ⟨rfl,rfl,-⟩
  refine CodeF.cutD [0,2,10] (fun vs J S'=>∃ (b10:Nat) (aD:Option Addr) (capD:Nat) (ch:List Blk),I=J∧OwnC ch 3 aD n capD (xtsV d)∧vs=[.slice (some ⟨b,off,none⟩) 64 cap,.pointer (some ⟨b2,0,none⟩),.pointer (some ⟨b10,0,none⟩)] ∧
    S'=[[(b2,row noIno 77)],[(b10,row [.int .u8 (k:Nat),.int .i64 (l:Nat),.int .i64 (s:Nat),.slice aD n capD,.int .i64 (nd:Nat)] 77)],ch]) ?_ ?_
  · refine CodeF.schedT [[],[0],[0,1],[],[3],[],[5],[],[],[8],[8,9],[8,9,10],[8,9,10,11],[7,8,9,10,11,12],[],[14],[0,1,2,3,4,5,6,7,8,9,10,11,12,13,14,15],[],[0,1,2,3,4,5,6,7,8,9,10,11,12,13,14,15,16,17]] (.rd 0 (.rd 1 (.rd 2 (.rd 3 (.rd 4 (.rd 5 (.rd 6 (.rd 7 (.rd 8 (.rd 9 (.rd 10 (.rd 11 (.rd 12 (.rd 14 (.rd 15 (.alt (.ef 13 (.rd 16 (.ef 17 (.ef 18 .nil)))) (.ef 17 (.ef 13 (.rd 16 (.ef 18 .nil)))))))))))))))))))) (by kernel_rfl) ?_
    refine Chk.mk (by decide) ?_
    refine LoadP.imm [.int .u8 (k:Nat)] ⟨cb,Tb,fb,.imm hIb,take_get hcb (by show (bts L)[0]?=some _; rw [bts_get hb0,u8_small (by omega)]),rfl⟩ ?_
    refine ToD.i64 (by omega) (by omega) ?_
    refine ToD.i64 (by omega) (by omega) ?_
    refine Chk.mk (by decide) ?_
    refine LoadP.imm [.int .u8 (n:Nat)] ⟨cb,Tb,fb,.imm hIb,take_get hcb (by show (bts L)[1]?=some _; rw [bts_get hb1,u8_small (by omega)]),rfl⟩ ?_
    refine ToD.i64 (by omega) (by omega) ?_
    refine ToD.to ((n:Nat):Int) (by rw [if_neg (by omega)]) ?_
    refine ToD.i64 (by omega) (by omega) ?_
    refine And.intro ?_ ?_
    · refine Tri.nf (super_taken (S:=[_]) hb.slC (by omega) 8 n d hr hn Y d8 (by omega)) ?_
      rintro v J S' hJ ⟨aD,capD,ch,rfl,hch,rfl,rfl⟩
      conv=>whnf
      intro b10
      refine StoreD.st 2 rfl rfl rfl ?_
      exact ⟨_,Drop.pick [0,2,1] _ rfl,b10,aD,capD,ch,rfl,hch,rfl,rfl⟩
    · conv=>whnf
      intro b10
      refine Tri.nf (super_taken (S:=[_,_]) hb.slC (by omega) 8 n d hr hn Y d8 (by omega)) ?_
      rintro v J S' hJ ⟨aD,capD,ch,rfl,hch,rfl,rfl⟩
      refine StoreD.st 1 rfl rfl rfl ?_
      exact ⟨_,Drop.refl _,b10,aD,capD,ch,rfl,hch,rfl,rfl⟩
  · rintro vs gE J S' hJ ⟨b10,aD,capD,ch,rfl,hch,rfl,rfl⟩
    repeat (first | refine LoadD.own 1 rfl _ rfl rfl ?_)
    refine Tri.fix 2 rfl fun I' hI' hfx=>?_
    have hrd:Rds I' aD (n * 3) (xtsV d):=by
      exact Rds.of_ownS hch hfx
    refine Tri.nf (Tri.frameX (hput2 aD capD hrd) [] rfl rfl (K:=fun v J S'=>∃ a' cap' ch',v=.tuple #[.slice a' 64 cap',.int .i64 0]∧OwnB ch' a' 64 cap' L∧I'=J∧S'=[[(b2,row noIno 77)],[(b10,row [.int .u8 (k:Nat),.int .i64 (l:Nat),.int .i64 (s:Nat),.slice aD n capD,.int .i64 (nd:Nat)] 77)],[],ch']) ?_) ?_
    · rintro v J A' hJ2 ⟨a',cap',ch',rfl,hch',rfl,rfl⟩
      exact ⟨a',cap',ch',rfl,hch',rfl,rfl⟩
    rintro v J S' hJ2 ⟨a',cap',ch',rfl,hch',rfl,rfl⟩
    repeat (first | refine CmpD.yes rfl ?_)
    refine Tri.nf (bytes_Equal (l1:=L) (l2:=L) (by exact hch'.slC1 3 rfl) ((hb.mono hI').slC)) ?_
    rintro v J S' hJ3 ⟨rfl,rfl,rfl⟩
    rw [decide_eq_true (rfl:L=L)]
    repeat (first | refine LoadD.own 0 rfl _ rfl rfl ?_ | refine LoadD.own 1 rfl _ rfl rfl ?_ | refine StoreD.st 0 rfl rfl rfl ?_)
    exact Done.mk ⟨aD,capD,rfl,hrd⟩
end Go.Proofs.YtklbcpofihgmlaaGreat
namespace Go.Proofs.YtklbcpofihgmlaaGreat
open Go.RowKit Go.Sl
set_option maxRecDepth 20000
theorem super_PutNode {I:Imm} (d:List Xt) (n:Nat) (hn:d.length=n) (hn2:n≤250) (hr:rightX 0 d=true) (a:Option Addr) (cap:Nat) (hd:Rds I a (n * 3) (xtsV d)) :
    Tri Tryz.prog 141 #[.slice a n cap] I [] fun v J S'=>∃ a' cap' ch,v=.tuple #[.slice a' 4096 cap',.int .i64 0]∧OwnB ch a' 4096 cap' (nodeL d)∧I=J∧S'=[ch]:=by
  have hB:=nodeB_length (l:=d) (by omega)
  have hnb:nodeB d=xtsL d++List.replicate (4088 - 6 * n) 0:=by unfold nodeB; rw [hn]
  have hnl:nodeL d=be n 2++be 0 2++be (crcMore 0 (nodeB d)) 4++nodeB d:=by unfold nodeL; rw [hn]
  generalize nodeL d=out at *
  generalize nodeB d=nb at *
  refine Tri.drop ?_ (fun _ _ _ _ h=>h)
  refine Tri.of (args:=[.slice a n cap]) tabOk Tryz.func141 rfl (by kernel_rfl) (by kernel_rfl) ?_
  refine CmpD.no (by omega) ?_
  refine Tri.free (super_Right (S:=[]) d hr a n cap hn (by omega) hd.slC) ?_
  rintro v J _ hJ ⟨rfl,rfl,-⟩
  refine Tri.nf (Tri.abs (S2:=[[]]) rfl (super_extents (S:=[]) d hr a n cap hn hd.slC none 0 0 [] [] (OwnC.nil _ _) (by omega)) (K:=fun v J S'=>∃ a' cap' ch,v=.slice a' (6 * n:Nat) cap'∧OwnB ch a' (6 * n) cap' (xtsL d)∧I=J∧S'=[ch]) ?_) ?_
  · rintro v J S' hJ ⟨a',cap',ch,rfl,hch,rfl,rfl⟩
    rw [Nat.zero_add] at hch ⊢
    exact ⟨_,Drop.refl _,a',cap',ch,rfl,hch,rfl,rfl⟩
  rintro v J S' hJ ⟨a1,cap1,ch1,rfl,hch1,rfl,rfl⟩
  obtain ⟨r,hr6⟩:∃ r,r=4088 - 6 * n:=⟨_,rfl⟩
  rw [← hr6] at hnb
  refine ToD.to ((r:Nat):Int) (by rw [wrap_i64 (by omega) (by omega)]; omega) ?_
  refine appendZD tabOk rfl rfl rfl rfl rfl rfl rfl rfl 0 rfl hch1 r rfl rfl (by decide) (by decide) (by show _ * 1≤_; omega) (by omega) ?_
  intro a2 cap2 ch2 hch2
  have e2:6 * n+r=4088:=by omega
  have hch2:OwnB ch2 a2 4088 cap2 nb:=by
    show OwnC ch2 1 a2 4088 cap2 (bts _)
    rw [hnb,bts_append,bts_zeros,← e2]; exact hch2
  rw [e2]
  refine ToD.u16 (by omega) (by omega) ?_
  refine Tri.nf (octets_Add16 I _ none 0 0 [] ⟨rfl,.inl rfl⟩ n (by omega) (by omega)) ?_
  rintro v J S' hJ ⟨a3,cap3,ch3,rfl,hch3,rfl,rfl⟩
  refine Tri.nf (octets_Add16 I _ a3 2 cap3 (be n 2) (by exact hch3.slC1 1 rfl) 0 (by omega) (by omega)) ?_
  rintro v J S' hJ ⟨a4,cap4,ch4,rfl,hch4,rfl,rfl⟩
  refine Tri.nf (sums_Crc I _ a2 4088 cap2 nb (by exact hch2.slC1 0 rfl) (by omega)) ?_
  rintro v J S' hJ ⟨rfl,rfl,rfl⟩
  refine Tri.nf (octets_Add32 I _ a4 4 cap4 _ (by exact hch4.slC1 2 rfl) (crcMore 0 nb) (crcMore_lt 0 (by decide) _) (by omega)) ?_
  rintro v J S' hJ ⟨a5,cap5,ch5,rfl,hch5,rfl,rfl⟩
  refine appendD tabOk rfl rfl rfl rfl rfl rfl rfl 3 rfl hch5 (SrcOk.slice (n:=4088) (news:=bts nb) tabOk rfl (by exact hch2.slC1 0 rfl) (bts_plain _)) rfl (by decide) (by decide) ?_
  intro a6 cap6 ch6 hch6
  refine Done.mk ⟨_,Drop.pick [3] _ rfl,a6,cap6,ch6,rfl,?_,rfl,rfl⟩
  show OwnC ch6 1 a6 4096 cap6 (bts _)
  rw [hnl,bts_append]; exact hch6
theorem node_shape (d:List Xt):(∃ Y,nodeL d=be d.length 2++Y)∧∃ Z,(nodeL d).drop 8=xtsL d++Z:=by
  unfold nodeL
  refine ⟨⟨_,by rw [List.append_assoc,List.append_assoc]⟩,List.replicate (4088 - 6 * d.length) 0,?_⟩
  have hl:(be d.length 2++be 0 2++be (crcMore 0 (nodeB d)) 4).length=8:=by simp only [List.length_append,be_length]
  rw [← hl,List.drop_left]; rfl
theorem super_GetNode {I:Imm} (d:List Xt) (n:Nat) (hn:d.length=n) (hn2:n≤250) (hr:rightX 0 d=true) (a:Option Addr) (cap:Nat) (hb:Rds I a 4096 (bts (nodeL d))) :
    Tri Tryz.prog 133 #[.slice a 4096 cap] I [] fun v J _=>∃ a' cap',v=.tuple #[.slice a' n cap',.int .i64 0]∧Rds J a' (n * 3) (xtsV d):=by
  obtain ⟨⟨Y,hY⟩,Z,hZ⟩:=node_shape d
  rw [hn] at hY
  have n0:numV (nodeL d) ((0:Nat):Int) 2=(n,true):=num2 (k:=0) hY (by omega)
  have hput:∀ {I':Imm} (a':Option Addr) (cap':Nat),Rds I' a' (n * 3) (xtsV d)→_:=fun {I'} a' cap' h=>super_PutNode (I:=I') d n hn hn2 hr a' cap' h
  generalize nodeL d=L at *
  refine Tri.drop (Q:=fun v J _=>_) ?_ (fun v J S' _ h=>⟨S',Drop.refl _,h⟩)
  refine Tri.of (args:=[.slice a 4096 cap]) tabOk Tryz.func133 rfl (by kernel_rfl) (by kernel_rfl) ?_
  refine Tri.free (octets_U16 (S:=[]) hb.slC (by omega) 0 (by omega) n n0 (by omega)) ?_
  rintro v J _ hJ ⟨rfl,rfl,-⟩
  refine ToD.i64 (by omega) (by omega) ?_
  refine CmpD.no (by omega) ?_
  refine ToD.i64 (by omega) (by omega) ?_
  refine Tri.nf (super_taken (S:=[]) hb.slC (by omega) 8 n d hr hn Z hZ (by omega)) ?_
  rintro v J S' hJ ⟨aD,capD,ch,rfl,hch,rfl,rfl⟩
  refine Tri.fix 0 rfl fun I' hI' hfx=>?_
  have hrd:Rds I' aD (n * 3) (xtsV d):=Rds.of_ownS hch hfx
  refine Tri.nf (Tri.frameX (hput aD capD hrd) [] rfl rfl (K:=fun v J S'=>∃ a' cap' ch',v=.tuple #[.slice a' 4096 cap',.int .i64 0]∧OwnB ch' a' 4096 cap' L∧I'=J∧S'=[[],ch']) ?_) ?_
  · rintro v J A' hJ2 ⟨a',cap',ch',rfl,hch',rfl,rfl⟩
    exact ⟨a',cap',ch',rfl,hch',rfl,rfl⟩
  rintro v J S' hJ2 ⟨a',cap',ch',rfl,hch',rfl,rfl⟩
  repeat (first | refine CmpD.yes rfl ?_)
  refine Tri.nf (bytes_Equal (l1:=L) (l2:=L) (by exact hch'.slC1 1 rfl) ((hb.mono hI').slC)) ?_
  rintro v J S' hJ3 ⟨rfl,rfl,rfl⟩
  rw [decide_eq_true (rfl:L=L)]
  skip
  exact Done.mk ⟨aD,capD,rfl,hrd⟩
end Go.Proofs.YtklbcpofihgmlaaGreat

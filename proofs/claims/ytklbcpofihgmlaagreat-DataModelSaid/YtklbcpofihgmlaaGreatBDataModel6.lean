/- Texts of this claim laid together: Lf1, Md0, Md1, Md2, Md3, Md4, Md5. -/
import Derived.Test.YtklbcpofihgmlaaGreatBDataModel5
import Derived.Test.YtklbcpofihgmlaaGreatBDataModel3
import Derived.Test.YtklbcpofihgmlaaGreatBDataModel1
import Derived.Test.YtklbcpofihgmlaaGreatBDataModel2
import Derived.Test.YtklbcpofihgmlaaGreatBDataModel4
namespace Go.Proofs.YtklbcpofihgmlaaGreat
open Go.RowKit Go.Sl
set_option maxRecDepth 20000
theorem freeN_take (l:List Bool) (i:Nat) {x:Bool} (h:l[i]?=some x):freeN (l.take (i+1))=freeN (l.take i)+(if x then 0 else 1):=by
  unfold freeN
  rw [List.take_add_one,h,List.filter_append,List.length_append]
  cases x <;> rfl
theorem freeN_le (l:List Bool):freeN l≤l.length:=List.length_filter_le _ _
variable {σ:Type} (sp:SpC Tryz.prog σ)
@[reducible] def i64B (b:Nat) (x:Int):List Blk:=[(b,row [.int .i64 x] 3)]
@[reducible] def errB (b:Nat) (x:Int):List Blk:=[(b,row [.int .i64 x] 27)]
set_option maxHeartbeats 2000000 in
theorem bits_Left (hn:64≤sp.n∧sp.n≤512) {I:Imm} {c:List Blk} {s:σ} (hR:sp.R s I c) {fs:Fs} (hfs:FsOk sp.n fs) (hV:sp.blk s=fs.V) :
    Tri Tryz.prog 22 #[sp.v,layVn sp.n] I [c] fun v J S'=>∃ c' s',sp.R s' J c'∧sp.rd s s'∧S'=[c'] ∧
      ((∃ e,e≠0∧sp.can e∧v=.tuple #[.int .i64 0,.int .i64 0,.int .i64 e])∨(∃ un:Nat,v=.tuple #[.int .i64 (freeN fs.used:Nat),.int .i64 (un:Nat),.int .i64 0])):=by
  have hL:=layN_range hn
  have hul:=hfs.len
  refine Tri.drop ?_ (fun _ _ _ _ h=>h)
  refine Tri.of (args:=[sp.v,layVn sp.n]) tabOk Tryz.func22 rfl (by kernel_rfl) (by kernel_rfl) ?_
  conv=>whnf
  intro b3
  conv=>whnf
  intro b4
  conv=>whnf
  intro b5
  conv=>whnf
  intro b6
  refine LoadD.own 1 rfl _ rfl rfl ?_
  refine Tri.frame (bits_Used sp hn hR (by rw [hV]; exact hfs.bt)) [0] rfl rfl ?_
  rintro v J A' hJ ⟨c1,s1,hR1,hrd1,⟨e,he,hcan,rfl,rfl⟩ | ⟨aU,capU,chU,rfl,hU,rfl⟩⟩
  · refine ⟨by simp,?_⟩
    refine CmpD.no he ?_
    repeat (first | refine StoreD.st 2 rfl rfl rfl ?_ | refine StoreD.st 3 rfl rfl rfl ?_ | refine StoreD.st 4 rfl rfl rfl ?_)
    refine LoadD.own 2 rfl _ rfl rfl ?_
    refine LoadD.own 3 rfl _ rfl rfl ?_
    refine LoadD.own 4 rfl _ rfl rfl ?_
    exact Done.mk ⟨_,Drop.pick [0] _ rfl,c1,s1,hR1,hrd1,rfl,.inl ⟨e,he,hcan,rfl⟩⟩
  refine ⟨by simp,?_⟩
  refine CmpD.yes rfl ?_
  conv=>whnf
  intro b10
  refine StoreD.st 6 rfl rfl rfl ?_
  refine CodeF.loopD [0,3,4,5,6,9,10,28,29,30] (fun vs J' S'=>∃ i:Nat,i≤sp.n∧vs=[sp.v,.pointer (some ⟨b3,0,none⟩),.pointer (some ⟨b4,0,none⟩),.pointer (some ⟨b5,0,none⟩),.pointer (some ⟨b6,0,none⟩),.int .i64 (freeN (fs.used.take i):Nat),.pointer (some ⟨b10,0,none⟩),.slice aU sp.n capU,.int .i64 (sp.n:Nat),.int .i64 i] ∧
      J=J'∧S'=[c1,[(b3,row (layVn sp.n).cells.toList 24)],i64B b4 0,i64B b5 0,errB b6 0,chU,i64B b10 0])
    (fun vs _ _=>match vs with | [_,_,_,_,_,_,_,_,_,.int _ i]=>((sp.n:Int) - i).toNat | _=>0) ?_ ?_
  · exact ⟨_,Drop.refl _,0,by omega,rfl,rfl,rfl⟩
  rintro vs gE J' S' hJ' ⟨i,hi,rfl,rfl,rfl⟩
  refine CmpD.split (fun (d1:(i:Int) < sp.n)=>?_) (fun (d1:¬ (i:Int) < sp.n)=>?_)
  · obtain ⟨bb,off,rfl,hc⟩:=(hU.slC1 (I:=J) (S:=[c1,[(b3,row (layVn sp.n).cells.toList 24)],i64B b4 0,i64B b5 0,errB b6 0,chU,i64B b10 0]) 5 rfl).cells (by omega)
    obtain ⟨x,hx⟩:∃ x,fs.used[i]?=some x:=⟨_,List.getElem?_eq_getElem (by omega)⟩
    have hft:=freeN_take fs.used i hx
    have hfl:=Nat.le_trans (freeN_le (fs.used.take i)) (List.length_take_le _ _)
    refine Chk.mk (by omega) ?_
    refine LoadD.mk [.bool x] (by have:=hc.at (bls_get hx); exact this) ?_
    cases x with
    | true =>
      refine ToD.i64 (by omega) (by omega) ?_
      refine ⟨_,Drop.refl _,⟨i+1,by omega,by rw [hft]; rfl,rfl,rfl⟩,?_⟩
      show ((sp.n:Int) - ((i:Int)+1)).toNat < ((sp.n:Int) - (i:Int)).toNat; omega
    | false =>
      refine ToD.i64 (by omega) (by omega) ?_
      refine ToD.i64 (by omega) (by omega) ?_
      refine ⟨_,Drop.refl _,⟨i+1,by omega,by rw [hft]; rfl,rfl,rfl⟩,?_⟩
      show ((sp.n:Int) - ((i:Int)+1)).toNat < ((sp.n:Int) - (i:Int)).toNat; omega
  obtain rfl:i=sp.n:=by omega
  rw [List.take_of_length_le (by omega)]
  refine LoadD.own 1 rfl [.int .i64 (sp.n / 16:Nat)] rfl rfl ?_
  have hino:=hfs.ino
  refine CodeF.loopD [0,3,4,5,6,9,10,40,41] (fun vs J' S'=>∃ (j un:Nat) (c2:List Blk) (s2:σ),j≤sp.n / 16∧un≤64 * j∧sp.R s2 J' c2∧sp.rd s s2∧vs=[sp.v,.pointer (some ⟨b3,0,none⟩),.pointer (some ⟨b4,0,none⟩),.pointer (some ⟨b5,0,none⟩),.pointer (some ⟨b6,0,none⟩),.int .i64 (freeN fs.used:Nat),.pointer (some ⟨b10,0,none⟩),.int .i64 (sp.n / 16:Nat),.int .i64 (j:Nat)] ∧
      S'=[c2,[(b3,row (layVn sp.n).cells.toList 24)],i64B b4 0,i64B b5 0,errB b6 0,i64B b10 (un:Nat)])
    (fun vs _ _=>match vs with | [_,_,_,_,_,_,_,_,.int _ i]=>((sp.n:Int) - i).toNat | _=>0) ?_ ?_
  · exact ⟨_,Drop.pick [0,1,2,3,4,6] _ rfl,0,0,c1,s1,by omega,by omega,hR1,hrd1,rfl,rfl⟩
  rintro vs gE2 J2 S' hJ2 ⟨j,un,c2,s2,hj,hun,hR2,hrd2,rfl,rfl⟩
  refine CmpD.split (fun (d1:(j:Int) < (sp.n / 16:Nat))=>?_) (fun (d1:¬ (j:Int) < (sp.n / 16:Nat))=>?_)
  rotate_left
  · refine CodeF.sched [[],[],[0],[0,1,2],[0,1,2,3]] [0,1,2,3,4] (by kernel_rfl) ?_
    refine LoadP.at 5 rfl [.int .i64 (un:Nat)] rfl rfl ?_
    refine StoreD.st 2 rfl rfl rfl ?_
    refine Chk.mk (And.intro rfl trivial) ?_
    refine StoreD.st 3 rfl rfl rfl ?_
    refine StoreD.st 4 rfl rfl rfl ?_
    refine LoadD.own 2 rfl _ rfl rfl ?_
    refine LoadD.own 3 rfl _ rfl rfl ?_
    refine LoadD.own 4 rfl _ rfl rfl ?_
    exact Done.mk ⟨_,Drop.pick [0] _ rfl,c2,s2,hR2,hrd2,rfl,.inr ⟨un,rfl⟩⟩
  refine LoadD.own 1 rfl [.int .i64 (inoB sp.n:Nat)] rfl rfl ?_
  refine ToD.to ((inoB sp.n+j:Nat):Int) (by rw [wrap_i64 (by omega) (by omega)]; omega) ?_
  refine Tri.frame (bits_inodes sp hR2 (inoB sp.n+j) (by omega)) [0] rfl rfl ?_
  rintro v J3 A' hJ3 ⟨c3,s3,hR3,hrd3,⟨e,he,hcan,rfl,rfl⟩ | ⟨aD,capD,chD,rfl,hD,rfl⟩⟩
  · refine ⟨by simp,?_⟩
    refine CmpD.no he ?_
    repeat (first | refine StoreD.st 2 rfl rfl rfl ?_ | refine StoreD.st 3 rfl rfl rfl ?_ | refine StoreD.st 4 rfl rfl rfl ?_)
    refine LoadD.own 2 rfl _ rfl rfl ?_
    refine LoadD.own 3 rfl _ rfl rfl ?_
    refine LoadD.own 4 rfl _ rfl rfl ?_
    exact Done.mk ⟨_,Drop.pick [0] _ rfl,c3,s3,hR3,sp.rd_trans hrd2 hrd3,rfl,.inl ⟨e,he,hcan,rfl⟩⟩
  refine ⟨by simp,?_⟩
  refine CmpD.yes rfl ?_
  have hblk:sp.blk s2 (inoB sp.n+j)=inoBlk fs.fi j:=by rw [sp.rd_blk hrd2,hV]; exact hfs.inos j (by omega)
  rw [hblk] at hD
  have hDle:=hD.le
  refine Tri.fix 6 rfl fun J4 hJ4 hx4=>?_
  have hRD:=Rds.of_ownS hD hx4
  obtain ⟨bD,oD,rfl⟩:∃ bD oD,aD=some ⟨bD,oD,none⟩:=by
    rcases hRD.mem with h0 | ⟨b,off,_,_,_,rfl,_⟩
    · omega
    · exact ⟨b,off,rfl⟩
  refine Tri.frame (chunk_of (some ⟨bD,oD,none⟩) 4096 capD 64 (by omega) J4) [] rfl rfl ?_
  rintro v J A' hJ ⟨p1,p2,rfl,rfl,rfl⟩
  refine ⟨by simp,?_⟩
  have hR4:=sp.up hR3 hJ4
  refine CodeF.rangeF rfl [c3,[(b3,row (layVn sp.n).cells.toList 24)],i64B b4 0,i64B b5 0,errB b6 0,i64B b10 (un:Nat),[]] (chunkBoxes p1 p2 (some ⟨bD,oD,none⟩) 4096 capD 64) ⟨[],by simp⟩ _ _ (chunk_at p1 p2 bD oD 4096 capD 64 (by omega) hDle (by omega) J4)
    (fun i J' S'=>i≤64∧J4.le J'∧∃ un':Nat,un'≤un+i∧S'=[c3,[(b3,row (layVn sp.n).cells.toList 24)],i64B b4 0,i64B b5 0,errB b6 0,i64B b10 (un':Nat),[]])
    (fun _ _ _=>False) ⟨by omega,J4.le_refl,un,by omega,rfl⟩ ?round ?done ?stop
  case round =>
    rintro i x J' S' hJ' ⟨hi,rfl⟩ ⟨hi2,-,un',hun',rfl⟩
    have hmin:min 64 (4096 - i * 64)=64:=by omega
    rw [hmin]
    have hmod:i < 64:=by omega
    obtain ⟨A,B,hA,hB,hAB,-⟩:=ino_split fs.fi j hmod
    rw [hAB] at hRD
    have hr:=Rds.partG (size:=1) hRD (i * 64) (i * 64+64) capD (by omega) (by omega) (by omega)
    rw [Nat.add_sub_cancel_left] at hr
    have e1:((bts (A++inoL (fs.fi (64 * j+i+1))++B)).drop (i * 64 * 1)).take (64 * 1)=bts (inoL (fs.fi (64 * j+i+1))):=by
      unfold bts
      rw [← List.map_drop,← List.map_take]
      congr 1
      rw [show i * 64 * 1=A.length by omega,List.append_assoc,List.drop_left,show 64 * 1=(inoL (fs.fi (64 * j+i+1))).length by rw [inoL_length],List.take_left]
    rw [e1] at hr
    have hx:slAddr (some ⟨bD,oD,none⟩) (i * 64) capD 1=some ⟨bD,oD+i * 64,none⟩:=by
      unfold slAddr
      rw [if_neg (by omega)]
      simp [add_none]
    rw [hx] at hr
    refine Tri.free (super_GetInode (fs.fi (64 * j+i+1)) (hino.ok _) _ 64 (hr.mono hJ')) ?_
    rintro v J5 _ hJ5 ⟨a5,cap5,rfl,hr5⟩
    conv=>whnf
    intro b17
    refine StoreD.st 7 rfl rfl rfl ?_
    refine CmpD.yes rfl ?_
    refine LoadD.own 7 rfl [.int .u8 ((fs.fi (64 * j+i+1)).kind:Nat)] rfl rfl ?_
    refine CmpD.split (fun d2=>?_) (fun d2=>?_)
    · refine LoadD.own 5 rfl [.int .i64 (un':Nat)] rfl rfl ?_
      refine ToD.i64 (by omega) (by omega) ?_
      refine StoreD.st 5 rfl rfl rfl ?_
      exact ⟨_,Drop.pick [0,1,2,3,4,5,6] _ rfl,by omega,Imm.le_trans (by assumption) hJ5,un'+1,by omega,rfl⟩
    · exact ⟨_,Drop.pick [0,1,2,3,4,5,6] _ rfl,by omega,Imm.le_trans (by assumption) hJ5,un',by omega,rfl⟩
  case done =>
    rintro i J' S' hJ' hf ⟨hi2,hJ4',un',hun',rfl⟩
    obtain rfl:i=64:=by omega
    refine ToD.i64 (by omega) (by omega) ?_
    refine ⟨_,Drop.pick [0,1,2,3,4,5] _ rfl,⟨j+1,un',c3,s3,by omega,by omega,sp.up hR4 hJ4',sp.rd_trans hrd2 hrd3,rfl,rfl⟩,?_⟩
    show ((sp.n:Int) - ((j:Int)+1)).toNat < ((sp.n:Int) - (j:Int)).toNat; omega
  case stop =>
    rintro e J' S' hJ' hs
    exact hs.elim
end Go.Proofs.YtklbcpofihgmlaaGreat
namespace Go.Proofs.YtklbcpofihgmlaaGreat
open Go.RowKit Go.Sl
set_option maxRecDepth 20000
theorem freeN_range (l:List Bool):∀ i,i≤l.length→freeN (l.take i)=((List.range i).filter fun k=>decide (l[k]?=some false)).length
  | 0,_=>rfl
  | i+1,h=>by
    obtain ⟨x,hx⟩:∃ x,l[i]?=some x:=⟨_,List.getElem?_eq_getElem (by omega)⟩
    rw [freeN_take l i hx,freeN_range l i (by omega),List.range_succ,List.filter_append,List.length_append]
    congr 1
    cases x with
    | true=>simp [hx]
    | false=>simp [hx]
theorem free_count {fs:Fs} (h:FsOk 64 fs) (h3:∀ j,3 < j→fs.fi j=noFi):freeN fs.used+((blksF (fs.fi 1)).length+(blksF (fs.fi 2)).length+(blksF (fs.fi 3)).length)=41:=by
  have hf:=freeN_range fs.used 64 (by rw [h.len]; omega)
  rw [List.take_of_length_le (by rw [h.len]; omega)] at hf
  have hF:∀ x,x ∈ ((List.range 64).filter fun k=>decide (fs.used[k]?=some false))↔x < 64∧fs.used[x]?=some false:=by
    intro x; rw [List.mem_filter,List.mem_range,decide_eq_true_iff]
  have hFn:((List.range 64).filter fun k=>decide (fs.used[k]?=some false)).Nodup:=List.Pairwise.filter _ List.nodup_range
  generalize ((List.range 64).filter fun k=>decide (fs.used[k]?=some false))=F at *
  have hr:∀ j,∀ x ∈ blksF (fs.fi j),23≤x∧x < 64:=fun j x hx=>blksF_rng (h.fi j) x hx
  have hu:∀ j,∀ x ∈ blksF (fs.fi j),fs.used[x]?=some true:=fun j x hx=>(h.own x (hr j x hx).2).2 (.inr ⟨j,hx⟩)
  have hlow:∀ x,x < 23→fs.used[x]?=some true:=fun x hx=>(h.own x (by omega)).2 (.inl hx)
  have hap:∀ j k,j≠k→∀ a ∈ blksF (fs.fi j),∀ b ∈ blksF (fs.fi k),a≠b:=by
    rintro j k hjk a ha b hb rfl
    exact hjk (h.apart j k a ha hb)
  have hno:∀ j,j≠1→j≠2→j≠3→∀ x,x ∉ blksF (fs.fi j):=by
    intro j h1 h2 h3' x hx
    have e:fs.fi j=noFi:=by
      rcases Nat.lt_or_ge 3 j with g | g
      · exact h3 j g
      · exact h.out j (.inl (by omega))
    rw [e] at hx; cases hx
  have n1:=h.nodup 1; have n2:=h.nodup 2; have n3:=h.nodup 3
  have hmem:∀ x,x < 64→x < 23∨x ∈ blksF (fs.fi 1)∨x ∈ blksF (fs.fi 2)∨x ∈ blksF (fs.fi 3)∨x ∈ F:=by
    intro x hx
    obtain ⟨y,hy⟩:∃ y,fs.used[x]?=some y:=⟨_,List.getElem?_eq_getElem (by rw [h.len]; exact hx)⟩
    cases y with
    | false=>exact .inr (.inr (.inr (.inr ((hF x).2 ⟨hx,hy⟩))))
    | true =>
      rcases (h.own x hx).1 hy with g | ⟨j,hj⟩
      · exact .inl g
      · by_cases e1:j=1
        · subst e1; exact .inr (.inl hj)
        by_cases e2:j=2
        · subst e2; exact .inr (.inr (.inl hj))
        by_cases e3:j=3
        · subst e3; exact .inr (.inr (.inr (.inl hj)))
        exact absurd hj (hno j e1 e2 e3 x)
  have a12:=hap 1 2 (by decide); have a13:=hap 1 3 (by decide); have a23:=hap 2 3 (by decide)
  have r1:=hr 1; have r2:=hr 2; have r3:=hr 3
  have u1:=hu 1; have u2:=hu 2; have u3:=hu 3
  generalize blksF (fs.fi 1)=L1 at *
  generalize blksF (fs.fi 2)=L2 at *
  generalize blksF (fs.fi 3)=L3 at *
  have hF0:∀ {x y:Nat},fs.used[x]?=some true→y ∈ F→x≠y:=by
    rintro x y hx hy rfl
    have:=((hF x).1 hy).2
    rw [hx] at this; cases this
  have hnd:(List.range 23++(L1++(L2++(L3++F)))).Nodup:=by
    rw [List.nodup_append,List.nodup_append,List.nodup_append,List.nodup_append]
    refine ⟨List.nodup_range,⟨n1,⟨n2,⟨n3,hFn,?_⟩,?_⟩,?_⟩,?_⟩
    · exact fun a ha b hb=>hF0 (u3 a ha) hb
    · intro a ha b hb
      rcases List.mem_append.1 hb with hb | hb
      · exact a23 a ha b hb
      · exact hF0 (u2 a ha) hb
    · intro a ha b hb
      rcases List.mem_append.1 hb with hb | hb
      · exact a12 a ha b hb
      rcases List.mem_append.1 hb with hb | hb
      · exact a13 a ha b hb
      · exact hF0 (u1 a ha) hb
    · intro a ha b hb
      have ha:=List.mem_range.1 ha
      rcases List.mem_append.1 hb with hb | hb
      · have:=(r1 b hb).1; omega
      rcases List.mem_append.1 hb with hb | hb
      · have:=(r2 b hb).1; omega
      rcases List.mem_append.1 hb with hb | hb
      · have:=(r3 b hb).1; omega
      · exact hF0 (hlow a ha) hb
  have c1:=nodup_few _ (List.range 64) hnd (fun x hx=>by
    rw [List.mem_range]
    simp only [List.mem_append,List.mem_range] at hx
    rcases hx with g | g | g | g | g
    · omega
    · exact (r1 x g).2
    · exact (r2 x g).2
    · exact (r3 x g).2
    · exact ((hF x).1 g).1)
  have c2:=nodup_few (List.range 64) (List.range 23++(L1++(L2++(L3++F)))) List.nodup_range (fun x hx=>by
    rw [List.mem_range] at hx
    simp only [List.mem_append,List.mem_range]
    exact hmem x hx)
  simp only [List.length_append,List.length_range] at c1 c2
  omega
end Go.Proofs.YtklbcpofihgmlaaGreat
namespace Go.Proofs.YtklbcpofihgmlaaGreat
open Go.RowKit Go.Sl
set_option maxRecDepth 20000
def padL (l:Dat) (at_:Nat) (b:Dat):Dat:=if b=[] then l else l++List.replicate (at_+b.length - l.length) 0
def wrP2 (l:Dat) (at_:Nat) (b:Dat):Dat:=(padL l at_ b).take at_++b++(padL l at_ b).drop (at_+b.length)
theorem padL_length {l b:Dat} {at_:Nat} (hb:b≠[]):(padL l at_ b).length=max l.length (at_+b.length):=by
  unfold padL
  rw [if_neg hb,List.length_append,List.length_replicate]; omega
theorem padL_get (l b:Dat) (at_ k:Nat):(padL l at_ b).getD k 0=l.getD k 0:=by
  unfold padL
  split
  · rfl
  · rw [List.getD_eq_getElem?_getD,List.getD_eq_getElem?_getD]
    rcases Nat.lt_or_ge k l.length with g | g
    · rw [List.getElem?_append_left g]
    · rw [List.getElem?_append_right g,List.getElem?_eq_none (l:=l) g,List.getElem?_replicate]
      split <;> rfl
theorem wrP2_nil (l:Dat) (at_:Nat):wrP2 l at_ []=l:=by
  unfold wrP2 padL
  simp
theorem wrP2_length {l b:Dat} {at_:Nat} (hb:b≠[]):(wrP2 l at_ b).length=max l.length (at_+b.length):=by
  have h:=padL_length (l:=l) (at_:=at_) hb
  unfold wrP2
  simp only [List.length_append,List.length_take,List.length_drop,h]
  omega
theorem wrP2_get {l b:Dat} {at_:Nat} (hb:b≠[]) (k:Nat):(wrP2 l at_ b).getD k 0=if at_≤k∧k < at_+b.length then b.getD (k - at_) 0 else l.getD k 0:=by
  have h:=padL_length (l:=l) (at_:=at_) hb
  have hg:=padL_get l b at_
  unfold wrP2
  generalize padL l at_ b=p at *
  have ht:(p.take at_).length=at_:=by rw [List.length_take]; omega
  rw [← hg k]
  simp only [List.getD_eq_getElem?_getD]
  rcases Nat.lt_or_ge k at_ with g | g
  · rw [if_neg (by omega),List.append_assoc,List.getElem?_append_left (by omega),List.getElem?_take_of_lt g]
  · rcases Nat.lt_or_ge k (at_+b.length) with g2 | g2
    · rw [if_pos ⟨g,g2⟩,List.getElem?_append_left (by rw [List.length_append]; omega),List.getElem?_append_right (by omega),ht]
    · rw [if_neg (by omega),List.getElem?_append_right (by rw [List.length_append]; omega),List.getElem?_drop,List.length_append,ht]
      congr 2; omega
theorem wrP2_step {p b:Dat} {at_ i:Nat} (hp:at_+b.length≤p.length) (hi:i < b.length) {x:UInt8} (hx:b[i]?=some x) (pre post:List Value) :
    splice (pre++bts (p.take at_++b.take i++p.drop (at_+i))++post) (pre.length+(at_+i)) [byte x]=pre++bts (p.take at_++b.take (i+1)++p.drop (at_+(i+1)))++post:=by
  have hlt:at_+i < p.length:=by omega
  have e1:p.drop (at_+i)=[p[at_+i]]++p.drop (at_+(i+1)):=by
    rw [List.drop_eq_getElem_cons hlt]; rfl
  have e2:b.take (i+1)=b.take i++[x]:=by rw [List.take_add_one,hx]; rfl
  have:=splice_at (p.take at_++b.take i) [p[at_+i]] (p.drop (at_+(i+1))) [x] pre post rfl
  rw [List.length_append,List.length_take,List.length_take,Nat.min_eq_left (by omega),Nat.min_eq_left (by omega)] at this
  rw [e1,e2,← List.append_assoc (p.take at_++b.take i),← List.append_assoc (p.take at_)]
  exact this
set_option maxHeartbeats 1000000 in
theorem law26_wrote {I:Imm} (a:Option Addr) (n cap:Nat) (l:Dat) (hR:Rds I a n (bts l)) (hn:n≤131072) (at_:Nat) (hat:at_≤131072) (ab:Option Addr) (nb capb:Nat) (b:Dat) (hB:Rds I ab nb (bts b)) (hnb:nb≤131072) :
    Tri Tryz.prog 23 #[.slice a n cap,.int .i64 (at_:Nat),.slice ab nb capb] I [] fun v J S'=>∃ a' m cap' ch,v=.slice a' m cap'∧OwnB ch a' m cap' (wrP2 l at_ b)∧I=J∧S'=[ch]:=by
  have hll:l.length=n:=by rw [← bts_length,hR.len]
  have hbl:b.length=nb:=by rw [← bts_length,hB.len]
  refine Tri.drop ?_ (fun _ _ _ _ h=>h)
  refine Tri.ofF (args:=[.slice a n cap,.int .i64 (at_:Nat),.slice ab nb capb]) tabOk Tryz.func23 rfl (by kernel_rfl) (by kernel_rfl) ?_
  refine CodeF.stepD ?_
  refine CodeF.stepD ?_
  refine Tri.nf (cp_own I [] a n cap l hR (by omega)) ?_
  rintro v J S' hJ ⟨a0,cap0,ch0,rfl,h0,rfl,rfl⟩
  refine CodeF.join [1,2,7] (fun vs J S'=>∃ (a':Option Addr) (m cap':Nat) (ch:List Blk),m=(padL l at_ b).length∧OwnB ch a' m cap' (padL l at_ b)∧I=J∧S'=[ch]∧vs=[.int .i64 (at_:Nat),.slice ab nb capb,.slice a' m cap']) ?_ ?_
  · refine CodeF.blockF ?_ rfl
    refine CodeF.den ?_
    refine CodeF.loopD [1,2,7] (fun vs J S'=>∃ (q:Nat) (a':Option Addr) (cap':Nat) (ch:List Blk),(q=0∨(b≠[]∧n+q≤at_+nb))∧OwnB ch a' (n+q) cap' (l++List.replicate q 0)∧I=J∧S'=[ch]∧vs=[.int .i64 (at_:Nat),.slice ab nb capb,.slice a' (n+q:Nat) cap'])
      (fun vs _ _=>match vs with | [_,_,.slice _ m _]=>at_+nb - m | _=>0) ?_ ?_
    · exact ⟨_,Drop.refl _,0,a0,cap0,ch0,.inl rfl,by simpa using h0,rfl,rfl,rfl⟩
    rintro vs gE J S' hJ ⟨q,a',cap',ch,hq,hO,rfl,rfl,rfl⟩
    have hfin:(b=[]∨at_+nb≤n+q)→padL l at_ b=l++List.replicate q 0:=by
      intro hc
      unfold padL
      split
      · rename_i hb0
        obtain rfl:q=0:=by
          rcases hq with h | h
          · exact h
          · exact absurd hb0 h.1
        simp
      · rename_i hb0
        have:at_+b.length - l.length=q:=by
          rcases hc with h | h
          · exact absurd h hb0
          · rcases hq with h' | h' <;> omega
        rw [this]
    refine ToD.to ((at_+nb:Nat):Int) (by rw [wrap_i64 (by omega) (by omega)]; omega) ?_
    refine CmpD.split (fun c1=>?_) (fun c1=>?_)
    · refine CmpD.split (fun c2=>?_) (fun c2=>?_)
      · have hb0:b≠[]:=by rintro rfl; rw [List.length_nil] at hbl; omega
        conv=>whnf
        intro bz
        refine appendD tabOk rfl rfl rfl rfl rfl rfl rfl 0 rfl hO (SrcOk.slice (n:=1) (news:=[.int .u8 0]) tabOk rfl ((OwnC.whole (len:=1) (size:=1) rfl).slC 1 rfl) (by intro v hv; rw [List.mem_singleton.1 hv]; rfl)) rfl (by show _ * 1≤_; omega) (by omega) ?_
        intro a7 c7 ch7 h7
        refine ⟨_,Drop.pick [0] _ rfl,⟨q+1,a7,c7,ch7,.inr ⟨hb0,by omega⟩,?_,rfl,rfl,rfl⟩,?_⟩
        · rw [List.replicate_succ',← List.append_assoc]
          show OwnC _ _ _ _ _ (bts _)
          rw [bts_append]; exact h7
        · show at_+nb - (n+q+1) < at_+nb - (n+q); omega
      · have hb0:b=[]:=List.length_eq_zero_iff.1 (by omega)
        refine ⟨_,Drop.refl _,a',n+q,cap',ch,?_,?_,rfl,rfl,rfl⟩
        · rw [hfin (.inl hb0),List.length_append,List.length_replicate,hll]
        · rw [hfin (.inl hb0)]; exact hO
    · refine ⟨_,Drop.refl _,a',n+q,cap',ch,?_,?_,rfl,rfl,rfl⟩
      · rw [hfin (.inr (by omega)),List.length_append,List.length_replicate,hll]
      · rw [hfin (.inr (by omega))]; exact hO
  rintro vs g J S' hJ ⟨a',m,cap',ch,hm,hO,rfl,rfl,rfl⟩
  have hpl:b≠[]→at_+nb≤m:=fun hb=>by rw [hm,padL_length hb]; omega
  have hml:m≤262144:=by
    by_cases hb:b=[]
    · rw [hm]; unfold padL; rw [if_pos hb]; omega
    · rw [hm,padL_length hb]; omega
  unfold wrP2
  generalize padL l at_ b=p at *
  refine CodeF.den ?_
  refine CodeF.loopD [1,2,7,8] (fun vs J S'=>∃ (i:Nat) (ch:List Blk),i≤nb∧OwnB ch a' m cap' (p.take at_++b.take i++p.drop (at_+i))∧I=J∧S'=[ch]∧vs=[.int .i64 (at_:Nat),.slice ab nb capb,.slice a' (m:Nat) cap',.int .i64 i])
    (fun vs _ _=>match vs with | [_,_,_,.int _ i]=>((nb:Int) - i).toNat | _=>0) ?_ ?_
  · exact ⟨_,Drop.refl _,0,ch,by omega,by simpa using hO,rfl,rfl,rfl⟩
  clear hO
  rintro vs gE J S' hJ ⟨i,ch,hi,hO,rfl,rfl,rfl⟩
  refine CmpD.split (fun (c1:(i:Int) < nb)=>?_) (fun (c1:¬ (i:Int) < nb)=>?_)
  · have hb0:b≠[]:=by rintro rfl; rw [List.length_nil] at hbl; omega
    have hge:=hpl hb0
    obtain ⟨x,hx⟩:∃ x,b[i]?=some x:=⟨_,List.getElem?_eq_getElem (by omega)⟩
    rcases hB.mem with hz | ⟨bB,oB,cB,TB,fB,rfl,hIB,hcB⟩
    · omega
    rcases hO.at' with hz | ⟨bO,pre,post,TO,rfl,rfl,hpo⟩
    · have:=hO.le; omega
    have hpm:p.length=m:=hm.symm
    refine ToD.to ((at_+i:Nat):Int) (by rw [wrap_i64 (by omega) (by omega)]; omega) ?_
    refine Chk.mk (by omega) ?_
    refine LoadD.imm hIB [byte x] (by
      rw [Int.toNat_natCast]
      show (List.drop (addOff oB i 1) _).take 1=_
      rw [addOff_eq,Nat.mul_one]
      exact take_get hcB (bts_get hx)) rfl ?_
    refine Chk.mk (by omega) ?_
    refine StoreD.to 0 rfl (pre++bts (p.take at_++b.take (i+1)++p.drop (at_+(i+1)))++post) ?_ ?_ (.inr (.inr (Nat.le_refl _))) _ rfl ?_
    · rw [Int.toNat_natCast]
      show splice _ (addOff pre.length (at_+i) 1) _=_
      rw [addOff_eq,Nat.mul_one]
      exact wrP2_step (by omega) (by omega) hx pre post
    · rw [Int.toNat_natCast]
      show addOff pre.length (at_+i) 1+1≤_
      rw [addOff_eq]
      have:=hO.n
      simp only [List.length_append] at this ⊢; omega
    refine ToD.i64 (by omega) (by omega) ?_
    refine ⟨_,Drop.refl _,⟨i+1,_,by omega,⟨?_,hO.le,.inr ⟨bO,pre,post,TO,rfl,rfl,hpo⟩⟩,rfl,rfl,rfl⟩,?_⟩
    · rw [bts_length]; simp only [List.length_append,List.length_take,List.length_drop]; omega
    · show ((nb:Int) - ((i:Int)+1)).toNat < ((nb:Int) - (i:Int)).toNat; omega
  · obtain rfl:i=nb:=by omega
    have e:b.take i=b:=List.take_of_length_le (by omega)
    rw [e] at hO
    rw [hbl]
    exact Done.mk ⟨_,Drop.refl _,a',m,cap',ch,rfl,hO,rfl,rfl⟩
end Go.Proofs.YtklbcpofihgmlaaGreat
namespace Go.Proofs.YtklbcpofihgmlaaGreat
open Go.RowKit Go.Sl
set_option maxRecDepth 20000
theorem p0_Left {bp:Nat} {fs:Fs} {m:Nat} {I:Imm} {c:List Blk} (h:P0 bp fs m I c) :
    Tri Tryz.prog 22 #[pv bp,layVn 64] I [c] fun v J S'=>∃ (c':List Blk) (un:Nat),v=.tuple #[.int .i64 (freeN fs.used:Nat),.int .i64 (un:Nat),.int .i64 0]∧P0 bp fs m J c'∧S'=[c']:=by
  obtain ⟨s,h1,h2,h3⟩:=h.ex
  refine (bits_Left (sp0 bp) n64 h1 h.ok h2).mono ?_
  rintro v J S' hJ ⟨c',s',hR',hrd,rfl,⟨e,he,⟨hc,_⟩,_⟩ | ⟨un,rfl⟩⟩
  · cases hc
  · exact ⟨c',un,rfl,⟨⟨s',hR',hrd.1.trans h2,by rw [hrd.2]; exact h3⟩,h.ok⟩,rfl⟩
structure Says (fs:Fs) (ls:Nat→Dat) (g:Nat→Bool):Prop where
  gone:∀ k,k < 3→((fs.fi (k+1)).kind=0↔g k=true)
  len:∀ k,k < 3→g k=false→(ls k).length=(fs.fi (k+1)).size
  byte:∀ k,k < 3→g k=false→∀ q,fbyte fs.V (fs.fi (k+1)) q=(ls k).getD q 0
  rest:∀ j,3 < j→fs.fi j=noFi
structure Hds (I:Imm) (hs:List Value) (ls:Nat→Dat):Prop where
  n:hs.length=3
  at_:∀ k,k < 3→∃ a cap,hs[k]?=some (.slice a (ls k).length cap)∧Rds I a (ls k).length (bts (ls k))∧(ls k).length≤cap
theorem Hds.up {I J:Imm} {hs:List Value} {ls:Nat→Dat} (h:Hds I hs ls) (hJ:I.le J):Hds J hs ls :=
  ⟨h.n,fun k hk=>by obtain ⟨a,cap,h1,h2,h3⟩:=h.at_ k hk; exact ⟨a,cap,h1,h2.mono hJ,h3⟩⟩
def upTo (fs:Fs) (i:Nat):List Nat:=(List.range i).flatMap fun q=>blksF (fs.fi (q+1))
theorem upTo_succ (fs:Fs) (i:Nat):upTo fs (i+1)=upTo fs i++blksF (fs.fi (i+1)):=by
  unfold upTo; rw [List.range_succ,List.flatMap_append,List.flatMap_cons,List.flatMap_nil,List.append_nil]
theorem upTo_mem {fs:Fs} {i x:Nat}:x ∈ upTo fs i↔∃ q,q < i∧x ∈ blksF (fs.fi (q+1)):=by
  unfold upTo; rw [List.mem_flatMap]; simp
def seenOf (L:List Nat):List Bool:=(List.range 64).map fun b=>decide (b ∈ L)
theorem seenOf_get (L:List Nat) {x:Nat} (h:x < 64):(seenOf L)[x]?=some (decide (x ∈ L)):=by
  unfold seenOf; rw [List.getElem?_map,List.getElem?_range h]; rfl
theorem seenOf_length (L:List Nat):(seenOf L).length=64:=by unfold seenOf; rw [List.length_map,List.length_range]
theorem seenOf_set (L:List Nat) {x:Nat} (h:x < 64):(seenOf L).set x true=seenOf (L++[x]):=by
  apply List.ext_getElem?
  intro j
  rw [List.getElem?_set]
  rcases Nat.lt_or_ge j 64 with g | g
  · rw [seenOf_get (L++[x]) g]
    by_cases e:x=j
    · subst e; rw [if_pos rfl,if_pos (by rw [seenOf_length]; exact h)]; simp
    · rw [if_neg e,seenOf_get L g]; simp [Ne.symm e]
  · rw [if_neg (by omega),List.getElem?_eq_none (by rw [seenOf_length]; exact g),List.getElem?_eq_none (by rw [seenOf_length]; exact g)]
theorem seenOf_nil:bls (seenOf [])=rows 64 [.bool false]:=by
  have:seenOf []=List.replicate 64 false:=by decide
  rw [this,bls_rep]
theorem sorted_nat (l:List Nat):∃ srt:List Nat,srt.Perm l∧sortI (natI l)=natI srt:=by
  refine ⟨(sortI (natI l)).map Int.toNat,?_,?_⟩
  · have:=(sortI_perm (natI l)).map Int.toNat
    have e:(natI l).map Int.toNat=l:=by unfold natI; rw [List.map_map]; exact List.map_id l
    rwa [e] at this
  · have:∀ x ∈ sortI (natI l),Int.ofNat x.toNat=x:=by
      intro x hx
      obtain ⟨y,-,rfl⟩:=List.mem_map.1 ((sortI_perm (natI l)).mem_iff.1 hx)
      rfl
    unfold natI at *
    rw [List.map_map]
    conv=>lhs; rw [← List.map_id (sortI _)]
    exact List.map_congr_left (fun x hx=>(this x hx).symm)
end Go.Proofs.YtklbcpofihgmlaaGreat
namespace Go.Proofs.YtklbcpofihgmlaaGreat
open Go.RowKit Go.Sl
set_option maxRecDepth 20000
@[reducible] def wB' (b:Nat) (hs:List Value):List Blk:=[(b,row hs 29)]
@[reducible] def gB' (b:Nat) (g:List Bool):List Blk:=[(b,row (bls g) 4)]
theorem upTo_all {fs:Fs} (h:FsOk 64 fs) (h3:∀ j,3 < j→fs.fi j=noFi):freeN fs.used+(upTo fs 3).length=41:=by
  have:=free_count h h3
  have e:upTo fs 3=blksF (fs.fi 1)++blksF (fs.fi 2)++blksF (fs.fi 3):=by rw [upTo_succ,upTo_succ,upTo_succ]; rfl
  rw [e,List.length_append,List.length_append]
  omega
theorem upTo_few {fs:Fs} (h:FsOk 64 fs) (h3:∀ j,3 < j→fs.fi j=noFi) {i:Nat} (hi:i≤3):(upTo fs i).length≤41:=by
  have:=upTo_all h h3
  have e:(upTo fs i).length≤(upTo fs 3).length:=by
    rcases (by omega:i=0∨i=1∨i=2∨i=3) with rfl | rfl | rfl | rfl
    · unfold upTo; simp
    · rw [upTo_succ fs 2,upTo_succ fs 1]; simp only [List.length_append]; omega
    · rw [upTo_succ fs 2]; simp only [List.length_append]; omega
    · exact Nat.le_refl _
  omega
theorem bool_at {l:List Bool} {k:Nat} {b:Bool} (h:l[k]?=some b):(List.drop (addOff 0 ((k:Int)).toNat 1) (bls l)).take 1=[.bool b]:=by
  rw [Int.toNat_natCast,addOff_eq]
  exact take_get (c:=bls l) (vs:=bls l) (off:=0) (n:=l.length) (by rw [List.drop_zero,List.take_of_length_le (by rw [bls_length]; exact Nat.le_refl _)]) (by rw [Nat.mul_one]; exact bls_get h)
theorem val_at {l:List Value} {k:Nat} {b:Value} (h:l[k]?=some b):(List.drop (addOff 0 ((k:Int)).toNat 1) l).take 1=[b]:=by
  rw [Int.toNat_natCast,addOff_eq]
  exact take_get (c:=l) (vs:=l) (off:=0) (n:=l.length) (by rw [List.drop_zero,List.take_of_length_le (Nat.le_refl _)]) (by rw [Nat.mul_one]; exact h)
set_option maxHeartbeats 4000000 in
theorem law26_holds {bp m bw bg:Nat} {fs:Fs} {I:Imm} {c:List Blk} (h:P0 bp fs m I c) {hs:List Value} {ls:Nat→Dat} (hh:Hds I hs ls) {gl:List Bool} (hgl:gl.length=3) (hS:Says fs ls (fun k=>gl.getD k false)) :
    Tri Tryz.prog 24 #[.pointer (some ⟨bp,0,none⟩),layVn 64,.slice (some ⟨bw,0,none⟩) 3 3,.slice (some ⟨bg,0,none⟩) 3 3] I [c,wB' bw hs,gB' bg gl] fun v J S'=>∃ c',v=.bool true∧P0 bp fs m J c'∧S'=[c',wB' bw hs,gB' bg gl]:=by
  refine Tri.drop ?_ (fun _ _ _ _ h=>h)
  refine Tri.of (args:=[.pointer (some ⟨bp,0,none⟩),layVn 64,.slice (some ⟨bw,0,none⟩) 3 3,.slice (some ⟨bg,0,none⟩) 3 3]) tabOk Tryz.func24 rfl (by kernel_rfl) (by kernel_rfl) ?_
  conv=>whnf
  intro b5
  refine LoadD.own 3 rfl _ rfl rfl ?_
  refine Tri.frame (p0_Left h) [0] rfl rfl ?_
  rintro v J A' hJ ⟨c1,un,rfl,hP1,rfl⟩
  refine ⟨by simp,?_⟩
  refine CmpD.yes rfl ?_
  refine makeD tabOk rfl rfl rfl 64 64 rfl rfl (by omega) (by decide) (by omega) (by decide) rfl (by decide) ?_
  intro b12
  refine CodeF.loopD [0,2,3,5,9,12,13] (fun vs J' S'=>∃ (i:Nat) (c':List Blk),i≤3∧P0 bp fs m J' c'∧J.le J'∧vs=[.pointer (some ⟨bp,0,none⟩),.slice (some ⟨bw,0,none⟩) 3 3,.slice (some ⟨bg,0,none⟩) 3 3,.pointer (some ⟨b5,0,none⟩),.int .i64 (freeN fs.used+(upTo fs i).length:Nat),.slice (some ⟨b12,0,none⟩) 64 64,.int .i64 (i:Nat)] ∧
      S'=[c',wB' bw hs,gB' bg gl,lyB b5,gB' b12 (seenOf (upTo fs i))])
    (fun vs _ _=>match vs with | [_,_,_,_,_,_,.int _ i]=>((3:Int) - i).toNat | _=>0) ?_ ?_
  · refine ⟨_,Drop.refl _,0,c1,by omega,hP1,Imm.le_refl _,rfl,?_⟩
    have e:upTo fs 0=[]:=rfl
    rw [e]
    show [c1,wB' bw hs,gB' bg gl,lyB b5,[(b12,row (rows 64 [.bool false]) 4)]]=[c1,wB' bw hs,gB' bg gl,lyB b5,[(b12,row (bls (seenOf [])) 4)]]
    rw [seenOf_nil]
  rintro vs gE J2 S' hJ2 ⟨i,c2,hi,hP2,hJJ,rfl,rfl⟩
  refine CmpD.split (fun (d1:(i:Int) < 3)=>?_) (fun (d1:¬ (i:Int) < 3)=>?_)
  rotate_left
  · obtain rfl:i=3:=by omega
    have:=upTo_all h.ok hS.rest
    refine CmpD.yes (by omega) ?_
    exact Done.mk ⟨_,Drop.pick [0,1,2] _ rfl,c2,rfl,hP2,rfl⟩
  have hi3:i < 3:=by omega
  have hfew:=upTo_few h.ok hS.rest (i:=i+1) (by omega)
  have hfree:=upTo_all h.ok hS.rest
  have hsz:=(h.ok.fi (i+1)).size
  have hgk:gl[i]?=some (gl.getD i false):=by rw [List.getD_eq_getElem?_getD,List.getElem?_eq_getElem (by omega)]; rfl
  refine LoadD.own 3 rfl _ rfl rfl ?_
  refine ToD.to ((i+1:Nat):Int) (by rw [wrap_i64 (by omega) (by omega)]; omega) ?_
  refine Tri.frame (p0_Read hP2 (i+1) (by omega) 0 262144 (by omega) (by omega)) [0] rfl rfl ?_
  rintro v J3 A' hJ3 ⟨c3,hP3,⟨rfl,hk,rfl⟩ | ⟨aR,capR,chR,hk,rfl,hOR,rfl⟩⟩
  · refine ⟨by simp,?_⟩
    have hg:=(hS.gone i hi3).1 hk
    have hg:gl.getD i false=true:=hg
    rw [hg] at hgk
    refine Chk.mk (by omega) ?_
    refine LoadD.own 2 rfl [.bool true] (bool_at hgk) rfl ?_
    refine CmpD.yes rfl ?_
    refine ToD.i64 (by omega) (by omega) ?_
    have e:upTo fs (i+1)=upTo fs i:=by
      rw [upTo_succ,(h.ok.fi (i+1)).none hk]
      show upTo fs i++[]=_
      rw [List.append_nil]
    refine ⟨_,Drop.pick [0,1,2,3,4] _ rfl,⟨i+1,c3,by omega,hP3,Imm.le_trans hJJ hJ3,?_,?_⟩,?_⟩
    · rw [e]; rfl
    · rw [e]; rfl
    · show ((3:Int) - ((i:Int)+1)).toNat < ((3:Int) - (i:Int)).toNat; omega
  refine ⟨by simp,?_⟩
  have hg:gl.getD i false=false:=by
    cases hgv:gl.getD i false with
    | false=>rfl
    | true=>exact absurd ((hS.gone i hi3).2 hgv) hk
  rw [hg] at hgk
  refine Chk.mk (by omega) ?_
  refine LoadD.own 2 rfl [.bool false] (bool_at hgk) rfl ?_
  refine LoadD.own 3 rfl _ rfl rfl ?_
  refine ToD.to ((i+1:Nat):Int) (by rw [wrap_i64 (by omega) (by omega)]; omega) ?_
  refine Tri.frame (p0_Blocks hP3 (i+1) (by omega)) [0] rfl rfl ?_
  rintro v J4 A' hJ4 ⟨c4,hP4,⟨rfl,hk2,rfl⟩ | ⟨aK,capK,chK,-,rfl,hK,rfl⟩⟩
  · exact absurd hk2 hk
  refine ⟨by simp,?_⟩
  refine CmpD.yes rfl ?_
  refine CmpD.yes rfl ?_
  obtain ⟨aw,capw,hw1,hw2,-⟩:=hh.at_ i hi3
  refine Chk.mk (by omega) ?_
  refine LoadD.own 1 rfl [.slice aw (ls i).length capw] (val_at hw1) rfl ?_
  have hlen:(ls i).length=(fs.fi (i+1)).size:=hS.len i hi3 hg
  have hmin:min 262144 ((fs.fi (i+1)).size - 0)=(ls i).length:=by omega
  rw [hmin] at hOR ⊢
  rw [rdL_eq (l:=ls i) (by omega) (fun q _ _=>by rw [Nat.sub_zero]; exact hS.byte i hi3 hg q)] at hOR
  refine Tri.nf (same_bytes (l1:=ls i) (l2:=ls i) (hOR.slC1 5 rfl) ((hw2.mono (Imm.le_trans hJ (Imm.le_trans hJJ (Imm.le_trans hJ3 hJ4)))).slC)) ?_
  rintro v J5 S' hJ5 ⟨rfl,rfl,rfl⟩
  rw [decide_eq_true rfl]
  conv=>whnf
  obtain ⟨srt,hperm,hsrt⟩:=sorted_nat (blksF (fs.fi (i+1)))
  rw [hsrt] at hK
  have hsl:srt.length=(blksF (fs.fi (i+1))).length:=hperm.length_eq
  have hnd:srt.Nodup:=hperm.nodup_iff.2 (h.ok.nodup (i+1))
  have hrg:∀ x ∈ srt,23≤x∧x < 64:=fun x hx=>blksF_rng (h.ok.fi (i+1)) x (hperm.mem_iff.1 hx)
  have hnew:∀ x ∈ srt,x ∉ upTo fs i:=by
    intro x hx hu
    obtain ⟨q,hq,hxq⟩:=upTo_mem.1 hu
    have:=h.ok.apart (i+1) (q+1) x (hperm.mem_iff.1 hx) hxq
    omega
  have hlen2:(upTo fs (i+1)).length=(upTo fs i).length+srt.length:=by rw [upTo_succ,List.length_append,hsl]
  rw [← hsl] at hK ⊢
  refine CodeF.loopD [0,2,3,5,9,12,13,16,18] (fun vs J' S'=>∃ (k:Nat),k≤srt.length∧J4=J'∧vs=[.pointer (some ⟨bp,0,none⟩),.slice (some ⟨bw,0,none⟩) 3 3,.slice (some ⟨bg,0,none⟩) 3 3,.pointer (some ⟨b5,0,none⟩),.int .i64 (freeN fs.used+(upTo fs i).length:Nat),.slice (some ⟨b12,0,none⟩) 64 64,.int .i64 (i:Nat),.slice aK srt.length capK,.int .i64 (k:Nat)] ∧
      S'=[c4,wB' bw hs,gB' bg gl,lyB b5,gB' b12 (seenOf (upTo fs i++srt.take k)),chK])
    (fun vs _ _=>match vs with | [_,_,_,_,_,_,_,_,.int _ k]=>((srt.length:Int) - k).toNat | _=>0) ?_ ?_
  · refine ⟨_,Drop.pick [0,1,2,3,4,6] _ rfl,0,by omega,rfl,rfl,?_⟩
    rw [List.take_zero,List.append_nil]; rfl
  rintro vs gE2 J5 S' hJ5 ⟨k,hk5,rfl,rfl,rfl⟩
  refine CmpD.split (fun (d2:(k:Int) < srt.length)=>?_) (fun (d2:¬ (k:Int) < srt.length)=>?_)
  rotate_left
  · obtain rfl:k=srt.length:=by omega
    rw [List.take_length]
    refine ToD.to ((freeN fs.used+(upTo fs (i+1)).length:Nat):Int) (by rw [wrap_i64 (by omega) (by omega)]; omega) ?_
    refine ToD.i64 (by omega) (by omega) ?_
    refine ⟨_,Drop.pick [0,1,2,3,4] _ rfl,⟨i+1,c4,by omega,hP4,Imm.le_trans hJJ (Imm.le_trans hJ3 hJ4),rfl,?_⟩,?_⟩
    · have e:seenOf (upTo fs i++srt)=seenOf (upTo fs (i+1)):=by
        unfold seenOf
        apply List.map_congr_left
        intro x _
        rw [upTo_succ,decide_eq_decide,List.mem_append,List.mem_append,hperm.mem_iff]
      rw [← e]; rfl
    · show ((3:Int) - ((i:Int)+1)).toNat < ((3:Int) - (i:Int)).toNat; omega
  obtain ⟨x,hx⟩:∃ x,srt[k]?=some x:=⟨_,List.getElem?_eq_getElem (by omega)⟩
  have hxm:=List.mem_of_getElem? hx
  obtain ⟨hx1,hx2⟩:=hrg x hxm
  have hfresh:x ∉ upTo fs i++srt.take k:=by
    intro hm
    rcases List.mem_append.1 hm with g | g
    · exact hnew x hxm g
    · obtain ⟨q,hq⟩:=List.mem_iff_getElem?.1 g
      have hqk:q < k:=by
        rcases Nat.lt_or_ge q k with g' | g'
        · exact g'
        · rw [List.getElem?_eq_none (by rw [List.length_take]; omega)] at hq; cases hq
      rw [List.getElem?_take_of_lt hqk] at hq
      have:=(List.getElem?_inj (by omega) hnd).1 (hq.trans hx.symm)
      omega
  rcases hK.at' with hz | ⟨bK,pre,post,TK,rfl,rfl,hpp⟩
  · have:=hK.le; omega
  have hld:(List.drop (addOff pre.length ((k:Int)).toNat 1) (pre++ints (natI srt)++post)).take 1=[.int .i64 (x:Nat)]:=by
    rw [Int.toNat_natCast,addOff_eq,Nat.mul_one]
    have h1:=own_take pre (ints (natI srt)) post
    exact take_get h1 (by unfold ints natI; rw [List.getElem?_map,List.getElem?_map,hx]; rfl)
  refine Chk.mk (by omega) ?_
  refine LoadD.own 5 rfl [.int .i64 (x:Nat)] hld rfl ?_
  refine CmpD.no (by omega) ?_
  refine Chk.mk (by omega) ?_
  refine LoadD.own 5 rfl [.int .i64 (x:Nat)] hld rfl ?_
  refine CmpD.no (by omega) ?_
  refine Chk.mk (by omega) ?_
  refine LoadD.own 5 rfl [.int .i64 (x:Nat)] hld rfl ?_
  refine Chk.mk (by omega) ?_
  refine LoadD.own 4 rfl [.bool false] (bool_at (by rw [seenOf_get _ hx2,decide_eq_false hfresh])) rfl ?_
  refine Chk.mk (by omega) ?_
  refine LoadD.own 5 rfl [.int .i64 (x:Nat)] hld rfl ?_
  refine Chk.mk (by omega) ?_
  refine StoreD.to 4 rfl (bls (seenOf (upTo fs i++srt.take (k+1)))) ?_ ?_ (.inr (.inr (Nat.le_refl _))) _ rfl ?_
  · rw [Int.toNat_natCast]
    show splice _ (addOff 0 x 1) _=_
    rw [addOff_eq,Nat.mul_one]
    have:=bls_set (seenOf (upTo fs i++srt.take k)) x true (by rw [seenOf_length]; exact hx2) [] []
    rw [List.nil_append,List.append_nil,List.length_nil] at this
    rw [this,seenOf_set _ hx2,List.take_add_one,hx,List.append_assoc]; simp
  · rw [Int.toNat_natCast,bls_length,seenOf_length]
    show addOff 0 x 1+1≤_
    rw [addOff_eq]; omega
  refine ToD.i64 (by omega) (by omega) ?_
  refine ⟨_,Drop.refl _,⟨k+1,by omega,rfl,rfl,rfl⟩,?_⟩
  show ((srt.length:Int) - ((k:Int)+1)).toNat < ((srt.length:Int) - (k:Int)).toNat; omega
end Go.Proofs.YtklbcpofihgmlaaGreat
namespace Go.Proofs.YtklbcpofihgmlaaGreat
open Go.RowKit Go.Sl
set_option maxRecDepth 20000
structure MdS (bp m:Nat) (I:Imm) (c:List Blk) (hs:List Value) (gl:List Bool):Prop where
  ex:∃ fs ls,P0 bp fs m I c∧Hds I hs ls∧Says fs ls (fun k=>gl.getD k false)∧∀ k,k < 3→(ls k).length≤131072
  gl:gl.length=3
theorem P0.more {bp m m':Nat} {fs:Fs} {I:Imm} {c:List Blk} (h:P0 bp fs m I c) (hm:m≤m'):P0 bp fs m' I c:=by
  obtain ⟨s,h1,h2,h3⟩:=h.ex
  exact ⟨⟨s,h1,h2,by omega⟩,h.ok⟩
def setLs (ls:Nat→Dat) (k:Nat) (d:Dat):Nat→Dat:=fun j=>if j=k then d else ls j
theorem Hds.set {I:Imm} {hs:List Value} {ls:Nat→Dat} (h:Hds I hs ls) (k:Nat) {a:Option Addr} {cap n:Nat} {d:Dat} (hn:d.length=n) (hr:Rds I a n (bts d)) (hc:n≤cap):Hds I (hs.set k (.slice a n cap)) (setLs ls k d):=by
  subst hn
  refine ⟨by rw [List.length_set]; exact h.n,fun j hj=>?_⟩
  unfold setLs
  by_cases e:j=k
  · subst e
    rw [if_pos rfl]
    exact ⟨a,cap,by rw [List.getElem?_set,if_pos rfl,if_pos (by rw [h.n]; exact hj)],hr,hc⟩
  · rw [if_neg e]
    obtain ⟨a',cap',h1,h2,h3⟩:=h.at_ j hj
    exact ⟨a',cap',by rw [List.getElem?_set,if_neg (Ne.symm e)]; exact h1,h2,h3⟩
theorem Says.set {fs fs':Fs} {ls:Nat→Dat} {g:Nat→Bool} (h:Says fs ls g) {k:Nat} (hk:k < 3) (hg:g k=false) {d:Dat} (hkind:(fs'.fi (k+1)).kind≠0) (hlen:d.length=(fs'.fi (k+1)).size) (hby:∀ q,fbyte fs'.V (fs'.fi (k+1)) q=d.getD q 0)
    (hfi:∀ j,j≠k+1→fs'.fi j=fs.fi j) (hby2:∀ j,j≠k+1→∀ q,fbyte fs'.V (fs'.fi j) q=fbyte fs.V (fs.fi j) q):Says fs' (setLs ls k d) g:=by
  refine ⟨fun j hj=>?_,fun j hj hgj=>?_,fun j hj hgj q=>?_,fun j hj=>?_⟩
  · by_cases e:j=k
    · subst e; exact ⟨fun h0=>absurd h0 hkind,fun h0=>by rw [hg] at h0; cases h0⟩
    · rw [hfi _ (by omega)]; exact h.gone j hj
  · unfold setLs
    by_cases e:j=k
    · subst e; rw [if_pos rfl]; exact hlen
    · rw [if_neg e,hfi _ (by omega)]; exact h.len j hj hgj
  · unfold setLs
    by_cases e:j=k
    · subst e; rw [if_pos rfl]; exact hby q
    · rw [if_neg e,hby2 _ (by omega)]; exact h.byte j hj hgj q
  · rw [hfi _ (by omega)]; exact h.rest j hj
theorem content_byte {n:Nat} {V V':Bs} {f:Fi} (h:FiOk n V f) (h':FiOk n V' f) (he:content V' f=content V f) (q:Nat):fbyte V' f q=fbyte V f q:=by
  rcases Nat.lt_or_ge q f.size with g | g
  · have:=congrArg (fun l=>l[q]?) he
    simpa [content,List.getElem?_map,List.getElem?_range g] using this
  · rw [h.tail q g,h'.tail q g]
theorem Written.says {fs fs':Fs} {ls:Nat→Dat} {g:Nat→Bool} {k at_:Nat} {b:Dat} (hok:FsOk 64 fs) (h:Says fs ls g) (hk:k < 3) (hg:g k=false) (hb:b≠[]) (hkind:(fs.fi (k+1)).kind≠0) (hW:Written 64 fs (k+1) at_ b fs'):Says fs' (setLs ls k (wrP2 (ls k) at_ b)) g:=by
  refine h.set hk hg (by rw [hW.same.1]; exact hkind) ?_ (fun q=>?_) (fun j hj=>(hW.fi j hj).1) (fun j hj q=>?_)
  · rw [wrP2_length hb,hW.same.2.2,h.len k hk hg]
  · rw [hW.byte q,wrP2_get hb q,h.byte k hk hg q]
  · have e:=(hW.fi j hj).1
    have e2:=(hW.fi j hj).2
    have o:=hW.ok.fi j
    rw [e] at e2 o ⊢
    exact content_byte (hok.fi j) o e2 q
theorem Shortened.says {fs fs':Fs} {ls:Nat→Dat} {g:Nat→Bool} {k size:Nat} {d:Dat} (hok:FsOk 64 fs) (h:Says fs ls g) (hk:k < 3) (hg:g k=false) (hkind:(fs.fi (k+1)).kind≠0) (hW:Shortened 64 fs (k+1) size fs') (hl:d.length=size) (hd:∀ q,q < size→d.getD q 0=(ls k).getD q 0):Says fs' (setLs ls k d) g:=by
  refine h.set hk hg (by rw [hW.same.1]; exact hkind) ?_ (fun q=>?_) (fun j hj=>(hW.fi j hj).1) (fun j hj q=>?_)
  · rw [hl,hW.same.2.2]
  · rw [hW.byte q]
    split
    · rename_i hq
      rw [h.byte k hk hg q,hd q hq]
    · rename_i hq
      rw [List.getD_eq_getElem?_getD,List.getElem?_eq_none (by omega)]; rfl
  · have e:=(hW.fi j hj).1
    have e2:=(hW.fi j hj).2
    have o:=hW.ok.fi j
    rw [e] at e2 o ⊢
    exact content_byte (hok.fi j) o e2 q
theorem erase_says {fs:Fs} {ls:Nat→Dat} {gl:List Bool} (hok:FsOk 64 fs) (hgl:gl.length=3) {k:Nat} (hk:k < 3) (h:Says fs ls (fun k=>gl.getD k false)):Says (eraseU 64 fs (k+1)) ls (fun j=>(gl.set k true).getD j false):=by
  obtain ⟨ok',hfi,hno⟩:=erase_ok (n:=64) hok (i:=k+1) (by omega)
  have hgt:∀ j,(gl.set k true).getD j false=if j=k then true else gl.getD j false:=by
    intro j
    simp only [List.getD_eq_getElem?_getD,List.getElem?_set]
    by_cases e:k=j
    · subst e; rw [if_pos rfl,if_pos rfl,if_pos (by omega)]; rfl
    · rw [if_neg e,if_neg (Ne.symm e)]
  refine ⟨fun j hj=>?_,fun j hj hgj=>?_,fun j hj hgj q=>?_,fun j hj=>?_⟩
  · rw [hgt j]
    by_cases e:j=k
    · subst e; rw [hno,if_pos rfl]; exact ⟨fun _=>rfl,fun _=>rfl⟩
    · rw [if_neg e,(hfi (j+1) (by omega)).1]; exact h.gone j hj
  · rw [hgt j] at hgj
    by_cases e:j=k
    · subst e; rw [if_pos rfl] at hgj; cases hgj
    · rw [if_neg e] at hgj
      rw [(hfi (j+1) (by omega)).1]; exact h.len j hj hgj
  · rw [hgt j] at hgj
    by_cases e:j=k
    · subst e; rw [if_pos rfl] at hgj; cases hgj
    · rw [if_neg e] at hgj
      have e1:=(hfi (j+1) (by omega)).1
      have e2:=(hfi (j+1) (by omega)).2
      have o:=ok'.fi (j+1)
      rw [e1] at e2 o ⊢
      rw [content_byte (hok.fi (j+1)) o e2 q]
      exact h.byte j hj hgj q
  · rw [(hfi j (by omega)).1]; exact h.rest j hj
end Go.Proofs.YtklbcpofihgmlaaGreat
namespace Go.Proofs.YtklbcpofihgmlaaGreat
open Go.RowKit Go.Sl
set_option maxRecDepth 20000
theorem md_start (bp:Nat) {I:Imm} {c:List Blk} (h:PlR 64 false bp ⟨(fsN 64 3).V,0,[]⟩ I c):MdS bp 0 I c [.slice none 0 0,.slice none 0 0,.slice none 0 0] [false,false,false]:=by
  have hk:∀ k,k < 3→(fsN 64 3).fi (k+1)=newFi 1:=fun k hk=>by rw [fsN_fi,if_pos (by omega)]
  refine ⟨⟨fsN 64 3,fun _=>[],⟨⟨_,h,rfl,Nat.le_refl 0⟩,fsN_ok n64 3 (by decide)⟩,⟨rfl,fun k hk=>?_⟩,⟨fun k h3=>?_,fun k h3 _=>?_,fun k h3 _ q=>?_,fun j hj=>?_⟩,fun k _=>by show (0:Nat)≤_; omega⟩,rfl⟩
  · refine ⟨none,0,?_,⟨rfl,.inl rfl⟩,Nat.le_refl _⟩
    obtain rfl | rfl | rfl:k=0∨k=1∨k=2:=by omega
    all_goals rfl
  · rw [hk k h3]
    obtain rfl | rfl | rfl:k=0∨k=1∨k=2:=by omega
    all_goals decide
  · rw [hk k h3]; rfl
  · rw [hk k h3]; rfl
  · rw [fsN_fi,if_neg (by omega)]
theorem law26_wroteF {I:Imm} (a:Option Addr) (n cap:Nat) (l:Dat) (hR:Rds I a n (bts l)) (hn:n≤131072) (at_:Nat) (hat:at_≤131072) (ab:Option Addr) (nb capb:Nat) (b:Dat) (hB:Rds I ab nb (bts b)) (hnb:nb≤131072) :
    Tri Tryz.prog 23 #[.slice a n cap,.int .i64 (at_:Nat),.slice ab nb capb] I [] fun v J _=>∃ a' m cap',v=.slice a' m cap'∧Rds J a' m (bts (wrP2 l at_ b))∧m≤cap':=by
  refine Tri.fixed (law26_wrote a n cap l hR hn at_ hat ab nb capb b hB hnb) ?_
  rintro v J S' hJ ⟨a',m,cap',ch,rfl,hO,rfl,rfl⟩
  exact ⟨0,ch,rfl,fun J' hJ' hx=>⟨a',m,cap',rfl,Rds.of_own hO hx,hO.le⟩⟩
theorem set_val {l:List Value} {k:Nat} {v:Value} (h:k < l.length):splice l (addOff 0 ((k:Int)).toNat 1) [v]=l.set k v:=by
  rw [Int.toNat_natCast,addOff_eq,Nat.mul_one]
  have:=set_cell (hs:=l) (v:=v) h [] []
  simpa using this
set_option maxHeartbeats 4000000 in
theorem dataModel_walk {I:Imm} (aZ:Option Addr) (nZ capZ:Nat) (z:List Int) (hz:z.length=nZ) (hZ:Rds I aZ nZ (z.map (Value.int .i64))) (hz2:∀ x ∈ z,(Lit.int .i64 x).wf=true) :
    Tri Tryz.prog 5 #[.slice aZ nZ capZ] I [] fun v _ _=>v=.bool true:=by
  refine Tri.ofF (args:=[.slice aZ nZ capZ]) tabOk Tryz.func5 rfl (by kernel_rfl) (by kernel_rfl) ?_
  refine CodeF.stepD ?_
  refine CodeF.stepD ?_
  refine Tri.nf (Tri.frameX (law_space I 3 (by decide)) [] rfl rfl (K:=fun v J S'=>∃ bp c,v=.tuple #[.pointer (some ⟨bp,0,none⟩),layVn 64]∧PlR 64 false bp ⟨(fsN 64 3).V,0,[]⟩ J c∧S'=[c]) ?_) ?_
  · rintro v J A' hJ2 ⟨bp,c,rfl,hP,rfl⟩
    exact ⟨bp,c,rfl,hP,rfl⟩
  rintro v J1 S' hJ1 ⟨bp,c,rfl,hP,rfl⟩
  conv=>whnf
  intro b4
  refine StoreD.st 1 rfl rfl rfl ?_
  refine CodeF.stepD ?_
  refine makeD tabOk rfl rfl rfl 3 3 rfl rfl (by omega) (by decide) (by omega) (by decide) rfl (by decide) ?_
  intro bw
  refine CodeF.stepD ?_
  refine makeD tabOk rfl rfl rfl 3 3 rfl rfl (by omega) (by decide) (by omega) (by decide) rfl (by decide) ?_
  intro bg
  have hS0:=md_start bp hP
  refine CodeF.join [] (fun _ _ _=>True) ?_ ?_
  rotate_left
  · rintro vs g J S' hJ -
    refine CodeF.den ?_
    refine Tri.free (law26_awake J) ?_
    rintro v J _ hJ rfl
    exact Done.mk rfl
  refine CodeF.stepD ?_
  refine CodeF.blockF ?_ rfl
  refine CodeF.loopF [0,3,4,5,6,7] (fun vs J S'=>∃ (q:Nat) (c:List Blk) (hs:List Value) (gl:List Bool),q≤nZ∧q≤30∧MdS bp (512 * q) J c hs gl∧S'=[c,lyB b4,wB' bw hs,gB' bg gl] ∧
      vs=[.slice aZ nZ capZ,.pointer (some ⟨bp,0,none⟩),.pointer (some ⟨b4,0,none⟩),.slice (some ⟨bw,0,none⟩) 3 3,.slice (some ⟨bg,0,none⟩) 3 3,.int .i64 (q:Nat)])
    (fun vs _ _=>match vs with | [_,_,_,_,_,.int _ q]=>((30:Int) - q).toNat | _=>0) ?_ ?_
  · exact ⟨_,Drop.refl _,0,c,_,_,by omega,by omega,hS0,rfl,rfl⟩
  clear hS0 hP
  rintro vs g J S' hJ ⟨q,c,hs,gl,hq,hq30,hS,rfl,rfl⟩
  refine CodeF.stepD ?_
  refine CmpD.split (fun (c1:(q:Int) < nZ)=>?_) (fun (c1:¬ (q:Int) < nZ)=>?_)
  rotate_left
  · exact ⟨_,Drop.refl _,trivial⟩
  refine CmpD.split (fun (c2:(q:Int) < 30)=>?_) (fun (c2:¬ (q:Int) < 30)=>?_)
  rotate_left
  · exact ⟨_,Drop.refl _,trivial⟩
  refine CodeF.seqF (CodeF.blockF ?_ rfl)
  obtain ⟨x,hx⟩:∃ x,z[q]?=some x:=⟨_,List.getElem?_eq_getElem (by omega)⟩
  have hx64:In64 x:=int_of_wf (hz2 x (List.mem_of_getElem? hx))
  refine CodeF.stepD ?_
  rcases (hZ.mono (Imm.le_trans hJ1 hJ)).mem with h0 | ⟨bz,oz,cz,Tz,fz,rfl,hIz,hcz⟩
  · omega
  refine Chk.mk (by omega) ?_
  refine LoadD.imm hIz [.int .i64 x] (by
    rw [Int.toNat_natCast]
    show (List.drop (addOff oz q 1) _).take 1=_
    rw [addOff_eq,Nat.mul_one]
    exact take_get hcz (by rw [List.getElem?_map,hx]; rfl)) rfl ?_
  refine Tri.free (low_Pick x 1000003 J hx64 (by unfold In64; omega)) ?_
  rintro v _ _ hJ3 ⟨rfl,rfl⟩
  have hpk:=pickS_range (n:=x) (m:=1000003) (by decide)
  obtain ⟨n,hn⟩:∃ n:Nat,pickS x 1000003=n:=⟨(pickS x 1000003).toNat,by omega⟩
  rw [hn] at hpk ⊢
  refine CodeF.stepD ?_
  refine Chk.mk (by decide) ?_
  refine ToD.quoN (b:=7) (by omega) ?_
  refine Chk.mk (by decide) ?_
  refine ToD.remN (b:=3) ?_
  refine CodeF.stepD ?_
  refine Chk.mk (by decide) ?_
  refine ToD.quoN (b:=21) (by omega) ?_
  refine Chk.mk (by decide) ?_
  refine ToD.remN (b:=40000) ?_
  refine ToD.to ((n / 21 % 40000 * 3:Nat):Int) (by rw [wrap_i64 (by omega) (by omega)]; omega) ?_
  have hk3:n / 7 % 3 < 3:=Nat.mod_lt _ (by decide)
  have hat:n / 21 % 40000 * 3≤119997:=by omega
  generalize n / 7 % 3=k at *
  generalize n / 21 % 40000 * 3=at_ at *
  obtain ⟨fs,ls,hP,hH,hSy,hl3⟩:=hS.ex
  have hgl:=hS.gl
  refine CodeF.stepD ?_
  refine LoadD.own 1 rfl _ rfl rfl ?_
  refine Tri.frame (p0_Left hP) [0] rfl rfl ?_
  rintro v J2 A' hJ2 ⟨c2,un,rfl,hP2,rfl⟩
  refine ⟨by simp,?_⟩
  refine CodeF.stepD ?_
  refine CodeF.join [0,3,4,5,6,7,9,14] (fun vs J' S'=>∃ (e:Int) (c:List Blk) (hs:List Value) (gl:List Bool),J.le J'∧MdS bp (512 * (q+1)) J' c hs gl∧(e=0∨e=230∨e=2∧gl[k]?=some true)∧S'=[c,lyB b4,wB' bw hs,gB' bg gl] ∧
      vs=[.slice (some ⟨bz,oz,none⟩) nZ capZ,.pointer (some ⟨bp,0,none⟩),.pointer (some ⟨b4,0,none⟩),.slice (some ⟨bw,0,none⟩) 3 3,.slice (some ⟨bg,0,none⟩) 3 3,.int .i64 (q:Nat),.int .i64 (k:Nat),.int .i64 e]) ?_ ?_
  · refine CodeF.stepD ?_
    refine Chk.mk (by decide) ?_
    refine ToD.remN (b:=7) ?_
    refine CodeF.blockF ?_ rfl
    refine CodeF.den ?_
    have hgone:(fs.fi (k+1)).kind=0→gl[k]?=some true:=by
      intro h0
      have h1:gl.getD k false=true:=(hSy.gone k hk3).1 h0
      rw [List.getD_eq_getElem?_getD,List.getElem?_eq_getElem (by omega)] at h1
      rw [List.getElem?_eq_getElem (by omega)]
      exact congrArg some h1
    have hng:(fs.fi (k+1)).kind≠0→gl.getD k false=false:=by
      intro h0
      cases hgv:gl.getD k false with
      | false=>rfl
      | true=>exact absurd ((hSy.gone k hk3).2 hgv) h0
    have same:∀ {J':Imm} {c':List Blk},J2.le J'→P0 bp fs (512 * q+512) J' c'→MdS bp (512 * (q+1)) J' c' hs gl:=by
      intro J' c' hle hp
      exact ⟨⟨fs,ls,hp.more (by omega),hH.up (Imm.le_trans hJ2 hle),hSy,hl3⟩,hgl⟩
    obtain ⟨aw,capw,hw1,hw2,hw3⟩:=hH.at_ k hk3
    have hlk:=hl3 k hk3
    refine CmpD.split (fun d1=>?_) (fun d1=>?_)
    · refine LoadD.own 1 rfl _ rfl rfl ?_
      refine ToD.to ((k+1:Nat):Int) (by rw [wrap_i64 (by omega) (by omega)]; omega) ?_
      refine Tri.frame (p0_Truncate hP2 (by omega) (k+1) (by omega) at_ (by omega)) [0] rfl rfl ?_
      rintro v J3 A' hJ3 ⟨c3,rfl,⟨rfl,hk0,hP3⟩ | ⟨rfl,hk0,hSh,hP3⟩⟩
      · refine ⟨by simp,?_⟩
        refine CmpD.no (by decide) ?_
        refine CmpD.no (by decide) ?_
        exact ⟨_,Drop.refl _,2,c3,hs,gl,Imm.le_trans hJ2 hJ3,same hJ3 hP3,.inr (.inr ⟨rfl,hgone hk0⟩),rfl,rfl⟩
      refine ⟨by simp,?_⟩
      refine CmpD.yes rfl ?_
      refine Chk.mk (by omega) ?_
      refine LoadD.own 2 rfl [.slice aw (ls k).length capw] (val_at hw1) rfl ?_
      refine CmpD.split (fun (d2:(at_:Int)≤(ls k).length)=>?_) (fun (d2:¬ (at_:Int)≤(ls k).length)=>?_)
      · refine Chk.mk (by omega) ?_
        refine LoadD.own 2 rfl [.slice aw (ls k).length capw] (val_at hw1) rfl ?_
        refine sliceD tabOk rfl rfl rfl rfl 0 at_ at_ rfl ⟨_,rfl⟩ ⟨_,rfl⟩ (.inr (by simp)) (by omega) ?_
        refine Chk.mk (by omega) ?_
        refine StoreD.to 2 rfl (hs.set k (.slice (slAddr aw 0 at_ 1) at_ at_)) (by
          exact set_val (by rw [hH.n]; exact hk3)) (by
          rw [Int.toNat_natCast]
          show addOff 0 k 1+1≤_
          rw [addOff_eq,hH.n]; omega) (.inr (.inr (Nat.le_refl _))) _ rfl ?_
        have hd:Rds J3 (slAddr aw 0 at_ 1) at_ (bts ((ls k).take at_)):=by
          have:=Rds.partG (size:=1) (n:=(ls k).length) (by rw [Nat.mul_one]; exact hw2.mono (Imm.le_trans hJ2 hJ3)) 0 at_ at_ (by omega) (by omega) (by omega)
          rw [Nat.zero_mul,List.drop_zero,Nat.sub_zero,Nat.mul_one] at this
          unfold bts at this ⊢
          rwa [List.map_take]
        have hdl:((ls k).take at_).length=at_:=by rw [List.length_take]; omega
        refine ⟨_,Drop.refl _,0,c3,_,gl,Imm.le_trans hJ2 hJ3,⟨⟨_,_,hP3.more (by omega),(hH.up (Imm.le_trans hJ2 hJ3)).set k hdl hd (Nat.le_refl _),Shortened.says hP.ok hSy hk3 (hng hk0) hk0 hSh hdl (fun r hr=>?_),fun j hj=>?_⟩,hgl⟩,.inl rfl,rfl,rfl⟩
        · rw [List.getD_eq_getElem?_getD,List.getD_eq_getElem?_getD,List.getElem?_take_of_lt hr]
        · unfold setLs
          split
          · rw [hdl]; omega
          · exact hl3 j hj
      · refine CmpD.yes rfl ?_
        refine Chk.mk (by omega) ?_
        refine LoadD.own 2 rfl [.slice aw (ls k).length capw] (val_at hw1) rfl ?_
        refine ToD.to ((at_ - 1:Nat):Int) (by rw [wrap_i64 (by omega) (by omega)]; omega) ?_
        conv=>whnf
        intro bl
        refine Tri.fix 4 rfl fun J4 hJ4 hx4=>?_
        refine Tri.free (law26_wroteF aw (ls k).length capw (ls k) (hw2.mono (Imm.le_trans hJ2 (Imm.le_trans hJ3 hJ4))) hlk (at_ - 1) (by omega) (some ⟨bl,0,none⟩) 1 1 [0] (lit_rds hx4 rfl) (by omega)) ?_
        rintro v J5 _ hJ5 ⟨aN,mN,capN,rfl,hdN,hcN⟩
        have hle:J2.le J5:=Imm.le_trans hJ3 (Imm.le_trans hJ4 hJ5)
        refine Chk.mk (by omega) ?_
        refine StoreD.to 2 rfl (hs.set k (.slice aN mN capN)) (by
          exact set_val (by rw [hH.n]; exact hk3)) (by
          rw [Int.toNat_natCast]
          show addOff 0 k 1+1≤_
          rw [addOff_eq,hH.n]; omega) (.inr (.inr (Nat.le_refl _))) _ rfl ?_
        have hdl:(wrP2 (ls k) (at_ - 1) [0]).length=mN:=by rw [← bts_length,hdN.len]
        have hat1:(wrP2 (ls k) (at_ - 1) [0]).length=at_:=by rw [wrP2_length (by simp)]; show max _ (at_ - 1+1)=_; omega
        refine ⟨_,Drop.pick [0,1,2,3] _ rfl,0,c3,_,gl,Imm.le_trans hJ2 hle,⟨⟨_,_,(hP3.more (by omega)).up (Imm.le_trans hJ4 hJ5),(hH.up (Imm.le_trans hJ2 hle)).set k hdl hdN hcN,Shortened.says hP.ok hSy hk3 (hng hk0) hk0 hSh hat1 (fun r hr=>?_),fun j hj=>?_⟩,hgl⟩,.inl rfl,rfl,rfl⟩
        · rw [wrP2_get (by simp)]
          split
          · rename_i hrr
            have:([0]:Dat).length=1:=rfl
            rw [this] at hrr
            have e:r - (at_ - 1)=0:=by omega
            rw [e,List.getD_eq_getElem?_getD (l:=ls k),List.getElem?_eq_none (by omega)]; rfl
          · rfl
        · unfold setLs
          split
          · rw [hat1]; omega
          · exact hl3 j hj
    · refine CmpD.split (fun d2=>?_) (fun d2=>?_)
      · refine Chk.mk (by decide) ?_
        refine ToD.remN (b:=4) ?_
        refine CmpD.split (fun d3=>?_) (fun d3=>?_)
        · refine CodeF.den ?_
          refine ToD.i64 (by omega) (by omega) ?_
          refine ⟨_,Drop.pick [0,1,2,3] _ rfl,⟨q+1,c2,hs,gl,by omega,by omega,⟨⟨fs,ls,hP2.more (by omega),hH.up hJ2,hSy,hl3⟩,hgl⟩,rfl,rfl⟩,?_⟩
          show ((30:Int) - ((q:Int)+1)).toNat < ((30:Int) - (q:Int)).toNat; omega
        refine LoadD.own 1 rfl _ rfl rfl ?_
        refine ToD.to ((k+1:Nat):Int) (by rw [wrap_i64 (by omega) (by omega)]; omega) ?_
        refine Tri.frame (p0_Erase hP2 (by omega) (k+1) (by omega)) [0] rfl rfl ?_
        rintro v J3 A' hJ3 ⟨c3,rfl,⟨rfl,hk0,hP3⟩ | ⟨rfl,hk0,hP3⟩⟩
        · refine ⟨by simp,?_⟩
          refine CmpD.no (by decide) ?_
          exact ⟨_,Drop.refl _,2,c3,hs,gl,Imm.le_trans hJ2 hJ3,same hJ3 hP3,.inr (.inr ⟨rfl,hgone hk0⟩),rfl,rfl⟩
        refine ⟨by simp,?_⟩
        refine CmpD.yes rfl ?_
        refine Chk.mk (by omega) ?_
        refine StoreD.to 3 rfl (bls (gl.set k true)) (by
          rw [Int.toNat_natCast]
          show splice _ (addOff 0 k 1) _=_
          rw [addOff_eq,Nat.mul_one]
          have:=bls_set gl k true (by omega) [] []
          rw [List.nil_append,List.append_nil,List.length_nil] at this
          rw [this]; simp) (by
          rw [Int.toNat_natCast,bls_length,hgl]
          show addOff 0 k 1+1≤_
          rw [addOff_eq]; omega) (.inr (.inr (Nat.le_refl _))) _ rfl ?_
        exact ⟨_,Drop.refl _,0,c3,hs,gl.set k true,Imm.le_trans hJ2 hJ3,⟨⟨_,ls,hP3.more (by omega),hH.up (Imm.le_trans hJ2 hJ3),erase_says hP.ok hgl hk3 hSy,hl3⟩,by rw [List.length_set]; exact hgl⟩,.inl rfl,rfl,rfl⟩
      · refine Chk.mk (by decide) ?_
        refine ToD.quoN (b:=5) (by omega) ?_
        refine Chk.mk (by decide) ?_
        refine ToD.remN (b:=20000) ?_
        refine ToD.to ((131072 - at_:Nat):Int) (by rw [wrap_i64 (by omega) (by omega)]; omega) ?_
        obtain ⟨w,hw⟩:∃ w:Nat,w=min (n / 5 % 20000) (131072 - at_):=⟨_,rfl⟩
        refine ToD.to (w:Int) (by split <;> omega) ?_
        refine Tri.free (made (n:Nat) w (by omega) J2) ?_
        rintro v J3 _ hJ3 ⟨aM,rfl,hM⟩
        refine LoadD.own 1 rfl _ rfl rfl ?_
        refine ToD.to ((k+1:Nat):Int) (by rw [wrap_i64 (by omega) (by omega)]; omega) ?_
        have hml:=madeL_length (n:Nat) w
        generalize madeL (n:Nat) w=b at *
        refine Tri.frame (p0_Write (hP2.up hJ3) (by omega) (k+1) (by omega) at_ b aM w w hml hM (Nat.le_refl _) (by omega)) [0] rfl rfl ?_
        rintro v J4 A' hJ4 ⟨c3,rfl,hE⟩
        have hle:J2.le J4:=Imm.le_trans hJ3 hJ4
        have hfl:=Nat.le_trans (freeN_le fs.used) (Nat.le_of_eq hP.ok.len)
        rcases hE with ⟨rfl,hk0,hP3⟩ | ⟨rfl,hk0,hfr,hwn,hP3⟩ | ⟨rfl,hk0,hE⟩
        · refine ⟨by simp,?_⟩
          refine ToD.to ((at_+w:Nat):Int) (by rw [wrap_i64 (by omega) (by omega)]; omega) ?_
          refine ToD.to ((at_+w+4095:Nat):Int) (by rw [wrap_i64 (by omega) (by omega)]; omega) ?_
          refine Chk.mk (by decide) ?_
          refine ToD.quoN (b:=4096) (by omega) ?_
          refine Chk.mk (by decide) ?_
          refine ToD.quoN (b:=4096) (by omega) ?_
          refine ToD.to (((at_+w+4095) / 4096 - at_ / 4096:Nat):Int) (by rw [wrap_i64 (by omega) (by omega)]; omega) ?_
          refine CmpD.no (by decide) ?_
          refine CmpD.no (by decide) ?_
          exact ⟨_,Drop.refl _,2,c3,hs,gl,Imm.le_trans hJ2 hle,same hle hP3,.inr (.inr ⟨rfl,hgone hk0⟩),rfl,rfl⟩
        · refine ⟨by simp,?_⟩
          refine ToD.to ((at_+w:Nat):Int) (by rw [wrap_i64 (by omega) (by omega)]; omega) ?_
          refine ToD.to ((at_+w+4095:Nat):Int) (by rw [wrap_i64 (by omega) (by omega)]; omega) ?_
          refine Chk.mk (by decide) ?_
          refine ToD.quoN (b:=4096) (by omega) ?_
          refine Chk.mk (by decide) ?_
          refine ToD.quoN (b:=4096) (by omega) ?_
          refine ToD.to (((at_+w+4095) / 4096 - at_ / 4096:Nat):Int) (by rw [wrap_i64 (by omega) (by omega)]; omega) ?_
          refine CmpD.yes rfl ?_
          rw [hml] at hfr
          unfold lastB at hfr
          refine ToD.to (((at_+w+4095) / 4096 - at_ / 4096+1:Nat):Int) (by rw [wrap_i64 (by omega) (by omega)]; omega) ?_
          refine CmpD.no (by omega) ?_
          refine CmpD.no (by decide) ?_
          exact ⟨_,Drop.refl _,230,c3,hs,gl,Imm.le_trans hJ2 hle,same hle hP3,.inr (.inl rfl),rfl,rfl⟩
        · refine ⟨by simp,?_⟩
          refine ToD.to ((at_+w:Nat):Int) (by rw [wrap_i64 (by omega) (by omega)]; omega) ?_
          refine ToD.to ((at_+w+4095:Nat):Int) (by rw [wrap_i64 (by omega) (by omega)]; omega) ?_
          refine Chk.mk (by decide) ?_
          refine ToD.quoN (b:=4096) (by omega) ?_
          refine Chk.mk (by decide) ?_
          refine ToD.quoN (b:=4096) (by omega) ?_
          refine ToD.to (((at_+w+4095) / 4096 - at_ / 4096:Nat):Int) (by rw [wrap_i64 (by omega) (by omega)]; omega) ?_
          refine CmpD.no (by decide) ?_
          refine CmpD.yes rfl ?_
          refine Chk.mk (by omega) ?_
          refine LoadD.own 2 rfl [.slice aw (ls k).length capw] (val_at hw1) rfl ?_
          refine Tri.free (law26_wroteF aw (ls k).length capw (ls k) (hw2.mono (Imm.le_trans hJ2 hle)) hlk at_ (by omega) aM w w b (hM.mono hJ4) (by omega)) ?_
          rintro v J5 _ hJ5 ⟨aN,mN,capN,rfl,hdN,hcN⟩
          refine Chk.mk (by omega) ?_
          refine StoreD.to 2 rfl (hs.set k (.slice aN mN capN)) (by
            exact set_val (by rw [hH.n]; exact hk3)) (by
            rw [Int.toNat_natCast]
            show addOff 0 k 1+1≤_
            rw [addOff_eq,hH.n]; omega) (.inr (.inr (Nat.le_refl _))) _ rfl ?_
          have hdl:(wrP2 (ls k) at_ b).length=mN:=by rw [← bts_length,hdN.len]
          have hle5:J.le J5:=Imm.le_trans hJ2 (Imm.le_trans hle hJ5)
          rcases hE with ⟨rfl,hP3⟩ | ⟨hb,fs',hw',hW,hP3⟩
          · rw [wrP2_nil] at hdN hdl
            have hset:setLs ls k (ls k)=ls:=by
              funext j; unfold setLs; split
              · subst_vars; rfl
              · rfl
            have hH5:=(hH.up hle5).set k hdl hdN hcN
            rw [hset] at hH5
            exact ⟨_,Drop.refl _,0,c3,_,gl,hle5,⟨⟨fs,ls,(hP3.more (by omega)).up hJ5,hH5,hSy,hl3⟩,hgl⟩,.inl rfl,rfl,rfl⟩
          · refine ⟨_,Drop.refl _,0,c3,_,gl,hle5,⟨⟨fs',_,(hP3.more (by omega)).up hJ5,(hH.up hle5).set k hdl hdN hcN,Written.says hP.ok hSy hk3 (hng hk0) hb hk0 hW,fun j hj=>?_⟩,hgl⟩,.inl rfl,rfl,rfl⟩
            unfold setLs
            split
            · rw [wrP2_length hb]; omega
            · exact hl3 j hj
  · clear hS hSy hH hP hP2
    rintro vs g J3 S' hJ3 ⟨e,c3,hs3,gl3,hle,hS3,he,rfl,rfl⟩
    obtain ⟨fs3,ls3,hP3,hH3,hSy3,hl33⟩:=hS3.ex
    have hgl3:=hS3.gl
    have fin:Tri Tryz.prog 24 #[.pointer (some ⟨bp,0,none⟩),layVn 64,.slice (some ⟨bw,0,none⟩) 3 3,.slice (some ⟨bg,0,none⟩) 3 3] J3 [c3,wB' bw hs3,gB' bg gl3] fun v J S'=>∃ c',v=.bool true∧P0 bp fs3 (512 * (q+1)) J c'∧S'=[c',wB' bw hs3,gB' bg gl3]:=law26_holds hP3 hH3 hgl3 hSy3
    refine CodeF.den ?_
    rcases he with rfl | rfl | ⟨rfl,hgk⟩
    · refine CmpD.yes rfl ?_
      refine LoadD.own 1 rfl _ rfl rfl ?_
      refine Tri.frame fin [0,2,3] rfl rfl ?_
      rintro v J4 A' hJ4 ⟨c4,rfl,hP4,rfl⟩
      refine ⟨by simp,?_⟩
      conv=>whnf
      refine CodeF.den ?_
      refine ToD.i64 (by omega) (by omega) ?_
      refine ⟨[c4,lyB b4,wB' bw hs3,gB' bg gl3],?_,⟨q+1,c4,hs3,gl3,by omega,by omega,⟨⟨fs3,ls3,hP4,hH3.up hJ4,hSy3,hl33⟩,hgl3⟩,rfl,rfl⟩,?_⟩
      · exact Drop.pick [0,1,2,3] _ rfl
      · show ((30:Int) - ((q:Int)+1)).toNat < ((30:Int) - (q:Int)).toNat; omega
    · refine CmpD.no (by decide) ?_
      refine CmpD.yes rfl ?_
      refine LoadD.own 1 rfl _ rfl rfl ?_
      refine Tri.frame fin [0,2,3] rfl rfl ?_
      rintro v J4 A' hJ4 ⟨c4,rfl,hP4,rfl⟩
      refine ⟨by simp,?_⟩
      conv=>whnf
      refine CodeF.den ?_
      refine ToD.i64 (by omega) (by omega) ?_
      refine ⟨[c4,lyB b4,wB' bw hs3,gB' bg gl3],?_,⟨q+1,c4,hs3,gl3,by omega,by omega,⟨⟨fs3,ls3,hP4,hH3.up hJ4,hSy3,hl33⟩,hgl3⟩,rfl,rfl⟩,?_⟩
      · exact Drop.pick [0,1,2,3] _ rfl
      · show ((30:Int) - ((q:Int)+1)).toNat < ((30:Int) - (q:Int)).toNat; omega
    · refine CmpD.no (by decide) ?_
      refine CmpD.no (by decide) ?_
      refine Chk.mk (by omega) ?_
      refine LoadD.own 3 rfl [.bool true] (bool_at hgk) rfl ?_
      refine CmpD.yes rfl ?_
      refine LoadD.own 1 rfl _ rfl rfl ?_
      refine Tri.frame fin [0,2,3] rfl rfl ?_
      rintro v J4 A' hJ4 ⟨c4,rfl,hP4,rfl⟩
      refine ⟨by simp,?_⟩
      conv=>whnf
      refine CodeF.den ?_
      refine ToD.i64 (by omega) (by omega) ?_
      refine ⟨[c4,lyB b4,wB' bw hs3,gB' bg gl3],?_,⟨q+1,c4,hs3,gl3,by omega,by omega,⟨⟨fs3,ls3,hP4,hH3.up hJ4,hSy3,hl33⟩,hgl3⟩,rfl,rfl⟩,?_⟩
      · exact Drop.pick [0,1,2,3] _ rfl
      · show ((30:Int) - ((q:Int)+1)).toNat < ((30:Int) - (q:Int)).toNat; omega
end Go.Proofs.YtklbcpofihgmlaaGreat

/- Texts of this claim laid together: R6f, R9a, Written, Same9, ScanAny, SameG, Num9, Torn, Crash, KeptP, AgainP, AgainL, Mount2, Rf11, Pj1, RingAt, RingRef, Pj2, Pj3, Pj4, Pj5, Format, Commit, AwP, Img11, Awake11, Pj6. -/
import Derived.Test.YtegdcjnjnoeinaaGreatBCachePlays5
import Derived.Test.YtegdcjnjnoeinaaGreatBCachePlays3
import Derived.Test.YtegdcjnjnoeinaaGreatBCachePlays2
import Derived.Test.YtegdcjnjnoeinaaGreatBCachePlays4
import Derived.Test.YtegdcjnjnoeinaaGreatBCachePlays1
namespace Go.Proofs.YtegdcjnjnoeinaaGreat
open Go.RowKit Go.Sl
set_option maxRecDepth 20000
theorem dch_split (L:List DI) (d:DI) (R:List DI):dch (L++d :: R)=dch L++(d.b,row (bts d.data) 5) :: dch R:=by simp [dch]
theorem di_cells {l l2:List DI} (h:l2.map (fun d=>(d.blk,d.b))=l.map fun d=>(d.blk,d.b)):imgCells (l2.map DI.img)=imgCells (l.map DI.img):=by
  have e:∀ m:List DI,imgCells (m.map DI.img)=(m.map fun d=>(d.blk,d.b)).flatMap fun p=>[.int .i64 p.1,.slice (some ⟨p.2,0,none⟩) 4096 4096]:=by
    intro m
    unfold imgCells
    rw [List.flatMap_map,List.flatMap_map]; rfl
  rw [e,e,h]
theorem storeD_mkTo {S:St} {b off:Nat} {vs:List Value} {K:St→Prop} (k:Nat) (A B:List Blk) (c:List Value) (T:TypeId) (fr:Nat × Nat) (hk:S[k]?=some (A++(b,row c T fr) :: B)) (c':List Value) (hc:splice c off vs=c') (hl:off+vs.length≤c.length)
    (hf:fr.2≤off∨off+vs.length≤fr.1∨fr.2≤fr.1) (S':St) (hS:S.set k (A++(b,row c' T fr) :: B)=S') (h:K S'):StoreD S b off vs K:=by
  subst hc; subst hS; exact .mk k A B c T fr hk hl hf h
def dAt (D:List Dat) (b:Dat) (i k:Nat):Dat:=if k < i then shoK (D.getD k []) (hidB b k) 8 else shoK noughts (hidB b k) 8
set_option maxHeartbeats 8000000 in
theorem r6_Get (I:Imm) (aL:Option Addr) (n capL:Nat) (bks:List Bk) (hn:n≤1000000) (h:Rds I aL n (bks.map Bk.cell)) (hok:∀ x ∈ bks,BkOk I x) :
    Tri Tryz.prog 175 #[.slice aL n capL] I [] fun v J _ =>
      (getP (bks.map Bk.data)=none∧v=.tuple #[.agg #[.int .i64 0,.int .i64 0,.slice none 0 0],.int .i64 80]) ∨
      (∃ e s l,getP (bks.map Bk.data)=some (e,s,l)∧∃ aI capI gs,v=.tuple #[.agg #[.int .i64 (e:Nat),.int .i64 (s:Nat),.slice aI gs.length capI],.int .i64 0]∧ImgsOk J aI gs∧gs.map Img.pr=l):=by
  refine Tri.fixed (Q:=fun v _ S'=>∃ ch,S'=[ch] ∧
      ((getP (bks.map Bk.data)=none∧v=.tuple #[.agg #[.int .i64 0,.int .i64 0,.slice none 0 0],.int .i64 80]) ∨
      (∃ e s l,getP (bks.map Bk.data)=some (e,s,l)∧∃ aI capI chI,∃ dl:List DI,ch=chI++dch dl∧v=.tuple #[.agg #[.int .i64 (e:Nat),.int .i64 (s:Nat),.slice aI dl.length capI],.int .i64 0]∧OwnC chI 2 aI dl.length capI (imgCells (dl.map DI.img))∧(∀ d ∈ dl,In64 d.blk∧d.data.length=4096)∧(dl.map DI.img).map Img.pr=l))) ?_ ?_
  rotate_left
  · rintro v J S' hJ ⟨ch,rfl,h⟩
    refine ⟨0,ch,rfl,fun J' hJ' hm=>?_⟩
    rcases h with h | ⟨e,s,l,h1,aI,capI,chI,dl,rfl,rfl,hO,hk,hp⟩
    · exact .inl h
    · have hll:(dl.map DI.img).length=dl.length:=List.length_map ..
      refine .inr ⟨e,s,l,h1,aI,capI,dl.map DI.img,by rw [hll],⟨?_,?_⟩,hp⟩
      · rw [hll]; exact Rds.of_ownS hO fun x hx=>hm x (List.mem_append_left _ hx)
      · intro g hg
        obtain ⟨d,hd,rfl⟩:=List.mem_map.1 hg
        obtain ⟨q1,q2⟩:=hk d hd
        refine ⟨q1,by rw [bts_length]; exact q2,.inr ⟨d.b,0,bts d.data,5,(0,0),rfl,hm _ (List.mem_append_right _ (List.mem_map_of_mem (f:=fun d:DI=>(d.b,row (bts d.data) 5)) hd)),?_⟩⟩
        show List.take 4096 ((bts d.data).drop 0)=bts d.data
        rw [List.drop_zero,List.take_of_length_le (by rw [bts_length]; omega)]
  have hl:bks.length=n:=by have:=h.len; rwa [List.length_map] at this
  refine Tri.drop ?_ (fun _ _ _ _ h=>h)
  refine Tri.of (args:=[.slice aL n capL]) tabOk Tryz.func175 rfl (by kernel_rfl) (by kernel_rfl) ?_
  conv=>whnf
  intro b2
  have bad:∀ (S:St),getP (bks.map Bk.data)=none→∃ S'',Drop S S''∧∃ ch,S''=[ch] ∧
      ((getP (bks.map Bk.data)=none∧Value.tuple #[.agg #[.int .i64 0,.int .i64 0,.slice none 0 0],.int .i64 80]=.tuple #[.agg #[.int .i64 0,.int .i64 0,.slice none 0 0],.int .i64 80]) ∨
      (∃ e s l,getP (bks.map Bk.data)=some (e,s,l)∧∃ aI capI chI,∃ dl:List DI,ch=chI++dch dl∧Value.tuple #[.agg #[.int .i64 0,.int .i64 0,.slice none 0 0],.int .i64 80]=.tuple #[.agg #[.int .i64 (e:Nat),.int .i64 (s:Nat),.slice aI dl.length capI],.int .i64 0]∧OwnC chI 2 aI dl.length capI (imgCells (dl.map DI.img))∧(∀ d ∈ dl,In64 d.blk∧d.data.length=4096)∧(dl.map DI.img).map Img.pr=l)) :=
    fun S hg=>⟨[[]],(Drop.pick [] _ rfl).trans (Drop.flat rfl),[],rfl,.inl ⟨hg,rfl⟩⟩
  refine CmpD.split (fun c0=>?_) (fun c0=>?_)
  · repeat (first | refine LoadD.own 0 rfl _ rfl rfl ?_ | refine StoreD.st 0 rfl rfl rfl ?_)
    refine Done.mk (bad _ ?_)
    have:bks=[]:=List.length_eq_zero_iff.1 (by omega)
    rw [this]; rfl
  rcases h.mem with q0 | ⟨bA,oA,cA,TA,fA,rfl,hIA,hcA⟩
  · omega
  obtain ⟨ka,kc,b0,rest,rfl⟩:∃ ka kc b0 rest,bks=(⟨ka,kc,b0⟩:Bk) :: rest:=by
    cases bks with
    | nil=>simp at hl; omega
    | cons k0 rest=>exact ⟨k0.a,k0.cap,k0.data,rest,rfl⟩
  have hk0:=hok ⟨ka,kc,b0⟩ (by simp)
  have hrest:∀ x ∈ rest,BkOk I x:=fun x hx=>hok x (by simp [hx])
  have hrl:rest.length+1=n:=by simpa using hl
  refine Chk.mk (by omega) ?_
  refine LoadD.imm hIA [(⟨ka,kc,b0⟩:Bk).cell] (take_get (i:=0) hcA rfl) rfl ?_
  refine Tri.nf (r6_read (Rds.slC hk0) (by omega)) ?_
  rintro v J S' hJ (⟨hnone,⟨x,y,aI,m,capI,rfl⟩,rfl,rfl⟩ | ⟨hsome,aI,capI,chI,l,rfl,hll,hI,hp,rfl,rfl⟩)
  · conv=>whnf
    intro b4
    repeat (first | refine LoadD.own 0 rfl _ rfl rfl ?_ | refine StoreD.st 0 rfl rfl rfl ?_ | refine StoreD.st 1 rfl rfl rfl ?_)
    exact Done.mk (bad _ (getP_none hnone))
  obtain ⟨_,_,_,hR,_,hb4,_⟩:=hdP_some hsome
  have hc32:=hR.2.2.2.2.2.1
  have hc1:=hR.2.2.2.2.1
  rw [imsB_length] at hc32 hc1
  have hbad:=fun (rs:List Dat)=>getP_bad (rest:=rs) hsome
  have hgood:=fun (rs:List Dat)=>getP_good (rest:=rs) hsome
  have hlen4:∀ r ∈ rest.map Bk.data,r.length=4096:=by
    intro r hr
    obtain ⟨x,hx,rfl⟩:=List.mem_map.1 hr
    have:=(hrest x hx).len; rwa [bts_length] at this
  obtain ⟨D,hD⟩:∃ D,D=rest.map Bk.data:=⟨_,rfl⟩
  have hmap:((⟨ka,kc,b0⟩:Bk) :: rest).map Bk.data=b0 :: D:=by rw [hD]; rfl
  have hDl:D.length=rest.length:=by rw [hD,List.length_map]
  rw [← hD] at hlen4
  have hright:=fun h=>getL_right (rest:=D) hsome h hlen4
  have hiff:=fun h=>putL_iff (rest:=D) hsome h hlen4
  rw [imsB_length] at hgood hbad hiff
  have hims:imsB b0=(List.range (cntB b0)).map fun k=>(blkB b0 k,shoK noughts (hidB b0 k) 8):=rfl
  rw [hims] at hp
  obtain ⟨e,he⟩:∃ e,e=hbE b0:=⟨_,rfl⟩
  obtain ⟨s,hse⟩:∃ s,s=hbS b0:=⟨_,rfl⟩
  obtain ⟨c,hc⟩:∃ c,c=cntB b0:=⟨_,rfl⟩
  rw [hmap] at bad ⊢
  rw [← he,← hse] at hgood hbad hright hiff hR
  rw [← hc] at hc32 hc1 hgood hbad hiff hright hI hll hp
  rw [← he,← hse,← hc]
  have hE:=hR.2.1
  have hS:=hR.2.2.2.1
  conv=>whnf
  intro b4
  repeat (first | refine LoadD.own 3 rfl _ rfl rfl ?_ | refine StoreD.st 3 rfl rfl rfl ?_)
  refine ToD.i64 (by omega) (by omega) ?_
  refine CmpD.split (fun (c1:(n:Int)=c+1)=>?_) (fun (c1:¬ (n:Int)=c+1)=>?_)
  rotate_left
  · repeat (first | refine LoadD.own 0 rfl _ rfl rfl ?_ | refine StoreD.st 0 rfl rfl rfl ?_)
    refine Done.mk (bad _ (hbad _ fun h'=>c1 ?_))
    have:=h'.1
    omega
  have hcr:rest.length=c:=by omega
  obtain rfl:n=c+1:=by omega
  rcases hI.at' with q0 | ⟨bI,pre,post,TI,rfl,rfl,hpost⟩
  · have:=hI.le; omega
  refine CodeF.loopD [0,2,4,6] (fun vs J' S'=>∃ (i:Nat) (l2:List DI),i≤c∧l2.map (fun d=>(d.blk,d.b))=l.map (fun d=>(d.blk,d.b))∧(∀ k,k < c→∃ d,l2[k]?=some d∧d.blk=blkB b0 k∧d.data=dAt D b0 i k) ∧
      vs=[.slice (some ⟨bA,oA,none⟩) (c+1:Nat) capL,.pointer (some ⟨b2,0,none⟩),.pointer (some ⟨b4,0,none⟩),.int .i64 i]∧I=J' ∧
      S'=[gBox b2 0 0 none 0 0,[(bI,row (pre++imgCells (l.map DI.img)++post) TI)],dch l2,gBox b4 e s (some ⟨bI,pre.length,none⟩) c capI])
    (fun vs _ _=>match vs with | [_,_,_,.int _ i]=>((c:Int) - i).toNat | _=>0) ?_ ?_
  · refine ⟨_,Drop.refl _,0,l,by omega,rfl,?_,rfl,rfl,rfl⟩
    intro k hk
    have:=congrArg (·[k]?) hp
    simp only [List.getElem?_map,List.getElem?_range hk,Option.map_some] at this
    cases hd:l[k]? with
    | none=>rw [hd] at this; cases this
    | some d =>
      rw [hd] at this
      simp only [Option.map_some,Option.some.injEq] at this
      have q1:d.blk=blkB b0 k:=congrArg Prod.fst this
      have q2:d.data=shoK noughts (hidB b0 k) 8:=congrArg Prod.snd this
      exact ⟨d,rfl,q1,by rw [q2,dAt,if_neg (by omega)]⟩
  rintro vs gE J' S' hJ' ⟨i,l2,hi,hcl,hdat,rfl,rfl,rfl⟩
  have hl2:l2.length=c:=by have:=congrArg List.length hcl; rw [List.length_map,List.length_map] at this; omega
  have hcells:=di_cells hcl
  refine LoadD.own 3 rfl _ rfl rfl ?_
  refine CmpD.split (fun c2=>?_) (fun c2=>?_)
  · have i1:i < l2.length:=by omega
    have ir:i < rest.length:=by omega
    obtain ⟨d,hd1,hd2,hd3⟩:=hdat i (by omega)
    have hdl:l2=l2.take i++d :: l2.drop (i+1):=by
      rw [List.getElem?_eq_getElem i1,Option.some.injEq] at hd1
      rw [← hd1,List.getElem_cons_drop,List.take_append_drop]
    obtain ⟨L,hL⟩:∃ L,L=l2.take i:=⟨_,rfl⟩
    obtain ⟨R,hRR⟩:∃ R,R=l2.drop (i+1):=⟨_,rfl⟩
    have hLl:L.length=i:=by rw [hL,List.length_take]; omega
    rw [← hL,← hRR] at hdl
    obtain ⟨db,dz,dd⟩:=d
    dsimp only at hd2 hd3
    obtain ⟨r,hr⟩:∃ r,r=rest[i]:=⟨_,rfl⟩
    have hrok:=hrest r (by rw [hr]; exact List.getElem_mem ir)
    have hrc:(((⟨ka,kc,b0⟩:Bk) :: rest).map Bk.cell)[i+1]?=some r.cell:=by
      rw [List.map_cons,List.getElem?_cons_succ,List.getElem?_map,List.getElem?_eq_getElem ir,hr]; rfl
    have hDi:D.getD i []=r.data:=by
      rw [hD,List.getD_eq_getElem?_getD,List.getElem?_map,List.getElem?_eq_getElem ir,hr]; rfl
    have hr4:r.data.length=4096:=by have:=hrok.len; rwa [bts_length] at this
    have hhid:=hidB_length hb4 (i:=i) (by omega)
    have hz:=shoK_length noughts_length hhid 8 (by omega)
    rw [dAt,if_neg (by omega)] at hd3
    rcases hrok.mem with q0 | ⟨bB,oB,cB,TB,fB,hra,hIB,hcB⟩
    · omega
    refine ToD.to ((i+1:Nat):Int) (wrap_i64 (by omega) (by omega)) ?_
    refine Chk.mk (by omega) ?_
    refine LoadD.imm hIA [r.cell] (take_get hcA hrc) rfl ?_
    refine CmpD.yes rfl ?_
    have hgl:=fun q=>gen_length (filF (shoK noughts (hidB b0 i) 8) r.data) (fun j=>(shoK noughts (hidB b0 i) 8).getD j 0) q
    have hstep:=fun q hq=>gen_step (filF (shoK noughts (hidB b0 i) 8) r.data) (fun j=>(shoK noughts (hidB b0 i) 8).getD j 0) (q:=q) hq
    have hskip:=fun q hq=>gen_skip (filF (shoK noughts (hidB b0 i) 8) r.data) (fun j=>(shoK noughts (hidB b0 i) 8).getD j 0) (q:=q) hq
    have hfill:=gen_fill hr4 hhid
    have hzero:=gen_zero (filF (shoK noughts (hidB b0 i) 8) r.data) hz
    refine CodeF.loopD [0,2,4,6,7,8] (fun vs J' S'=>∃ (q:Nat),q≤4096 ∧
        vs=[.slice (some ⟨bA,oA,none⟩) (c+1:Nat) capL,.pointer (some ⟨b2,0,none⟩),.pointer (some ⟨b4,0,none⟩),.int .i64 i,r.cell,.int .i64 q]∧I=J' ∧
        S'=[gBox b2 0 0 none 0 0,[(bI,row (pre++imgCells (l.map DI.img)++post) TI)],dch (L++⟨db,dz,gen (filF (shoK noughts (hidB b0 i) 8) r.data) (fun j=>(shoK noughts (hidB b0 i) 8).getD j 0) q⟩ :: R),gBox b4 e s (some ⟨bI,pre.length,none⟩) c capI])
      (fun vs _ _=>match vs with | [_,_,_,_,_,.int _ q]=>((4096:Int) - q).toNat | _=>0) ?_ ?_
    · refine ⟨_,Drop.refl _,0,by omega,rfl,rfl,?_⟩
      rw [hzero,← hd3,← hdl]
    rintro vs gE2 J' S' hJ' ⟨q,hq,rfl,rfl,rfl⟩
    refine CmpD.split (fun c3=>?_) (fun c3=>?_)
    · refine Chk.mk (by decide) ?_
      refine ToD.to ((q % 512:Nat):Int) (tmod_nat q 512) ?_
      refine CmpD.split (fun c4=>?_) (fun c4=>?_)
      · refine CodeF.sched [[],[0],[],[0,1,2],[0,1,2,3],[0,1,2,3,4],[],[],[],[7,8],[7,8,9],[0,1,2,3,4,5,6,7,8,9,10],[0,1,2,3,4,5,6,7,8,9,10,11]] [0,1,2,3,4,5,6,7,8,9,10,11,12] (by kernel_rfl) ?_
        refine LoadP.at 3 rfl _ rfl rfl ?_
        refine Chk.mk (by omega) ?_
        have hc1':((l.map DI.img).length)=c:=by rw [List.length_map,hll]
        have hcell:(imgCells (l.map DI.img))[i * 2+1]?=some (.slice (some ⟨dz,0,none⟩) 4096 4096):=by
          rw [← hcells]
          have hi2:i < (l2.map DI.img).length:=by rw [List.length_map]; exact i1
          have:=imgCells_1 hi2
          rw [this]
          have e1:l2[i]=⟨db,dz,dd⟩:=by rw [List.getElem?_eq_getElem i1,Option.some.injEq] at hd1; exact hd1
          rw [List.getElem_map,e1]; rfl
        have hIc:Cells I [[(bI,row (pre++imgCells (l.map DI.img)++post) TI)]] bI pre.length (c * 2) (imgCells (l.map DI.img)) :=
          ⟨_,TI,(0,0),.one 0 rfl,by have:=own_take pre (imgCells (l.map DI.img)) post; rwa [hI.n] at this,hI.n⟩
        refine LoadP.own 1 _ (hIc.at hcell) ?_
        rw [show r.cell=Value.slice r.a 4096 r.cap from rfl,hra]
        refine Chk.mk (by omega) ?_
        refine LoadP.imm [byte (r.data.getD q 0)] ⟨cB,TB,fB,.imm hIB,take_get hcB (bts_get (getD_get (by omega))),rfl⟩ ?_
        refine Chk.mk (by omega) ?_
        have hsp:splice (bts (gen (filF (shoK noughts (hidB b0 i) 8) r.data) (fun j=>(shoK noughts (hidB b0 i) 8).getD j 0) q)) (0+q) [byte (r.data.getD q 0)]=bts (gen (filF (shoK noughts (hidB b0 i) 8) r.data) (fun j=>(shoK noughts (hidB b0 i) 8).getD j 0) (q+1)):=by
          rw [bts_set (by rw [hgl]; omega) (hstep q (by omega)),Nat.zero_add]
          rw [show filF (shoK noughts (hidB b0 i) 8) r.data q=r.data.getD q 0 by rw [filF,if_pos (by omega)]]
          rfl
        refine storeD_mkTo 2 (dch L) (dch R) (bts (gen (filF (shoK noughts (hidB b0 i) 8) r.data) (fun j=>(shoK noughts (hidB b0 i) 8).getD j 0) q)) 5 (0,0) (by rw [dch_split]; rfl) _ hsp (by rw [bts_length,hgl]; show 0+q+1≤_; omega) (.inr (.inr (Nat.le_refl _))) [gBox b2 0 0 none 0 0,[(bI,row (pre++imgCells (l.map DI.img)++post) TI)],dch (L++⟨db,dz,gen (filF (shoK noughts (hidB b0 i) 8) r.data) (fun j=>(shoK noughts (hidB b0 i) 8).getD j 0) (q+1)⟩ :: R),gBox b4 e s (some ⟨bI,pre.length,none⟩) c capI] (by rw [dch_split,dch_split]; rfl) ?_
        refine ToD.i64 (by omega) (by omega) ?_
        refine ⟨_,Drop.refl _,⟨q+1,by omega,rfl,rfl,rfl⟩,?_⟩
        show ((4096:Int) - ((q:Int)+1)).toNat < ((4096:Int) - (q:Int)).toNat
        omega
      · refine ToD.i64 (by omega) (by omega) ?_
        refine ⟨_,Drop.refl _,⟨q+1,by omega,rfl,rfl,?_⟩,?_⟩
        · rw [hskip q (by rw [filF,if_neg (by omega)])]
        · show ((4096:Int) - ((q:Int)+1)).toNat < ((4096:Int) - (q:Int)).toNat
          omega
    · obtain rfl:q=4096:=by omega
      rw [hfill]
      refine ToD.i64 (by omega) (by omega) ?_
      refine ⟨_,Drop.refl _,⟨i+1,L++⟨db,dz,shoK r.data (hidB b0 i) 8⟩ :: R,by omega,?_,?_,rfl,rfl,rfl⟩,?_⟩
      · rw [← hcl,hdl]; simp
      · intro k hk
        rcases Nat.lt_trichotomy k i with g | g | g
        · obtain ⟨d',q1,q2,q3⟩:=hdat k hk
          refine ⟨d',?_,q2,?_⟩
          · rw [List.getElem?_append_left (by omega),← q1,hdl,List.getElem?_append_left (by omega)]
          · rw [q3,dAt,dAt,if_pos g,if_pos (by omega)]
        · subst g
          refine ⟨⟨db,dz,shoK r.data (hidB b0 k) 8⟩,?_,hd2,?_⟩
          · rw [List.getElem?_append_right (by omega),hLl,Nat.sub_self]; rfl
          · show shoK r.data (hidB b0 k) 8=_
            rw [dAt,if_pos (by omega),hDi]
        · obtain ⟨d',q1,q2,q3⟩:=hdat k hk
          refine ⟨d',?_,q2,?_⟩
          · rw [List.getElem?_append_right (by omega),← q1,hdl,List.getElem?_append_right (by omega),hLl]
            obtain ⟨m,hm⟩:∃ m,k - i=m+1:=⟨k - i - 1,by omega⟩
            rw [hm,List.getElem?_cons_succ,List.getElem?_cons_succ]
          · rw [q3,dAt,dAt,if_neg (by omega),if_neg (by omega)]
      · show ((c:Int) - ((i:Int)+1)).toNat < ((c:Int) - i).toNat; omega
  · obtain rfl:i=c:=by omega
    have hDc:D.length=i:=by omega
    have hpr:(l2.map DI.img).map Img.pr=getL b0 D:=by
      refine getElem_eq_of (by simp [getL,hl2,hDc]) fun k k1 k2=>?_
      rw [List.length_map,List.length_map] at k1
      obtain ⟨d,q1,q2,q3⟩:=hdat k (by omega)
      rw [List.getElem?_eq_getElem k1,Option.some.injEq] at q1
      simp only [getL,List.getElem_map,List.getElem_range]
      rw [q1]
      show (d.blk,d.data)=_
      rw [q2,q3,dAt,if_pos (by omega)]
    obtain ⟨hRg,hbk⟩:=hright (by omega)
    have hd4:∀ d ∈ l2,In64 d.blk∧d.data.length=4096:=by
      intro d hd
      have hm:(d.blk,d.data) ∈ (l2.map DI.img).map Img.pr:=List.mem_map.2 ⟨d.img,List.mem_map_of_mem hd,rfl⟩
      rw [hpr] at hm
      have:=hRg.2.2.2.2.2.2.1 _ hm
      exact ⟨by have h1:=this.1; have h2:=this.2.1; dsimp only at h1 h2; unfold In64; omega,this.2.2⟩
    have hIO:OwnC [(bI,row (pre++imgCells (l.map DI.img)++post) TI)] 2 (some ⟨bI,pre.length,none⟩) l2.length capI (imgCells (l2.map DI.img)):=by rw [hl2,hcells]; exact hI
    have hIR:=dch_img (I:=I) (S:=[gBox b2 0 0 none 0 0,[(bI,row (pre++imgCells (l.map DI.img)++post) TI)],dch l2,gBox b4 e s (some ⟨bI,pre.length,none⟩) i capI]) 2 rfl (fun d hd=>(hd4 d hd).2) (hIO.slC 1 rfl)
    have hPt:=r6_Put e s (cap:=capI) hIR (by intro g hg; obtain ⟨d,_,rfl⟩:=List.mem_map.1 hg; exact Nat.le_refl _) (by rw [hpr]; exact hRg)
    rw [hpr,List.length_map,hl2] at hPt
    refine LoadD.own 3 rfl _ rfl rfl ?_
    refine Tri.nf hPt ?_
    rintro v J2 S' hJ2 ⟨aO,capO,chO,bs,rfl,hO,hbd,hbok,rfl⟩
    have hbl:bs.length=i+1:=by have:=hO.n; rw [List.length_map] at this; omega
    have hsm:=same_lists (S:=[gBox b2 0 0 none 0 0,[(bI,row (pre++imgCells (l.map DI.img)++post) TI)],dch l2,gBox b4 e s (some ⟨bI,pre.length,none⟩) i capI,chO]) (I:=J2) (g1:=bs) (g2:=(⟨ka,kc,b0⟩:Bk) :: rest) (c1:=capO) (c2:=capL) (by rw [hbl]; exact hO.slC1 4 rfl) (by rw [hl]; exact (h.mono hJ2).slC) hbok (fun b hb=>Rds.mono (hok b hb) hJ2) (by omega)
    rw [hbl,hbd,hmap,hl] at hsm
    refine Tri.nf hsm ?_
    rintro v J3 S' hJ3 ⟨rfl,rfl,rfl⟩
    by_cases hq:putP e s (getL b0 D)=b0 :: D
    · rw [decide_eq_true hq]
      repeat (first | refine LoadD.own 0 rfl _ rfl rfl ?_ | refine LoadD.own 3 rfl _ rfl rfl ?_ | refine StoreD.st 0 rfl rfl rfl ?_)
      have hrr:=(hiff (by omega)).1 hq
      refine Done.mk ⟨[[(bI,row (pre++imgCells (l.map DI.img)++post) TI)]++dch l2],(Drop.pick [1,2] _ rfl).trans (Drop.flat (by simp [St.at])),_,rfl,.inr ⟨e,s,getL b0 D,hgood _ hrr,some ⟨bI,pre.length,none⟩,capI,_,l2,rfl,by rw [hl2]; rfl,hIO,hd4,hpr⟩⟩
    · rw [decide_eq_false hq]
      repeat (first | refine LoadD.own 0 rfl _ rfl rfl ?_ | refine StoreD.st 0 rfl rfl rfl ?_)
      exact Done.mk (bad _ (hbad _ fun h'=>hq ((hiff (by omega)).2 h')))
end Go.Proofs.YtegdcjnjnoeinaaGreat
namespace Go.Proofs.YtegdcjnjnoeinaaGreat
open Go.RowKit Go.Sl
set_option maxRecDepth 20000
theorem grpP_hd {rb:Nat→Dat} {at_ room e s:Nat} {l:List PImg} (h:grpP rb at_ room=some (e,s,l)):∃ l',hdP (rb at_)=some (e,s,l')∧l'.length=l.length∧l.length+1≤room:=by
  have hr:=(grpP_room h).1
  unfold grpP at h
  cases hd:hdP (rb at_) with
  | none=>rw [hd] at h; cases h
  | some p =>
    obtain ⟨e',s',l'⟩:=p
    rw [hd] at h
    dsimp only at h
    split at h
    · rename_i hc
      obtain ⟨hR,hp⟩:=getP_some h
      have hlen:=congrArg List.length hp
      rw [putP_length,List.length_map,List.length_range] at hlen
      rw [List.range_succ_eq_map,List.map_cons,Nat.add_zero] at h
      unfold getP at h
      dsimp only at h
      rw [hd] at h
      dsimp only at h
      split at h
      · cases h
        exact ⟨l',rfl,by omega,hr⟩
      · cases h
    · cases h
theorem grpP_get {rb:Nat→Dat} {at_ room e s:Nat} {l:List PImg} (h:hdP (rb at_)=some (e,s,l)) (hr:l.length+1≤room):grpP rb at_ room=getP ((List.range (l.length+1)).map fun i=>rb (at_+i)):=by
  unfold grpP
  rw [h]
  dsimp only
  rw [if_pos hr]
theorem scanK_stop {rb:Nat→Dat} {ep:Int} {f at_:Nat} {seq:Int} {room:Nat} (h:∀ e s l,grpP rb at_ room=some (e,s,l)→¬ ((e:Int)=ep∧(s:Int)=seq)):scanK rb ep f at_ seq room=[]:=by
  cases f with
  | zero=>rfl
  | succ f =>
    rw [scanK]
    cases hg:grpP rb at_ room with
    | none=>rfl
    | some p =>
      obtain ⟨e,s,l⟩:=p
      dsimp only
      rw [if_neg (h e s l hg)]
set_option maxHeartbeats 8000000 in
theorem r9_Groups {I:Imm} {vD:Value} {d:DSt} (hD:RDk I vD d) (hF:d.writes.length≤1000000) (x:Lay) (s:Sup) :
    Tri Tryz.prog 117 #[vD,x.v,s.v] I [] fun v J _ =>
      (¬ ScanOk d.now.length x s∧v=.tuple #[.slice none 0 0,.int .i64 0,.int .i64 2]) ∨
      (ScanOk d.now.length x s∧d.down=true∧v=.tuple #[.slice none 0 0,.int .i64 0,.int .i64 6]) ∨
      (ScanOk d.now.length x s∧d.down=false∧∃ aO capO gl,v=.tuple #[.slice aO gl.length capO,.int .i64 (placeP (layL d.now.length).toNat s.tail.toNat (scanL d s):Nat),.int .i64 0]∧Rds J aO (gl.length * 3) (grpCells gl)∧GrpsOk J gl (scanL d s)):=by
  have hr:=hD.wf.range
  refine Tri.fixed (Q:=fun v J S'=>∃ chO,S'=[chO] ∧
      ((¬ ScanOk d.now.length x s∧v=.tuple #[.slice none 0 0,.int .i64 0,.int .i64 2]) ∨
       (ScanOk d.now.length x s∧d.down=true∧v=.tuple #[.slice none 0 0,.int .i64 0,.int .i64 6]) ∨
       (ScanOk d.now.length x s∧d.down=false∧∃ aO capO gl,v=.tuple #[.slice aO gl.length capO,.int .i64 (placeP (layL d.now.length).toNat s.tail.toNat (scanL d s):Nat),.int .i64 0]∧OwnC chO 3 aO gl.length capO (grpCells gl)∧GrpsOk J gl (scanL d s)))) ?_ ?_
  rotate_left
  · rintro v J S' hJ ⟨chO,rfl,h⟩
    refine ⟨0,chO,rfl,fun J' hJ' hm=>?_⟩
    rcases h with h | h | ⟨h1,h2,aO,capO,gl,rfl,hO,hg⟩
    · exact .inl h
    · exact .inr (.inl h)
    · exact .inr (.inr ⟨h1,h2,aO,capO,gl,rfl,Rds.of_ownS hO hm,hg.mono hJ'⟩)
  refine Tri.drop ?_ (fun _ _ _ _ h=>h)
  obtain ⟨hS,w,bS,gs,rfl,hSr,hbS,hbd,hW,hwl,hgw⟩:=hD.ex
  obtain ⟨sa,sl,sc⟩:=hS
  obtain ⟨wa,wl,wc⟩:=w
  obtain ⟨s1,s2,s3,s4⟩:=s
  dsimp only at hSr hwl hW
  obtain ⟨n,hn⟩:∃ n,n=d.now.length:=⟨_,rfl⟩
  have hbSl:bS.length=sl:=by have:=hSr.len; rwa [List.length_map] at this
  have hsn:sl=n:=by
    have:=congrArg List.length hbd
    rw [List.length_map,hD.wf.len,← hn] at this
    omega
  subst hsn
  subst hwl
  have hgl0:gs.length=d.writes.length:=by rw [← hgw,List.length_map]
  have hat:=fun (J:Imm) (hJ:I.le J) (i:Nat) (bk:Bk) (hi:bS[i]?=some bk) (hok:BkOk J bk)=>r4_At ⟨sa,sl,sc⟩ ⟨wa,gs.length,wc⟩ d.count d.down (gv d.arm) (gv d.fault) bS gs J (hSr.mono hJ) (by show sl≤_; omega) (hW.mono hJ) rfl (by omega) i hi hok
  refine Tri.of (args:=[rV ⟨sa,sl,sc⟩ ⟨wa,gs.length,wc⟩ d.count d.down (gv d.arm) (gv d.fault),x.v,(⟨s1,s2,s3,s4⟩:Sup).v]) tabOk Tryz.func117 rfl (by kernel_rfl) (by kernel_rfl) ?_
  conv=>whnf
  intro b3
  conv=>whnf
  intro b4
  conv=>whnf
  intro b5
  repeat (first | refine LoadD.own 0 rfl _ rfl rfl ?_)
  rw [← hn] at hr ⊢
  refine Tri.free (ref_Of sl I) ?_
  rintro v J _ hJ ⟨rfl,rfl⟩
  have badS:∀ (J:Imm) (S:St),¬ ScanOk sl x ⟨s1,s2,s3,s4⟩→∃ S'',Drop S S''∧∃ chO,S''=[chO] ∧
      ((¬ ScanOk sl x ⟨s1,s2,s3,s4⟩∧Value.tuple #[.slice none 0 0,.int .i64 0,.int .i64 2]=.tuple #[.slice none 0 0,.int .i64 0,.int .i64 2]) ∨
       (ScanOk sl x ⟨s1,s2,s3,s4⟩∧d.down=true∧Value.tuple #[.slice none 0 0,.int .i64 0,.int .i64 2]=.tuple #[.slice none 0 0,.int .i64 0,.int .i64 6]) ∨
       (ScanOk sl x ⟨s1,s2,s3,s4⟩∧d.down=false∧∃ aO capO gl,Value.tuple #[.slice none 0 0,.int .i64 0,.int .i64 2]=.tuple #[.slice aO gl.length capO,.int .i64 (placeP (layL sl).toNat s4.toNat (scanL d ⟨s1,s2,s3,s4⟩):Nat),.int .i64 0]∧OwnC chO 3 aO gl.length capO (grpCells gl)∧GrpsOk J gl (scanL d ⟨s1,s2,s3,s4⟩))) :=
    fun J S hno=>⟨[[]],(Drop.pick [] _ rfl).trans (Drop.flat rfl),[],rfl,.inl ⟨hno,rfl⟩⟩
  by_cases hb:(sl:Int) < 64∨512 < (sl:Int)
  · rw [layA,if_pos hb]
    conv=>whnf
    intro b9
    repeat (first | refine StoreD.st 3 rfl rfl rfl ?_ | refine CmpD.no (by decide) ?_)
    exact Done.mk (badS _ _ (fun h=>by have:=h.1; omega))
  rw [layA,if_neg hb]
  have hL:=layL_range (n:=(sl:Int)) (by omega)
  conv=>whnf
  intro b9
  repeat (first | refine LoadD.own 1 rfl _ rfl rfl ?_ | refine LoadD.own 3 rfl _ rfl rfl ?_ | refine StoreD.st 3 rfl rfl rfl ?_ | refine CmpD.yes rfl ?_)
  refine lay_cmp (layOf sl) x rfl (.inr rfl) rfl rfl ?_
  refine CmpD.split (fun c1=>?_) (fun c1=>?_)
  rotate_left
  · skip
    refine Done.mk (badS _ _ (fun h=>c1 ?_))
    rw [← h.2.1]
  have hx:x=layOf sl:=by
    simp only [List.cons.injEq,and_true] at c1
    obtain ⟨q1,q2,q3,q4,q5,q6,q7⟩:=c1
    obtain ⟨x1,x2,x3,x4,x5,x6,x7⟩:=x
    dsimp only at q1 q2 q3 q4 q5 q6 q7 ⊢
    rw [Lay.mk.injEq]
    exact ⟨q1.symm,q2.symm,q3.symm,q4.symm,q5.symm,q6.symm,q7.symm⟩
  have hxl:x.lb=layL sl:=by rw [hx]; rfl
  repeat (first | refine LoadD.own 0 rfl _ rfl rfl ?_ | refine LoadD.own 2 rfl _ rfl rfl ?_)
  refine CmpD.split (fun (c2:s1=(sl:Int))=>?_) (fun (c2:¬ (s1=(sl:Int)))=>?_)
  rotate_left
  · skip
    exact Done.mk (badS _ _ (fun h=>c2 h.2.2.1))
  repeat (first | refine LoadD.own 2 rfl _ rfl rfl ?_)
  refine CmpD.split (fun (c3:s4 < 0)=>?_) (fun (c3:¬ (s4 < 0))=>?_)
  · skip
    exact Done.mk (badS _ _ (fun h=>by have:0≤s4:=h.2.2.2.1; omega))
  repeat (first | refine LoadD.own 1 rfl _ rfl rfl ?_ | refine LoadD.own 2 rfl _ rfl rfl ?_)
  refine CmpD.split (fun (c4:x.lb≤s4)=>?_) (fun (c4:¬ (x.lb≤s4))=>?_)
  · skip
    exact Done.mk (badS _ _ (fun h=>by have:s4 < layL sl:=h.2.2.2.2.1; omega))
  repeat (first | refine LoadD.own 2 rfl _ rfl rfl ?_)
  refine CmpD.split (fun (c5:s2 < 1)=>?_) (fun (c5:¬ (s2 < 1))=>?_)
  · skip
    exact Done.mk (badS _ _ (fun h=>by have:1≤s2:=h.2.2.2.2.2.1; omega))
  repeat (first | refine LoadD.own 2 rfl _ rfl rfl ?_)
  refine CmpD.split (fun (c6:(8388608:Int) < s2)=>?_) (fun (c6:¬ ((8388608:Int) < s2))=>?_)
  · skip
    exact Done.mk (badS _ _ (fun h=>by have:s2≤8388608:=h.2.2.2.2.2.2.1; omega))
  repeat (first | refine LoadD.own 2 rfl _ rfl rfl ?_)
  refine CmpD.split (fun (c7:s3 < 1)=>?_) (fun (c7:¬ (s3 < 1))=>?_)
  · skip
    exact Done.mk (badS _ _ (fun h=>by have:1≤s3:=h.2.2.2.2.2.2.2.1; omega))
  repeat (first | refine LoadD.own 2 rfl _ rfl rfl ?_)
  refine CmpD.split (fun (c8:(549755813888:Int) < s3)=>?_) (fun (c8:¬ ((549755813888:Int) < s3))=>?_)
  · skip
    exact Done.mk (badS _ _ (fun h=>by have:s3≤549755813888:=h.2.2.2.2.2.2.2.2; omega))
  have hok:ScanOk sl x ⟨s1,s2,s3,s4⟩:=⟨by omega,hx,c2,by show 0≤s4; omega,by show s4 < _; omega,by show 1≤s2; omega,by show s2≤_; omega,by show 1≤s3; omega,by show s3≤_; omega⟩
  clear badS
  obtain ⟨tail,rfl⟩:∃ t:Nat,s4=t:=⟨s4.toNat,by omega⟩
  obtain ⟨lb,hlb⟩:∃ lb:Nat,layL sl=lb:=⟨(layL sl).toNat,by omega⟩
  have hxlb:x.lb=lb:=by rw [hxl,hlb]
  have hxl2:x.l=(2:Nat):=by rw [hx]; rfl
  have hfit:2+lb≤sl:=by unfold layL at hlb; split at hlb <;> omega
  cases hdn:d.down with
  | true =>
    repeat (first | refine LoadD.own 0 rfl _ rfl rfl ?_)
    exact Done.mk ⟨[[]],(Drop.pick [] _ rfl).trans (Drop.flat rfl),[],rfl,.inr (.inl ⟨hok,rfl,rfl⟩)⟩
  | false =>
  rw [hdn] at hat
  repeat (first | refine LoadD.own 0 rfl _ rfl rfl ?_)
  obtain ⟨x1,x2,x3,x4,x5,x6,x7⟩:=x
  dsimp only at hxlb hxl2
  subst hxlb hxl2
  have hsc:scanL d ⟨s1,s2,s3,tail⟩=scanK (rbP d 2 lb) s2 (lb+1) tail s3 lb:=by
    unfold scanL
    rw [← hn,hlb]; rfl
  have hlbn:(layL sl).toNat=lb:=by rw [hlb]; rfl
  obtain ⟨LL,hLe⟩:∃ L,L=scanL d ⟨s1,s2,s3,tail⟩:=⟨_,rfl⟩
  have hbd2:=scan_bound (rb:=rbP d 2 lb) (ep:=s2) (lb+1) tail s3 lb
  rw [← hsc,← hLe] at hbd2
  refine CodeF.loopD [3,4,5,11,12] (fun vs J' S'=>∃ (i:Nat) (aB:Option Addr) (capB:Nat) (chB:List Blk) (bks:List Bk),i≤lb∧OwnC chB 1 aB i capB (bks.map Bk.cell)∧bks.map Bk.data=(List.range i).map (fun k=>rbP d 2 lb (tail+k))∧(∀ y ∈ bks,BkOk I y)∧I=J' ∧
      vs=[.pointer (some ⟨b3,0,none⟩),.pointer (some ⟨b4,0,none⟩),.pointer (some ⟨b5,0,none⟩),.slice aB i capB,.int .i64 i] ∧
      S'=[[(b3,row [.slice sa sl sc,.slice wa gs.length wc,.int .i64 d.count,.bool false,.int .i64 (gv d.arm),.int .i64 (gv d.fault)] 76)],[(b4,row [.int .i64 x1,.int .i64 (2:Nat),.int .i64 lb,.int .i64 x4,.int .i64 x5,.int .i64 x6,.int .i64 x7] 45)],sBoxS b5 ⟨s1,s2,s3,tail⟩,chB])
    (fun vs _ _=>match vs with | [_,_,_,_,.int _ i]=>((lb:Int) - i).toNat | _=>0) ?_ ?_
  · exact ⟨_,Drop.and (Drop.pick [0,1,2] _ rfl),0,none,0,[],[],by omega,OwnC.nil _ _,rfl,by simp,rfl,rfl,rfl⟩
  rintro vs gE J' S' hJ' ⟨i,aB,capB,chB,bks,hi,hB,hdat,hbok,rfl,rfl,rfl⟩
  refine LoadD.own 1 rfl _ rfl rfl ?_
  refine CmpD.split (fun (c9:(i:Int) < lb)=>?_) (fun (c9:¬ (i:Int) < lb)=>?_)
  · have hm:=Nat.mod_lt (tail+i) (show 0 < lb by omega)
    have hil:2+(tail+i) % lb < bS.length:=by omega
    have hsd:=hD.snd (2+(tail+i) % lb) (by rw [← hbd,List.length_map]; exact hil)
    have hsg:d.safe.getD (2+(tail+i) % lb) []=(bS[2+(tail+i) % lb]).data:=by
      rw [← hbd,List.getD_eq_getElem?_getD,List.getElem?_map,List.getElem?_eq_getElem hil]; rfl
    rw [hsg] at hsd
    have hnw:rbP d 2 lb (tail+i)=atP (bS[2+(tail+i) % lb]).data d.writes (2+(tail+i) % lb:Nat):=by
      unfold rbP
      rw [List.getD_eq_getElem?_getD,hsd]; rfl
    have h4:(rbP d 2 lb (tail+i)).length=4096:=by
      unfold rbP
      rw [List.getD_eq_getElem?_getD,List.getElem?_eq_getElem (by omega:2+(tail+i) % lb < d.now.length)]
      exact hD.wf.now _ (List.getElem_mem _)
    have hA:=hat I (Imm.le_refl _) (2+(tail+i) % lb) _ (List.getElem?_eq_getElem hil) (hbS _ (List.getElem_mem hil))
    rw [hgw,← hnw] at hA
    refine CodeF.sched [[],[],[],[2],[],[4],[],[4,5,6],[],[8],[4,5,6,7,8,9],[2,3,4,5,6,7,8,9,10],[1,2,3,4,5,6,7,8,9,10,11],[1,2,3,4,5,6,7,8,9,10,11,12],[0,1,2,3,4,5,6,7,8,9,10,11,12,13],[0,1,2,3,4,5,6,7,8,9,10,11,12,13,14]] [0,1,2,3,4,5,6,7,8,9,10,11,12,13,14,15] (by kernel_rfl) ?_
    repeat (first | refine LoadP.at 0 rfl _ rfl rfl ?_ | refine LoadP.at 1 rfl _ rfl rfl ?_ | refine LoadP.at 2 rfl _ rfl rfl ?_)
    refine ToD.to ((tail+i:Nat):Int) (by show IntKind.i64.wrap ((tail:Int)+(i:Int))=_; rw [wrap_i64 (by omega) (by omega)]; omega) ?_
    repeat (first | refine LoadP.at 1 rfl _ rfl rfl ?_)
    refine Chk.mk (by show (lb:Int)≠0; omega) ?_
    refine ToD.to _ (tmod_nat _ _) ?_
    refine ToD.to ((2+(tail+i) % lb:Nat):Int) (by show IntKind.i64.wrap (((2:Nat):Int)+(((tail+i) % lb:Nat):Int))=_; rw [wrap_i64 (by omega) (by omega)]; omega) ?_
    skip
    refine Tri.free hA ?_
    rintro v _ _ hJ ⟨rfl,aN,lenN,capN,rfl,hN⟩
    have hlN:lenN=4096:=by have:=hN.len; rw [bts_length] at this; omega
    subst hlN
    conv=>whnf
    intro bN
    refine appendD tabOk rfl rfl rfl rfl rfl rfl rfl 3 rfl hB (SrcOk.slice (n:=1) (news:=[Bk.cell ⟨aN,capN,rbP d 2 lb (tail+i)⟩]) tabOk rfl ((OwnC.whole (len:=1) (size:=1) rfl).slC 4 rfl) (by intro v hv; simp only [List.mem_singleton] at hv; subst hv; rfl)) rfl (by show (i+1) * 24≤_; omega) (by omega) ?_
    intro a2 cap2 ch2 hO2
    skip
    refine ToD.i64 (by omega) (by omega) ?_
    refine ⟨_,Drop.pick [0,1,2,3] _ rfl,⟨i+1,a2,cap2,ch2,bks++[⟨aN,capN,rbP d 2 lb (tail+i)⟩],by omega,by rw [List.map_append]; exact hO2,?_,?_,rfl,rfl,rfl⟩,?_⟩
    · rw [List.map_append,hdat,List.range_succ,List.map_append]; rfl
    · intro y hy
      rcases List.mem_append.1 hy with hy | hy
      · exact hbok y hy
      · simp only [List.mem_singleton] at hy
        subst hy
        exact hN
    · show ((lb:Int) - ((i:Int)+1)).toNat < ((lb:Int) - i).toNat; omega
  obtain rfl:i=lb:=by omega
  have hbl:bks.length=i:=by have:=congrArg List.length hdat; rwa [List.length_map,List.length_map,List.length_range] at this
  have hBle:=hB.le
  refine CodeF.fixD 3 (ch:=chB) rfl fun I1 hI1 hBm=>?_
  have hBR:Rds I1 aB i (bks.map Bk.cell):=Rds.of_own hB hBm
  have hbok1:∀ y ∈ bks,BkOk I1 y:=fun y hy=>Rds.mono (hbok y hy) hI1
  rcases hBR.mem with q0 | ⟨bB,oB,cB,TB,fB,rfl,hIB,hcB⟩
  · omega
  have fin:∀ (J:Imm) (chO:List Blk) (aO:Option Addr) (capO:Nat) (gl:List Grp) {k:Nat} {acc:List G3},OwnC chO 3 aO gl.length capO (grpCells gl)→GrpsOk J gl acc→acc++scanK (rbP d 2 i) s2 (i+1 - acc.length) (tail+k) (s3+acc.length) (i - k)=LL∧k=(acc.map fun g=>g.2.2.length+1).sum→scanK (rbP d 2 i) s2 (i+1 - acc.length) (tail+k) (s3+acc.length) (i - k)=[] →
      ∃ chO',[chO]=[chO']∧((¬ ScanOk sl ⟨x1,(2:Nat),i,x4,x5,x6,x7⟩ ⟨s1,s2,s3,tail⟩∧Value.tuple #[.slice aO gl.length capO,.int .i64 ((tail+k) % i:Nat),.int .i64 0]=.tuple #[.slice none 0 0,.int .i64 0,.int .i64 2]) ∨
       (ScanOk sl ⟨x1,(2:Nat),i,x4,x5,x6,x7⟩ ⟨s1,s2,s3,tail⟩∧false=true∧Value.tuple #[.slice aO gl.length capO,.int .i64 ((tail+k) % i:Nat),.int .i64 0]=.tuple #[.slice none 0 0,.int .i64 0,.int .i64 6]) ∨
       (ScanOk sl ⟨x1,(2:Nat),i,x4,x5,x6,x7⟩ ⟨s1,s2,s3,tail⟩∧false=false∧∃ aO' capO' gl',Value.tuple #[.slice aO gl.length capO,.int .i64 ((tail+k) % i:Nat),.int .i64 0]=.tuple #[.slice aO' gl'.length capO',.int .i64 (placeP (layL sl).toNat (tail:Int).toNat (scanL d ⟨s1,s2,s3,tail⟩):Nat),.int .i64 0]∧OwnC chO' 3 aO' gl'.length capO' (grpCells gl')∧GrpsOk J gl' (scanL d ⟨s1,s2,s3,tail⟩))):=by
    intro J chO aO capO gl k acc h1 h2 h3 h4
    obtain ⟨h3,h5⟩:=h3
    rw [h4,List.append_nil] at h3
    subst h3
    refine ⟨chO,rfl,.inr (.inr ⟨hok,rfl,aO,capO,gl,?_,h1,by rw [← hLe]; exact h2⟩)⟩
    rw [hlbn,← hLe,placeP,← h5]; rfl
  refine CodeF.loopD [3,4,5,11,13,14] (fun vs J' S'=>∃ (k:Nat) (aO:Option Addr) (capO:Nat) (chO:List Blk) (gl:List Grp) (acc:List G3),k≤i∧acc.length≤k∧OwnC chO 3 aO gl.length capO (grpCells gl)∧GrpsOk J' gl acc∧(acc++scanK (rbP d 2 i) s2 (i+1 - acc.length) (tail+k) (s3+acc.length) (i - k)=LL∧k=(acc.map fun g=>g.2.2.length+1).sum)∧I1.le J' ∧
      vs=[.pointer (some ⟨b3,0,none⟩),.pointer (some ⟨b4,0,none⟩),.pointer (some ⟨b5,0,none⟩),.slice (some ⟨bB,oB,none⟩) i capB,.slice aO gl.length capO,.int .i64 k] ∧
      S'=[[(b3,row [.slice sa sl sc,.slice wa gs.length wc,.int .i64 d.count,.bool false,.int .i64 (gv d.arm),.int .i64 (gv d.fault)] 76)],[(b4,row [.int .i64 x1,.int .i64 (2:Nat),.int .i64 i,.int .i64 x4,.int .i64 x5,.int .i64 x6,.int .i64 x7] 45)],sBoxS b5 ⟨s1,s2,s3,tail⟩,[],chO])
    (fun vs _ _=>match vs with | [_,_,_,_,_,.int _ k]=>((i:Int) - k).toNat | _=>0) ?_ ?_
  · exact ⟨_,Drop.and (Drop.refl _),0,none,0,[],[],[],by omega,Nat.le_refl _,OwnC.nil _ _,⟨by simp,rfl⟩,⟨by rw [hLe,hsc]; simp,rfl⟩,Imm.le_refl _,rfl,rfl⟩
  rintro vs gE2 J' S' hJ' ⟨k,aO,capO,chO,gl,acc,hk,hak,hO,hgl,hacc,hle,rfl,rfl⟩
  have hgla:=hgl.len
  refine CmpD.split (fun (d1:(k:Int) < i)=>?_) (fun (d1:¬ (k:Int) < i)=>?_)
  rotate_left
  · obtain rfl:k=i:=by omega
    skip
    refine CodeF.sched [[],[],[1],[],[1,2,3],[],[5],[1,2,3,4,5,6],[0],[0,1,2,3,4,5,6,7,8],[0,1,2,3,4,5,6,7,8,9]] [0,1,2,3,4,5,6,7,8,9,10] (by kernel_rfl) ?_
    repeat (first | refine LoadP.at 2 rfl _ rfl rfl ?_)
    refine ToD.to ((tail+k:Nat):Int) (by show IntKind.i64.wrap ((tail:Int)+(k:Int))=_; rw [wrap_i64 (by omega) (by omega)]; omega) ?_
    repeat (first | refine LoadP.at 1 rfl _ rfl rfl ?_)
    refine Chk.mk (by first | (show (i:Int)≠0; omega) | (show (k:Int)≠0; omega)) ?_
    refine ToD.to _ (tmod_nat _ _) ?_
    skip
    exact Done.mk ⟨[chO],Drop.pick [4] _ rfl,fin _ _ _ _ _ hO hgl hacc (scanK_stop fun e s l hg=>by have:=(grpP_room hg).1; omega)⟩
  have hki:k < bks.length:=by omega
  have hbkd:(bks[k]).data=rbP d 2 i (tail+k):=by
    have:=congrArg (·[k]?) hdat
    simp only [List.getElem?_map,List.getElem?_range (show k < i by omega),Option.map_some,List.getElem?_eq_getElem hki,Option.some.injEq] at this
    exact this
  have hbkc:(bks.map Bk.cell)[k]?=some (bks[k]).cell:=by rw [List.getElem?_map,List.getElem?_eq_getElem hki]; rfl
  have hbko:=Rds.mono (hbok1 _ (List.getElem_mem hki)) hle
  obtain ⟨bk,hbk⟩:∃ bk,bk=bks[k]:=⟨_,rfl⟩
  rw [← hbk] at hbkd hbkc hbko
  refine Chk.mk (by omega) ?_
  refine LoadD.imm (hle _ _ hIB) [bk.cell] (take_get hcB hbkc) rfl ?_
  refine Tri.free (r6_Head hbko (by omega)) ?_
  rintro v _ _ hJ ⟨rfl,rfl⟩
  rw [headV,hbkd]
  have hstop:∀ p,hdP (rbP d 2 i (tail+k))=some p→¬ ((p.1:Int)=s2∧(p.2.1:Int)=s3+acc.length∧p.2.2.length+1≤i - k)→scanK (rbP d 2 i) s2 (i+1 - acc.length) (tail+k) (s3+acc.length) (i - k)=[]:=by
    intro p hp hno
    refine scanK_stop fun e s l hg h'=>hno ?_
    obtain ⟨l',q1,q2,q3⟩:=grpP_hd hg
    rw [hp,Option.some.injEq] at q1
    subst q1
    exact ⟨h'.1,h'.2,by dsimp only; omega⟩
  cases hd:hdP (rbP d 2 i (tail+k)) with
  | none =>
    dsimp only
    skip
    refine CodeF.sched [[],[],[1],[],[1,2,3],[],[5],[1,2,3,4,5,6],[0],[0,1,2,3,4,5,6,7,8],[0,1,2,3,4,5,6,7,8,9]] [0,1,2,3,4,5,6,7,8,9,10] (by kernel_rfl) ?_
    repeat (first | refine LoadP.at 2 rfl _ rfl rfl ?_)
    refine ToD.to ((tail+k:Nat):Int) (by show IntKind.i64.wrap ((tail:Int)+(k:Int))=_; rw [wrap_i64 (by omega) (by omega)]; omega) ?_
    repeat (first | refine LoadP.at 1 rfl _ rfl rfl ?_)
    refine Chk.mk (by first | (show (i:Int)≠0; omega) | (show (k:Int)≠0; omega)) ?_
    refine ToD.to _ (tmod_nat _ _) ?_
    skip
    exact Done.mk ⟨[chO],Drop.pick [4] _ rfl,fin _ _ _ _ _ hO hgl hacc (scanK_stop fun e s l hg=>by obtain ⟨l',q1,_⟩:=grpP_hd hg; rw [hd] at q1; cases q1)⟩
  | some p =>
  obtain ⟨e,sq,l⟩:=p
  have hstop:=hstop _ hd
  have hpr:=(hdP_some hd).2.2.2.1
  have hl32:=hpr.2.2.2.2.2.1
  have hl1:=hpr.2.2.2.2.1
  have hsq:=hpr.2.2.2.1
  have hgk:gl.length≤i:=by omega
  dsimp only at hstop ⊢
  repeat (first | refine LoadD.own 2 rfl _ rfl rfl ?_)
  refine CmpD.split (fun (d2:(e:Int)=s2)=>?_) (fun (d2:¬ (e:Int)=s2)=>?_)
  rotate_left
  · skip
    refine CodeF.sched [[],[],[1],[],[1,2,3],[],[5],[1,2,3,4,5,6],[0],[0,1,2,3,4,5,6,7,8],[0,1,2,3,4,5,6,7,8,9]] [0,1,2,3,4,5,6,7,8,9,10] (by kernel_rfl) ?_
    repeat (first | refine LoadP.at 2 rfl _ rfl rfl ?_)
    refine ToD.to ((tail+k:Nat):Int) (by show IntKind.i64.wrap ((tail:Int)+(k:Int))=_; rw [wrap_i64 (by omega) (by omega)]; omega) ?_
    repeat (first | refine LoadP.at 1 rfl _ rfl rfl ?_)
    refine Chk.mk (by first | (show (i:Int)≠0; omega) | (show (k:Int)≠0; omega)) ?_
    refine ToD.to _ (tmod_nat _ _) ?_
    skip
    exact Done.mk ⟨[chO],Drop.pick [4] _ rfl,fin _ _ _ _ _ hO hgl hacc (hstop fun h'=>d2 h'.1)⟩
  repeat (first | refine LoadD.own 2 rfl _ rfl rfl ?_)
  refine ToD.to (s3+gl.length) (by show IntKind.i64.wrap (s3+(gl.length:Int))=_; rw [wrap_i64 (by omega) (by omega)]) ?_
  refine CmpD.split (fun (d3:(sq:Int)=s3+gl.length)=>?_) (fun (d3:¬ (sq:Int)=s3+gl.length)=>?_)
  rotate_left
  · skip
    refine CodeF.sched [[],[],[1],[],[1,2,3],[],[5],[1,2,3,4,5,6],[0],[0,1,2,3,4,5,6,7,8],[0,1,2,3,4,5,6,7,8,9]] [0,1,2,3,4,5,6,7,8,9,10] (by kernel_rfl) ?_
    repeat (first | refine LoadP.at 2 rfl _ rfl rfl ?_)
    refine ToD.to ((tail+k:Nat):Int) (by show IntKind.i64.wrap ((tail:Int)+(k:Int))=_; rw [wrap_i64 (by omega) (by omega)]; omega) ?_
    repeat (first | refine LoadP.at 1 rfl _ rfl rfl ?_)
    refine Chk.mk (by first | (show (i:Int)≠0; omega) | (show (k:Int)≠0; omega)) ?_
    refine ToD.to _ (tmod_nat _ _) ?_
    skip
    exact Done.mk ⟨[chO],Drop.pick [4] _ rfl,fin _ _ _ _ _ hO hgl hacc (hstop fun h'=>d3 (by omega))⟩
  refine ToD.to ((k+l.length:Nat):Int) (by rw [wrap_i64 (by omega) (by omega)]; omega) ?_
  refine ToD.to ((k+l.length+1:Nat):Int) (by rw [wrap_i64 (by omega) (by omega)]; omega) ?_
  refine CmpD.split (fun (d4:(i:Int) < (k+l.length+1:Nat))=>?_) (fun (d4:¬ (i:Int) < (k+l.length+1:Nat))=>?_)
  · skip
    refine CodeF.sched [[],[],[1],[],[1,2,3],[],[5],[1,2,3,4,5,6],[0],[0,1,2,3,4,5,6,7,8],[0,1,2,3,4,5,6,7,8,9]] [0,1,2,3,4,5,6,7,8,9,10] (by kernel_rfl) ?_
    repeat (first | refine LoadP.at 2 rfl _ rfl rfl ?_)
    refine ToD.to ((tail+k:Nat):Int) (by show IntKind.i64.wrap ((tail:Int)+(k:Int))=_; rw [wrap_i64 (by omega) (by omega)]; omega) ?_
    repeat (first | refine LoadP.at 1 rfl _ rfl rfl ?_)
    refine Chk.mk (by first | (show (i:Int)≠0; omega) | (show (k:Int)≠0; omega)) ?_
    refine ToD.to _ (tmod_nat _ _) ?_
    skip
    exact Done.mk ⟨[chO],Drop.pick [4] _ rfl,fin _ _ _ _ _ hO hgl hacc (hstop fun h'=>by omega)⟩
  refine ToD.to ((k+l.length:Nat):Int) (by rw [wrap_i64 (by omega) (by omega)]; omega) ?_
  refine ToD.to ((k+l.length+1:Nat):Int) (by rw [wrap_i64 (by omega) (by omega)]; omega) ?_
  refine sliceD tabOk rfl rfl rfl rfl k (k+l.length+1) capB ⟨_,rfl⟩ ⟨_,rfl⟩ rfl (.inl rfl) (by omega) ?_
  have hpart:=(slC_part ((hBR.mono hle).slC (S:=[])) (cap:=capB) k (l.length+1) (by omega) (by omega) hBle).rds
  rw [← List.map_drop,← List.map_take] at hpart
  have hget:=r6_Get J' _ (l.length+1) (capB - k) ((bks.drop k).take (l.length+1)) (by omega) hpart (fun y hy=>Rds.mono (hbok1 y (List.mem_of_mem_drop (List.mem_of_mem_take hy))) hle)
  have hdd:((bks.drop k).take (l.length+1)).map Bk.data=(List.range (l.length+1)).map fun j=>rbP d 2 i (tail+k+j):=by
    rw [List.map_take,List.map_drop,hdat]
    refine getElem_eq_of (by simp; omega) fun j j1 j2=>?_
    simp [Nat.add_assoc]
  rw [hdd,← grpP_get (room:=i - k) hd (by omega)] at hget
  rw [show k+l.length+1 - k=l.length+1 by omega]
  refine Tri.free hget ?_
  rintro v J2 _ hJ2 (⟨hno,rfl⟩ | ⟨e2,s2',l2,hso,aI,capI,gsI,rfl,hgs,hgp⟩)
  · have hgl:=hgl.mono hJ2
    conv=>whnf
    intro b19
    repeat (first | refine StoreD.st 5 rfl rfl rfl ?_ | refine CmpD.no (by decide) ?_)
    refine CodeF.sched [[],[],[1],[],[1,2,3],[],[5],[1,2,3,4,5,6],[0],[0,1,2,3,4,5,6,7,8],[0,1,2,3,4,5,6,7,8,9]] [0,1,2,3,4,5,6,7,8,9,10] (by kernel_rfl) ?_
    repeat (first | refine LoadP.at 2 rfl _ rfl rfl ?_)
    refine ToD.to ((tail+k:Nat):Int) (by show IntKind.i64.wrap ((tail:Int)+(k:Int))=_; rw [wrap_i64 (by omega) (by omega)]; omega) ?_
    repeat (first | refine LoadP.at 1 rfl _ rfl rfl ?_)
    refine Chk.mk (by first | (show (i:Int)≠0; omega) | (show (k:Int)≠0; omega)) ?_
    refine ToD.to _ (tmod_nat _ _) ?_
    skip
    exact Done.mk ⟨[chO],Drop.pick [4] _ rfl,fin _ _ _ _ _ hO hgl hacc (scanK_stop fun e s l hg=>by rw [hno] at hg; cases hg)⟩
  · obtain ⟨l',q1,q2,q3⟩:=grpP_hd hso
    rw [hd,Option.some.injEq] at q1
    cases q1
    have hgil:gsI.length=l.length:=by rw [← q2.symm.trans rfl,← hgp,List.length_map]
    conv=>whnf
    intro b19
    repeat (first | refine LoadD.own 5 rfl _ rfl rfl ?_ | refine StoreD.st 5 rfl rfl rfl ?_ | refine CmpD.yes rfl ?_)
    conv=>whnf
    intro bN
    refine appendD tabOk rfl rfl rfl rfl rfl rfl rfl 4 rfl hO (SrcOk.slice (n:=1) (news:=grpCells [⟨e,sq,aI,capI,gsI⟩]) tabOk rfl ((OwnC.whole (len:=1) (size:=3) rfl).slC 6 rfl) (by intro v hv; simp [grpCells] at hv; rcases hv with rfl | rfl | rfl <;> rfl)) rfl (by show (gl.length+1) * 40≤_; omega) (by omega) ?_
    intro a2 cap2 ch2 hO2
    skip
    refine ToD.to ((k+l.length:Nat):Int) (by rw [wrap_i64 (by omega) (by omega)]; omega) ?_
    refine ToD.to ((k+l.length+1:Nat):Int) (by rw [wrap_i64 (by omega) (by omega)]; omega) ?_
    have hll3:(gl++[⟨e,sq,aI,capI,gsI⟩]:List Grp).length=gl.length+1:=by simp
    refine ⟨_,Drop.pick [0,1,2,3,4] _ rfl,⟨k+l.length+1,a2,cap2,ch2,gl++[⟨e,sq,aI,capI,gsI⟩],acc++[(e,sq,l2)],by omega,by simp; omega,?_,⟨?_,?_⟩,⟨?_,?_⟩,Imm.le_trans hle hJ2,?_,rfl⟩,?_⟩
    · rw [hll3,grpCells_snoc]; exact hO2
    · intro g hg
      rcases List.mem_append.1 hg with hg | hg
      · exact (hgl.mono hJ2).each g hg
      · simp only [List.mem_singleton] at hg
        subst hg
        exact hgs
    · rw [List.map_append,List.map_append,hgl.g3,List.map_singleton,List.map_singleton]
      show _++[((e:Int),(sq:Int),gsI.map Img.pr)]=_
      rw [hgp]; rfl
    · rw [← hacc.1]
      obtain ⟨f,hf⟩:∃ f,i+1 - acc.length=f+1:=⟨i - acc.length,by omega⟩
      rw [hf,scanK,hso]
      dsimp only
      rw [if_pos ⟨d2,by omega⟩,List.append_assoc,List.length_append,List.length_singleton,List.singleton_append]
      rw [show i+1 - (acc.length+1)=f by omega,show tail+(k+l.length+1)=tail+k+(l2.length+1) by omega,show i - (k+l.length+1)=i - k - (l2.length+1) by omega,show s3+((acc.length+1:Nat):Int)=s3+acc.length+1 by omega]
    · rw [List.map_append,List.sum_append,← hacc.2]
      simp; omega
    · rw [hll3]; rfl
    · show ((i:Int) - ((k+l.length+1:Nat):Int)).toNat < ((i:Int) - k).toNat; omega
end Go.Proofs.YtegdcjnjnoeinaaGreat
namespace Go.Proofs.YtegdcjnjnoeinaaGreat
open Go.RowKit Go.Sl
set_option maxRecDepth 20000
end Go.Proofs.YtegdcjnjnoeinaaGreat
namespace Go.Proofs.YtegdcjnjnoeinaaGreat
open Go.RowKit Go.Sl
set_option maxRecDepth 20000
end Go.Proofs.YtegdcjnjnoeinaaGreat
namespace Go.Proofs.YtegdcjnjnoeinaaGreat
open Go.RowKit Go.Sl
set_option maxRecDepth 20000
structure Bs where
  a:Option Addr
  len:Nat
  cap:Nat
  data:Dat
@[reducible] def Bs.cell (b:Bs):Value:=.slice b.a b.len b.cap
end Go.Proofs.YtegdcjnjnoeinaaGreat
namespace Go.Proofs.YtegdcjnjnoeinaaGreat
open Go.RowKit Go.Sl
set_option maxRecDepth 20000
def Told (J:Imm) (v:Value) (L:List G3) (at_ er:Int):Prop:=∃ aO capO gl,v=.tuple #[.slice aO gl.length capO,.int .i64 at_,.int .i64 er]∧Rds J aO (gl.length * 3) (grpCells gl)∧GrpsOk J gl L
end Go.Proofs.YtegdcjnjnoeinaaGreat
namespace Go.Proofs.YtegdcjnjnoeinaaGreat
open Go.RowKit Go.Sl
set_option maxRecDepth 20000
theorem scanL64 {d:DSt} (hlen:d.now.length=64) (s:Sup):scanL d s=scanK (rbP d 2 16) s.epoch 17 s.tail.toNat s.seq 16:=by
  unfold scanL
  rw [hlen]
  show scanK (rbP d 2 (layL (64:Int)).toNat) s.epoch ((layL (64:Int)).toNat+1) s.tail.toNat s.seq (layL (64:Int)).toNat=_
  rw [layL64]; rfl
@[reducible] def nA:List PImg:=im9 1 0
@[reducible] def nB:List PImg:=im9 2 1
end Go.Proofs.YtegdcjnjnoeinaaGreat
namespace Go.Proofs.YtegdcjnjnoeinaaGreat
open Go.RowKit Go.Sl
set_option maxRecDepth 20000
def put5 (l m:Dat) (i:Nat):Dat:=l.take (i * 512)++m++l.drop (i * 512+512)
def tornK (old new:Dat) (sec:Nat):Nat→Dat
  | 0=>old
  | k+1=>if sec / 2 ^ k % 2=1 then put5 (tornK old new sec k) ((new.drop (k * 512)).take 512) k else tornK old new sec k
attribute [irreducible] tornK
end Go.Proofs.YtegdcjnjnoeinaaGreat
namespace Go.Proofs.YtegdcjnjnoeinaaGreat
open Go.RowKit Go.Sl
set_option maxRecDepth 20000
end Go.Proofs.YtegdcjnjnoeinaaGreat
namespace Go.Proofs.YtegdcjnjnoeinaaGreat
open Go.RowKit Go.Sl
set_option maxRecDepth 20000
end Go.Proofs.YtegdcjnjnoeinaaGreat
namespace Go.Proofs.YtegdcjnjnoeinaaGreat
open Go.RowKit Go.Sl
set_option maxRecDepth 20000
def wrC:List PImg→DSt→DSt
  | [],d=>d
  | g :: l,d=>wrC l (d.put g.1 g.2)
theorem wrC_imgs:∀ (l:List PImg) (d:DSt),d.Calm→DoOk d l→wrImgs l d=(wrC l d,0)
  | [],_,_,_=>rfl
  | g :: l,d,hc,h=>by
    obtain ⟨h1,h2,h3⟩:=h g (by simp)
    rw [wrImgs,DSt.write_calm hc ⟨by omega,h2⟩ h3,wrC]
    simp only [ne_eq,not_true_eq_false,if_false]
    exact wrC_imgs l _ (hc.put _ _) fun x hx=>by
      have:=h x (by simp [hx])
      rw [DSt.put_len]; exact this
theorem wrC_calm:∀ (l:List PImg) (d:DSt),d.Calm→(wrC l d).Calm
  | [],_,h=>h
  | _ :: l,_,h=>wrC_calm l _ (h.put _ _)
theorem wrC_now:∀ (l:List PImg) (d:DSt),(∀ g ∈ l,2≤g.1)→(∀ g ∈ l,g.1 < d.now.length)→(wrC l d).now.length=d.now.length∧∀ n:Nat,n < d.now.length→(wrC l d).now[n]?=match lastD l n with
    | some x=>some x
    | none=>d.now[n]?:=by
  intro l
  refine snoc_ind (p:=fun l:List PImg=>∀ d:DSt,(∀ g ∈ l,2≤g.1)→(∀ g ∈ l,g.1 < (d.now.length:Int))→(wrC l d).now.length=d.now.length∧∀ n:Nat,n < d.now.length→(wrC l d).now[n]?=match lastD l n with
    | some x=>some x
    | none=>d.now[n]?) ?_ ?_ l
  · intro d _ _; exact ⟨rfl,fun n _=>rfl⟩
  · intro l g ih d h2 h3
    have e:∀ (l:List PImg) (d:DSt),wrC (l++[g]) d=(wrC l d).put g.1 g.2:=by
      intro l
      induction l with
      | nil=>intro d; rfl
      | cons x l ih2=>intro d; exact ih2 _
    obtain ⟨q1,q2⟩:=ih d (fun x hx=>h2 x (by simp [hx])) (fun x hx=>h3 x (by simp [hx]))
    rw [e]
    refine ⟨by rw [DSt.put_len]; exact q1,fun n hn=>?_⟩
    have hg2:=h2 g (by simp)
    have hg3:=h3 g (by simp)
    rw [lastD_snoc]
    show ((wrC l d).now.set g.1.toNat g.2)[n]?=_
    by_cases hgn:g.1=n
    · rw [if_pos hgn,show g.1.toNat=n by omega,List.getElem?_set_self (by omega)]
    · rw [if_neg hgn,List.getElem?_set_ne (by omega)]
      exact q2 n hn
end Go.Proofs.YtegdcjnjnoeinaaGreat
namespace Go.Proofs.YtegdcjnjnoeinaaGreat
open Go.RowKit Go.Sl
set_option maxRecDepth 20000
theorem lastD_mem:∀ (l:List PImg) (n:Int) (x:Dat),lastD l n=some x→∃ g ∈ l,g.1=n∧g.2=x:=by
  intro l
  refine snoc_ind (p:=fun l:List PImg=>∀ (n:Int) (x:Dat),lastD l n=some x→∃ g ∈ l,g.1=n∧g.2=x) ?_ ?_ l
  · intro n x h; cases h
  · intro l g ih n x h
    rw [lastD_snoc] at h
    split at h
    · rename_i hg
      exact ⟨g,by simp,hg,Option.some.inj h⟩
    · obtain ⟨y,hy,h1⟩:=ih n x h
      exact ⟨y,by simp [hy],h1⟩
theorem lastD_none {l:List PImg} {n:Int} (h:n ∉ l.map Prod.fst):lastD l n=none:=by
  cases hd:lastD l n with
  | none=>rfl
  | some x =>
    obtain ⟨g,hg,h1,_⟩:=lastD_mem l n x hd
    exact absurd (List.mem_map.2 ⟨g,hg,h1⟩) h
end Go.Proofs.YtegdcjnjnoeinaaGreat
namespace Go.Proofs.YtegdcjnjnoeinaaGreat
open Go.RowKit Go.Sl
set_option maxRecDepth 20000
theorem scanK_right {rb:Nat→Dat} {ep:Int}:∀ (f at_:Nat) (seq:Int) (room:Nat),∀ g ∈ scanK rb ep f at_ seq room,RightP g.1 g.2.1 g.2.2
  | 0,_,_,_,g,hg=>by simp [scanK] at hg
  | f+1,at_,seq,room,g,hg=>by
    rw [scanK] at hg
    cases hp:grpP rb at_ room with
    | none=>rw [hp] at hg; simp at hg
    | some p =>
      obtain ⟨e,s,l⟩:=p
      rw [hp] at hg
      dsimp only at hg
      split at hg
      · rcases List.mem_cons.1 hg with rfl | hg
        · unfold grpP at hp
          split at hp
          · cases hp
          · split at hp
            · exact (getP_some hp).1
            · cases hp
        · exact scanK_right f _ _ _ g hg
      · simp at hg
theorem home_mem {l:List PImg} {g:PImg} (h:g ∈ homeP l):g ∈ l:=by
  unfold homeP at h
  obtain ⟨n,hn,rfl⟩:=List.mem_map.1 h
  have h1:=(sortI_perm _).mem_iff.1 hn
  have h2:=(mem_lastP l n).1 h1
  rw [lookup_lastP]
  cases hd:lastD l n with
  | none=>rw [hd] at h2; simp at h2
  | some x =>
    obtain ⟨g,hg,h3,h4⟩:=lastD_mem l n x hd
    show (n,x) ∈ l
    rw [← h3,← h4]
    exact hg
theorem homeP_len (l:List PImg):(homeP l).length≤l.length:=by
  have e2:(homeP l).length=(lastP l).length:=by unfold homeP; rw [List.length_map,(sortI_perm _).length_eq,List.length_map]
  have h:∀ (l ms:List PImg),(l.foldl pput ms).length≤ms.length+l.length:=by
    intro l
    induction l with
    | nil=>intro ms; simp
    | cons g l ih =>
      intro ms
      have h1:=ih (pput ms g)
      have h2:(pput ms g).length≤ms.length+1:=by unfold pput; split <;> simp
      rw [List.foldl_cons,List.length_cons]; omega
  have:=h l []
  rw [e2]; simpa [lastP] using this
theorem choose_right {a b:Option Sup} {s:Sup} {slot:Int} (ha:∀ x,a=some x→RightS x) (hb:∀ x,b=some x→RightS x) (h:chooseP a b=(s,slot,true)):RightS s∧(slot=0∨slot=1):=by
  cases a with
  | none =>
    cases b with
    | none=>simp [chooseP] at h
    | some y =>
      simp only [chooseP,Prod.mk.injEq] at h
      obtain ⟨rfl,rfl,_⟩:=h
      exact ⟨hb _ rfl,.inr rfl⟩
  | some x =>
    cases b with
    | none =>
      simp only [chooseP,Prod.mk.injEq] at h
      obtain ⟨rfl,rfl,_⟩:=h
      exact ⟨ha _ rfl,.inl rfl⟩
    | some y =>
      simp only [chooseP] at h
      split at h
      · simp only [Prod.mk.injEq] at h
        obtain ⟨rfl,rfl,_⟩:=h
        exact ⟨ha _ rfl,.inl rfl⟩
      · simp only [Prod.mk.injEq] at h
        obtain ⟨rfl,rfl,_⟩:=h
        exact ⟨hb _ rfl,.inr rfl⟩
theorem getS_right (b:Dat):∀ x,getS b=some x→RightS x:=fun _ h=>(getS_some.1 h).1
theorem found_ok {d:DSt} (h:(foundP d).2.2=0):d.down=false∧RightS (foundP d).1∧((foundP d).2.1=0∨(foundP d).2.1=1)∧(foundP d).1.blocks=d.now.length∧(foundP d).1.tail < layL d.now.length∧(foundP d).1.epoch < 8388608:=by
  have hc:=@choose_right (getS (d.now.getD 0 [])) (getS (d.now.getD 1 []))
  unfold foundP at h ⊢
  generalize chooseP (getS (d.now.getD 0 [])) (getS (d.now.getD 1 []))=cp at *
  obtain ⟨s,slot,ok⟩:=cp
  by_cases hd:d.down=true
  · rw [if_pos hd] at h; simp at h
  rw [if_neg hd] at h ⊢
  dsimp only at h ⊢
  split at h
  · simp at h
  · rename_i hn
    rw [if_neg hn]
    have h1:ok=true:=by
      cases ok
      · exact absurd (.inl rfl) hn
      · rfl
    subst h1
    obtain ⟨r1,r2⟩:=hc (getS_right _) (getS_right _) rfl
    refine ⟨by simpa using hd,r1,r2,?_,?_,?_⟩
    · exact Classical.byContradiction fun h=>hn (.inr (.inl h))
    · exact Classical.byContradiction fun h=>hn (.inr (.inr (.inl (by have h:¬ s.tail < layL d.now.length:=h; omega))))
    · exact Classical.byContradiction fun h=>hn (.inr (.inr (.inr (by have h:¬ s.epoch < 8388608:=h; omega))))
theorem allP_allG {J:Imm} {gl:List Grp} {l:List G3} (h:GrpsOk J gl l):allP gl=allG l:=by
  have e:=congrArg (fun x=>x.flatMap fun p:Int × Int × List PImg=>p.2.2) h.g3
  simp only [List.flatMap_map] at e
  exact e
theorem DSt.stop_len (d:DSt):d.stop.1.now.length=d.now.length:=by rw [d.stop_same.2.1]
theorem DSt.write_len (d:DSt) (n:Int) (b:Dat):(d.write n b).1.now.length=d.now.length:=by
  unfold DSt.write
  split
  · rfl
  · split
    · rfl
    · split
      · exact d.stop_len
      · show (d.now.set _ _).length=_; rw [List.length_set]
theorem DSt.flush_len (d:DSt):d.flush.1.now.length=d.now.length:=by
  unfold DSt.flush
  split
  · exact d.stop_len
  · exact d.stop_len
theorem wrImgs_len:∀ (l:List PImg) (d:DSt),(wrImgs l d).1.now.length=d.now.length
  | [],_=>rfl
  | g :: l,d=>by
    rw [wrImgs]
    split
    · exact d.write_len _ _
    · rw [wrImgs_len l,d.write_len]
theorem doP_len (d:DSt) (l:List PImg) (s:Sup) (slot:Int):(doP d l s slot).1.now.length=d.now.length:=by
  unfold doP
  split
  · rfl
  split
  · exact wrImgs_len _ _
  split
  · rw [DSt.flush_len,wrImgs_len]
  · unfold lastWr
    split
    · rw [DSt.write_len,DSt.flush_len,wrImgs_len]
    · rw [DSt.flush_len,DSt.write_len,DSt.flush_len,wrImgs_len]
def MountQ (J:Imm) (bD:Nat) (M:DSt × Int × Option VSt) (r:Value) (S':St):Prop:=∃ chD',Dk J bD M.1 chD' ∧
  ((M.2.1≠0∧M.2.2=none∧r=.tuple #[.pointer none,.int .i64 M.2.1]∧S'=[chD']) ∨
   (M.2.1=0∧∃ v bV chV,M.2.2=some v∧r=.tuple #[.pointer (some ⟨bV,0,none⟩),.int .i64 0]∧Vk J bV bD v chV∧S'=[chD',chV]))
set_option maxHeartbeats 4000000 in
theorem vk_Mount {I:Imm} {bD:Nat} {d:DSt} {chD:List Blk} (hD:Dk I bD d chD) (hf:d.Few 700000) :
    Tri Tryz.prog 38 #[.pointer (some ⟨bD,0,none⟩)] I [chD] fun r J S'=>MountQ J bD (mountP d) r S':=by
  have hr:=hD.wf.range
  refine Tri.drop ?_ (fun _ _ _ _ h=>h)
  refine Tri.of (args:=[.pointer (some ⟨bD,0,none⟩)]) tabOk Tryz.func38 rfl (by kernel_rfl) (by kernel_rfl) ?_
  refine Tri.frame1 0 rfl (dk_Size hD) ?_
  rintro r _ A' hJ ⟨rfl,rfl,rfl⟩
  refine ⟨_,rfl,?_⟩
  refine CmpD.no (by show ((d.now.length:Nat):Int)≠0; omega) ?_
  refine Tri.frame1 0 rfl (dk_Size hD) ?_
  rintro r _ A' hJ ⟨rfl,rfl,rfl⟩
  refine ⟨_,rfl,?_⟩
  refine Tri.free (layout_Of d.now.length I) ?_
  rintro r _ _ hJ ⟨rfl,rfl⟩
  unfold mountP
  by_cases h64:d.now.length < 64
  · rw [if_pos h64,layA,if_pos (by omega)]
    conv=>whnf
    intro b4
    repeat (first | refine StoreD.st 1 rfl rfl rfl ?_ | refine CmpD.no (by decide) ?_)
    exact Done.mk ⟨_,Drop.pick [0] _ rfl,chD,hD,.inl ⟨by simp,rfl,rfl,rfl⟩⟩
  rw [if_neg h64,layA,if_neg (by omega)]
  conv=>whnf
  intro b4
  repeat (first | refine LoadD.own 1 rfl _ rfl rfl ?_ | refine StoreD.st 1 rfl rfl rfl ?_ | refine CmpD.yes rfl ?_)
  refine Tri.frame1 0 rfl (v_found hD (by omega)) ?_
  have hfo:=found_ok (d:=d)
  obtain ⟨fp,hfp⟩:∃ fp,fp=foundP d:=⟨_,rfl⟩
  rw [← hfp] at hfo ⊢
  obtain ⟨s,slot,e⟩:=fp
  dsimp only at hfo ⊢
  rintro r J1 A' hJ1 ⟨rfl,hD1,rfl⟩
  refine ⟨_,rfl,?_⟩
  conv=>whnf
  intro b6
  repeat (first | refine StoreD.st 2 rfl rfl rfl ?_)
  by_cases he:e≠0
  · rw [if_pos he]
    refine CmpD.no he ?_
    skip
    exact Done.mk ⟨_,Drop.pick [0] _ rfl,chD,hD1,.inl ⟨he,rfl,rfl,rfl⟩⟩
  rw [if_neg he]
  obtain rfl:e=0:=by omega
  obtain ⟨hdn,hR,hsl,hb,htl,hep⟩:=hfo rfl
  obtain ⟨n,hn⟩:∃ n,n=d.now.length:=⟨_,rfl⟩
  rw [← hn] at hr h64 hb htl ⊢
  have hR':=hR
  obtain ⟨r1,r2,r3,r4,r5,r6,r7,r8⟩:=hR'
  have hlr:=layL_range (n:=(n:Int)) (by omega)
  repeat (first | refine LoadD.own 1 rfl _ rfl rfl ?_ | refine LoadD.own 2 rfl _ rfl rfl ?_ | refine CmpD.yes rfl ?_)
  refine Tri.frame1 0 rfl (scan_Groups hD1 (layOf n) s) ?_
  have hsok:ScanOk d.now.length (layOf n) s:=by
    rw [← hn]
    exact ⟨by omega,rfl,hb,r7,htl,r3,r4,r5,r6⟩
  have hbd:=scan_bound (rb:=rbP d 2 (layL (d.now.length:Int)).toNat) (ep:=s.epoch) ((layL (d.now.length:Int)).toNat+1) s.tail.toNat s.seq (layL (d.now.length:Int)).toNat
  have hrt:=scanK_right (rb:=rbP d 2 (layL (d.now.length:Int)).toNat) (ep:=s.epoch) ((layL (d.now.length:Int)).toNat+1) s.tail.toNat s.seq (layL (d.now.length:Int)).toNat
  rw [show scanK (rbP d 2 (layL (d.now.length:Int)).toNat) s.epoch ((layL (d.now.length:Int)).toNat+1) s.tail.toNat s.seq (layL (d.now.length:Int)).toNat=scanL d s from rfl] at hbd hrt
  rw [← hn] at hbd
  obtain ⟨L,hL⟩:∃ L,L=scanL d s:=⟨_,rfl⟩
  rw [← hL] at hbd hrt ⊢
  rintro r J2 A' hJ2 ⟨rfl,(⟨h,_⟩ | ⟨_,h,_⟩ | ⟨_,_,aO,capO,gl,rfl,hG,hGk⟩)⟩
  · exact absurd hsok h
  · rw [hdn] at h; exact Bool.noConfusion h
  refine ⟨_,rfl,?_⟩
  have hpl:allP gl=allG L:=allP_allG hGk
  have hgl:=hGk.len
  rw [← hn]
  obtain ⟨pl,hplc⟩:∃ pl,pl=placeP (layL (n:Int)).toNat s.tail.toNat L:=⟨_,rfl⟩
  rw [← hplc]
  have hpl16:pl < (layL (n:Int)).toNat:=by rw [hplc]; exact Nat.mod_lt _ (by omega)
  have hsum:∀ (l:List G3),(allG l).length≤(l.map fun g=>g.2.2.length+1).sum:=by
    intro l
    induction l with
    | nil=>simp [allG]
    | cons g l ih=>simp [allG] at ih ⊢; omega
  have hall:(allI gl).length≤1000:=by
    have h1:(allP gl).length=(allI gl).length:=by rw [allP_eq,List.length_map]
    have h2:=hsum L
    rw [← hpl] at h2
    omega
  have h4:∀ g ∈ allG L,g.2.length=4096:=by
    intro g hg
    obtain ⟨q,hq,hgq⟩:=List.mem_flatMap.1 hg
    exact ((hrt q hq).2.2.2.2.2.2.1 g hgq).2.2
  have hIo:∀ g ∈ allI gl,ImgOk J2 g:=by
    intro g hg
    obtain ⟨q,hq,hgq⟩:=List.mem_flatMap.1 hg
    exact (hGk.each q hq).2 g hgq
  have hfew:∀ g ∈ allI gl,g.len≤100000000:=by
    intro g hg
    have h1:=(hIo g hg).2.len
    rw [bts_length] at h1
    have h2:=h4 g.pr (by rw [← hpl,allP_eq]; exact List.mem_map_of_mem hg)
    have h3:g.data.length=4096:=h2
    omega
  have hGR:GrpsR J2 [] aO gl:=⟨hG.slC,fun g hg=>⟨⟨(hGk.each g hg).1.slC,fun q hq=>⟨((hGk.each g hg).2 q hq).2.slC⟩⟩,by
    have:g.gs.length≤(allI gl).length:=by
      obtain ⟨x,y,rfl⟩:=List.append_of_mem hg
      simp [allI]; omega
    omega⟩⟩
  have hgll:gl.length≤64:=by omega
  repeat (first | refine LoadD.own 1 rfl _ rfl rfl ?_ | refine CmpD.yes rfl ?_)
  refine Tri.free (home_fix hGR (by omega) (by omega) hfew (layOf n)) ?_
  rw [hpl]
  have hLayOk:LayOk (layOf n):=⟨by show (64:Int)≤n; omega,by show (n:Int)≤512; omega,rfl⟩
  unfold mountL
  rw [← hplc]
  rintro r J3 _ hJ3 (⟨h,_⟩ | ⟨_,hno,rfl⟩ | ⟨_,hhok,aI,capI,outs,rfl,hoR,hopr⟩)
  · exact absurd hLayOk h
  · rw [if_pos (.inl hno)]
    repeat (first | refine CmpD.no (by decide) ?_)
    exact Done.mk ⟨_,Drop.pick [0] _ rfl,chD,hD1.mono (Imm.le_trans hJ2 hJ3),.inl ⟨by simp,rfl,rfl,rfl⟩⟩
  have hle3:=Imm.le_trans hJ2 hJ3
  have hLl:L.length≤64:=by omega
  rw [hgl]
  repeat (first | refine LoadD.own 2 rfl _ rfl rfl ?_ | refine CmpD.yes rfl ?_)
  refine ToD.to (549755813888 - (L.length:Int)) (wrap_i64 (by omega) (by omega)) ?_
  refine CmpD.split (fun (c1:549755813888 - (L.length:Int) < s.seq)=>?_) (fun (c1:¬ 549755813888 - (L.length:Int) < s.seq)=>?_)
  · rw [if_pos (.inr c1)]
    skip
    exact Done.mk ⟨_,Drop.pick [0] _ rfl,chD,hD1.mono hle3,.inl ⟨by simp,rfl,rfl,rfl⟩⟩
  rw [if_neg (by rintro (h | h); exact h hhok; exact c1 h)]
  repeat (first | refine LoadD.own 2 rfl _ rfl rfl ?_)
  refine ToD.to (s.epoch+1) (wrap_i64 (by omega) (by omega)) ?_
  repeat (first | refine LoadD.own 2 rfl _ rfl rfl ?_)
  refine ToD.to (s.seq+L.length) (wrap_i64 (by omega) (by omega)) ?_
  repeat (first | refine LoadD.own 2 rfl _ rfl rfl ?_ | refine StoreD.st 2 rfl rfl rfl ?_)
  refine ToD.to (1 - slot) (wrap_i64 (by omega) (by omega)) ?_
  have hol:outs.length≤1000:=by
    have h1:=homeP_len (allG L)
    rw [← hopr,List.length_map] at h1
    have h2:=hsum L
    omega
  have himg:ImgsOk J3 aI outs:=by
    refine ⟨SlC.rds hoR.sl,fun g hg=>?_⟩
    have hm:=home_mem (l:=allG L) (g:=g.pr) (by rw [← hopr]; exact List.mem_map_of_mem hg)
    have hb2:=hhok _ hm
    refine ⟨?_,SlC.rds (hoR.each g hg).rd⟩
    have e1:(layOf (n:Int)).bi=2+layL n:=rfl
    have e2:(layOf (n:Int)).b=n:=rfl
    rw [e1,e2] at hb2
    have e3:g.pr.1=g.blk:=rfl
    rw [e3] at hb2
    unfold In64; omega
  refine Tri.frame1 0 rfl (dk_Do (hD1.mono hle3) 700000 hf aI capI outs himg (by omega) ⟨s.blocks,s.epoch+1,s.seq+L.length,pl⟩ (1 - slot)) ?_
  rw [hopr]
  have hlen2:=doP_len d (homeP (allG L)) ⟨s.blocks,s.epoch+1,s.seq+L.length,pl⟩ (1 - slot)
  rw [← hn] at hlen2
  generalize doP d (homeP (allG L)) ⟨s.blocks,s.epoch+1,s.seq+L.length,pl⟩ (1 - slot)=dp at *
  obtain ⟨d2,e2⟩:=dp
  dsimp only at hlen2 ⊢
  rintro r J4 A' hJ4 ⟨rfl,chD2,hD2,rfl⟩
  refine ⟨_,rfl,?_⟩
  by_cases he2:e2≠0
  · rw [if_pos he2]
    refine CmpD.no he2 ?_
    skip
    exact Done.mk ⟨_,Drop.pick [0] _ rfl,chD2,hD2,.inl ⟨he2,rfl,rfl,rfl⟩⟩
  rw [if_neg he2]
  obtain rfl:e2=0:=by omega
  repeat (first | refine LoadD.own 1 rfl _ rfl rfl ?_ | refine LoadD.own 2 rfl _ rfl rfl ?_ | refine CmpD.yes rfl ?_)
  have hopk:OpenOk n (layOf n) (s.epoch+1) (s.seq+L.length) pl:=⟨rfl,by omega,by omega,by omega,by omega,by omega,by omega⟩
  refine Tri.frameX (jk_Open hD2 n hlen2 (by omega) (layOf n) (s.epoch+1) (s.seq+L.length) pl (by unfold In64; omega)) [0] rfl rfl ?_
  rintro r _ A' hJ5 (⟨h,_⟩ | ⟨_,rfl,bJ,chJ,rfl,hj,rfl⟩)
  · exact absurd hopk h
  repeat (first | refine LoadD.own 1 rfl _ rfl rfl ?_ | refine LoadD.own 2 rfl _ rfl rfl ?_ | refine CmpD.yes rfl ?_)
  refine makeMapD rfl ?_
  intro bM
  conv=>whnf
  intro bV
  refine Done.mk ⟨[chD2,vChunk bV bD bJ bM (layOf n) (s.epoch+1) slot false++((bM,.map #[] 0) :: chJ)],(Drop.pick [3,6,5,4] _ rfl).trans (Drop.flat ?_),chD2,hD2,.inr ⟨rfl,⟨openJ n (s.epoch+1) (s.seq+L.length) pl,s.epoch+1,slot,[],false⟩,bV,_,rfl,rfl,⟨bJ,bM,_,chJ,[],rfl,hj,MapR.nil,by simp,rfl⟩,rfl⟩⟩
  simp [St.at]
  rfl
end Go.Proofs.YtegdcjnjnoeinaaGreat
namespace Go.Proofs.YtegdcjnjnoeinaaGreat
open Go.RowKit Go.Sl
set_option maxRecDepth 20000
@[reducible] def rC (s w:Hd) (count:Int) (down:Bool) (arm fault:Int):List Value:=[s.v,w.v,.int .i64 count,.bool down,.int .i64 arm,.int .i64 fault]
theorem RDk.cells {I:Imm} {v:Value} {d:DSt} (h:RDk I v d):∃ (s w:Hd),v=rV s w d.count d.down (gv d.arm) (gv d.fault)∧s.len=d.now.length:=by
  obtain ⟨s,w,bS,gs,rfl,h1,h2,h3,h4⟩:=h.ex
  refine ⟨s,w,rfl,?_⟩
  have e1:=h1.len
  have e2:=congrArg List.length h3
  have e3:=h.wf.len
  rw [List.length_map] at e1 e2
  omega
@[reducible] def jC (s w:Hd) (count:Int) (down:Bool) (arm fault:Int) (x:Lay) (rs rt ru rh ep first:Int) (sz:Hd) (syn:Int) (br:Bool):List Value:=rC s w count down arm fault++(x.vals++[.int .i64 rs,.int .i64 rt,.int .i64 ru,.int .i64 rh,.int .i64 ep,.int .i64 first,sz.v,.int .i64 syn,.bool br])
theorem r8_Open {s w:Hd} {count:Int} {down:Bool} {arm fault:Int} (n:Nat) (hn:s.len=n) (hn2:64≤n∧n≤512) (ep seq tail:Int) (h:OpenOk n (layOf n) ep seq tail) (I:Imm) :
    Tri Tryz.prog 120 #[rV s w count down arm fault,(layOf n).v,.int .i64 ep,.int .i64 seq,.int .i64 tail] I [] fun r J _=>I=J∧r=.tuple #[.agg (jC s w count down arm fault (layOf n) (layL n) tail 0 0 ep seq ⟨none,0,0⟩ (seq - 1) false).toArray,.int .i64 0]:=by
  obtain ⟨sa,sl,sc⟩:=s
  obtain ⟨wa,wl,wc⟩:=w
  dsimp only at hn
  subst hn
  obtain ⟨_,h1,h2,h3,h4,h5,h6⟩:=h
  refine Tri.of (args:=[rV ⟨sa,sl,sc⟩ ⟨wa,wl,wc⟩ count down arm fault,(layOf sl).v,.int .i64 ep,.int .i64 seq,.int .i64 tail]) tabOk Tryz.func120 rfl (by kernel_rfl) (by kernel_rfl) ?_
  conv=>whnf
  intro b5
  conv=>whnf
  intro b6
  conv=>whnf
  intro b10
  repeat (first | refine LoadD.own 0 rfl _ rfl rfl ?_)
  refine Tri.free (ref_Of sl I) ?_
  rintro r _ _ hJ ⟨rfl,rfl⟩
  rw [layA,if_neg (by omega)]
  conv=>whnf
  intro b12
  repeat (first | refine LoadD.own 1 rfl _ rfl rfl ?_ | refine LoadD.own 3 rfl _ rfl rfl ?_ | refine StoreD.st 3 rfl rfl rfl ?_ | refine CmpD.yes rfl ?_)
  refine lay_cmp (layOf sl) (layOf sl) rfl (.inr rfl) rfl rfl ?_
  refine CmpD.yes rfl ?_
  refine CmpD.no (by omega) ?_
  refine CmpD.no (by omega) ?_
  refine CmpD.no (by omega) ?_
  refine CmpD.no (by omega) ?_
  refine CmpD.no (by omega) ?_
  repeat (first | refine LoadD.own 1 rfl _ rfl rfl ?_)
  refine CmpD.no (by show ¬ layL sl≤tail; omega) ?_
  repeat (first | refine LoadD.own 0 rfl _ rfl rfl ?_ | refine LoadD.own 1 rfl _ rfl rfl ?_)
  refine ToD.to (seq - 1) (wrap_i64 (by omega) (by omega)) ?_
  repeat (first | refine LoadD.own 2 rfl _ rfl rfl ?_ | refine StoreD.st 2 rfl rfl rfl ?_)
  exact Done.mk ⟨rfl,rfl⟩
theorem r4_AtD {I:Imm} {v:Value} {d:DSt} (hD:RDk I v d) (hf:d.writes.length≤1000000) (i:Nat) (hi:i < d.now.length) :
    Tri Tryz.prog 116 #[v,.int .i64 i] I [] fun r J _=>I=J∧∃ a len cap,r=.slice a len cap∧len=4096∧Rds I a len (bts (d.now.getD i [])):=by
  have hwf:=hD.wf
  have hsnd:=hD.snd i (by have:=hwf.len; omega)
  obtain ⟨s,w,bS,gs,rfl,h1,h2,h3,h4,h5,h6⟩:=hD.ex
  have hbl:bS.length=d.safe.length:=by rw [← h3,List.length_map]
  have hsl:s.len=bS.length:=by have:=h1.len; rw [List.length_map] at this; exact this.symm
  have hr:=hwf.range
  have hll:=hwf.len
  have hbk:bS[i]?=some bS[i]:=List.getElem?_eq_getElem (by omega)
  have hgl:gs.length=d.writes.length:=by rw [← h6,List.length_map]
  have hdat:bS[i].data=d.safe.getD i []:=by
    have e:=congrArg (·[i]?) h3
    simp only [List.getElem?_map,hbk] at e
    rw [List.getD_eq_getElem?_getD,← e]; rfl
  refine (r4_At s w d.count d.down (gv d.arm) (gv d.fault) bS gs I h1 (by omega) h4 h5 (by omega) i hbk (h2 _ (List.getElem_mem _))).mono ?_
  rintro r J _ hJ ⟨rfl,a,len,cap,rfl,hr2⟩
  rw [hdat,h6] at hr2
  have hx:atP (d.safe.getD i []) d.writes i=d.now.getD i []:=by rw [List.getD_eq_getElem?_getD (l:=d.now),hsnd]; rfl
  rw [hx] at hr2
  refine ⟨rfl,a,len,cap,rfl,?_,hr2⟩
  have:=hr2.len
  rw [bts_length,get_data_len hwf hi] at this
  omega
theorem foundP_up {d:DSt} (h:d.down=false) {cp:Sup × Int × Bool} (hcp:cp=chooseP (getS (d.now.getD 0 [])) (getS (d.now.getD 1 []))) :
    foundP d=if cp.2.2=false∨cp.1.blocks≠d.now.length∨layL d.now.length≤cp.1.tail∨8388608≤cp.1.epoch then (Sup.zero,0,90) else (cp.1,cp.2.1,0):=by
  unfold foundP
  rw [if_neg (by rw [h]; simp),← hcp]
@[reducible] def zr:List Value:=[.int .i64 0,.int .i64 0,.int .i64 0,.int .i64 0,.int .i64 0,.int .i64 0,.int .i64 0,.int .i64 0,.int .i64 0,.int .i64 0,.int .i64 0,.int .i64 0,.int .i64 0,.slice none 0 0,.int .i64 0,.bool false,.int .i64 0,.int .i64 0,.int .i64 0,.int .i64 0,.int .i64 0,.int .i64 0,.int .i64 0,.int .i64 0,.slice none 0 0,.bool false]
@[reducible] def rvC (v:VSt):List Value:=[.int .i64 v.j.lay.b,.int .i64 v.j.lay.l,.int .i64 v.j.lay.lb,.int .i64 v.j.lay.bi,.int .i64 v.j.lay.i,.int .i64 v.j.lay.ib,.int .i64 v.j.lay.d,.int .i64 v.j.s,.int .i64 v.j.t,.int .i64 v.j.u,.int .i64 v.j.h,.int .i64 v.j.epoch,.int .i64 v.j.next,.slice none 0 0,.int .i64 v.j.synced,.bool false,.int .i64 v.j.lay.b,.int .i64 v.j.lay.l,.int .i64 v.j.lay.lb,.int .i64 v.j.lay.bi,.int .i64 v.j.lay.i,.int .i64 v.j.lay.ib,.int .i64 v.j.lay.d,.int .i64 v.slot,.slice none 0 0,.bool false]
def RMount (J:Imm) (M:DSt × Int × Option VSt) (r:Value):Prop:=∃ s w:Hd,RDk J (rV s w M.1.count M.1.down (gv M.1.arm) (gv M.1.fault)) M.1 ∧
  ((M.2.1≠0∧r=.tuple #[.agg (rC s w M.1.count M.1.down (gv M.1.arm) (gv M.1.fault)++zr).toArray,.int .i64 M.2.1]) ∨
   (M.2.1=0∧∃ v,M.2.2=some v∧r=.tuple #[.agg (rC s w M.1.count M.1.down (gv M.1.arm) (gv M.1.fault)++rvC v).toArray,.int .i64 0]))
theorem RMount.err {J:Imm} {d:DSt} {e:Int} {s w:Hd} (h:RDk J (rV s w d.count d.down (gv d.arm) (gv d.fault)) d) (he:e≠0) (r:Value) (hv:r=.tuple #[.agg (rC s w d.count d.down (gv d.arm) (gv d.fault)++zr).toArray,.int .i64 e]):RMount J (d,e,none) r :=
  ⟨s,w,h,.inl ⟨he,hv⟩⟩
theorem allG_sum:∀ (l:List G3),(allG l).length≤(l.map fun g=>g.2.2.length+1).sum:=by
  intro l
  induction l with
  | nil=>simp [allG]
  | cons g l ih=>simp [allG] at ih ⊢; omega
set_option maxHeartbeats 8000000 in
theorem r11_Mount {I:Imm} {v:Value} {d:DSt} (hD:RDk I v d) (hf:d.Few 700000) :
    Tri Tryz.prog 48 #[v] I [] fun r J _=>RMount J (mountP d) r:=by
  have hr:=hD.wf.range
  obtain ⟨⟨sa,sl,sc⟩,⟨wa,wl,wc⟩,rfl,hsl⟩:=hD.cells
  dsimp only at hsl
  subst hsl
  refine Tri.of (args:=[rV ⟨sa,d.now.length,sc⟩ ⟨wa,wl,wc⟩ d.count d.down (gv d.arm) (gv d.fault)]) tabOk Tryz.func48 rfl (by kernel_rfl) (by kernel_rfl) ?_
  conv=>whnf
  intro b1
  conv=>whnf
  intro b2
  conv=>whnf
  intro b4
  repeat (first | refine LoadD.own 0 rfl _ rfl rfl ?_ | refine StoreD.st 2 rfl rfl rfl ?_)
  refine Tri.free (ref_Of d.now.length I) ?_
  rintro r _ _ hJ ⟨rfl,rfl⟩
  unfold mountP
  by_cases h64:d.now.length < 64
  · rw [if_pos h64,layA,if_pos (by omega)]
    conv=>whnf
    intro b5
    repeat (first | refine LoadD.own 1 rfl _ rfl rfl ?_ | refine LoadD.own 2 rfl _ rfl rfl ?_ | refine StoreD.st 1 rfl rfl rfl ?_ | refine StoreD.st 3 rfl rfl rfl ?_ | refine CmpD.no (by decide) ?_)
    exact Done.mk (RMount.err hD (by decide) _ rfl)
  rw [if_neg h64,layA,if_neg (by omega)]
  conv=>whnf
  intro b5
  repeat (first | refine LoadD.own 0 rfl _ rfl rfl ?_ | refine StoreD.st 3 rfl rfl rfl ?_ | refine CmpD.yes rfl ?_)
  have hfo:=found_ok (d:=d)
  cases hdn:d.down
  rotate_left
  · rw [show foundP d=(Sup.zero,0,6) by unfold foundP; rw [if_pos hdn]]
    rw [if_pos (by decide)]
    repeat (first | refine LoadD.own 1 rfl _ rfl rfl ?_ | refine LoadD.own 2 rfl _ rfl rfl ?_ | refine StoreD.st 1 rfl rfl rfl ?_)
    have hD2:=hD
    rw [hdn] at hD2
    exact Done.mk (RMount.err hD (by decide) _ (by rw [hdn]; rfl))
  skip
  obtain ⟨cp,hcp⟩:∃ cp,cp=chooseP (getS (d.now.getD 0 [])) (getS (d.now.getD 1 [])):=⟨_,rfl⟩
  have hfd:=foundP_up hdn hcp
  refine CodeF.cutD [1,2,4,5,7,8,9] (fun vs J' S'=>∃ b7,I=J'∧vs=[.pointer (some ⟨b1,0,none⟩),.pointer (some ⟨b2,0,none⟩),.pointer (some ⟨b4,0,none⟩),.pointer (some ⟨b5,0,none⟩),.pointer (some ⟨b7,0,none⟩),.int .i64 cp.2.1,.bool cp.2.2] ∧
      S'=[[(b1,row (rC ⟨sa,d.now.length,sc⟩ ⟨wa,wl,wc⟩ d.count false (gv d.arm) (gv d.fault)) 76)],[(b2,row (rC ⟨none,0,0⟩ ⟨none,0,0⟩ 0 false 0 0++zr) 87)],[(b4,row (rC ⟨sa,d.now.length,sc⟩ ⟨wa,wl,wc⟩ d.count false (gv d.arm) (gv d.fault)++zr) 87)],[(b5,row (layOf d.now.length).vals 45)],[(b7,row [.int .i64 cp.1.blocks,.int .i64 cp.1.epoch,.int .i64 cp.1.seq,.int .i64 cp.1.tail] 143)]]) ?_ ?_
  · refine CodeF.schedT [[],[0],[],[0,1,2],[0,1,2,3],[0,1,2,3,4],[0,1,2,3,4,5],[0,1,2,3,4,5],[0,1,2,3,4,5],[],[0,1,2,3,4,5,6,9],[0,1,2,3,4,5,6,7,9,10],[0,1,2,3,4,5,6,7,8,9,10,11]] (.rd 0 (.rd 2 (.alt (.ef 1 (.alt (.ef 3 (.alt (.ef 4 (.rd 5 (.rd 6 (.rd 7 (.rd 8 (.ef 9 (.ef 10 (.rd 11 (.rd 12 .nil))))))))) (.ef 9 (.ef 4 (.rd 5 (.rd 6 (.rd 7 (.rd 8 (.ef 10 (.rd 11 (.rd 12 .nil))))))))))) (.ef 9 (.ef 3 (.ef 4 (.rd 5 (.rd 6 (.rd 7 (.rd 8 (.ef 10 (.rd 11 (.rd 12 .nil)))))))))))) (.ef 9 (.ef 1 (.ef 3 (.ef 4 (.rd 5 (.rd 6 (.rd 7 (.rd 8 (.ef 10 (.rd 11 (.rd 12 .nil)))))))))))))) (by kernel_rfl) ?_
    have hD2:=hD
    rw [hdn] at hD2
    have hwl:d.writes.length≤1000000:=by have:=hf.1; omega
    repeat (first | refine LoadP.at 0 rfl _ rfl rfl ?_)
    refine And.intro ?_ ?_
    · skip
      skip
      refine Tri.free (r4_AtD hD2 hwl 0 (by omega)) ?_
      rintro r _ _ hJ0 ⟨rfl,a0,n0,c0,rfl,hn0,hr0⟩
      repeat (first | refine Chk.mk ⟨rfl,trivial⟩ ?_)
      refine And.intro ?_ ?_
      · skip
        skip
        refine Tri.free (r4_AtD hD2 hwl 1 (by omega)) ?_
        rintro r _ _ hJ1 ⟨rfl,a1,n1,c1,rfl,hn1,hr1⟩
        skip
        refine And.intro ?_ ?_
        · skip
          skip
          refine Tri.free (r10_Choose hr0 hr1 (by omega) (by omega)) ?_
          rintro r _ _ hJ3 ⟨rfl,rfl⟩
          rw [← hcp]
          skip
          conv=>whnf
          intro b7
          repeat (first | refine StoreD.st 4 rfl rfl rfl ?_ | refine Chk.mk ⟨rfl,rfl,trivial⟩ ?_)
          exact ⟨_,Drop.refl _,b7,rfl,rfl,rfl⟩
        · skip
          skip
          conv=>whnf
          intro b7
          repeat (first | refine Chk.mk ⟨rfl,rfl,trivial⟩ ?_)
          refine Tri.free (r10_Choose hr0 hr1 (by omega) (by omega)) ?_
          rintro r _ _ hJ3 ⟨rfl,rfl⟩
          rw [← hcp]
          repeat (first | refine StoreD.st 4 rfl rfl rfl ?_)
          exact ⟨_,Drop.refl _,b7,rfl,rfl,rfl⟩
      · skip
        skip
        conv=>whnf
        intro b7
        repeat (first | refine Chk.mk ⟨rfl,rfl,trivial⟩ ?_)
        refine Tri.free (r4_AtD hD2 hwl 1 (by omega)) ?_
        rintro r _ _ hJ1 ⟨rfl,a1,n1,c1,rfl,hn1,hr1⟩
        skip
        refine Tri.free (r10_Choose hr0 hr1 (by omega) (by omega)) ?_
        rintro r _ _ hJ3 ⟨rfl,rfl⟩
        rw [← hcp]
        repeat (first | refine StoreD.st 4 rfl rfl rfl ?_)
        exact ⟨_,Drop.refl _,b7,rfl,rfl,rfl⟩
    · skip
      skip
      conv=>whnf
      intro b7
      repeat (first | refine Chk.mk ⟨rfl,rfl,trivial⟩ ?_)
      refine Tri.free (r4_AtD hD2 hwl 0 (by omega)) ?_
      rintro r _ _ hJ0 ⟨rfl,a0,n0,c0,rfl,hn0,hr0⟩
      repeat (first | refine Chk.mk ⟨rfl,trivial⟩ ?_)
      refine Tri.free (r4_AtD hD2 hwl 1 (by omega)) ?_
      rintro r _ _ hJ1 ⟨rfl,a1,n1,c1,rfl,hn1,hr1⟩
      skip
      refine Tri.free (r10_Choose hr0 hr1 (by omega) (by omega)) ?_
      rintro r _ _ hJ3 ⟨rfl,rfl⟩
      rw [← hcp]
      repeat (first | refine StoreD.st 4 rfl rfl rfl ?_)
      exact ⟨_,Drop.refl _,b7,rfl,rfl,rfl⟩
  rintro vs gE J2 S2 hJ2 ⟨b7,rfl,rfl,rfl⟩
  obtain ⟨⟨s1,s2,s3,s4⟩,slot,ok⟩:=cp
  dsimp only at hfd ⊢
  have hD2:=hD
  rw [hdn] at hD2
  have hErr:∀ (e:Int) (J:Imm),I.le J→e≠0→RMount J (d,e,none) (.tuple #[.agg (rC ⟨sa,d.now.length,sc⟩ ⟨wa,wl,wc⟩ d.count false (gv d.arm) (gv d.fault)++zr).toArray,.int .i64 e]):=fun e J hJ he=>RMount.err (hD.mono hJ) he _ (by rw [hdn])
  have hlb:(layOf (d.now.length:Int)).lb=layL d.now.length:=rfl
  cases ok
  · rw [show foundP d=(Sup.zero,0,90) by rw [hfd,if_pos (.inl rfl)]]
    rw [if_pos (by decide)]
    repeat (first | refine LoadD.own 1 rfl _ rfl rfl ?_ | refine LoadD.own 2 rfl _ rfl rfl ?_ | refine StoreD.st 1 rfl rfl rfl ?_)
    exact Done.mk (hErr 90 I (Imm.le_refl _) (by decide))
  repeat (first | refine LoadD.own 3 rfl _ rfl rfl ?_ | refine LoadD.own 4 rfl _ rfl rfl ?_)
  refine CmpD.split (fun (c1:s1=(d.now.length:Int))=>?_) (fun (c1:¬ s1=(d.now.length:Int))=>?_)
  rotate_left
  · rw [show foundP d=(Sup.zero,0,90) by rw [hfd,if_pos (.inr (.inl c1))]]
    rw [if_pos (by decide)]
    repeat (first | refine LoadD.own 1 rfl _ rfl rfl ?_ | refine LoadD.own 2 rfl _ rfl rfl ?_ | refine StoreD.st 1 rfl rfl rfl ?_)
    exact Done.mk (hErr 90 I (Imm.le_refl _) (by decide))
  repeat (first | refine LoadD.own 3 rfl _ rfl rfl ?_ | refine LoadD.own 4 rfl _ rfl rfl ?_)
  refine CmpD.split (fun (c2:layL d.now.length≤s4)=>?_) (fun (c2:¬ layL d.now.length≤s4)=>?_)
  · rw [show foundP d=(Sup.zero,0,90) by rw [hfd,if_pos (.inr (.inr (.inl c2)))]]
    rw [if_pos (by decide)]
    repeat (first | refine LoadD.own 1 rfl _ rfl rfl ?_ | refine LoadD.own 2 rfl _ rfl rfl ?_ | refine StoreD.st 1 rfl rfl rfl ?_)
    exact Done.mk (hErr 90 I (Imm.le_refl _) (by decide))
  repeat (first | refine LoadD.own 4 rfl _ rfl rfl ?_)
  refine CmpD.split (fun (c3:8388608≤s2)=>?_) (fun (c3:¬ 8388608≤s2)=>?_)
  · rw [show foundP d=(Sup.zero,0,90) by rw [hfd,if_pos (.inr (.inr (.inr c3)))]]
    rw [if_pos (by decide)]
    repeat (first | refine LoadD.own 1 rfl _ rfl rfl ?_ | refine LoadD.own 2 rfl _ rfl rfl ?_ | refine StoreD.st 1 rfl rfl rfl ?_)
    exact Done.mk (hErr 90 I (Imm.le_refl _) (by decide))
  have hfe:foundP d=(⟨s1,s2,s3,s4⟩,slot,0):=by
    rw [hfd,if_neg (by rintro (h | h | h | h); exact Bool.noConfusion h; exact h c1; exact c2 h; exact c3 h)]
  rw [hfe] at hfo ⊢
  obtain ⟨_,hR,hsl,hb,htl,hep⟩:=hfo rfl
  rw [if_neg (by simp)]
  dsimp only at hR hsl hb htl hep
  obtain ⟨n,hn⟩:∃ n,n=d.now.length:=⟨_,rfl⟩
  rw [← hn] at hr h64 hb htl hErr hD2 ⊢
  obtain ⟨r1,r2,r3,r4,r5,r6,r7,r8⟩:=id hR
  dsimp only at r1 r2 r3 r4 r5 r6 r7 r8
  have hlr:=layL_range (n:=(n:Int)) (by omega)
  repeat (first | refine LoadD.own 0 rfl _ rfl rfl ?_ | refine LoadD.own 3 rfl _ rfl rfl ?_ | refine LoadD.own 4 rfl _ rfl rfl ?_)
  refine Tri.free (r9_Groups hD2 (by have:=hf.1; omega) (layOf n) ⟨s1,s2,s3,s4⟩) ?_
  have hsok:ScanOk d.now.length (layOf n) ⟨s1,s2,s3,s4⟩:=by
    rw [← hn]
    exact ⟨by omega,rfl,hb,r7,htl,r3,r4,r5,r6⟩
  have hbd:=scan_bound (rb:=rbP d 2 (layL (d.now.length:Int)).toNat) (ep:=s2) ((layL (d.now.length:Int)).toNat+1) s4.toNat s3 (layL (d.now.length:Int)).toNat
  have hrt:=scanK_right (rb:=rbP d 2 (layL (d.now.length:Int)).toNat) (ep:=s2) ((layL (d.now.length:Int)).toNat+1) s4.toNat s3 (layL (d.now.length:Int)).toNat
  rw [show scanK (rbP d 2 (layL (d.now.length:Int)).toNat) s2 ((layL (d.now.length:Int)).toNat+1) s4.toNat s3 (layL (d.now.length:Int)).toNat=scanL d ⟨s1,s2,s3,s4⟩ from rfl] at hbd hrt
  rw [← hn] at hbd
  obtain ⟨L,hL⟩:∃ L,L=scanL d ⟨s1,s2,s3,s4⟩:=⟨_,rfl⟩
  rw [← hL] at hbd hrt ⊢
  rintro r J2 _ hJ2 (⟨h,_⟩ | ⟨_,h,_⟩ | ⟨_,_,aO,capO,gl,rfl,hG,hGk⟩)
  · exact absurd hsok h
  · rw [hdn] at h; exact Bool.noConfusion h
  have hpl:allP gl=allG L:=allP_allG hGk
  have hgl:=hGk.len
  rw [← hn]
  obtain ⟨pl,hplc⟩:∃ pl,pl=placeP (layL (n:Int)).toNat s4.toNat L:=⟨_,rfl⟩
  dsimp only
  rw [← hplc]
  have hpl16:pl < (layL (n:Int)).toNat:=by rw [hplc]; exact Nat.mod_lt _ (by omega)
  have hall:(allI gl).length≤1000:=by
    have h1:(allP gl).length=(allI gl).length:=by rw [allP_eq,List.length_map]
    have h2:=allG_sum L
    rw [← hpl] at h2
    omega
  have h4:∀ g ∈ allG L,g.2.length=4096:=by
    intro g hg
    obtain ⟨q,hq,hgq⟩:=List.mem_flatMap.1 hg
    exact ((hrt q hq).2.2.2.2.2.2.1 g hgq).2.2
  have hIo:∀ g ∈ allI gl,ImgOk J2 g:=by
    intro g hg
    obtain ⟨q,hq,hgq⟩:=List.mem_flatMap.1 hg
    exact (hGk.each q hq).2 g hgq
  have hfew:∀ g ∈ allI gl,g.len≤100000000:=by
    intro g hg
    have h1:=(hIo g hg).2.len
    rw [bts_length] at h1
    have h2:=h4 g.pr (by rw [← hpl,allP_eq]; exact List.mem_map_of_mem hg)
    have h3:g.data.length=4096:=h2
    omega
  have hGR:GrpsR J2 [] aO gl:=⟨hG.slC,fun g hg=>⟨⟨(hGk.each g hg).1.slC,fun q hq=>⟨((hGk.each g hg).2 q hq).2.slC⟩⟩,by
    have:g.gs.length≤(allI gl).length:=by
      obtain ⟨x,y,rfl⟩:=List.append_of_mem hg
      simp [allI]; omega
    omega⟩⟩
  have hLayOk:LayOk (layOf n):=⟨by show (64:Int)≤n; omega,by show (n:Int)≤512; omega,rfl⟩
  repeat (first | refine LoadD.own 3 rfl _ rfl rfl ?_ | refine CmpD.yes rfl ?_)
  refine Tri.free (home_ref hGR (by omega) (by omega) hfew (layOf n)) ?_
  rw [hpl]
  unfold mountL
  dsimp only
  rw [← hplc]
  rintro r J3 _ hJ3 ⟨aI,capI,outs,rfl,hoR,hopr⟩
  have hle3:=Imm.le_trans hJ2 hJ3
  have hLl:L.length≤64:=by omega
  by_cases hhok:HomeOk (layOf n) (allG L)
  rotate_left
  · rw [homeA_2 hLayOk hhok,if_pos (.inl hhok)]
    repeat (first | refine LoadD.own 1 rfl _ rfl rfl ?_ | refine LoadD.own 2 rfl _ rfl rfl ?_ | refine StoreD.st 1 rfl rfl rfl ?_ | refine CmpD.no (by decide) ?_)
    exact Done.mk (hErr 90 J3 hle3 (by decide))
  rw [homeA_3 hLayOk hhok] at hopr ⊢
  dsimp only at hopr ⊢
  rw [hgl]
  repeat (first | refine LoadD.own 4 rfl _ rfl rfl ?_ | refine CmpD.yes rfl ?_)
  refine ToD.to (s3+(L.length:Int)) (wrap_i64 (by omega) (by omega)) ?_
  refine CmpD.split (fun (c4:549755813888 < s3+(L.length:Int))=>?_) (fun (c4:¬ 549755813888 < s3+(L.length:Int))=>?_)
  · rw [if_pos (.inr (by omega))]
    repeat (first | refine LoadD.own 1 rfl _ rfl rfl ?_ | refine LoadD.own 2 rfl _ rfl rfl ?_ | refine StoreD.st 1 rfl rfl rfl ?_)
    exact Done.mk (hErr 90 J3 hle3 (by decide))
  rw [if_neg (by rintro (h | h); exact h hhok; omega)]
  repeat (first | refine LoadD.own 4 rfl _ rfl rfl ?_)
  refine ToD.to (s2+1) (wrap_i64 (by omega) (by omega)) ?_
  repeat (first | refine LoadD.own 4 rfl _ rfl rfl ?_ | refine StoreD.st 4 rfl rfl rfl ?_)
  refine ToD.to (s3+L.length) (wrap_i64 (by omega) (by omega)) ?_
  repeat (first | refine LoadD.own 0 rfl _ rfl rfl ?_ | refine LoadD.own 4 rfl _ rfl rfl ?_ | refine StoreD.st 4 rfl rfl rfl ?_)
  refine ToD.to (1 - slot) (wrap_i64 (by omega) (by omega)) ?_
  have hol:outs.length≤1000:=by
    have h1:=homeP_len (allG L)
    rw [← hopr,List.length_map] at h1
    have h2:=allG_sum L
    omega
  have himg:ImgsOk J3 aI outs:=by
    refine ⟨SlC.rds hoR.sl,fun g hg=>?_⟩
    have hm:=home_mem (l:=allG L) (g:=g.pr) (by rw [← hopr]; exact List.mem_map_of_mem hg)
    have hb2:=hhok _ hm
    refine ⟨?_,SlC.rds (hoR.each g hg).rd⟩
    have e1:(layOf (n:Int)).bi=2+layL n:=rfl
    have e2:(layOf (n:Int)).b=n:=rfl
    rw [e1,e2] at hb2
    have e3:g.pr.1=g.blk:=rfl
    rw [e3] at hb2
    unfold In64; omega
  refine Tri.free (r10_Do (hD2.mono hle3) 700000 hf aI capI outs himg (by omega) ⟨s1,s2+1,s3+L.length,pl⟩ (1 - slot) (by unfold In64; omega)) ?_
  rw [hopr]
  have hlen2:=doP_len d (homeP (allG L)) ⟨s1,s2+1,s3+L.length,pl⟩ (1 - slot)
  rw [← hn] at hlen2
  generalize doP d (homeP (allG L)) ⟨s1,s2+1,s3+L.length,pl⟩ (1 - slot)=dp at *
  obtain ⟨d2,e2⟩:=dp
  dsimp only at hlen2 ⊢
  rintro r J4 _ hJ4 ⟨v',rfl,hDD⟩
  obtain ⟨⟨ta,tl,tc⟩,⟨ua,ul,uc⟩,rfl,htl2⟩:=hDD.cells
  dsimp only at htl2
  rw [hlen2] at htl2
  subst htl2
  repeat (first | refine LoadD.own 0 rfl _ rfl rfl ?_ | refine StoreD.st 0 rfl rfl rfl ?_ | refine StoreD.st 2 rfl rfl rfl ?_)
  by_cases he2:e2≠0
  · rw [if_pos he2]
    refine CmpD.no he2 ?_
    repeat (first | refine LoadD.own 1 rfl _ rfl rfl ?_ | refine LoadD.own 2 rfl _ rfl rfl ?_ | refine StoreD.st 1 rfl rfl rfl ?_)
    exact Done.mk (RMount.err hDD he2 _ rfl)
  rw [if_neg he2]
  obtain rfl:e2=0:=by omega
  repeat (first | refine LoadD.own 0 rfl _ rfl rfl ?_ | refine LoadD.own 3 rfl _ rfl rfl ?_ | refine LoadD.own 4 rfl _ rfl rfl ?_ | refine CmpD.yes rfl ?_)
  have hopk:OpenOk tl (layOf tl) (s2+1) (s3+L.length) pl:=⟨rfl,by omega,by omega,by omega,by omega,by omega,by omega⟩
  refine Tri.free (r8_Open tl rfl (by omega) (s2+1) (s3+L.length) pl hopk J4) ?_
  rintro r _ _ hJ5 ⟨rfl,rfl⟩
  conv=>whnf
  intro b13
  repeat (first | refine LoadD.own 1 rfl _ rfl rfl ?_ | refine LoadD.own 3 rfl _ rfl rfl ?_ | refine LoadD.own 5 rfl _ rfl rfl ?_ | refine StoreD.st 1 rfl rfl rfl ?_ | refine StoreD.st 5 rfl rfl rfl ?_ | refine CmpD.yes rfl ?_)
  exact Done.mk ⟨⟨ta,tl,tc⟩,⟨ua,ul,uc⟩,hDD,.inr ⟨rfl,_,rfl,rfl⟩⟩
end Go.Proofs.YtegdcjnjnoeinaaGreat
namespace Go.Proofs.YtegdcjnjnoeinaaGreat
open Go.RowKit Go.Sl
set_option maxRecDepth 20000
def Nums:Int→List (Int × Int)→Int→Prop
  | f,[],n=>f=n
  | f,g :: gs,n=>g.1=f∧Nums (f+1) gs n
theorem Nums.len:∀ {gs:List (Int × Int)} {f n:Int},Nums f gs n→f+gs.length=n
  | [],_,_,h=>by simp only [Nums] at h; simp; exact h
  | g :: gs,f,n,h=>by have:=Nums.len h.2; rw [List.length_cons]; omega
theorem Nums.snoc (k:Int):∀ {gs:List (Int × Int)} {f n:Int},Nums f gs n→Nums f (gs++[(n,k)]) (n+1)
  | [],_,_,h=>by simp only [Nums] at h; subst h; exact ⟨rfl,rfl⟩
  | g :: gs,f,n,h=>⟨h.1,Nums.snoc k h.2⟩
theorem rds_tail {I:Imm} {a:Option Addr} {len cap:Nat} {v:Value} {vs:List Value} (h:Rds I a len (v :: vs)) (hc:len≤cap):Rds I (slAddr a 1 cap 1) (len - 1) vs:=by
  have hl:=h.len
  rw [List.length_cons] at hl
  refine ⟨by omega,?_⟩
  rcases h.mem with h0 | ⟨b,off,c,T,fr,rfl,h2,h3⟩
  · omega
  · by_cases hz:len - 1=0
    · exact .inl hz
    · right
      unfold slAddr
      rw [if_neg (by omega)]
      refine ⟨b,off+1,c,T,fr,rfl,h2,?_⟩
      have e:(List.drop (off+1) c).take (len - 1)=((List.drop off c).take len).drop 1:=by
        rw [List.drop_take,List.drop_drop]
      rw [e,h3]; rfl
structure RJk (I:Imm) (val:Value) (j:JSt) (d:DSt):Prop where
  ex:∃ (s w sz:Hd) (first:Int),val=.agg (jC s w d.count d.down (gv d.arm) (gv d.fault) j.lay j.s j.t j.u j.h j.epoch first sz j.synced j.broken).toArray∧RDk I (rV s w d.count d.down (gv d.arm) (gv d.fault)) d ∧
    Rds I sz.a sz.len (ints (j.groups.map Prod.snd))∧sz.len≤sz.cap∧Nums first j.groups j.next∧1≤first
theorem RJk.mono {I J:Imm} {val:Value} {j:JSt} {d:DSt} (h:RJk I val j d) (hJ:I.le J):RJk J val j d:=by
  obtain ⟨s,w,sz,first,h1,h2,h3,h4,h5⟩:=h.ex
  exact ⟨s,w,sz,first,h1,h2.mono hJ,h3.mono hJ,h4,h5⟩
theorem r8_NextC (s w sz:Hd) (c:Int) (dn:Bool) (a f:Int) (x:Lay) (js jt ju jh je first jy:Int) (jb:Bool) (h:0≤first∧first+sz.len≤1000000000000) (I:Imm) :
    Tri Tryz.prog 49 #[.agg (jC s w c dn a f x js jt ju jh je first sz jy jb).toArray] I [] fun r J _=>I=J∧r=.int .i64 (first+sz.len):=by
  obtain ⟨l1,l2,l3,l4,l5,l6,l7⟩:=x
  obtain ⟨sa,sl,sc⟩:=s
  obtain ⟨wa,wl,wc⟩:=w
  obtain ⟨za,zl,zc⟩:=sz
  dsimp only at h
  refine Tri.of (args:=[.agg (jC ⟨sa,sl,sc⟩ ⟨wa,wl,wc⟩ c dn a f ⟨l1,l2,l3,l4,l5,l6,l7⟩ js jt ju jh je first ⟨za,zl,zc⟩ jy jb).toArray]) tabOk Tryz.func49 rfl (by kernel_rfl) (by kernel_rfl) ?_
  conv=>whnf
  intro b1
  repeat (first | refine LoadD.own 0 rfl _ rfl rfl ?_)
  refine ToD.to (first+zl) (by show IntKind.i64.wrap (first+(zl:Int))=_; exact wrap_i64 (by omega) (by omega)) ?_
  exact Done.mk ⟨rfl,rfl⟩
set_option maxHeartbeats 4000000 in
theorem r8_Flush {I:Imm} {v:Value} {j:JSt} {d:DSt} (h:RJk I v j d) (hw:j.Wf) (hf:d.Few 1000000) :
    Tri Tryz.prog 242 #[v] I [] fun r J _=>∃ v',r=.tuple #[v',.int .i64 (j.flush d).2.2]∧RJk J v' (j.flush d).1 (j.flush d).2.1:=by
  have hnx:=hw.next
  have h0:=h
  obtain ⟨s,w,sz,first,rfl,hR,hz,hzc,hN,hf1⟩:=h.ex
  have hzl:sz.len=j.groups.length:=by have:=hz.len; simpa [ints] using this.symm
  have hNl:=hN.len
  have hfew:=hw.few
  obtain ⟨⟨l1,l2,l3,l4,l5,l6,l7⟩,js,jt,ju,jh,je,jn,jy,jg,jb⟩:=j
  obtain ⟨sa,sl,sc⟩:=s
  obtain ⟨wa,wl,wc⟩:=w
  obtain ⟨za,zl,zc⟩:=sz
  dsimp only at *
  refine Tri.of (args:=[.agg (jC ⟨sa,sl,sc⟩ ⟨wa,wl,wc⟩ d.count d.down (gv d.arm) (gv d.fault) ⟨l1,l2,l3,l4,l5,l6,l7⟩ js jt ju jh je first ⟨za,zl,zc⟩ jy jb).toArray]) tabOk Tryz.func242 rfl (by kernel_rfl) (by kernel_rfl) ?_
  conv=>whnf
  intro b1
  conv=>whnf
  intro b2
  repeat (first | refine LoadD.own 0 rfl _ rfl rfl ?_)
  unfold JSt.flush
  cases jb
  rotate_left
  · repeat (first | refine LoadD.own 0 rfl _ rfl rfl ?_ | refine LoadD.own 1 rfl _ rfl rfl ?_ | refine StoreD.st 1 rfl rfl rfl ?_)
    exact Done.mk ⟨_,rfl,h0⟩
  repeat (first | refine LoadD.own 0 rfl _ rfl rfl ?_)
  refine Tri.free (r4_Flush hR hf) ?_
  rintro r J _ hJ ⟨v',rfl,hR2⟩
  obtain ⟨⟨sa2,sl2,sc2⟩,⟨wa2,wl2,wc2⟩,rfl,_⟩:=hR2.cells
  have hnext:=r8_NextC ⟨sa2,sl2,sc2⟩ ⟨wa2,wl2,wc2⟩ ⟨za,zl,zc⟩ d.flush.1.count d.flush.1.down (gv d.flush.1.arm) (gv d.flush.1.fault) ⟨l1,l2,l3,l4,l5,l6,l7⟩ js jt ju jh je first jy false (by dsimp only; omega) J
  rw [if_neg (by simp)]
  generalize d.flush=fl at *
  obtain ⟨d2,e2⟩:=fl
  dsimp only at *
  conv=>whnf
  intro b4
  repeat (first | refine LoadD.own 2 rfl _ rfl rfl ?_ | refine StoreD.st 0 rfl rfl rfl ?_ | refine StoreD.st 2 rfl rfl rfl ?_)
  by_cases he:e2≠0
  · refine CmpD.no he ?_
    repeat (first | refine LoadD.own 0 rfl _ rfl rfl ?_ | refine LoadD.own 1 rfl _ rfl rfl ?_ | refine StoreD.st 0 rfl rfl rfl ?_ | refine StoreD.st 1 rfl rfl rfl ?_)
    rw [if_pos he]
    exact Done.mk ⟨_,rfl,⟨⟨sa2,sl2,sc2⟩,⟨wa2,wl2,wc2⟩,⟨za,zl,zc⟩,first,rfl,hR2,hz.mono hJ,hzc,hN,hf1⟩⟩
  · obtain rfl:e2=0:=by omega
    rw [if_neg he]
    repeat (first | refine LoadD.own 0 rfl _ rfl rfl ?_ | refine CmpD.yes rfl ?_)
    refine Tri.free hnext ?_
    rintro r _ _ hJ2 ⟨rfl,rfl⟩
    skip
    refine ToD.to (jn - 1) (by show IntKind.i64.wrap (first+(zl:Int) - 1)=_; rw [wrap_i64 (by omega) (by omega)]; omega) ?_
    repeat (first | refine LoadD.own 0 rfl _ rfl rfl ?_ | refine LoadD.own 1 rfl _ rfl rfl ?_ | refine StoreD.st 0 rfl rfl rfl ?_ | refine StoreD.st 1 rfl rfl rfl ?_)
    exact Done.mk ⟨_,rfl,⟨⟨sa2,sl2,sc2⟩,⟨wa2,wl2,wc2⟩,⟨za,zl,zc⟩,first,rfl,hR2,hz.mono hJ,hzc,hN,hf1⟩⟩
end Go.Proofs.YtegdcjnjnoeinaaGreat
namespace Go.Proofs.YtegdcjnjnoeinaaGreat
open Go.RowKit Go.Sl
section
variable (s t u h n:Int) (I:Imm) (hs:In64 s) (ht:In64 t) (hu:In64 u) (hh:In64 h) (hn:In64 n)
include hs ht hu hh hn
end
end Go.Proofs.YtegdcjnjnoeinaaGreat
namespace Go.Proofs.YtegdcjnjnoeinaaGreat
open Go.RowKit Go.Sl
theorem ref_Right (s t u h:Int) (I:Imm) (hs:In64 s) (ht:In64 t) (hu:In64 u) (hh:In64 h):Tri Tryz.prog 259 #[rg s t u h] I [] fun v J _=>∃ b,v=.bool b∧(b=true↔Ok s t u h)∧I=J:=by
  unfold In64 at *
  refine Tri.of (args:=[rg s t u h]) tabOk Tryz.func259 rfl (by kernel_rfl) (by kernel_rfl) ?_
  conv=>whnf
  intro b
  refine LoadD.own 0 rfl _ rfl rfl ?_
  refine CmpD.split (fun c=>?_) (fun c=>?_)
  · refine Done.mk ⟨_,rfl,?_,rfl⟩
    simp only [Ok,Bool.false_eq_true,false_iff]; omega
  refine LoadD.own 0 rfl _ rfl rfl ?_
  refine CmpD.split (fun c=>?_) (fun c=>?_)
  · refine Done.mk ⟨_,rfl,?_,rfl⟩
    simp only [Ok,Bool.false_eq_true,false_iff]; omega
  refine LoadD.own 0 rfl _ rfl rfl ?_
  refine CmpD.split (fun c=>?_) (fun c=>?_)
  · refine Done.mk ⟨_,rfl,?_,rfl⟩
    simp only [Ok,Bool.false_eq_true,false_iff]; omega
  iterate 2 refine LoadD.own 0 rfl _ rfl rfl ?_
  refine CmpD.split (fun c=>?_) (fun c=>?_)
  · refine Done.mk ⟨_,rfl,?_,rfl⟩
    simp only [Ok,Bool.false_eq_true,false_iff]; omega
  refine LoadD.own 0 rfl _ rfl rfl ?_
  refine CmpD.split (fun c=>?_) (fun c=>?_)
  case refine_2 =>
    refine Done.mk ⟨_,rfl,?_,rfl⟩
    simp only [Ok,Bool.false_eq_true,false_iff]; omega
  refine LoadD.own 0 rfl _ rfl rfl ?_
  refine CmpD.split (fun c=>?_) (fun c=>?_)
  case refine_2 =>
    refine Done.mk ⟨_,rfl,?_,rfl⟩
    simp only [Ok,Bool.false_eq_true,false_iff]; omega
  refine LoadD.own 0 rfl _ rfl rfl ?_
  refine CmpD.split (fun c=>?_) (fun c=>?_)
  case refine_2 =>
    refine Done.mk ⟨_,rfl,?_,rfl⟩
    simp only [Ok,Bool.false_eq_true,false_iff]; omega
  refine LoadD.own 0 rfl _ rfl rfl ?_
  refine CmpD.split (fun c=>?_) (fun c=>?_)
  case refine_2 =>
    refine Done.mk ⟨_,rfl,?_,rfl⟩
    simp only [Ok,Bool.false_eq_true,false_iff]; omega
  iterate 2 refine LoadD.own 0 rfl _ rfl rfl ?_
  refine ToD.i64 (by omega) (by omega) ?_
  refine LoadD.own 0 rfl _ rfl rfl ?_
  refine CmpD.keep ?_
  refine Done.mk ⟨_,rfl,?_,rfl⟩
  simp only [Ok,decide_eq_true_eq]; omega
theorem ref_next (s t u h a:Int) (I:Imm) (ha:0≤a∧a < 512):Tri Tryz.prog 261 #[rg s t u h,.int .i64 a] I [] fun v J _=>v=.int .i64 (if a+1=s then 0 else a+1)∧I=J:=by
  refine Tri.of (args:=[rg s t u h,.int .i64 a]) tabOk Tryz.func261 rfl (by kernel_rfl) (by kernel_rfl) ?_
  conv=>whnf
  intro b
  refine ToD.i64 (by omega) (by omega) ?_
  refine LoadD.own 0 rfl _ rfl rfl ?_
  refine CmpD.split (fun c=>?_) (fun c=>?_)
  · refine Done.mk ⟨?_,rfl⟩
    rw [if_pos c]; rfl
  refine ToD.i64 (by omega) (by omega) ?_
  refine Done.mk ⟨?_,rfl⟩
  rw [if_neg c]; rfl
theorem next_mod {s a k:Int} (hs:1≤s):(if (a+k) % s+1=s then 0 else (a+k) % s+1)=(a+(k+1)) % s:=by
  have h0:=Int.emod_nonneg (a+k) (show s≠0 by omega)
  have h1:=Int.emod_lt_of_pos (a+k) (show 0 < s by omega)
  have e:(a+(k+1)) % s=((a+k) % s+1) % s:=by
    rw [Int.emod_add_emod]; congr 1; omega
  rw [e]
  split
  · rename_i hh; rw [hh,Int.emod_self]
  · exact (Int.emod_eq_of_lt (a:=(a+k) % s+1) (b:=s) (by omega) (by omega)).symm
section
variable (s t u h n:Int) (I:Imm) (hs:In64 s) (ht:In64 t) (hu:In64 u) (hh:In64 h) (hn:In64 n)
include hs ht hu hh
theorem ref_Free:Tri Tryz.prog 260 #[rg s t u h] I [] fun v J _=>v=.int .i64 (if Ok s t u h then s - u - h else 0)∧I=J:=by
  have hR:=ref_Right s t u h I hs ht hu hh
  unfold In64 at *
  refine Tri.of (args:=[rg s t u h]) tabOk Tryz.func260 rfl (by kernel_rfl) (by kernel_rfl) ?_
  conv=>whnf
  intro b
  refine LoadD.own 0 rfl _ rfl rfl ?_
  refine Tri.free hR ?_
  rintro v J _ hJ ⟨b1,rfl,h1,rfl⟩
  cases b1
  · refine Done.mk ⟨?_,rfl⟩
    rw [if_neg (by simpa using h1)]; rfl
  replace h1:=h1.1 rfl
  have h1':=h1
  unfold Ok at h1'
  iterate 3 refine LoadD.own 0 rfl _ rfl rfl ?_
  refine ToD.i64 (by omega) (by omega) ?_
  refine ToD.to (s - u - h) (by rw [wrap_i64 (by omega) (by omega)]; omega) ?_
  refine Done.mk ⟨?_,rfl⟩
  rw [if_pos h1]; rfl
include hn
theorem ref_Drop:Tri Tryz.prog 258 #[rg s t u h,.int .i64 n] I [] fun v J _=>Is5 v (dropS s t u h n)∧I=J:=by
  have hR:=ref_Right s t u h I hs ht hu hh
  unfold In64 at *
  refine Tri.of (args:=[rg s t u h,.int .i64 n]) tabOk Tryz.func258 rfl (by kernel_rfl) (by kernel_rfl) ?_
  conv=>whnf
  intro b
  conv=>whnf
  intro b2
  refine LoadD.own 0 rfl _ rfl rfl ?_
  refine Tri.free hR ?_
  rintro v J _ hJ ⟨b1,rfl,h1,rfl⟩
  cases b1
  · refine StoreD.st 1 rfl rfl rfl ?_
    refine LoadD.own 1 rfl _ rfl rfl ?_
    refine Done.mk ⟨Is5.mk 0 0 0 0 2 ?_,rfl⟩
    rw [dropS,if_pos (.inl (by simpa using h1))]
  replace h1:=h1.1 rfl
  have h1':=h1
  unfold Ok at h1'
  refine CmpD.split (fun c=>?_) (fun c=>?_)
  · refine StoreD.st 1 rfl rfl rfl ?_
    refine LoadD.own 1 rfl _ rfl rfl ?_
    refine Done.mk ⟨Is5.mk 0 0 0 0 2 ?_,rfl⟩
    rw [dropS,if_pos (.inr (.inl c))]
  refine LoadD.own 0 rfl _ rfl rfl ?_
  refine CmpD.split (fun c2=>?_) (fun c2=>?_)
  · refine StoreD.st 1 rfl rfl rfl ?_
    refine LoadD.own 1 rfl _ rfl rfl ?_
    refine Done.mk ⟨Is5.mk 0 0 0 0 2 ?_,rfl⟩
    rw [dropS,if_pos (.inr (.inr c2))]
  refine CodeF.loopD [1,2,4,6] (fun vs J S'=>∃ k:Int,0≤k∧k≤n∧vs=[.int .i64 n,.pointer (some ⟨b,0,none⟩),.pointer (some ⟨b2,0,none⟩),.int .i64 k]∧I=J ∧
      S'=[[(b,row [.int .i64 s,.int .i64 ((t+k) % s),.int .i64 u,.int .i64 h] 83)],[(b2,row [.int .i64 0,.int .i64 0,.int .i64 0,.int .i64 0] 83)]])
    (fun vs _ _=>match vs with | .int _ n :: _ :: _ :: .int _ k :: _=>(n - k).toNat | _=>0) ?_ ?_
  · refine ⟨_,Drop.refl _,0,by omega,by omega,rfl,rfl,?_⟩
    rw [Int.add_zero,Int.emod_eq_of_lt (by omega) (by omega)]; rfl
  · rintro vs g J S' hJ ⟨k,hk0,hk1,rfl,rfl,rfl⟩
    have hm0:=Int.emod_nonneg (t+k) (show s≠0 by omega)
    have hm1:=Int.emod_lt_of_pos (t+k) (show 0 < s by omega)
    refine CmpD.split (fun c=>?_) (fun c=>?_)
    · refine LoadD.own 0 rfl _ rfl rfl ?_
      refine LoadD.own 0 rfl _ rfl rfl ?_
      refine Tri.free (ref_next s _ u h _ _ (by omega)) ?_
      rintro v J' _ hJ' ⟨rfl,rfl⟩
      refine StoreD.st 0 rfl rfl rfl ?_
      refine ToD.i64 (by omega) (by omega) ?_
      refine ⟨_,Drop.refl _,⟨k+1,by omega,by omega,rfl,rfl,?_⟩,?_⟩
      · rw [← next_mod (by omega)]; rfl
      · show (n - (k+1)).toNat < (n - k).toNat; omega
    · obtain rfl:k=n:=by omega
      refine LoadD.own 0 rfl _ rfl rfl ?_
      refine ToD.i64 (by omega) (by omega) ?_
      refine StoreD.st 0 rfl rfl rfl ?_
      refine LoadD.own 0 rfl _ rfl rfl ?_
      refine StoreD.st 1 rfl rfl rfl ?_
      refine LoadD.own 1 rfl _ rfl rfl ?_
      refine Done.mk ⟨Is5.mk s ((t+k) % s) (u - k) h 0 ?_,rfl⟩
      rw [dropS,if_neg (by unfold Ok; omega)]
theorem ref_Put (k:Int) (hk:In64 k):Tri Tryz.prog 244 #[rg s t u h,.int .i64 n,.int .i64 k] I [] fun v J _ =>
    (∃ a b c d x e,v=.tuple #[rg a b c d,.int .i64 x,.int .i64 e]∧putS s t u h n k=((a,b,c,d,e),x))∧I=J:=by
  have hR:=ref_Right s t u h I hs ht hu hh
  have hF:=ref_Free s t u h I hs ht hu hh
  unfold In64 at *
  refine Tri.of (args:=[rg s t u h,.int .i64 n,.int .i64 k]) tabOk Tryz.func244 rfl (by kernel_rfl) (by kernel_rfl) ?_
  conv=>whnf
  intro b
  conv=>whnf
  intro b2
  refine LoadD.own 0 rfl _ rfl rfl ?_
  refine Tri.free hR ?_
  rintro v J _ hJ ⟨b1,rfl,h1,rfl⟩
  cases b1
  · refine StoreD.st 1 rfl rfl rfl ?_
    refine LoadD.own 1 rfl _ rfl rfl ?_
    refine Done.mk ⟨⟨_,_,_,_,_,_,rfl,?_⟩,rfl⟩
    rw [putS,if_pos (.inl (by simpa using h1))]
  replace h1:=h1.1 rfl
  have h1':=h1
  unfold Ok at h1'
  refine CmpD.split (fun c=>?_) (fun c=>?_)
  · refine StoreD.st 1 rfl rfl rfl ?_
    refine LoadD.own 1 rfl _ rfl rfl ?_
    refine Done.mk ⟨⟨_,_,_,_,_,_,rfl,?_⟩,rfl⟩
    rw [putS,if_pos (.inr (.inl c))]
  refine CmpD.split (fun c1=>?_) (fun c1=>?_)
  · refine StoreD.st 1 rfl rfl rfl ?_
    refine LoadD.own 1 rfl _ rfl rfl ?_
    refine Done.mk ⟨⟨_,_,_,_,_,_,rfl,?_⟩,rfl⟩
    rw [putS,if_pos (.inr (.inr (.inl c1)))]
  refine CmpD.split (fun c2=>?_) (fun c2=>?_)
  · refine StoreD.st 1 rfl rfl rfl ?_
    refine LoadD.own 1 rfl _ rfl rfl ?_
    refine Done.mk ⟨⟨_,_,_,_,_,_,rfl,?_⟩,rfl⟩
    rw [putS,if_pos (by omega)]
  refine LoadD.own 0 rfl _ rfl rfl ?_
  refine CmpD.split (fun c3=>?_) (fun c3=>?_)
  · refine StoreD.st 1 rfl rfl rfl ?_
    refine LoadD.own 1 rfl _ rfl rfl ?_
    refine Done.mk ⟨⟨_,_,_,_,_,_,rfl,?_⟩,rfl⟩
    rw [putS,if_pos (by omega)]
  refine ToD.i64 (by omega) (by omega) ?_
  refine LoadD.own 0 rfl _ rfl rfl ?_
  refine Tri.free hF ?_
  rintro v J _ hJ ⟨rfl,rfl⟩
  rw [if_pos h1]
  refine CmpD.split (fun c4=>?_) (fun c4=>?_)
  · refine StoreD.st 1 rfl rfl rfl ?_
    refine LoadD.own 1 rfl _ rfl rfl ?_
    refine Done.mk ⟨⟨_,_,_,_,_,_,rfl,?_⟩,rfl⟩
    rw [putS,if_neg (by unfold Ok; omega),if_pos c4]
  refine LoadD.own 0 rfl _ rfl rfl ?_
  refine CodeF.loopD [1,2,3,6,9,10] (fun vs J S'=>∃ i:Int,0≤i∧i≤u∧vs=[.int .i64 n,.int .i64 k,.pointer (some ⟨b,0,none⟩),.pointer (some ⟨b2,0,none⟩),.int .i64 ((t+i) % s),.int .i64 i]∧I=J ∧
      S'=[[(b,row [.int .i64 s,.int .i64 t,.int .i64 u,.int .i64 h] 83)],[(b2,row [.int .i64 0,.int .i64 0,.int .i64 0,.int .i64 0] 83)]])
    (fun vs _ _=>match vs with | [_,_,_,_,_,.int _ k]=>(u - k).toNat | _=>0) ?_ ?_
  · refine ⟨_,Drop.refl _,0,by omega,by omega,?_,rfl,rfl⟩
    rw [Int.add_zero,Int.emod_eq_of_lt (by omega) (by omega)]; rfl
  · rintro vs g J S' hJ ⟨i,hi0,hi1,rfl,rfl,rfl⟩
    have hm0:=Int.emod_nonneg (t+i) (show s≠0 by omega)
    have hm1:=Int.emod_lt_of_pos (t+i) (show 0 < s by omega)
    refine LoadD.own 0 rfl _ rfl rfl ?_
    refine CmpD.split (fun c=>?_) (fun c=>?_)
    · refine LoadD.own 0 rfl _ rfl rfl ?_
      refine Tri.free (ref_next s t u h _ _ (by omega)) ?_
      rintro v J' _ hJ' ⟨rfl,rfl⟩
      refine ToD.i64 (by omega) (by omega) ?_
      refine ⟨_,Drop.refl _,⟨i+1,by omega,by omega,?_,rfl,rfl⟩,?_⟩
      · rw [← next_mod (by omega)]; rfl
      · show (u - (i+1)).toNat < (u - i).toNat; omega
    · obtain rfl:i=u:=by omega
      refine LoadD.own 0 rfl _ rfl rfl ?_
      refine ToD.i64 (by omega) (by omega) ?_
      refine StoreD.st 0 rfl rfl rfl ?_
      refine LoadD.own 0 rfl _ rfl rfl ?_
      refine ToD.i64 (by omega) (by omega) ?_
      refine StoreD.st 0 rfl rfl rfl ?_
      refine LoadD.own 0 rfl _ rfl rfl ?_
      refine StoreD.st 1 rfl rfl rfl ?_
      refine LoadD.own 1 rfl _ rfl rfl ?_
      refine Done.mk ⟨⟨_,_,_,_,_,_,rfl,?_⟩,rfl⟩
      rw [putS,if_neg (by unfold Ok; omega),if_neg (by omega)]
end
end Go.Proofs.YtegdcjnjnoeinaaGreat
namespace Go.Proofs.YtegdcjnjnoeinaaGreat
open Go.RowKit Go.Sl
set_option maxRecDepth 20000
set_option maxHeartbeats 4000000 in
theorem r8_Release {I:Imm} {v:Value} {j:JSt} {d:DSt} (h:RJk I v j d) (hw:j.Wf) (seq:Int) :
    Tri Tryz.prog 243 #[v,.int .i64 seq] I [] fun r J _=>∃ v',r=.tuple #[v',.int .i64 (j.release seq).2]∧RJk J v' (j.release seq).1 d:=by
  have hnx:=hw.next
  have hring:=hw.ring
  have hgr:=hw.groups
  have h0:=h
  obtain ⟨s,w,sz,first,rfl,hR,hz,hzc,hN,hf1⟩:=h.ex
  have hNl:=hN.len
  have hfew:=hw.few
  obtain ⟨⟨l1,l2,l3,l4,l5,l6,l7⟩,js,jt,ju,jh,je,jn,jy,jg,jb⟩:=j
  obtain ⟨sa,sl,sc⟩:=s
  obtain ⟨wa,wl,wc⟩:=w
  obtain ⟨za,zl,zc⟩:=sz
  dsimp only at *
  refine Tri.ofF (args:=[.agg (jC ⟨sa,sl,sc⟩ ⟨wa,wl,wc⟩ d.count d.down (gv d.arm) (gv d.fault) ⟨l1,l2,l3,l4,l5,l6,l7⟩ js jt ju jh je first ⟨za,zl,zc⟩ jy jb).toArray,.int .i64 seq]) tabOk Tryz.func243 rfl (by kernel_rfl) (by kernel_rfl) ?_
  unfold JSt.release
  refine CodeF.stepD ?_
  conv=>whnf
  intro b2
  conv=>whnf
  intro b4
  refine CodeF.stepD ?_
  repeat (first | refine LoadD.own 0 rfl _ rfl rfl ?_)
  cases jb
  rotate_left
  · repeat (first | refine LoadD.own 0 rfl _ rfl rfl ?_ | refine LoadD.own 1 rfl _ rfl rfl ?_ | refine StoreD.st 1 rfl rfl rfl ?_)
    exact Done.mk ⟨_,rfl,h0⟩
  skip
  rw [if_neg (by simp)]
  refine CodeF.stepD ?_
  repeat (first | refine LoadD.own 0 rfl _ rfl rfl ?_)
  refine CmpD.split (fun (c1:jy < seq)=>?_) (fun (c1:¬ jy < seq)=>?_)
  · rw [if_pos c1]
    repeat (first | refine LoadD.own 0 rfl _ rfl rfl ?_ | refine LoadD.own 1 rfl _ rfl rfl ?_ | refine StoreD.st 1 rfl rfl rfl ?_)
    exact Done.mk ⟨_,rfl,h0⟩
  rw [if_neg c1]
  dsimp only
  obtain ⟨B4,hB4⟩:∃ B4:List Blk,B4=[(b4,row (jC ⟨none,0,0⟩ ⟨none,0,0⟩ 0 false 0 0 ⟨0,0,0,0,0,0,0⟩ 0 0 0 0 0 0 ⟨none,0,0⟩ 0 false) 85)]:=⟨_,rfl⟩
  refine CodeF.join [2,4] (fun vs J S'=>∃ (gs:List (Int × Int)) (s t u h f2:Int) (z2:Hd),relAll seq jg js jt ju jh=(gs,(s,t,u,h,0))∧Nums f2 gs jn∧1≤f2∧Rds I z2.a z2.len (ints (gs.map Prod.snd))∧z2.len≤z2.cap∧I=J ∧
      vs=[.pointer (some ⟨b2,0,none⟩),.pointer (some ⟨b4,0,none⟩)]∧S'=[[(b2,row (jC ⟨sa,sl,sc⟩ ⟨wa,wl,wc⟩ d.count d.down (gv d.arm) (gv d.fault) ⟨l1,l2,l3,l4,l5,l6,l7⟩ s t u h je f2 z2 jy false) 85)],B4]) ?_ ?_
  rotate_left
  · rintro vs gE J S' hJ ⟨gs,s,t,u,h,f2,⟨z2a,z2l,z2c⟩,hrel,hN2,hf2,hz2,hzc2,rfl,rfl,rfl⟩
    refine CodeF.den ?_
    rw [hB4]
    repeat (first | refine LoadD.own 0 rfl _ rfl rfl ?_ | refine LoadD.own 1 rfl _ rfl rfl ?_ | refine StoreD.st 1 rfl rfl rfl ?_)
    rw [hrel]
    exact Done.mk ⟨_,rfl,⟨⟨sa,sl,sc⟩,⟨wa,wl,wc⟩,⟨z2a,z2l,z2c⟩,f2,rfl,hR,hz2,hzc2,hN2,hf2⟩⟩
  refine CodeF.blockF ?_ rfl
  refine CodeF.loopF [1,2,4] (fun vs J S'=>∃ (gs:List (Int × Int)) (s t u h f2:Int) (z2:Hd),relAll seq jg js jt ju jh=relAll seq gs s t u h∧Ok s t u h∧(∀ g ∈ gs,In64 g.1∧In64 g.2)∧Nums f2 gs jn∧1≤f2∧Rds I z2.a z2.len (ints (gs.map Prod.snd))∧z2.len≤z2.cap∧I=J ∧
      vs=[.int .i64 seq,.pointer (some ⟨b2,0,none⟩),.pointer (some ⟨b4,0,none⟩)]∧S'=[[(b2,row (jC ⟨sa,sl,sc⟩ ⟨wa,wl,wc⟩ d.count d.down (gv d.arm) (gv d.fault) ⟨l1,l2,l3,l4,l5,l6,l7⟩ s t u h je f2 z2 jy false) 85)],B4])
    (fun _ _ S'=>match S' with | [[(_,.cells c _ _)],_]=>(match c.toList with | [_,_,_,_,_,_,_,_,_,_,_,_,_,_,_,_,_,_,_,.slice _ n _,_,_]=>n | _=>0) | _=>0) ?_ ?_
  · exact ⟨_,by rw [hB4]; exact Drop.refl _,jg,js,jt,ju,jh,first,⟨za,zl,zc⟩,rfl,hring,hgr,hN,hf1,hz,hzc,rfl,rfl,rfl⟩
  clear hz hzc hN hNl hring hgr h0
  rintro vs gE J S' hJ ⟨gs,s,t,u,h,f2,⟨z2a,z2l,z2c⟩,hrel,hring,hgr,hN,hf2,hz,hzc,rfl,rfl,rfl⟩
  have hzl:z2l=gs.length:=by have:=hz.len; simpa [ints] using this.symm
  have hNl:=hN.len
  dsimp only at hz hzc
  refine CodeF.stepD ?_
  repeat (first | refine LoadD.own 0 rfl _ rfl rfl ?_)
  cases gs with
  | nil =>
    obtain rfl:z2l=0:=hzl
    refine CmpD.no (by simp) ?_
    skip
    exact ⟨_,Drop.refl _,[],s,t,u,h,f2,⟨z2a,0,z2c⟩,by rw [hrel,relAll],hN,hf2,hz,hzc,rfl,rfl,rfl⟩
  | cons g gs =>
    obtain ⟨g1,g2⟩:=g
    rw [List.length_cons] at hzl hNl
    refine CmpD.yes (by show (0:Int) < (z2l:Int); omega) ?_
    repeat (first | refine LoadD.own 0 rfl _ rfl rfl ?_)
    obtain ⟨rfl,hN2⟩:=hN
    dsimp only at *
    refine CmpD.split (fun (c2:g1≤seq)=>?_) (fun (c2:¬ g1≤seq)=>?_)
    rotate_left
    · exact ⟨_,Drop.refl _,(g1,g2) :: gs,s,t,u,h,g1,⟨z2a,z2l,z2c⟩,by rw [hrel,relAll,if_neg c2],⟨rfl,hN2⟩,hf2,hz,hzc,rfl,rfl,rfl⟩
    rcases hz.mem with q0 | ⟨bZ,oZ,cZ,TZ,fZ,rfl,hIZ,hcZ⟩
    · omega
    have hr64:In64 s∧In64 t∧In64 u∧In64 h:=by unfold Ok at hring; unfold In64; omega
    obtain ⟨B2,hB2⟩:∃ B2:List Blk,B2=[(b2,row (jC ⟨sa,sl,sc⟩ ⟨wa,wl,wc⟩ d.count d.down (gv d.arm) (gv d.fault) ⟨l1,l2,l3,l4,l5,l6,l7⟩ s t u h je g1 ⟨some ⟨bZ,oZ,none⟩,z2l,z2c⟩ jy false) 85)]:=⟨_,rfl⟩
    refine CodeF.blockF ?_ rfl
    refine CodeF.join [1,2,4,6,7] (fun vs J S'=>∃ (b6:Nat) (ra rb rc rd re:Int),dropS s t u h g2=(ra,rb,rc,rd,re)∧I=J ∧
      vs=[.int .i64 seq,.pointer (some ⟨b2,0,none⟩),.pointer (some ⟨b4,0,none⟩),.pointer (some ⟨b6,0,none⟩),.int .i64 re]∧S'=[B2,B4,[(b6,row [.int .i64 ra,.int .i64 rb,.int .i64 rc,.int .i64 rd] 83)]]) ?_ ?_
    · refine CodeF.schedT [[],[0],[],[2],[2,3],[2,3,4],[0,1,2,3,4,5],[0,1,2,3,4,5,6],[0,1,2,3,4,5,6,7],[0,1,2,3,4,5,6,7],[],[0,1,2,3,4,5,6,7,8,10],[0,1,2,3,4,5,6,7,8,9,10,11]] (.rd 0 (.rd 1 (.rd 2 (.rd 3 (.rd 4 (.rd 5 (.alt (.ef 6 (.rd 7 (.rd 8 (.rd 9 (.ef 10 (.ef 11 (.rd 12 .nil))))))) (.ef 10 (.ef 6 (.rd 7 (.rd 8 (.rd 9 (.ef 11 (.rd 12 .nil)))))))))))))) (by kernel_rfl) ?_
      repeat (first | refine LoadP.at 0 rfl _ rfl rfl ?_)
      refine Chk.mk (by show 0≤(0:Int)∧(0:Int) < (z2l:Int); omega) ?_
      refine LoadP.imm [.int .i64 g2] ⟨cZ,TZ,fZ,.imm hIZ,take_get (i:=0) hcZ rfl,rfl⟩ ?_
      refine And.intro ?_ ?_
      · skip
        refine Tri.free (ref_Drop s t u h g2 I hr64.1 hr64.2.1 hr64.2.2.1 hr64.2.2.2 (hgr (g1,g2) (by simp)).2) ?_
        rintro r _ _ hJ6 ⟨⟨ra,rb,rc,rd,re,rfl,hdr⟩,rfl⟩
        skip
        conv=>whnf
        intro b6
        repeat (first | refine StoreD.st 2 rfl rfl rfl ?_ | refine Chk.mk ⟨rfl,rfl,trivial⟩ ?_)
        exact ⟨_,by rw [hB2]; exact Drop.refl _,b6,ra,rb,rc,rd,re,hdr,rfl,rfl,rfl⟩
      · conv=>whnf
        intro b6
        repeat (first | refine Chk.mk ⟨rfl,rfl,trivial⟩ ?_)
        refine Tri.free (ref_Drop s t u h g2 I hr64.1 hr64.2.1 hr64.2.2.1 hr64.2.2.2 (hgr (g1,g2) (by simp)).2) ?_
        rintro r _ _ hJ6 ⟨⟨ra,rb,rc,rd,re,rfl,hdr⟩,rfl⟩
        repeat (first | refine StoreD.st 2 rfl rfl rfl ?_)
        exact ⟨_,by rw [hB2]; exact Drop.refl _,b6,ra,rb,rc,rd,re,hdr,rfl,rfl,rfl⟩
    rintro vs gE J S' hJ ⟨b6,ra,rb,rc,rd,re,hdr,rfl,rfl,rfl⟩
    refine CodeF.den ?_
    have hmid:=fun he=>dropS_mid hring hdr he
    by_cases he:re≠0
    · refine CmpD.no he ?_
      rw [hB2,hB4]
      repeat (first | refine LoadD.own 0 rfl _ rfl rfl ?_ | refine LoadD.own 1 rfl _ rfl rfl ?_ | refine StoreD.st 1 rfl rfl rfl ?_)
      have hrel2:relAll seq jg js jt ju jh=((g1,g2) :: gs,(s,t,u,h,re)):=by
        rw [hrel,relAll,if_pos c2,hdr]
        dsimp only
        rw [if_neg he]
      rw [hrel2]
      exact Done.mk ⟨_,rfl,⟨⟨sa,sl,sc⟩,⟨wa,wl,wc⟩,⟨some ⟨bZ,oZ,none⟩,z2l,z2c⟩,g1,rfl,hR,hz,hzc,⟨rfl,hN2⟩,hf2⟩⟩
    obtain rfl:re=0:=by omega
    rw [hB2]
    repeat (first | refine LoadD.own 0 rfl _ rfl rfl ?_ | refine LoadD.own 2 rfl _ rfl rfl ?_ | refine StoreD.st 0 rfl rfl rfl ?_ | refine CmpD.yes rfl ?_)
    refine sliceD tabOk rfl rfl rfl rfl 1 z2l z2c ⟨_,rfl⟩ rfl rfl (.inl rfl) (by show 1≤z2l∧z2l≤z2c∧z2c≤z2c; omega) ?_
    repeat (first | refine LoadD.own 0 rfl _ rfl rfl ?_ | refine StoreD.st 0 rfl rfl rfl ?_)
    refine ToD.to (g1+1) (wrap_i64 (by omega) (by omega)) ?_
    repeat (first | refine StoreD.st 0 rfl rfl rfl ?_)
    refine ⟨_,Drop.pick [0,1] _ rfl,⟨gs,ra,rb,rc,rd,g1+1,⟨slAddr (some ⟨bZ,oZ,none⟩) 1 z2c 1,z2l - 1,z2c - 1⟩,?_,hmid rfl,fun g hg=>hgr g (by simp [hg]),hN2,by omega,rds_tail hz hzc,by dsimp only; omega,rfl,rfl,rfl⟩,?_⟩
    · rw [hrel,relAll,if_pos c2,hdr]
      dsimp only
      rw [if_pos rfl]
    · show z2l - 1 < z2l; omega
end Go.Proofs.YtegdcjnjnoeinaaGreat
namespace Go.Proofs.YtegdcjnjnoeinaaGreat
open Go.RowKit Go.Sl
set_option maxRecDepth 20000
theorem r6_PutF {I:Imm} (e s:Int) {a:Option Addr} {cap:Nat} {gs:List Img} (h:ImgsOk I a gs) (hcap:∀ g ∈ gs,g.len≤g.cap) (hlen:gs.length≤1000000000) :
    Tri Tryz.prog 203 #[.agg #[.int .i64 e,.int .i64 s,.slice a gs.length cap]] I [] fun v J _ =>
      (¬ RightP e s (gs.map Img.pr)∧v=.tuple #[.slice none 0 0,.int .i64 80]) ∨
      (RightP e s (gs.map Img.pr)∧∃ aO capO,∃ bs:List Bk,v=.tuple #[.slice aO (gs.length+1) capO,.int .i64 0]∧Rds J aO (gs.length+1) (bs.map Bk.cell)∧bs.map Bk.data=putP e.toNat s.toNat (gs.map Img.pr)∧∀ b ∈ bs,BkOk J b):=by
  by_cases hR:RightP e s (gs.map Img.pr)
  · obtain ⟨e,rfl⟩:∃ k:Nat,e=k:=⟨e.toNat,by have:=hR.1; omega⟩
    obtain ⟨s,rfl⟩:∃ k:Nat,s=k:=⟨s.toNat,by have:=hR.2.2.1; omega⟩
    refine Tri.fixed (r6_Put (S:=[]) e s (imgsR_of h) hcap hR) ?_
    rintro v J S' hJ ⟨aO,capO,chO,bs,rfl,h1,h2,h3,rfl⟩
    exact ⟨0,chO,rfl,fun J' hJ' hm=>.inr ⟨hR,aO,capO,bs,rfl,Rds.of_own h1 hm,h2,fun b hb=>(h3 b hb).mono hJ'⟩⟩
  · refine Tri.of (args:=[.agg #[.int .i64 e,.int .i64 s,.slice a gs.length cap]]) tabOk Tryz.func203 rfl (by kernel_rfl) (by kernel_rfl) ?_
    conv=>whnf
    intro b1
    repeat (first | refine LoadD.own 0 rfl _ rfl rfl ?_)
    refine Tri.mono (r6_Right e s (imgsR_of h) hlen) ?_
    rintro v J _ hJ ⟨rfl,rfl,rfl⟩
    rw [decide_eq_false hR]
    skip
    exact Done.mk (.inl ⟨hR,rfl⟩)
theorem wrAll_cons:∀ (f:Nat→Int) (bs:List Dat) (i:Nat) (d:DSt) (b:Dat),wrAll f (b :: bs) i d=if (d.write (f i) b).2≠0 then d.write (f i) b else wrAll f bs (i+1) (d.write (f i) b).1:=fun _ _ _ _ _=>rfl
set_option maxHeartbeats 8000000 in
theorem r8_Append {I:Imm} {v:Value} {j:JSt} {d:DSt} (h:RJk I v j d) (hw:j.Wf) (hls:j.lay.lb=j.s) (hf:d.Few 900000) (aL:Option Addr) (capL:Nat) (gs:List Img) (hi:ImgsOk I aL gs) (hcap:∀ g ∈ gs,g.len≤g.cap) (hgl:gs.length≤1000000) (hgr:j.groups.length≤100000) :
    Tri Tryz.prog 210 #[v,.slice aL gs.length capL,.bool false] I [] fun r J _=>∃ v',r=.tuple #[v',.int .i64 (j.appendB d (gs.map Img.pr) false).2.2.1,.int .i64 (j.appendB d (gs.map Img.pr) false).2.2.2] ∧
      RJk J v' (j.appendB d (gs.map Img.pr) false).1 (j.appendB d (gs.map Img.pr) false).2.1:=by
  have hnx:=hw.next
  have hring:=hw.ring
  have hlog:=hw.log
  have h0:=h
  obtain ⟨s,w,sz,first,rfl,hR,hz,hzc,hN,hf1⟩:=h.ex
  have hNl:=hN.len
  have hzl:sz.len=j.groups.length:=by have:=hz.len; simpa [ints] using this.symm
  obtain ⟨⟨l1,l2,l3,l4,l5,l6,l7⟩,js,jt,ju,jh,je,jn,jy,jg,jb⟩:=j
  obtain ⟨sa,sl,sc⟩:=s
  obtain ⟨wa,wl,wc⟩:=w
  obtain ⟨za,zl,zc⟩:=sz
  dsimp only at *
  obtain rfl:l2=2:=hlog
  obtain rfl:js=l3:=hls.symm
  subst hzl
  refine Tri.ofF (args:=[.agg (jC ⟨sa,sl,sc⟩ ⟨wa,wl,wc⟩ d.count d.down (gv d.arm) (gv d.fault) ⟨l1,2,js,l4,l5,l6,l7⟩ js jt ju jh je first ⟨za,jg.length,zc⟩ jy jb).toArray,.slice aL gs.length capL,.bool false]) tabOk Tryz.func210 rfl (by kernel_rfl) (by kernel_rfl) ?_
  unfold JSt.appendB
  refine CodeF.stepD ?_
  conv=>whnf
  intro b3
  conv=>whnf
  intro b6
  refine CodeF.stepD ?_
  repeat (first | refine LoadD.own 0 rfl _ rfl rfl ?_)
  cases jb
  rotate_left
  · repeat (first | refine LoadD.own 0 rfl _ rfl rfl ?_ | refine LoadD.own 1 rfl _ rfl rfl ?_ | refine StoreD.st 1 rfl rfl rfl ?_)
    exact Done.mk ⟨_,rfl,h0⟩
  skip
  rw [if_neg (by simp)]
  unfold JSt.append
  refine CodeF.stepD ?_
  repeat (first | refine LoadD.own 0 rfl _ rfl rfl ?_)
  refine Tri.free (r8_NextC ⟨sa,sl,sc⟩ ⟨wa,wl,wc⟩ ⟨za,jg.length,zc⟩ d.count d.down (gv d.arm) (gv d.fault) ⟨l1,2,js,l4,l5,l6,l7⟩ js jt ju jh je first jy false (by dsimp only; omega) I) ?_
  dsimp only
  rw [hNl]
  rintro r _ _ hJ ⟨rfl,rfl⟩
  skip
  refine CodeF.stepD ?_
  repeat (first | refine LoadD.own 0 rfl _ rfl rfl ?_)
  refine Tri.free (r6_PutF je jn hi hcap (by omega)) ?_
  rintro r J1 _ hJ1 (⟨hno,rfl⟩ | ⟨hRt,aO,capO,bs,rfl,hO,hbd,hbk⟩)
  · skip
    refine CodeF.stepD ?_
    repeat (first | refine LoadD.own 0 rfl _ rfl rfl ?_ | refine LoadD.own 1 rfl _ rfl rfl ?_ | refine StoreD.st 1 rfl rfl rfl ?_ | refine CmpD.no (by decide) ?_)
    rw [if_pos hno]
    exact Done.mk ⟨_,rfl,h0.mono hJ1⟩
  rw [if_neg (by simpa using hRt)]
  skip
  refine CodeF.stepD ?_
  repeat (first | refine CmpD.yes rfl ?_)
  refine CodeF.stepD ?_
  repeat (first | refine LoadD.own 0 rfl _ rfl rfl ?_)
  have hll:(gs.map Img.pr).length=gs.length:=List.length_map _
  rw [hll]
  refine CmpD.split (fun (c1:(js:Int) < ((gs.length+1:Nat):Int))=>?_) (fun (c1:¬ (js:Int) < ((gs.length+1:Nat):Int))=>?_)
  · rw [if_pos (by omega)]
    repeat (first | refine LoadD.own 0 rfl _ rfl rfl ?_ | refine LoadD.own 1 rfl _ rfl rfl ?_ | refine StoreD.st 1 rfl rfl rfl ?_)
    exact Done.mk ⟨_,rfl,h0.mono hJ1⟩
  rw [if_neg (by omega)]
  refine CodeF.stepD ?_
  skip
  refine CodeF.stepD ?_
  skip
  refine CodeF.stepD ?_
  repeat (first | refine LoadD.own 0 rfl _ rfl rfl ?_)
  have hr64:In64 js∧In64 jt∧In64 ju∧In64 jh∧In64 ((gs.length+1:Nat):Int):=by unfold Ok at hring; unfold In64; omega
  refine Tri.free (ref_Put js jt ju jh ((gs.length+1:Nat):Int) J1 hr64.1 hr64.2.1 hr64.2.2.1 hr64.2.2.2.1 hr64.2.2.2.2 0 (by unfold In64; omega)) ?_
  rintro r _ _ hJ2 ⟨⟨ra,rb,rc,rd,rx,re,rfl,hput⟩,rfl⟩
  conv=>whnf
  intro b13
  repeat (first | refine StoreD.st 2 rfl rfl rfl ?_)
  have hput':putS js jt ju jh ((gs.length:Int)+1) (if false=true then (gs.length:Int)+1 else 0)=((ra,rb,rc,rd,re),rx):=by
    rw [if_neg (by simp),← hput]; congr 1
  rw [hput']
  have hmid:=fun he=>putS_mid hring hput he
  dsimp only
  refine CodeF.stepD ?_
  by_cases he:re≠0
  · refine CmpD.no he ?_
    repeat (first | refine LoadD.own 0 rfl _ rfl rfl ?_ | refine LoadD.own 1 rfl _ rfl rfl ?_ | refine StoreD.st 1 rfl rfl rfl ?_)
    rw [if_pos he]
    exact Done.mk ⟨_,rfl,h0.mono hJ1⟩
  obtain rfl:re=0:=by omega
  rw [if_neg he]
  obtain ⟨rfl,rfl,hok2,hx0,hx1⟩:=hmid rfl
  repeat (first | refine CmpD.yes rfl ?_)
  refine CodeF.stepD ?_
  repeat (first | refine LoadD.own 2 rfl _ rfl rfl ?_ | refine StoreD.st 0 rfl rfl rfl ?_)
  have hbl:bs.length=gs.length+1:=by have:=hO.len; rwa [List.length_map] at this
  obtain ⟨B6,hB6⟩:∃ B6:List Blk,B6=[(b6,row (jC ⟨none,0,0⟩ ⟨none,0,0⟩ 0 false 0 0 ⟨0,0,0,0,0,0,0⟩ 0 0 0 0 0 0 ⟨none,0,0⟩ 0 false) 85)]:=⟨_,rfl⟩
  obtain ⟨bds,hbds⟩:∃ bds,bds=putP je.toNat jn.toNat (gs.map Img.pr):=⟨_,rfl⟩
  rw [← hbds] at hbd ⊢
  obtain ⟨F,hF⟩:∃ F:Nat→Int,F=fun i:Nat=>2+(rx+i) % ra:=⟨_,rfl⟩
  have hF':(fun i:Nat=>2+(rx+(i:Int)) % ra)=F:=hF.symm
  rw [hF']
  have hWk:=hf
  refine CodeF.join [3,6,9,10] (fun vs J S'=>∃ (d2:DSt) (s2 w2:Hd),wrAll F bds 0 d=(d2,0)∧RDk J (rV s2 w2 d2.count d2.down (gv d2.arm) (gv d2.fault)) d2∧J1.le J ∧
      vs=[.pointer (some ⟨b3,0,none⟩),.pointer (some ⟨b6,0,none⟩),.int .i64 jn,.slice aO (gs.length+1) capO] ∧
      S'=[[(b3,row (jC s2 w2 d2.count d2.down (gv d2.arm) (gv d2.fault) ⟨l1,2,ra,l4,l5,l6,l7⟩ ra rb rc rd je first ⟨za,jg.length,zc⟩ jy false) 85)],B6,[]]) ?_ ?_
  rotate_left
  · rintro vs gE J2 S2 hJ2 ⟨d2,⟨sa2,sl2,sc2⟩,⟨wa2,wl2,wc2⟩,hwr,hR2,hle2,rfl,rfl⟩
    rw [hwr]
    rw [if_neg (by simp)]
    refine CodeF.stepD ?_
    skip
    refine CodeF.stepD ?_
    repeat (first | refine LoadD.own 0 rfl _ rfl rfl ?_)
    have hplain:∀ u ∈ ints (jg.map Prod.snd),Plain u=true:=by
      intro u hu
      obtain ⟨x,_,rfl⟩:=List.mem_map.1 hu
      rfl
    have hz2:=hz.mono (Imm.le_trans hJ1 hle2)
    refine appendD tabOk rfl rfl rfl rfl rfl rfl rfl 2 rfl (OwnC.nil 1 none) (SrcOk.slice (n:=jg.length) (news:=ints (jg.map Prod.snd)) tabOk rfl (show Rds J2 za (jg.length * 1) (ints (jg.map Prod.snd)) by rw [Nat.mul_one]; exact hz2).slC hplain) rfl (by show (0+jg.length) * 8≤_; omega) (by omega) ?_
    intro aM capM chM hM
    rw [List.nil_append,Nat.zero_add] at hM
    rw [Nat.zero_add jg.length]
    skip
    refine CodeF.stepD ?_
    skip
    conv=>whnf
    intro b105
    skip
    refine appendD tabOk rfl rfl rfl rfl rfl rfl rfl 2 rfl hM (SrcOk.slice (n:=1) (news:=[.int .i64 ((gs.length+1:Nat):Int)]) tabOk rfl ((OwnC.whole (len:=1) (size:=1) rfl).slC 3 rfl) (by intro v hv; simp at hv; subst hv; rfl)) rfl (by show (jg.length+1) * 8≤_; omega) (by omega) ?_
    intro aM2 capM2 chM2 hM2
    repeat (first | refine StoreD.st 0 rfl rfl rfl ?_)
    refine CodeF.fixD 2 rfl fun J3 hJ3 hm3=>?_
    refine CodeF.den ?_
    rw [hB6]
    repeat (first | refine LoadD.own 0 rfl _ rfl rfl ?_ | refine LoadD.own 1 rfl _ rfl rfl ?_ | refine StoreD.st 1 rfl rfl rfl ?_)
    refine Done.mk ⟨_,rfl,⟨⟨sa2,sl2,sc2⟩,⟨wa2,wl2,wc2⟩,⟨aM2,jg.length+1,capM2⟩,first,rfl,hR2.mono hJ3,?_,hM2.le,hN.snoc _,hf1⟩⟩
    have:=Rds.of_own hM2 hm3
    show Rds J3 aM2 (jg.length+1) (ints ((jg++[(jn,(gs.length:Int)+1)]).map Prod.snd))
    rw [List.map_append,ints,List.map_append]
    exact this
  refine CodeF.stepD ?_
  refine CodeF.blockF ?_ rfl
  refine CodeF.loopF [3,6,9,10,14,15] (fun vs J S'=>∃ (i:Nat) (d2:DSt) (s2 w2:Hd),i≤gs.length+1∧wrAll F bds 0 d=wrAll F (bds.drop i) i d2∧d2.Few (900000+i)∧RDk J (rV s2 w2 d2.count d2.down (gv d2.arm) (gv d2.fault)) d2∧J1.le J ∧
      vs=[.pointer (some ⟨b3,0,none⟩),.pointer (some ⟨b6,0,none⟩),.int .i64 jn,.slice aO (gs.length+1) capO,.int .i64 ((rx+i) % ra),.int .i64 i] ∧
      S'=[[(b3,row (jC s2 w2 d2.count d2.down (gv d2.arm) (gv d2.fault) ⟨l1,2,ra,l4,l5,l6,l7⟩ ra rb rc rd je first ⟨za,jg.length,zc⟩ jy false) 85)],B6])
    (fun vs _ _=>match vs with | [_,_,_,_,_,.int _ i]=>((gs.length:Int)+1 - i).toNat | _=>0) ?_ ?_
  · refine ⟨_,by rw [hB6]; exact Drop.pick [0,1] _ rfl,0,d,⟨sa,sl,sc⟩,⟨wa,wl,wc⟩,by omega,by rw [List.drop_zero],hf.mono (by omega),hR.mono hJ1,Imm.le_refl _,?_,rfl⟩
    rw [show (rx+((0:Nat):Int)) % ra=rx by rw [Int.natCast_zero,Int.add_zero,Int.emod_eq_of_lt hx0 hx1]]
    rfl
  clear hR h0 h
  rintro vs gE J S' hJ ⟨i,d2,⟨sa2,sl2,sc2⟩,⟨wa2,wl2,wc2⟩,hi1,hwr,hf2,hR2,hle,rfl,rfl⟩
  refine CodeF.stepD ?_
  skip
  refine CmpD.split (fun (c2:(i:Int) < ((gs.length+1:Nat):Int))=>?_) (fun (c2:¬ (i:Int) < ((gs.length+1:Nat):Int))=>?_)
  rotate_left
  · obtain rfl:i=gs.length+1:=by omega
    have hdl:bds.length=gs.length+1:=by rw [← hbd,List.length_map]; exact hbl
    refine ⟨_,Drop.and (Drop.refl _),d2,⟨sa2,sl2,sc2⟩,⟨wa2,wl2,wc2⟩,?_,hR2,hle,rfl,rfl⟩
    rw [hwr,List.drop_of_length_le (by omega)]; rfl
  have hib:i < bs.length:=by omega
  have hbo:=(hbk _ (List.getElem_mem hib)).mono hle
  have hcell:(bs.map Bk.cell)[i]?=some (bs[i]).cell:=by rw [List.getElem?_map,List.getElem?_eq_getElem hib]; rfl
  have hdr:bds.drop i=(bs[i]).data :: bds.drop (i+1):=by
    rw [← hbd,List.drop_eq_getElem_cons (by rw [List.length_map]; exact hib),List.getElem_map]
  rw [hdr,wrAll_cons] at hwr
  generalize bs[i]=bk at *
  rcases hO.mem with q0 | ⟨bO,oO,cO,TO,fO,rfl,hIO,hcO⟩
  · omega
  obtain ⟨at_,hat⟩:∃ a,a=(rx+(i:Int)) % ra:=⟨_,rfl⟩
  have hFi:F i=2+at_:=by rw [hF,hat]
  have hnm:=next_mod (s:=ra) (a:=rx) (k:=i) (by omega)
  have hat2:0≤at_∧at_ < ra:=by rw [hat]; exact ⟨Int.emod_nonneg _ (by omega),Int.emod_lt_of_pos _ (by omega)⟩
  rw [← hat] at hnm ⊢
  rw [hFi] at hwr
  have hra:ra≤512:=by unfold Ok at hring; omega
  obtain ⟨w3,hw3⟩:∃ w3,w3=d2.write (2+at_) bk.data:=⟨_,rfl⟩
  have hf3:=hf2.write (2+at_) bk.data
  rw [← hw3] at hwr hf3
  refine CodeF.join [3,6,9,10,14,15] (fun vs J S'=>∃ (s3 w4:Hd),w3.2=0∧RDk J (rV s3 w4 w3.1.count w3.1.down (gv w3.1.arm) (gv w3.1.fault)) w3.1∧J1.le J ∧
      vs=[.pointer (some ⟨b3,0,none⟩),.pointer (some ⟨b6,0,none⟩),.int .i64 jn,.slice (some ⟨bO,oO,none⟩) (gs.length+1) capO,.int .i64 ((rx+((i+1:Nat):Int)) % ra),.int .i64 i] ∧
      S'=[[(b3,row (jC s3 w4 w3.1.count w3.1.down (gv w3.1.arm) (gv w3.1.fault) ⟨l1,2,ra,l4,l5,l6,l7⟩ ra rb rc rd je first ⟨za,jg.length,zc⟩ jy false) 85)],B6]) ?_ ?_
  rotate_left
  · rintro vs gE J4 S4 hJ4 ⟨⟨sa3,sl3,sc3⟩,⟨wa3,wl3,wc3⟩,he3,hR3,hle3,rfl,rfl⟩
    refine CodeF.den ?_
    refine ToD.to (((i+1:Nat)):Int) (by rw [wrap_i64 (by omega) (by omega)]; omega) ?_
    refine ⟨_,Drop.refl _,⟨i+1,w3.1,⟨sa3,sl3,sc3⟩,⟨wa3,wl3,wc3⟩,by omega,?_,hf3.mono (by omega),hR3,hle3,rfl,rfl⟩,?_⟩
    · rw [hwr,if_neg (by rw [he3]; simp)]
    · show ((gs.length:Int)+1 - ((i+1:Nat):Int)).toNat < ((gs.length:Int)+1 - (i:Int)).toNat; omega
  refine CodeF.blockF ?_ rfl
  obtain ⟨B3,hB3⟩:∃ B3:List Blk,B3=[(b3,row (jC ⟨sa2,sl2,sc2⟩ ⟨wa2,wl2,wc2⟩ d2.count d2.down (gv d2.arm) (gv d2.fault) ⟨l1,2,ra,l4,l5,l6,l7⟩ ra rb rc rd je first ⟨za,jg.length,zc⟩ jy false) 85)]:=⟨_,rfl⟩
  refine CodeF.join [3,6,9,10,14,15,16,17] (fun vs J S'=>∃ (s3 w4:Hd) (b16:Nat),RDk J (rV s3 w4 w3.1.count w3.1.down (gv w3.1.arm) (gv w3.1.fault)) w3.1∧J1.le J ∧
      vs=[.pointer (some ⟨b3,0,none⟩),.pointer (some ⟨b6,0,none⟩),.int .i64 jn,.slice (some ⟨bO,oO,none⟩) (gs.length+1) capO,.int .i64 at_,.int .i64 i,.pointer (some ⟨b16,0,none⟩),.int .i64 w3.2] ∧
      S'=[B3,B6,[(b16,row (rC s3 w4 w3.1.count w3.1.down (gv w3.1.arm) (gv w3.1.fault)) 76)]]) ?_ ?_
  · refine CodeF.schedT [[],[0],[],[2],[2,3],[],[2,3,4,5],[],[],[7,8],[7,8,9],[0,1,2,3,4,5,6,7,8,9,10],[0,1,2,3,4,5,6,7,8,9,10,11],[0,1,2,3,4,5,6,7,8,9,10,11,12],[0,1,2,3,4,5,6,7,8,9,10,11,12],[],[0,1,2,3,4,5,6,7,8,9,10,11,12,13,15],[0,1,2,3,4,5,6,7,8,9,10,11,12,13,14,15,16]] (.rd 0 (.rd 1 (.rd 2 (.rd 3 (.rd 4 (.rd 5 (.rd 6 (.rd 7 (.rd 8 (.rd 9 (.rd 10 (.alt (.ef 11 (.rd 12 (.rd 13 (.rd 14 (.ef 15 (.ef 16 (.rd 17 .nil))))))) (.ef 15 (.ef 11 (.rd 12 (.rd 13 (.rd 14 (.ef 16 (.rd 17 .nil))))))))))))))))))) (by kernel_rfl) ?_
    repeat (first | refine LoadP.at 0 rfl _ rfl rfl ?_)
    refine ToD.to (2+at_) (by show IntKind.i64.wrap (2+at_)=_; exact wrap_i64 (by omega) (by omega)) ?_
    refine Chk.mk (by omega) ?_
    refine LoadP.imm [bk.cell] ⟨cO,TO,fO,.imm (hle _ _ hIO),take_get hcO hcell,rfl⟩ ?_
    refine And.intro ?_ ?_
    · skip
      refine Tri.free (r4_Write hR2 (hf2.mono (by omega)) (2+at_) bk.a 4096 bk.cap bk.data hbo (by omega) (by unfold In64; omega)) ?_
      rw [← hw3]
      rintro r J3 _ hJ3 ⟨v',rfl,hR3⟩
      obtain ⟨⟨sa3,sl3,sc3⟩,⟨wa3,wl3,wc3⟩,rfl,_⟩:=hR3.cells
      skip
      conv=>whnf
      intro b16
      repeat (first | refine StoreD.st 2 rfl rfl rfl ?_ | refine Chk.mk ⟨rfl,rfl,trivial⟩ ?_)
      exact ⟨_,by rw [hB3]; exact Drop.refl _,⟨sa3,sl3,sc3⟩,⟨wa3,wl3,wc3⟩,b16,hR3,Imm.le_trans hle hJ3,rfl,rfl⟩
    · conv=>whnf
      intro b16
      repeat (first | refine Chk.mk ⟨rfl,rfl,trivial⟩ ?_)
      refine Tri.free (r4_Write hR2 (hf2.mono (by omega)) (2+at_) bk.a 4096 bk.cap bk.data hbo (by omega) (by unfold In64; omega)) ?_
      rw [← hw3]
      rintro r J3 _ hJ3 ⟨v',rfl,hR3⟩
      obtain ⟨⟨sa3,sl3,sc3⟩,⟨wa3,wl3,wc3⟩,rfl,_⟩:=hR3.cells
      repeat (first | refine StoreD.st 2 rfl rfl rfl ?_)
      exact ⟨_,by rw [hB3]; exact Drop.refl _,⟨sa3,sl3,sc3⟩,⟨wa3,wl3,wc3⟩,b16,hR3,Imm.le_trans hle hJ3,rfl,rfl⟩
  rintro vs gE J4 S4 hJ4 ⟨⟨sa3,sl3,sc3⟩,⟨wa3,wl3,wc3⟩,b16,hR3,hle3,rfl,rfl⟩
  obtain ⟨d3,e3⟩:=w3
  dsimp only at *
  rw [hB3]
  refine CodeF.den ?_
  repeat (first | refine LoadD.own 2 rfl _ rfl rfl ?_ | refine StoreD.st 0 rfl rfl rfl ?_)
  by_cases he:e3≠0
  · refine CmpD.no he ?_
    rw [hB6]
    repeat (first | refine LoadD.own 0 rfl _ rfl rfl ?_ | refine LoadD.own 1 rfl _ rfl rfl ?_ | refine StoreD.st 0 rfl rfl rfl ?_ | refine StoreD.st 1 rfl rfl rfl ?_)
    rw [if_pos he] at hwr
    rw [hwr]
    dsimp only
    rw [if_pos he]
    exact Done.mk ⟨_,rfl,⟨⟨sa3,sl3,sc3⟩,⟨wa3,wl3,wc3⟩,⟨za,jg.length,zc⟩,first,rfl,hR3,hz.mono (Imm.le_trans hJ1 hle3),hzc,hN,hf1⟩⟩
  obtain rfl:e3=0:=by omega
  repeat (first | refine CmpD.yes rfl ?_)
  refine ToD.to (at_+1) (wrap_i64 (by omega) (by omega)) ?_
  repeat (first | refine LoadD.own 0 rfl _ rfl rfl ?_)
  refine CmpD.split (fun (c3:at_+1=ra)=>?_) (fun (c3:¬ at_+1=ra)=>?_)
  · rw [if_pos c3] at hnm
    refine ⟨_,Drop.pick [0,1] _ rfl,⟨sa3,sl3,sc3⟩,⟨wa3,wl3,wc3⟩,rfl,hR3,hle3,?_,rfl⟩
    rw [show (rx+((i+1:Nat):Int)) % ra=0 by rw [Int.natCast_add]; exact hnm.symm]
    rfl
  · rw [if_neg c3] at hnm
    refine ⟨_,Drop.pick [0,1] _ rfl,⟨sa3,sl3,sc3⟩,⟨wa3,wl3,wc3⟩,rfl,hR3,hle3,?_,rfl⟩
    rw [show (rx+((i+1:Nat):Int)) % ra=at_+1 by rw [Int.natCast_add]; exact hnm.symm]
    rfl
end Go.Proofs.YtegdcjnjnoeinaaGreat
namespace Go.Proofs.YtegdcjnjnoeinaaGreat
open Go.RowKit Go.Sl
set_option maxRecDepth 20000
theorem pput_miss (n:Int):∀ (l ms:List PImg),(∀ g ∈ l,g.1≠n)→(l.foldl pput ms).lookup n=ms.lookup n
  | [],_,_=>rfl
  | g :: l,ms,h=>by
    rw [List.foldl_cons,pput_miss n l _ (fun x hx=>h x (by simp [hx])),lookup_pput,if_neg (h g (by simp))]
theorem last_hit {A B:List PImg} {g:PImg} {n:Int} (hg:g.1=n) (hB:∀ x ∈ B,x.1≠n):(lastP (A++g :: B)).lookup n=some g.2:=by
  unfold lastP
  rw [List.foldl_append,List.foldl_cons,pput_miss n B _ hB,lookup_pput,if_pos hg]
theorem last_some {l:List PImg} {g:PImg} {n:Int} (hg:g ∈ l) (hn:g.1=n):(lastP l).lookup n≠none:=by
  have key:∀ (l ms:List PImg),(g ∈ l∨ms.lookup n≠none)→(l.foldl pput ms).lookup n≠none:=by
    intro l
    induction l with
    | nil =>
      intro ms h
      rcases h with h | h
      · cases h
      · exact h
    | cons x l ih =>
      intro ms h
      rw [List.foldl_cons]
      refine ih _ ?_
      by_cases hx:x.1=n
      · right; rw [lookup_pput,if_pos hx]; simp
      · rcases h with h | h
        · rcases List.mem_cons.1 h with rfl | h
          · exact absurd hn hx
          · exact .inl h
        · right; rw [lookup_pput,if_neg hx]; exact h
  exact key l [] (.inl hg)
theorem last_miss {l:List PImg} {n:Int} (h:∀ x ∈ l,x.1≠n):(lastP l).lookup n=none:=pput_miss n l [] h
theorem mem_of_lookup {n:Int} {b:Dat}:∀ {l:List PImg},l.lookup n=some b→(n,b) ∈ l
  | [],h=>by cases h
  | g :: l,h=>by
    rw [List.lookup_cons] at h
    split at h
    · rename_i he
      have:n=g.1:=by simpa using he
      cases h
      rw [this]; simp
    · exact List.mem_cons_of_mem _ (mem_of_lookup h)
@[reducible] def vC (jc:List Value) (x:Lay) (slot:Int) (fr:Hd) (br:Bool):List Value:=jc++(x.vals++[.int .i64 slot,fr.v,.bool br])
structure RVk (I:Imm) (val:Value) (v:VSt) (d:DSt) (k:Nat):Prop where
  ex:∃ (s w sz fr:Hd) (first:Int) (gs:List Img),val=.agg (vC (jC s w d.count d.down (gv d.arm) (gv d.fault) v.j.lay v.j.s v.j.t v.j.u v.j.h v.j.epoch first sz v.j.synced v.j.broken) v.j.lay v.slot fr v.broken).toArray ∧
    RDk I (rV s w d.count d.down (gv d.arm) (gv d.fault)) d∧Rds I sz.a sz.len (ints (v.j.groups.map Prod.snd))∧sz.len≤sz.cap∧Nums first v.j.groups v.j.next∧1≤first ∧
    ImgsOk I fr.a gs∧fr.len=gs.length∧lastP (gs.map Img.pr)=v.fresh∧gs.length≤k
theorem RVk.mono {I J:Imm} {val:Value} {v:VSt} {d:DSt} {k:Nat} (h:RVk I val v d k) (hJ:I.le J):RVk J val v d k:=by
  obtain ⟨s,w,sz,fr,first,gs,h1,h2,h3,h4,h5,h6,h7,h8,h9⟩:=h.ex
  exact ⟨s,w,sz,fr,first,gs,h1,h2.mono hJ,h3.mono hJ,h4,h5,h6,h7.mono hJ,h8,h9⟩
theorem r4_Read {I:Imm} {v:Value} {d:DSt} (hD:RDk I v d) (hf:d.Few 1000000) (n:Int) :
    Tri Tryz.prog 207 #[v,.int .i64 n] I [] fun r J _=>I=J∧∃ a len cap,r=.tuple #[.slice a len cap,.int .i64 (d.read n).2]∧Rds I a len (bts (d.read n).1):=by
  have hwf:=hD.wf
  have hr:=hwf.range
  have hR:=hD
  obtain ⟨⟨sa,sl,sc⟩,⟨wa,wl,wc⟩,rfl,hsl⟩:=hD.cells
  dsimp only at hsl
  subst hsl
  refine Tri.of (args:=[rV ⟨sa,d.now.length,sc⟩ ⟨wa,wl,wc⟩ d.count d.down (gv d.arm) (gv d.fault),.int .i64 n]) tabOk Tryz.func207 rfl (by kernel_rfl) (by kernel_rfl) ?_
  conv=>whnf
  intro b2
  have bad:¬ (0≤n∧n < d.now.length)→d.read n=([],70):=by
    intro h
    have hw:wrongE d.now.length n=70:=by unfold wrongE; rw [if_neg (by omega),if_pos (by omega)]
    unfold DSt.read
    rw [hw,if_pos (by decide)]
  refine CmpD.split (fun (c1:n < 0)=>?_) (fun (c1:¬ n < 0)=>?_)
  · rw [bad (by omega)]
    skip
    exact Done.mk ⟨rfl,none,0,0,rfl,⟨rfl,.inl rfl⟩⟩
  repeat (first | refine LoadD.own 0 rfl _ rfl rfl ?_)
  refine CmpD.split (fun (c2:(d.now.length:Int)≤n)=>?_) (fun (c2:¬ (d.now.length:Int)≤n)=>?_)
  · rw [bad (by omega)]
    skip
    exact Done.mk ⟨rfl,none,0,0,rfl,⟨rfl,.inl rfl⟩⟩
  repeat (first | refine LoadD.own 0 rfl _ rfl rfl ?_)
  have hw:wrongE d.now.length n=0:=by unfold wrongE; rw [if_neg (by omega),if_neg (by omega)]
  cases hdn:d.down
  rotate_left
  · rw [show d.read n=([],6) by unfold DSt.read; rw [hw,if_neg (by simp),if_pos hdn]]
    skip
    exact Done.mk ⟨rfl,none,0,0,rfl,⟨rfl,.inl rfl⟩⟩
  rw [show d.read n=(d.now.getD n.toNat [],0) by unfold DSt.read; rw [hw,if_neg (by simp),if_neg (by rw [hdn]; simp)]]
  repeat (first | refine LoadD.own 0 rfl _ rfl rfl ?_)
  obtain ⟨i,rfl⟩:∃ i:Nat,n=i:=⟨n.toNat,by omega⟩
  have hat:=r4_AtD hR hf.1 i (by omega)
  rw [hdn] at hat
  refine Tri.free hat ?_
  rintro r _ _ hJ ⟨rfl,a,len,cap,rfl,_,hrd⟩
  skip
  rw [Int.toNat_natCast]
  exact Done.mk ⟨rfl,a,len,cap,rfl,hrd⟩
theorem img_cell {c:List Value} {o m:Nat} {gs:List Img} {i:Nat} (hc:(c.drop o).take m=imgCells gs) (hm:m=gs.length * 2) (hi:i < gs.length):(c.drop (o+i * 2)).take 2=[.int .i64 gs[i].blk,.slice gs[i].a gs[i].len gs[i].cap]:=by
  rw [take_part hc (by omega),imgCells_at hi]
set_option maxHeartbeats 4000000 in
theorem r11_Now {I:Imm} {val:Value} {v:VSt} {d:DSt} {q:Nat} (h:RVk I val v d q) (hq:q≤1000000) (n:Int) {b:Dat} (hb:v.fresh.lookup n=some b) :
    Tri Tryz.prog 206 #[val,.int .i64 n] I [] fun r J _=>I=J∧∃ a cap,r=.slice a b.length cap∧Rds I a b.length (bts b):=by
  obtain ⟨s,w,sz,fr,first,gs,rfl,hR,hz,hzc,hN,hf1,hG,hfl,hlast,hgk⟩:=h.ex
  obtain ⟨⟨⟨l1,l2,l3,l4,l5,l6,l7⟩,js,jt,ju,jh,je,jn,jy,jg,jb⟩,ep,slot,vf,vb⟩:=v
  obtain ⟨sa,sl,sc⟩:=s
  obtain ⟨wa,wl,wc⟩:=w
  obtain ⟨za,zl,zc⟩:=sz
  obtain ⟨fa,fl,fc⟩:=fr
  dsimp only at *
  subst hfl
  refine Tri.of (args:=[.agg (vC (jC ⟨sa,sl,sc⟩ ⟨wa,wl,wc⟩ d.count d.down (gv d.arm) (gv d.fault) ⟨l1,l2,l3,l4,l5,l6,l7⟩ js jt ju jh je first ⟨za,zl,zc⟩ jy jb) ⟨l1,l2,l3,l4,l5,l6,l7⟩ slot ⟨fa,gs.length,fc⟩ vb).toArray,.int .i64 n]) tabOk Tryz.func206 rfl (by kernel_rfl) (by kernel_rfl) ?_
  conv=>whnf
  intro b2
  repeat (first | refine LoadD.own 0 rfl _ rfl rfl ?_)
  refine ToD.to ((gs.length:Int) - 1) (by show IntKind.i64.wrap ((gs.length:Int) - 1)=_; exact wrap_i64 (by omega) (by omega)) ?_
  obtain ⟨B2,hB2⟩:∃ B2:List Blk,B2=[(b2,row (vC (jC ⟨sa,sl,sc⟩ ⟨wa,wl,wc⟩ d.count d.down (gv d.arm) (gv d.fault) ⟨l1,l2,l3,l4,l5,l6,l7⟩ js jt ju jh je first ⟨za,zl,zc⟩ jy jb) ⟨l1,l2,l3,l4,l5,l6,l7⟩ slot ⟨fa,gs.length,fc⟩ vb) 87)]:=⟨_,rfl⟩
  refine CodeF.loopD [1,2,5] (fun vs J S'=>∃ i:Nat,i≤gs.length∧(∀ x ∈ (gs.map Img.pr).drop i,x.1≠n)∧I=J∧vs=[.int .i64 n,.pointer (some ⟨b2,0,none⟩),.int .i64 ((i:Int) - 1)]∧S'=[B2])
    (fun vs _ _=>match vs with | [_,_,.int _ i]=>(i+1).toNat | _=>0) ?_ ?_
  · refine ⟨_,by rw [hB2]; exact Drop.refl _,gs.length,by omega,?_,rfl,rfl,rfl⟩
    intro x hx
    rw [List.drop_of_length_le (by rw [List.length_map]; omega)] at hx
    cases hx
  rintro vs gE J S' hJ ⟨i,hi,hno,rfl,rfl,rfl⟩
  refine CmpD.split (fun (c1:(0:Int)≤(i:Int) - 1)=>?_) (fun (c1:¬ (0:Int)≤(i:Int) - 1)=>?_)
  · obtain ⟨k,rfl⟩:∃ k:Nat,i=k+1:=⟨i - 1,by omega⟩
    have hk:k < gs.length:=by omega
    have hki:(((k+1:Nat):Int)) - 1=(k:Int):=by omega
    rw [hki]
    rcases hG.1.mem with q0 | ⟨bL,oL,cL,TL,fL,rfl,hIL,hcL⟩
    · omega
    have hcell:=img_cell hcL rfl hk
    have hgk2:=(hG.2 _ (List.getElem_mem hk))
    have hdr:(gs.map Img.pr).drop k=gs[k].pr :: (gs.map Img.pr).drop (k+1):=by
      rw [List.drop_eq_getElem_cons (by rw [List.length_map]; exact hk),List.getElem_map]
    have hall:gs.map Img.pr=(gs.map Img.pr).take k++gs[k].pr :: (gs.map Img.pr).drop (k+1):=by rw [← hdr,List.take_append_drop]
    generalize gs[k]=g at *
    rw [hB2]
    repeat (first | refine LoadD.own 0 rfl _ rfl rfl ?_)
    refine Chk.mk (by show 0≤(k:Int)∧(k:Int) < gs.length; omega) ?_
    refine LoadD.imm hIL [.int .i64 g.blk] (pair_fst hcell) rfl ?_
    refine CmpD.split (fun (c2:g.blk=n)=>?_) (fun (c2:¬ g.blk=n)=>?_)
    · have hit:=last_hit (A:=(gs.map Img.pr).take k) (g:=g.pr) (n:=n) c2 hno
      rw [← hall,hlast,hb] at hit
      cases hit
      repeat (first | refine LoadD.own 0 rfl _ rfl rfl ?_)
      refine Chk.mk (by show 0≤(k:Int)∧(k:Int) < gs.length; omega) ?_
      refine LoadD.imm hIL [.slice g.a g.len g.cap] (pair_snd hcell) rfl ?_
      have hgl:g.data.length=g.len:=by have:=hgk2.2.len; rwa [bts_length] at this
      refine Done.mk ⟨rfl,g.a,g.cap,?_,?_⟩
      · show Value.slice g.a g.len g.cap=.slice g.a g.data.length g.cap
        rw [hgl]
      · show Rds I g.a g.data.length (bts g.data)
        rw [hgl]; exact hgk2.2
    · refine ToD.to ((k:Int) - 1) (wrap_i64 (by omega) (by omega)) ?_
      refine ⟨_,Drop.refl _,⟨k,by omega,?_,rfl,rfl,rfl⟩,?_⟩
      · intro x hx
        rw [hdr] at hx
        rcases List.mem_cons.1 hx with rfl | hx
        · exact c2
        · exact hno x hx
      · show ((k:Int) - 1+1).toNat < (((k:Int))+1).toNat; omega
  · obtain rfl:i=0:=by omega
    have:=last_miss (n:=n) (l:=gs.map Img.pr) (by simpa using hno)
    rw [hlast,hb] at this
    cases this
set_option maxHeartbeats 4000000 in
theorem r11_Read {I:Imm} {val:Value} {v:VSt} {d:DSt} {q:Nat} (h:RVk I val v d q) (hq:q≤1000000) (hf:d.Few 1000000) (hlay:v.j.lay.b=d.now.length) (hho:∀ g ∈ v.fresh,0≤g.1∧g.1 < d.now.length) (n:Int) :
    Tri Tryz.prog 187 #[val,.int .i64 n] I [] fun r J _=>I=J∧∃ a len cap,r=.tuple #[.slice a len cap,.int .i64 (v.read d n).2]∧Rds I a len (bts (v.read d n).1):=by
  have h0:=h
  obtain ⟨s,w,sz,fr,first,gs,rfl,hR,hz,hzc,hN,hf1,hG,hfl,hlast,hgk⟩:=h.ex
  have hwr:=hR.wf.range
  have hNow:=fun b hb=>r11_Now (b:=b) h0 hq n hb
  have hRd:=r4_Read hR hf n
  have bad:¬ (0≤n∧n < d.now.length)→v.broken=false→v.read d n=([],70):=by
    intro hn hb
    have hl:v.fresh.lookup n=none:=by
      cases hx:v.fresh.lookup n with
      | none=>rfl
      | some y=>exact absurd (hho _ (mem_of_lookup hx)) hn
    unfold VSt.read
    rw [if_neg (by rw [hb]; simp),hl]
    have hw:wrongE d.now.length n=70:=by unfold wrongE; rw [if_neg (by omega),if_pos (by omega)]
    show d.read n=_
    unfold DSt.read
    rw [hw,if_pos (by decide)]
  obtain ⟨⟨⟨l1,l2,l3,l4,l5,l6,l7⟩,js,jt,ju,jh,je,jn,jy,jg,jb⟩,ep,slot,vf,vb⟩:=v
  obtain ⟨sa,sl,sc⟩:=s
  obtain ⟨wa,wl,wc⟩:=w
  obtain ⟨za,zl,zc⟩:=sz
  obtain ⟨fa,fl,fc⟩:=fr
  dsimp only at *
  subst hfl
  obtain rfl:l1=(d.now.length:Int):=hlay
  refine Tri.of (args:=[.agg (vC (jC ⟨sa,sl,sc⟩ ⟨wa,wl,wc⟩ d.count d.down (gv d.arm) (gv d.fault) ⟨d.now.length,l2,l3,l4,l5,l6,l7⟩ js jt ju jh je first ⟨za,zl,zc⟩ jy jb) ⟨d.now.length,l2,l3,l4,l5,l6,l7⟩ slot ⟨fa,gs.length,fc⟩ vb).toArray,.int .i64 n]) tabOk Tryz.func187 rfl (by kernel_rfl) (by kernel_rfl) ?_
  conv=>whnf
  intro b2
  repeat (first | refine LoadD.own 0 rfl _ rfl rfl ?_)
  cases vb
  rotate_left
  · skip
    exact Done.mk ⟨rfl,none,0,0,rfl,⟨rfl,.inl rfl⟩⟩
  skip
  refine CmpD.split (fun (c1:n < 0)=>?_) (fun (c1:¬ n < 0)=>?_)
  · rw [bad (by omega) rfl]
    skip
    exact Done.mk ⟨rfl,none,0,0,rfl,⟨rfl,.inl rfl⟩⟩
  repeat (first | refine LoadD.own 0 rfl _ rfl rfl ?_)
  refine CmpD.split (fun (c2:(d.now.length:Int)≤n)=>?_) (fun (c2:¬ (d.now.length:Int)≤n)=>?_)
  · rw [bad (by omega) rfl]
    skip
    exact Done.mk ⟨rfl,none,0,0,rfl,⟨rfl,.inl rfl⟩⟩
  skip
  obtain ⟨B2,hB2⟩:∃ B2:List Blk,B2=[(b2,row (vC (jC ⟨sa,sl,sc⟩ ⟨wa,wl,wc⟩ d.count d.down (gv d.arm) (gv d.fault) ⟨d.now.length,l2,l3,l4,l5,l6,l7⟩ js jt ju jh je first ⟨za,zl,zc⟩ jy jb) ⟨d.now.length,l2,l3,l4,l5,l6,l7⟩ slot ⟨fa,gs.length,fc⟩ false) 87)]:=⟨_,rfl⟩
  refine CodeF.loopD [1,2,6] (fun vs J S'=>∃ i:Nat,i≤gs.length∧(∀ x ∈ (gs.map Img.pr).take i,x.1≠n)∧I=J∧vs=[.int .i64 n,.pointer (some ⟨b2,0,none⟩),.int .i64 i]∧S'=[B2])
    (fun vs _ _=>match vs with | [_,_,.int _ i]=>((gs.length:Int) - i).toNat | _=>0) ?_ ?_
  · exact ⟨[B2],by rw [hB2]; exact Drop.refl _,0,by omega,by simp,rfl,rfl,rfl⟩
  rintro vs gE J S' hJ ⟨i,hi,hno,rfl,rfl,rfl⟩
  rw [hB2]
  repeat (first | refine LoadD.own 0 rfl _ rfl rfl ?_)
  refine CmpD.split (fun (c3:(i:Int) < gs.length)=>?_) (fun (c3:¬ (i:Int) < gs.length)=>?_)
  · have hk:i < gs.length:=by omega
    rcases hG.1.mem with q0 | ⟨bL,oL,cL,TL,fL,rfl,hIL,hcL⟩
    · omega
    have hcell:=img_cell hcL rfl hk
    have htk:(gs.map Img.pr).take (i+1)=(gs.map Img.pr).take i++[gs[i].pr]:=by rw [List.take_add_one,List.getElem?_map,List.getElem?_eq_getElem hk]; rfl
    have hmem:gs[i].pr ∈ gs.map Img.pr:=List.mem_map_of_mem (List.getElem_mem hk)
    generalize gs[i]=g at *
    repeat (first | refine LoadD.own 0 rfl _ rfl rfl ?_)
    refine Chk.mk (by show 0≤(i:Int)∧(i:Int) < gs.length; omega) ?_
    refine LoadD.imm hIL [.int .i64 g.blk] (pair_fst hcell) rfl ?_
    refine CmpD.split (fun (c4:g.blk=n)=>?_) (fun (c4:¬ g.blk=n)=>?_)
    · have hex:∃ b,vf.lookup n=some b:=by
        rw [← hlast]
        cases hx:(lastP (gs.map Img.pr)).lookup n with
        | some b=>exact ⟨b,rfl⟩
        | none=>exact absurd hx (last_some hmem c4)
      obtain ⟨b,hb⟩:=hex
      repeat (first | refine LoadD.own 0 rfl _ rfl rfl ?_)
      refine Tri.free (hNow b hb) ?_
      rintro r _ _ hJ3 ⟨rfl,a,cap,rfl,hr⟩
      skip
      refine Done.mk ⟨rfl,a,b.length,cap,?_,?_⟩
      · unfold VSt.read; dsimp only; rw [if_neg (by simp),hb] <;> rfl
      · unfold VSt.read; dsimp only; rw [if_neg (by simp),hb]; exact hr
    · refine ToD.to (((i+1:Nat)):Int) (by rw [wrap_i64 (by omega) (by omega)]; omega) ?_
      refine ⟨_,Drop.refl _,⟨i+1,by omega,?_,rfl,rfl,rfl⟩,?_⟩
      · intro x hx
        rw [htk] at hx
        rcases List.mem_append.1 hx with hx | hx
        · exact hno x hx
        · simp only [List.mem_singleton] at hx
          subst hx; exact c4
      · show ((gs.length:Int) - ((i+1:Nat):Int)).toNat < ((gs.length:Int) - (i:Int)).toNat; omega
  · obtain rfl:i=gs.length:=by omega
    rw [List.take_of_length_le (by rw [List.length_map]; omega)] at hno
    have hm:=last_miss hno
    rw [hlast] at hm
    repeat (first | refine LoadD.own 0 rfl _ rfl rfl ?_)
    refine Tri.free hRd ?_
    rintro r _ _ hJ3 ⟨rfl,a,len,cap,rfl,hr⟩
    skip
    refine Done.mk ⟨rfl,a,len,cap,?_,?_⟩
    · unfold VSt.read; dsimp only; rw [if_neg (by simp),hm] <;> rfl
    · unfold VSt.read; dsimp only; rw [if_neg (by simp),hm]; exact hr
theorem r11_Fits {I:Imm} {val:Value} {v:VSt} {d:DSt} {q:Nat} (h:RVk I val v d q) (n:Nat) (hn:n≤1000000) :
    Tri Tryz.prog 208 #[val,.int .i64 n] I [] fun r J _=>I=J∧r=.bool (v.fits n):=by
  obtain ⟨s,w,sz,fr,first,gs,rfl,_⟩:=h.ex
  obtain ⟨⟨⟨l1,l2,l3,l4,l5,l6,l7⟩,js,jt,ju,jh,je,jn,jy,jg,jb⟩,ep,slot,vf,vb⟩:=v
  obtain ⟨sa,sl,sc⟩:=s
  obtain ⟨wa,wl,wc⟩:=w
  obtain ⟨za,zl,zc⟩:=sz
  obtain ⟨fa,fl,fc⟩:=fr
  refine Tri.of (args:=[.agg (vC (jC ⟨sa,sl,sc⟩ ⟨wa,wl,wc⟩ d.count d.down (gv d.arm) (gv d.fault) ⟨l1,l2,l3,l4,l5,l6,l7⟩ js jt ju jh je first ⟨za,zl,zc⟩ jy jb) ⟨l1,l2,l3,l4,l5,l6,l7⟩ slot ⟨fa,fl,fc⟩ vb).toArray,.int .i64 n]) tabOk Tryz.func208 rfl (by kernel_rfl) (by kernel_rfl) ?_
  conv=>whnf
  intro b2
  unfold VSt.fits blocksN
  dsimp only
  refine CmpD.split (fun (c1:(1:Int)≤n)=>?_) (fun (c1:¬ (1:Int)≤n)=>?_)
  · refine CmpD.split (fun (c2:(n:Int)≤32)=>?_) (fun (c2:¬ (n:Int)≤32)=>?_)
    · refine ToD.to ((n:Int)+1) (wrap_i64 (by omega) (by omega)) ?_
      repeat (first | refine LoadD.own 0 rfl _ rfl rfl ?_)
      rw [if_neg (by omega)]
      refine CmpD.split (fun (c3:(n:Int)+1≤l3)=>?_) (fun (c3:¬ (n:Int)+1≤l3)=>?_)
      · rw [decide_eq_true ⟨by omega,c3⟩]
        exact Done.mk ⟨rfl,rfl⟩
      · rw [decide_eq_false (fun h=>c3 h.2)]
        exact Done.mk ⟨rfl,rfl⟩
    · rw [if_pos (by omega),decide_eq_false (fun h=>by have:=h.1; omega)]
      skip
      exact Done.mk ⟨rfl,rfl⟩
  · rw [if_pos (by omega),decide_eq_false (fun h=>by have:=h.1; omega)]
    skip
    exact Done.mk ⟨rfl,rfl⟩
end Go.Proofs.YtegdcjnjnoeinaaGreat
namespace Go.Proofs.YtegdcjnjnoeinaaGreat
open Go.RowKit Go.Sl
set_option maxRecDepth 20000
def upK (l:List PImg) (n:Nat):List Int:=((List.range n).map fun i:Nat=>(i:Int)).filter fun x=>(l.lookup x).isSome
theorem upK_succ (l:List PImg) (n:Nat):upK l (n+1)=upK l n++(if (l.lookup (n:Int)).isSome=true then [(n:Int)] else []):=by
  unfold upK
  rw [List.range_succ,List.map_append,List.filter_append]
  congr 1
  by_cases h:(l.lookup (n:Int)).isSome=true
  · simp [h]
  · simp [h]
theorem upK_sorted (l:List PImg) (n:Nat):(upK l n).Pairwise fun a b=>a < b:=by
  unfold upK
  refine List.Pairwise.filter _ ?_
  rw [List.pairwise_map]
  exact List.pairwise_lt_range.imp (by intro a b h; omega)
theorem lookup_iff {n:Int}:∀ {l:List PImg},(l.lookup n).isSome=true↔n ∈ l.map Prod.fst
  | []=>by simp
  | g :: l=>by
    rw [List.lookup_cons]
    by_cases h:n=g.1
    · subst h; simp
    · have:(n == g.1)=false:=by simpa using h
      rw [this]
      simp only [List.map_cons,List.mem_cons,h,false_or]
      exact lookup_iff
theorem sort_up {l:List PImg} {n:Nat} (hn:(l.map Prod.fst).Nodup) (hr:∀ g ∈ l,0≤g.1∧g.1 < n):sortI (l.map Prod.fst)=upK l n:=by
  refine sortI_of ?_ ((upK_sorted l n).imp (by intro a b h; omega))
  refine (List.perm_ext_iff_of_nodup hn ((upK_sorted l n).imp (by intro a b h; omega))).2 ?_
  intro x
  unfold upK
  rw [List.mem_filter,lookup_iff]
  constructor
  · intro hx
    refine ⟨List.mem_map.2 ?_,hx⟩
    obtain ⟨g,hg,rfl⟩:=List.mem_map.1 hx
    have:=hr g hg
    exact ⟨g.1.toNat,List.mem_range.2 (by omega),by omega⟩
  · exact fun h=>h.2
def ckL (l:List PImg) (n:Nat):List PImg:=(upK l n).map fun x=>(x,(l.lookup x).getD [])
theorem ckL_all {l:List PImg} {n:Nat} (hn:(l.map Prod.fst).Nodup) (hr:∀ g ∈ l,0≤g.1∧g.1 < n):ckL l n=sortP l:=by unfold ckL sortP; rw [sort_up hn hr]
theorem ckL_none {l:List PImg} {n:Nat} (h:∀ g ∈ l,(n:Int)≤g.1):ckL l n=[]:=by
  have:upK l n=[]:=by
    unfold upK
    rw [List.filter_eq_nil_iff]
    intro x hx hs
    obtain ⟨i,hi,rfl⟩:=List.mem_map.1 hx
    obtain ⟨g,hg,he⟩:=List.mem_map.1 (lookup_iff.1 hs)
    have:=h g hg
    have:=List.mem_range.1 hi
    omega
  unfold ckL; rw [this]; rfl
theorem ckL_hit {l:List PImg} {n:Nat} {b:Dat} (h:l.lookup (n:Int)=some b):ckL l (n+1)=ckL l n++[((n:Int),b)]:=by
  unfold ckL
  rw [upK_succ,if_pos (by rw [h]; rfl),List.map_append]
  simp [h]
theorem ckL_miss {l:List PImg} {n:Nat} (h:l.lookup (n:Int)=none):ckL l (n+1)=ckL l n:=by
  unfold ckL
  rw [upK_succ,if_neg (by rw [h]; simp),List.append_nil]
theorem ckL_len (l:List PImg) (n:Nat):(ckL l n).length≤n:=by
  unfold ckL upK
  rw [List.length_map]
  refine Nat.le_trans (List.length_filter_le ..) ?_
  simp
theorem flush_form (j:JSt) (d:DSt):∃ sy br,(j.flush d).1={ j with synced:=sy,broken:=br }:=by
  unfold JSt.flush
  split
  · exact ⟨j.synced,j.broken,rfl⟩
  split
  · exact ⟨j.synced,true,rfl⟩
  · exact ⟨j.next - 1,j.broken,rfl⟩
theorem release_lay (j:JSt) (q:Int):(j.release q).1.lay=j.lay∧(j.release q).1.epoch=j.epoch∧(j.release q).1.next=j.next:=by
  unfold JSt.release
  split
  · exact ⟨rfl,rfl,rfl⟩
  split
  · exact ⟨rfl,rfl,rfl⟩
  · exact ⟨rfl,rfl,rfl⟩
set_option maxHeartbeats 8000000 in
theorem r11_Checkpoint {I:Imm} {val:Value} {v:VSt} {d:DSt} {q:Nat} (h:RVk I val v d q) (hw:v.j.Wf) (hq:q≤100000) (hf:d.Few 700000) (hlay:v.j.lay=layOf 64) (hs:v.j.s=v.j.lay.lb) (hep:v.epoch=v.j.epoch) (hho:∀ g ∈ v.fresh,18≤g.1∧g.1 < 64) (hsl:0≤v.slot∧v.slot≤1) :
    Tri Tryz.prog 209 #[val] I [] fun r J _=>∃ v',r=.tuple #[v',.int .i64 (v.ckpt d).2.2]∧RVk J v' (v.ckpt d).1 (v.ckpt d).2.1 q:=by
  have h0:=h
  have hNow:=fun (n:Int) b hb=>r11_Now (b:=b) h0 (by omega) n hb
  obtain ⟨s,w,sz,fr,first,gs,rfl,hR,hz,hzc,hN,hf1,hG,hfl,hlast,hgk⟩:=h.ex
  have hring:=hw.ring
  have hnd:(v.fresh.map Prod.fst).Nodup:=by rw [← hlast]; exact lastP_nodup _
  have hJk:RJk I (.agg (jC s w d.count d.down (gv d.arm) (gv d.fault) v.j.lay v.j.s v.j.t v.j.u v.j.h v.j.epoch first sz v.j.synced v.j.broken).toArray) v.j d:=⟨s,w,sz,first,rfl,hR,hz,hzc,hN,hf1⟩
  have hFl:=r8_Flush hJk hw (hf.mono (by omega))
  have hwF:=hw.flush d
  have hfF:=jflush_few (j:=v.j) hf
  obtain ⟨sy,br,hform⟩:=flush_form v.j d
  unfold VSt.ckpt VSt.ckS
  have hsup:v.sup=⟨64,v.j.epoch,v.j.next,(v.j.t+v.j.u) % v.j.s⟩:=by unfold VSt.sup; rw [hlay,hep]; rfl
  rw [hsup]
  rw [hform] at hFl hwF ⊢
  generalize (v.j.flush d).2.2=e1 at *
  generalize (v.j.flush d).2.1=d1 at *
  obtain ⟨⟨⟨l1,l2,l3,l4,l5,l6,l7⟩,js,jt,ju,jh,je,jn,jy,jg,jb⟩,ep,slot,vf,vb⟩:=v
  obtain ⟨sa,sl,sc⟩:=s
  obtain ⟨wa,wl,wc⟩:=w
  obtain ⟨za,zl,zc⟩:=sz
  obtain ⟨fa,fl,fc⟩:=fr
  dsimp only at *
  subst hfl
  obtain rfl:js=l3:=hs
  have e1':l1=64:=by cases hlay; rfl
  have e4':l4=18:=by cases hlay; rfl
  subst e1' e4'
  refine Tri.ofF (args:=[.agg (vC (jC ⟨sa,sl,sc⟩ ⟨wa,wl,wc⟩ d.count d.down (gv d.arm) (gv d.fault) ⟨64,l2,js,18,l5,l6,l7⟩ js jt ju jh je first ⟨za,zl,zc⟩ jy jb) ⟨64,l2,js,18,l5,l6,l7⟩ slot ⟨fa,gs.length,fc⟩ vb).toArray]) tabOk Tryz.func209 rfl (by kernel_rfl) (by kernel_rfl) ?_
  refine CodeF.stepD ?_
  conv=>whnf
  intro b1
  conv=>whnf
  intro b2
  refine CodeF.stepD ?_
  repeat (first | refine LoadD.own 0 rfl _ rfl rfl ?_)
  cases vb
  rotate_left
  · repeat (first | refine LoadD.own 0 rfl _ rfl rfl ?_ | refine LoadD.own 1 rfl _ rfl rfl ?_ | refine StoreD.st 1 rfl rfl rfl ?_)
    exact Done.mk ⟨_,rfl,h0⟩
  skip
  rw [if_neg (by simp)]
  refine CodeF.stepD ?_
  repeat (first | refine LoadD.own 0 rfl _ rfl rfl ?_)
  refine Tri.free hFl ?_
  rintro r J1 _ hJ1 ⟨v',rfl,hJk1⟩
  obtain ⟨⟨sa1,sl1,sc1⟩,⟨wa1,wl1,wc1⟩,⟨za1,zl1,zc1⟩,first1,rfl,hR1,hz1,hzc1,hN1,hf11⟩:=hJk1.ex
  dsimp only at hz1 hzc1 hN1
  conv=>whnf
  intro b4
  repeat (first | refine StoreD.st 2 rfl rfl rfl ?_)
  obtain ⟨B1,hB1⟩:∃ B1:List Blk,B1=[(b1,row (vC (jC ⟨sa,sl,sc⟩ ⟨wa,wl,wc⟩ d.count d.down (gv d.arm) (gv d.fault) ⟨64,l2,js,18,l5,l6,l7⟩ js jt ju jh je first ⟨za,zl,zc⟩ jy jb) ⟨64,l2,js,18,l5,l6,l7⟩ slot ⟨fa,gs.length,fc⟩ false) 87)]:=⟨_,rfl⟩
  obtain ⟨B2,hB2⟩:∃ B2:List Blk,B2=[(b2,row (vC (jC ⟨none,0,0⟩ ⟨none,0,0⟩ 0 false 0 0 ⟨0,0,0,0,0,0,0⟩ 0 0 0 0 0 0 ⟨none,0,0⟩ 0 false) ⟨0,0,0,0,0,0,0⟩ 0 ⟨none,0,0⟩ false) 87)]:=⟨_,rfl⟩
  obtain ⟨sp,hsp⟩:∃ sp:Sup,sp=⟨64,je,jn,(jt+ju) % js⟩:=⟨_,rfl⟩
  rw [← hsp]
  obtain ⟨X,hX⟩:∃ X:Int × DSt,X=if e1≠0 then (e1,d1) else ((doP d1 (sortP vf) sp slot).2,(doP d1 (sortP vf) sp slot).1):=⟨_,rfl⟩
  have hXc:(if e1≠0 then (e1,(⟨⟨64,l2,js,18,l5,l6,l7⟩,js,jt,ju,jh,je,jn,sy,jg,br⟩:JSt),d1) else if (doP d1 (sortP vf) sp slot).2≠0 then ((doP d1 (sortP vf) sp slot).2,(⟨⟨64,l2,js,18,l5,l6,l7⟩,js,jt,ju,jh,je,jn,sy,jg,br⟩:JSt),(doP d1 (sortP vf) sp slot).1) else
      (((⟨⟨64,l2,js,18,l5,l6,l7⟩,js,jt,ju,jh,je,jn,sy,jg,br⟩:JSt).release sy).2,((⟨⟨64,l2,js,18,l5,l6,l7⟩,js,jt,ju,jh,je,jn,sy,jg,br⟩:JSt).release sy).1,(doP d1 (sortP vf) sp slot).1)) =
      if X.1≠0 then (X.1,(⟨⟨64,l2,js,18,l5,l6,l7⟩,js,jt,ju,jh,je,jn,sy,jg,br⟩:JSt),X.2) else (((⟨⟨64,l2,js,18,l5,l6,l7⟩,js,jt,ju,jh,je,jn,sy,jg,br⟩:JSt).release sy).2,((⟨⟨64,l2,js,18,l5,l6,l7⟩,js,jt,ju,jh,je,jn,sy,jg,br⟩:JSt).release sy).1,X.2):=by
    rw [hX]
    by_cases h1:e1≠0
    · rw [if_pos h1,if_pos h1,if_pos h1]
    · rw [if_neg h1,if_neg h1]
  rw [hXc]
  clear hXc
  refine CodeF.join [1,2,4,5] (fun vs J S'=>∃ (s2 w2:Hd),RDk J (rV s2 w2 X.2.count X.2.down (gv X.2.arm) (gv X.2.fault)) X.2∧J1.le J ∧
      vs=[.pointer (some ⟨b1,0,none⟩),.pointer (some ⟨b2,0,none⟩),.pointer (some ⟨b4,0,none⟩),.int .i64 X.1] ∧
      S'=[B1,B2,[(b4,row (jC s2 w2 X.2.count X.2.down (gv X.2.arm) (gv X.2.fault) ⟨64,l2,js,18,l5,l6,l7⟩ js jt ju jh je first1 ⟨za1,zl1,zc1⟩ sy br) 85)]]) ?_ ?_
  · refine CodeF.den ?_
    refine CmpD.split (fun (c1:e1=0)=>?_) (fun (c1:¬ e1=0)=>?_)
    rotate_left
    · rw [if_pos c1] at hX
      subst hX
      exact ⟨_,by rw [hB1,hB2]; exact Drop.refl _,⟨sa1,sl1,sc1⟩,⟨wa1,wl1,wc1⟩,hR1,Imm.le_refl _,rfl,rfl⟩
    rw [if_neg (by simpa using c1)] at hX
    have hzl1:zl1=jg.length:=by have:=hz1.len; simpa [ints] using this.symm
    have hNl1:=hN1.len
    have hnx1:first1+(zl1:Int)=jn:=by rw [hzl1]; exact hNl1
    have hjn:=hw.next
    dsimp only at hjn
    unfold Ok at hring
    obtain ⟨B4,hB4⟩:∃ B4:List Blk,B4=[(b4,row (jC ⟨sa1,sl1,sc1⟩ ⟨wa1,wl1,wc1⟩ d1.count d1.down (gv d1.arm) (gv d1.fault) ⟨64,l2,js,18,l5,l6,l7⟩ js jt ju jh je first1 ⟨za1,zl1,zc1⟩ sy br) 85)]:=⟨_,rfl⟩
    refine CodeF.cutD [1,2,4,6] (fun vs J' S'=>∃ b6,J1=J'∧vs=[.pointer (some ⟨b1,0,none⟩),.pointer (some ⟨b2,0,none⟩),.pointer (some ⟨b4,0,none⟩),.pointer (some ⟨b6,0,none⟩)] ∧
      S'=[B1,B2,B4,[(b6,row [.int .i64 sp.blocks,.int .i64 sp.epoch,.int .i64 sp.seq,.int .i64 sp.tail] 143)]]) ?_ ?_
    · refine CodeF.schedT [[],[0],[0,1],[],[3],[],[5],[],[7],[7,8],[],[10],[10,11],[7,8,9,10,11,12],[],[14],[14,15],[7,8,9,10,11,12,13,14,15,16],[0,1,2,3,4,5,6,7,8,9,10,11,12,13,14,15,16,17],[],[0,1,2,3,4,5,6,7,8,9,10,11,12,13,14,15,16,17,18,19]] (.rd 0 (.rd 1 (.rd 2 (.rd 3 (.rd 4 (.rd 5 (.rd 7 (.rd 8 (.rd 9 (.rd 10 (.rd 11 (.rd 12 (.rd 13 (.rd 14 (.rd 15 (.rd 16 (.rd 17 (.alt (.ef 6 (.rd 18 (.ef 19 (.ef 20 .nil)))) (.ef 19 (.ef 6 (.rd 18 (.ef 20 .nil)))))))))))))))))))))) (by kernel_rfl) ?_
      repeat (first | refine LoadP.at 0 rfl _ rfl rfl ?_ | refine LoadP.at 2 rfl _ rfl rfl ?_)
      refine ToD.to (jt+ju) (by show IntKind.i64.wrap (jt+ju)=_; exact wrap_i64 (by omega) (by omega)) ?_
      repeat (first | refine LoadP.at 0 rfl _ rfl rfl ?_)
      refine Chk.mk (by show js≠0; omega) ?_
      have hmod:0≤(jt+ju) % js∧(jt+ju) % js < js:=⟨Int.emod_nonneg _ (by omega),Int.emod_lt_of_pos _ (by omega)⟩
      refine ToD.to ((jt+ju) % js) (by show (jt+ju).tmod js=_; exact Int.tmod_eq_emod_of_nonneg (by omega)) ?_
      refine And.intro ?_ ?_
      · skip
        refine Tri.free (r8_NextC ⟨sa1,sl1,sc1⟩ ⟨wa1,wl1,wc1⟩ ⟨za1,zl1,zc1⟩ d1.count d1.down (gv d1.arm) (gv d1.fault) ⟨64,l2,js,18,l5,l6,l7⟩ js jt ju jh je first1 sy br (by dsimp only; omega) J1) ?_
        dsimp only
        rw [hnx1]
        rintro r _ _ hJ2 ⟨rfl,rfl⟩
        repeat (first | refine Chk.mk ⟨rfl,rfl,rfl,rfl,rfl,trivial⟩ ?_)
        conv=>whnf
        intro b6
        repeat (first | refine StoreD.st 3 rfl rfl rfl ?_ | refine Chk.mk ⟨rfl,rfl,rfl,rfl,rfl,rfl,trivial⟩ ?_)
        exact ⟨[B1,B2,B4,[(b6,row [.int .i64 sp.blocks,.int .i64 sp.epoch,.int .i64 sp.seq,.int .i64 sp.tail] 143)]],by rw [hB1,hB2,hB4,hsp]; exact Drop.refl _,b6,rfl,rfl,rfl⟩
      · conv=>whnf
        intro b6
        repeat (first | refine Chk.mk ⟨rfl,rfl,rfl,rfl,rfl,rfl,trivial⟩ ?_)
        refine Tri.free (r8_NextC ⟨sa1,sl1,sc1⟩ ⟨wa1,wl1,wc1⟩ ⟨za1,zl1,zc1⟩ d1.count d1.down (gv d1.arm) (gv d1.fault) ⟨64,l2,js,18,l5,l6,l7⟩ js jt ju jh je first1 sy br (by dsimp only; omega) J1) ?_
        dsimp only
        rw [hnx1]
        rintro r _ _ hJ2 ⟨rfl,rfl⟩
        repeat (first | refine StoreD.st 3 rfl rfl rfl ?_ | refine Chk.mk ⟨rfl,rfl,rfl,rfl,rfl,trivial⟩ ?_)
        exact ⟨[B1,B2,B4,[(b6,row [.int .i64 sp.blocks,.int .i64 sp.epoch,.int .i64 sp.seq,.int .i64 sp.tail] 143)]],by rw [hB1,hB2,hB4,hsp]; exact Drop.refl _,b6,rfl,rfl,rfl⟩
    rintro vs gE J S' hJ ⟨b6,rfl,rfl,rfl⟩
    rw [hB1]
    repeat (first | refine LoadD.own 0 rfl _ rfl rfl ?_)
    obtain ⟨B6,hB6⟩:∃ B6:List Blk,B6=[(b6,row [.int .i64 sp.blocks,.int .i64 sp.epoch,.int .i64 sp.seq,.int .i64 sp.tail] 143)]:=⟨_,rfl⟩
    refine CodeF.loopD [1,2,4,6,7,8] (fun vs J' S'=>∃ (n:Nat) (aI:Option Addr) (capI:Nat) (chI:List Blk) (is:List Img),n≤64∧18≤n∧OwnC chI 2 aI is.length capI (imgCells is)∧is.map Img.pr=ckL vf n∧(∀ g ∈ is,ImgOk J' g)∧J1.le J' ∧
        vs=[.pointer (some ⟨b1,0,none⟩),.pointer (some ⟨b2,0,none⟩),.pointer (some ⟨b4,0,none⟩),.pointer (some ⟨b6,0,none⟩),.slice aI is.length capI,.int .i64 n]∧S'=[B1,B2,B4,B6,chI])
      (fun vs _ _=>match vs with | [_,_,_,_,_,.int _ n]=>((64:Int) - n).toNat | _=>0) ?_ ?_
    · exact ⟨[B1,B2,B4,B6,[]],by rw [hB1,hB6]; exact Drop.and (Drop.refl _),18,none,0,[],[],by omega,by omega,OwnC.nil _ _,(ckL_none fun g hg=>(hho g hg).1).symm,by simp,Imm.le_refl _,rfl,rfl⟩
    rintro vs gE2 J2 S2 hJ2 ⟨n,aI,capI,chI,is,hn64,hn18,hO,hpr,hok,hle,rfl,rfl⟩
    have hisl:is.length≤64:=by
      have h1:=ckL_len vf n
      rw [← hpr,List.length_map] at h1
      omega
    rw [hB1]
    repeat (first | refine LoadD.own 0 rfl _ rfl rfl ?_)
    refine CmpD.split (fun (c3:(n:Int) < 64)=>?_) (fun (c3:¬ (n:Int) < 64)=>?_)
    rotate_left
    · obtain rfl:n=64:=by omega
      rw [ckL_all hnd (fun g hg=>by have:=hho g hg; omega)] at hpr
      rw [hB4,hB6]
      repeat (first | refine LoadD.own 0 rfl _ rfl rfl ?_ | refine LoadD.own 2 rfl _ rfl rfl ?_ | refine LoadD.own 3 rfl _ rfl rfl ?_)
      refine Tri.fix 4 (ch:=chI) rfl fun J3 hJ3 hm3=>?_
      have hi3:ImgsOk J3 aI is:=⟨Rds.of_ownS hO hm3,fun g hg=>(hok g hg).mono hJ3⟩
      have hDo:=r10_Do (hR1.mono (Imm.le_trans hle hJ3)) 700000 hfF aI capI is hi3 (by omega) sp slot (by unfold In64; omega)
      rw [hpr] at hDo
      refine Tri.free hDo ?_
      generalize doP d1 (sortP vf) sp slot=dp at *
      obtain ⟨d5,e5⟩:=dp
      dsimp only at hX ⊢
      rintro r J4 _ hJ4 ⟨v',rfl,hR4⟩
      obtain ⟨⟨sa4,sl4,sc4⟩,⟨wa4,wl4,wc4⟩,rfl,_⟩:=hR4.cells
      repeat (first | refine StoreD.st 2 rfl rfl rfl ?_)
      subst hX
      exact ⟨_,Drop.pick [0,1,2] _ rfl,⟨sa4,sl4,sc4⟩,⟨wa4,wl4,wc4⟩,hR4,Imm.le_trans hle (Imm.le_trans hJ3 hJ4),rfl,rfl⟩
    have hG2:=hG.mono (Imm.le_trans hJ1 hle)
    have hNow2:=fun (b:Dat) (hb:vf.lookup (n:Int)=some b)=>r11_Now (b:=b) (h0.mono (Imm.le_trans hJ1 hle)) (by omega) (n:Int) hb
    rw [← hB1]
    refine CodeF.loopD [1,2,4,6,7,8,9] (fun vs J' S'=>∃ i:Nat,i≤gs.length∧(∀ x ∈ (gs.map Img.pr).take i,x.1≠(n:Int))∧J2=J' ∧
        vs=[.pointer (some ⟨b1,0,none⟩),.pointer (some ⟨b2,0,none⟩),.pointer (some ⟨b4,0,none⟩),.pointer (some ⟨b6,0,none⟩),.slice aI is.length capI,.int .i64 n,.int .i64 i]∧S'=[B1,B2,B4,B6,chI])
      (fun vs _ _=>match vs with | [_,_,_,_,_,_,.int _ i]=>((gs.length:Int) - i).toNat | _=>0) ?_ ?_
    · exact ⟨_,Drop.refl _,0,by omega,by simp,rfl,rfl,rfl⟩
    rintro vs gE3 J3 S3 hJ3 ⟨i,hi,hno,rfl,rfl,rfl⟩
    have hun:((64:Int) - (((n+1:Nat)):Int)).toNat < ((64:Int) - (n:Int)).toNat:=by omega
    rw [hB1]
    repeat (first | refine LoadD.own 0 rfl _ rfl rfl ?_)
    refine CmpD.split (fun (c4:(i:Int) < gs.length)=>?_) (fun (c4:¬ (i:Int) < gs.length)=>?_)
    · have hk:i < gs.length:=by omega
      rcases hG2.1.mem with q0 | ⟨bL,oL,cL,TL,fL,hfa,hIL,hcL⟩
      · omega
      subst hfa
      have hcell:=img_cell hcL rfl hk
      have htk:(gs.map Img.pr).take (i+1)=(gs.map Img.pr).take i++[gs[i].pr]:=by rw [List.take_add_one,List.getElem?_map,List.getElem?_eq_getElem hk]; rfl
      have hmem:gs[i].pr ∈ gs.map Img.pr:=List.mem_map_of_mem (List.getElem_mem hk)
      generalize gs[i]=g at *
      repeat (first | refine LoadD.own 0 rfl _ rfl rfl ?_)
      refine Chk.mk (by show 0≤(i:Int)∧(i:Int) < gs.length; omega) ?_
      refine LoadD.imm hIL [.int .i64 g.blk] (pair_fst hcell) rfl ?_
      refine CmpD.split (fun (c5:g.blk=(n:Int))=>?_) (fun (c5:¬ g.blk=(n:Int))=>?_)
      · have hex:∃ b,vf.lookup (n:Int)=some b:=by
          rw [← hlast]
          cases hx:(lastP (gs.map Img.pr)).lookup (n:Int) with
          | some b=>exact ⟨b,rfl⟩
          | none=>exact absurd hx (last_some hmem c5)
        obtain ⟨b,hb⟩:=hex
        repeat (first | refine LoadD.own 0 rfl _ rfl rfl ?_)
        refine Tri.free (hNow2 b hb) ?_
        rintro r _ _ hJ4 ⟨rfl,aN,capN,rfl,hrN⟩
        skip
        conv=>whnf
        intro b71
        refine appendD tabOk rfl rfl rfl rfl rfl rfl rfl 4 rfl hO (SrcOk.slice (n:=1) (news:=imgCells [⟨n,aN,b.length,capN,b⟩]) tabOk rfl ((OwnC.whole (len:=1) (size:=2) rfl).slC 5 rfl) (by intro v hv; simp [imgCells] at hv; rcases hv with rfl | rfl <;> rfl)) rfl (by show (is.length+1) * 32≤_; omega) (by omega) ?_
        intro aM capM chM hM
        refine ToD.to (((n+1:Nat)):Int) (by rw [wrap_i64 (by omega) (by omega)]; omega) ?_
        refine ⟨_,Drop.pick [0,1,2,3,4] _ rfl,⟨n+1,aM,capM,chM,is++[⟨n,aN,b.length,capN,b⟩],by omega,by omega,?_,?_,?_,hle,?_,rfl⟩,hun⟩
        · rw [imgCells_snoc,List.length_append]; exact hM
        · rw [List.map_append,hpr,ckL_hit hb]; rfl
        · intro y hy
          rcases List.mem_append.1 hy with hy | hy
          · exact hok y hy
          · simp only [List.mem_singleton] at hy
            subst hy
            exact ⟨by show In64 (n:Int); unfold In64; omega,hrN⟩
        · rw [List.length_append]; rfl
      · refine ToD.to (((i+1:Nat)):Int) (by rw [wrap_i64 (by omega) (by omega)]; omega) ?_
        refine ⟨_,Drop.refl _,⟨i+1,by omega,?_,rfl,rfl,rfl⟩,?_⟩
        · intro x hx
          rw [htk] at hx
          rcases List.mem_append.1 hx with hx | hx
          · exact hno x hx
          · simp only [List.mem_singleton] at hx
            subst hx; exact c5
        · show ((gs.length:Int) - ((i+1:Nat):Int)).toNat < ((gs.length:Int) - (i:Int)).toNat; omega
    · obtain rfl:i=gs.length:=by omega
      rw [List.take_of_length_le (by rw [List.length_map]; omega)] at hno
      have hm:=last_miss hno
      rw [hlast] at hm
      refine ToD.to (((n+1:Nat)):Int) (by rw [wrap_i64 (by omega) (by omega)]; omega) ?_
      exact ⟨_,Drop.refl _,⟨n+1,aI,capI,chI,is,by omega,by omega,hO,by rw [ckL_miss hm]; exact hpr,hok,hle,rfl,rfl⟩,hun⟩
  rintro vs gE J S' hJ ⟨⟨sa2,sl2,sc2⟩,⟨wa2,wl2,wc2⟩,hR2,hle2,rfl,rfl⟩
  obtain ⟨e2,d2⟩:=X
  dsimp only at *
  have hJk2:RJk J (.agg (jC ⟨sa2,sl2,sc2⟩ ⟨wa2,wl2,wc2⟩ d2.count d2.down (gv d2.arm) (gv d2.fault) ⟨64,l2,js,18,l5,l6,l7⟩ js jt ju jh je first1 ⟨za1,zl1,zc1⟩ sy br).toArray) ⟨⟨64,l2,js,18,l5,l6,l7⟩,js,jt,ju,jh,je,jn,sy,jg,br⟩ d2:=⟨⟨sa2,sl2,sc2⟩,⟨wa2,wl2,wc2⟩,⟨za1,zl1,zc1⟩,first1,rfl,hR2,hz1.mono hle2,hzc1,hN1,hf11⟩
  have hRel:=r8_Release hJk2 hwF sy
  clear hX hJk hFl hNow
  have hlr:=release_lay (⟨⟨64,l2,js,18,l5,l6,l7⟩,js,jt,ju,jh,je,jn,sy,jg,br⟩:JSt) sy
  generalize hrel:(⟨⟨64,l2,js,18,l5,l6,l7⟩,js,jt,ju,jh,je,jn,sy,jg,br⟩:JSt).release sy=rel at *
  refine CodeF.join [1,2,4,5] (fun vs J' S'=>∃ (e3:Int) (j3:JSt) (s3 w3 z3:Hd) (f3:Int),(if e2≠0 then (e2,(⟨⟨64,l2,js,18,l5,l6,l7⟩,js,jt,ju,jh,je,jn,sy,jg,br⟩:JSt),d2) else (rel.2,rel.1,d2))=(e3,j3,d2) ∧
      j3.lay=⟨64,l2,js,18,l5,l6,l7⟩∧RDk J' (rV s3 w3 d2.count d2.down (gv d2.arm) (gv d2.fault)) d2∧Rds J' z3.a z3.len (ints (j3.groups.map Prod.snd))∧z3.len≤z3.cap∧Nums f3 j3.groups j3.next∧1≤f3∧J.le J' ∧
      vs=[.pointer (some ⟨b1,0,none⟩),.pointer (some ⟨b2,0,none⟩),.pointer (some ⟨b4,0,none⟩),.int .i64 e3] ∧
      S'=[B1,B2,[(b4,row (jC s3 w3 d2.count d2.down (gv d2.arm) (gv d2.fault) j3.lay j3.s j3.t j3.u j3.h j3.epoch f3 z3 j3.synced j3.broken) 85)]]) ?_ ?_
  · refine CodeF.den ?_
    refine CmpD.split (fun (c2:e2=0)=>?_) (fun (c2:¬ e2=0)=>?_)
    rotate_left
    · exact ⟨_,Drop.refl _,e2,_,⟨sa2,sl2,sc2⟩,⟨wa2,wl2,wc2⟩,⟨za1,zl1,zc1⟩,first1,if_pos c2,rfl,hR2,hz1.mono hle2,hzc1,hN1,hf11,Imm.le_refl _,rfl,rfl⟩
    · repeat (first | refine LoadD.own 2 rfl _ rfl rfl ?_)
      refine Tri.free hRel ?_
      rintro r J3 _ hJ3 ⟨v',rfl,hJk3⟩
      obtain ⟨⟨sa3,sl3,sc3⟩,⟨wa3,wl3,wc3⟩,⟨za3,zl3,zc3⟩,first3,rfl,hR3,hz3,hzc3,hN3,hf13⟩:=hJk3.ex
      repeat (first | refine StoreD.st 2 rfl rfl rfl ?_)
      obtain ⟨⟨⟨p1,p2,p3,p4,p5,p6,p7⟩,q1,q2,q3,q4,q5,q6,q7,q8,q9⟩,re⟩:=rel
      exact ⟨_,Drop.refl _,re,_,⟨sa3,sl3,sc3⟩,⟨wa3,wl3,wc3⟩,⟨za3,zl3,zc3⟩,first3,if_neg (by simpa using c2),hlr.1,hR3,hz3,hzc3,hN3,hf13,hJ3,rfl,rfl⟩
  rintro vs gE J' S' hJ' ⟨e3,j3,⟨sa3,sl3,sc3⟩,⟨wa3,wl3,wc3⟩,⟨za3,zl3,zc3⟩,f3,hT,hl3,hR3,hz3,hzc3,hN3,hf13,hle3,rfl,rfl⟩
  rw [hT]
  dsimp only
  obtain ⟨⟨p1,p2,p3,p4,p5,p6,p7⟩,q1,q2,q3,q4,q5,q6,q7,q8,q9⟩:=j3
  dsimp only at *
  cases hl3
  refine CodeF.den ?_
  rw [hB1,hB2]
  repeat (first | refine LoadD.own 2 rfl _ rfl rfl ?_ | refine StoreD.st 0 rfl rfl rfl ?_)
  by_cases he:e3≠0
  · refine CmpD.no he ?_
    rw [if_pos he]
    repeat (first | refine LoadD.own 0 rfl _ rfl rfl ?_ | refine LoadD.own 1 rfl _ rfl rfl ?_ | refine StoreD.st 0 rfl rfl rfl ?_ | refine StoreD.st 1 rfl rfl rfl ?_)
    exact Done.mk ⟨_,rfl,⟨⟨sa3,sl3,sc3⟩,⟨wa3,wl3,wc3⟩,⟨za3,zl3,zc3⟩,⟨fa,gs.length,fc⟩,f3,gs,rfl,hR3,hz3,hzc3,hN3,hf13,hG.mono (Imm.le_trans hJ1 (Imm.le_trans hle2 hle3)),rfl,hlast,hgk⟩⟩
  obtain rfl:e3=0:=by omega
  rw [if_neg he]
  repeat (first | refine LoadD.own 0 rfl _ rfl rfl ?_ | refine CmpD.yes rfl ?_)
  refine ToD.to (1 - slot) (wrap_i64 (by omega) (by omega)) ?_
  repeat (first | refine LoadD.own 0 rfl _ rfl rfl ?_ | refine LoadD.own 1 rfl _ rfl rfl ?_ | refine StoreD.st 0 rfl rfl rfl ?_ | refine StoreD.st 1 rfl rfl rfl ?_)
  exact Done.mk ⟨_,rfl,⟨⟨sa3,sl3,sc3⟩,⟨wa3,wl3,wc3⟩,⟨za3,zl3,zc3⟩,⟨none,0,0⟩,f3,[],rfl,hR3,hz3,hzc3,hN3,hf13,⟨⟨rfl,.inl rfl⟩,by simp⟩,rfl,rfl,by simp⟩⟩
end Go.Proofs.YtegdcjnjnoeinaaGreat
namespace Go.Proofs.YtegdcjnjnoeinaaGreat
open Go.RowKit Go.Sl
set_option maxRecDepth 20000
def blankP:Nat→Nat→DSt→DSt × Int
  | 0,_,d=>(d,0)
  | n+1,k,d=>if (d.write k noughts).2≠0 then d.write k noughts else blankP n (k+1) (d.write k noughts).1
def fmtS (m:Nat) (s:Sup) (d:DSt):DSt × Int :=
  if (blankP m 1 d).2≠0 then blankP m 1 d else
  if (blankP m 1 d).1.flush.2≠0 then (blankP m 1 d).1.flush else
  if ((blankP m 1 d).1.flush.1.write 0 (supL s)).2≠0 then (blankP m 1 d).1.flush.1.write 0 (supL s) else
  ((blankP m 1 d).1.flush.1.write 0 (supL s)).1.flush
def formatP (d:DSt):DSt × Int :=
  if d.now.length < 64 then (d,2) else fmtS ((layOf d.now.length).d.toNat - 1) ⟨d.now.length,1,1,0⟩ d
theorem blankP_few:∀ (n k:Nat) (d:DSt) (q:Nat),d.Few q→(blankP n k d).1.Few (q+n)
  | 0,_,_,_,h=>h
  | n+1,k,d,q,h=>by
    have h1:=h.write (k:Int) noughts
    rw [blankP]
    split
    · exact h1.mono (by omega)
    · exact (blankP_few n (k+1) _ _ h1).mono (by omega)
theorem noughts_bts:bts noughts=rows 4096 [Value.int .u8 0]:=by
  show bts (List.replicate 4096 0)=_
  exact (zeros_bts 4096).symm
theorem fmt1 {I:Imm} {b1 b2 b3 bD:Nat} {x:Lay} {d:DSt} {chD:List Blk} (hD:Dk I bD d chD) (hf:d.Few 500000) (hx:1≤x.d∧x.d≤1000) (aN:Option Addr) (capN:Nat) (hN:Rds I aN 4096 (bts noughts)) :
    Tri Tryz.prog 123 #[.pointer (some ⟨b1,0,none⟩),.pointer (some ⟨b2,0,none⟩),.pointer (some ⟨b3,0,none⟩)] I [[(b1,row x.vals 45)],pBox b2 (.pointer (some ⟨bD,0,none⟩)) 22,pBox b3 (.slice aN 4096 capN) 32,chD]
      fun r J S'=>r=.int .i64 (blankP (x.d.toNat - 1) 1 d).2∧∃ chD',Dk J bD (blankP (x.d.toNat - 1) 1 d).1 chD'∧S'=[[(b1,row x.vals 45)],pBox b2 (.pointer (some ⟨bD,0,none⟩)) 22,pBox b3 (.slice aN 4096 capN) 32,chD']:=by
  obtain ⟨l1,l2,l3,l4,l5,l6,l7⟩:=x
  dsimp only at hx ⊢
  obtain ⟨e,rfl⟩:∃ e:Nat,l7=e:=⟨l7.toNat,by omega⟩
  rw [Int.toNat_natCast]
  refine Tri.of (args:=[.pointer (some ⟨b1,0,none⟩),.pointer (some ⟨b2,0,none⟩),.pointer (some ⟨b3,0,none⟩)]) tabOk Tryz.func123 rfl (by kernel_rfl) (by kernel_rfl) ?_
  refine CodeF.loopD [0,1,2,4] (fun vs J' S'=>∃ (k:Nat) (d2:DSt) (chD2:List Blk),1≤k∧k≤e∧blankP (e - 1) 1 d=blankP (e - k) k d2∧d2.Few (500000+k)∧Dk J' bD d2 chD2∧I.le J' ∧
      vs=[.pointer (some ⟨b1,0,none⟩),.pointer (some ⟨b2,0,none⟩),.pointer (some ⟨b3,0,none⟩),.int .i64 k]∧S'=[[(b1,row [.int .i64 l1,.int .i64 l2,.int .i64 l3,.int .i64 l4,.int .i64 l5,.int .i64 l6,.int .i64 e] 45)],pBox b2 (.pointer (some ⟨bD,0,none⟩)) 22,pBox b3 (.slice aN 4096 capN) 32,chD2])
    (fun vs _ _=>match vs with | [_,_,_,.int _ k]=>((e:Int) - k).toNat | _=>0) ?_ ?_
  · exact ⟨_,Drop.refl _,1,d,chD,by omega,by omega,rfl,hf.mono (by omega),hD,Imm.le_refl _,rfl,rfl⟩
  rintro vs gE J' S' hJ' ⟨k,d2,chD2,hk1,hk,hbl,hf2,hD2,hle,rfl,rfl⟩
  repeat (first | refine LoadD.own 0 rfl _ rfl rfl ?_)
  refine CmpD.split (fun (c1:(k:Int) < e)=>?_) (fun (c1:¬ (k:Int) < e)=>?_)
  · rw [show e - k=(e - (k+1))+1 by omega,blankP] at hbl
    repeat (first | refine LoadD.own 1 rfl _ rfl rfl ?_ | refine LoadD.own 2 rfl _ rfl rfl ?_)
    refine Tri.frame1 3 rfl (dk_Write hD2 (hf2.mono (by omega)) k aN 4096 capN noughts (hN.mono hle)) ?_
    have hf3:=hf2.write (k:Int) noughts
    generalize d2.write (k:Int) noughts=dw at *
    obtain ⟨d3,e3⟩:=dw
    dsimp only at hbl hf3 ⊢
    rintro r J3 A' hJ3 ⟨rfl,chD3,hD3,rfl⟩
    refine ⟨_,rfl,?_⟩
    by_cases he:e3≠0
    · rw [if_pos he] at hbl
      refine CmpD.no he ?_
      skip
      rw [hbl]
      exact Done.mk ⟨rfl,chD3,hD3,rfl⟩
    · rw [if_neg he] at hbl
      obtain rfl:e3=0:=by omega
      repeat (first | refine CmpD.yes rfl ?_)
      refine ToD.to (((k+1:Nat)):Int) (by rw [wrap_i64 (by omega) (by omega)]; omega) ?_
      refine ⟨_,Drop.refl _,⟨k+1,d3,chD3,by omega,by omega,hbl,hf3.mono (by omega),hD3,Imm.le_trans hle hJ3,rfl,rfl⟩,?_⟩
      show ((e:Int) - ((k+1:Nat):Int)).toNat < ((e:Int) - (k:Int)).toNat; omega
  · obtain rfl:k=e:=by omega
    skip
    rw [hbl,Nat.sub_self]
    exact Done.mk ⟨rfl,chD2,hD2,rfl⟩
theorem fmt2 {I:Imm} {b1 b2 bD:Nat} {d:DSt} {chD:List Blk} (hD:Dk I bD d chD) (hf:d.Few 900000) (aN:Option Addr) (capN:Nat) (b:Dat) (hN:Rds I aN 4096 (bts b)) :
    Tri Tryz.prog 126 #[.pointer (some ⟨b1,0,none⟩),.pointer (some ⟨b2,0,none⟩)] I [pBox b1 (.pointer (some ⟨bD,0,none⟩)) 22,pBox b2 (.slice aN 4096 capN) 32,chD]
      fun r J S'=>r=.int .i64 (d.write 0 b).2∧∃ chD',Dk J bD (d.write 0 b).1 chD'∧S'=[pBox b1 (.pointer (some ⟨bD,0,none⟩)) 22,pBox b2 (.slice aN 4096 capN) 32,chD']:=by
  refine Tri.of (args:=[.pointer (some ⟨b1,0,none⟩),.pointer (some ⟨b2,0,none⟩)]) tabOk Tryz.func126 rfl (by kernel_rfl) (by kernel_rfl) ?_
  repeat (first | refine LoadD.own 0 rfl _ rfl rfl ?_ | refine LoadD.own 1 rfl _ rfl rfl ?_)
  refine Tri.frame1 2 rfl (dk_Write hD (hf.mono (by omega)) 0 aN 4096 capN b hN) ?_
  rintro r J3 A' hJ3 ⟨rfl,chD3,hD3,rfl⟩
  refine ⟨_,rfl,?_⟩
  exact Done.mk ⟨rfl,chD3,hD3,rfl⟩
theorem fmt_steps {I:Imm} {bD b1 b3 b5 b7 bN bF:Nat} {x:Lay} {s:Sup} {d:DSt} {chD:List Blk} (hD:Dk I bD d chD) (hf:d.Few 500000) (hld:1≤x.d∧x.d≤1000) (hN:Rds I (some ⟨bN,0,none⟩) 4096 (bts noughts)) (aS:Option Addr) (capS:Nat) (hS:Rds I aS 4096 (bts (supL s)))
    (hfs:Rds I (some ⟨bF,0,none⟩) 4 [.func (.func 123) #[] #[.pointer (some ⟨b3,0,none⟩),.pointer (some ⟨b1,0,none⟩),.pointer (some ⟨b5,0,none⟩)],.func (.func 125) #[.pointer (some ⟨bD,0,none⟩)] #[],
      .func (.func 126) #[] #[.pointer (some ⟨b1,0,none⟩),.pointer (some ⟨b7,0,none⟩)],.func (.func 125) #[.pointer (some ⟨bD,0,none⟩)] #[]]) :
    Tri Tryz.prog 91 #[.slice (some ⟨bF,0,none⟩) 4 4] I [chD,pBox b1 (.pointer (some ⟨bD,0,none⟩)) 22,[(b3,row x.vals 45)],pBox b5 (.slice (some ⟨bN,0,none⟩) 4096 4096) 32,pBox b7 (.slice aS 4096 capS) 32]
      fun r J S'=>r=.int .i64 (fmtS (x.d.toNat - 1) s d).2∧∃ chD' R,Dk J bD (fmtS (x.d.toNat - 1) s d).1 chD'∧S'=[chD',pBox b1 (.pointer (some ⟨bD,0,none⟩)) 22,[(b3,row x.vals 45)],pBox b5 (.slice (some ⟨bN,0,none⟩) 4096 4096) 32,pBox b7 (.slice aS 4096 capS) 32]∧R=chD':=by
  refine vol_first (some ⟨bF,0,none⟩) 4 4 _ (by omega) hfs ?_
  have hf1:=blankP_few (x.d.toNat - 1) 1 d _ hf
  unfold fmtS
  refine ⟨_,[],[.pointer (some ⟨b3,0,none⟩),.pointer (some ⟨b1,0,none⟩),.pointer (some ⟨b5,0,none⟩)],rfl,?_⟩
  refine Tri.frame (fmt1 (x:=x) hD hf hld (some ⟨bN,0,none⟩) 4096 hN) [2,1,3,0] rfl rfl ?_
  generalize blankP (x.d.toNat - 1) 1 d=bl at hf1 ⊢
  obtain ⟨d1,e1⟩:=bl
  dsimp only at hf1 ⊢
  rintro r J2 A' hJ2 ⟨rfl,chD1,hD1,rfl⟩
  refine ⟨Nat.le_refl _,?_⟩
  refine ⟨_,rfl,fun he=>?_,fun he=>?_⟩
  · rw [if_pos he]
    exact ⟨rfl,chD1,_,hD1,rfl,rfl⟩
  rw [if_neg (by simpa using he)]
  refine ⟨_,[.pointer (some ⟨bD,0,none⟩)],[],rfl,?_⟩
  refine Tri.frame1 0 rfl (dk_Flush hD1) ?_
  have hf2:=hf1.flush
  generalize d1.flush=fl at hf2 ⊢
  obtain ⟨d2,e2⟩:=fl
  dsimp only at hf2 ⊢
  rintro r J3 A' hJ3 ⟨rfl,chD2,hD2,rfl⟩
  refine ⟨_,rfl,?_⟩
  refine ⟨_,rfl,fun he=>?_,fun he=>?_⟩
  · rw [if_pos he]
    exact ⟨rfl,chD2,_,hD2,rfl,rfl⟩
  rw [if_neg (by simpa using he)]
  refine ⟨_,[],[.pointer (some ⟨b1,0,none⟩),.pointer (some ⟨b7,0,none⟩)],rfl,?_⟩
  refine Tri.frame (fmt2 hD2 (hf2.mono (by omega)) aS capS (supL s) (hS.mono (Imm.le_trans hJ2 hJ3))) [1,4,0] rfl rfl ?_
  generalize d2.write 0 (supL s)=wr
  obtain ⟨d3,e3⟩:=wr
  dsimp only
  rintro r J4 A' hJ4 ⟨rfl,chD3,hD3,rfl⟩
  refine ⟨Nat.le_refl _,?_⟩
  refine ⟨_,rfl,fun he=>?_,fun he=>?_⟩
  · rw [if_pos he]
    exact ⟨rfl,chD3,_,hD3,rfl,rfl⟩
  rw [if_neg (by simpa using he)]
  refine ⟨_,[.pointer (some ⟨bD,0,none⟩)],[],rfl,?_⟩
  refine Tri.frame1 0 rfl (dk_Flush hD3) ?_
  generalize d3.flush=fl
  obtain ⟨d4,e4⟩:=fl
  dsimp only
  rintro r J5 A' hJ5 ⟨rfl,chD4,hD4,rfl⟩
  refine ⟨_,rfl,?_⟩
  refine ⟨_,rfl,fun he=>?_,fun he=>?_⟩
  · exact ⟨rfl,chD4,_,hD4,rfl,rfl⟩
  · obtain rfl:=he
    exact ⟨rfl,chD4,_,hD4,rfl,rfl⟩
set_option maxHeartbeats 4000000 in
theorem vk_Format {I:Imm} {bD:Nat} {d:DSt} {chD:List Blk} (hD:Dk I bD d chD) (hf:d.Few 500000) :
    Tri Tryz.prog 55 #[.pointer (some ⟨bD,0,none⟩)] I [chD] fun r J S'=>r=.int .i64 (formatP d).2∧∃ chD',Dk J bD (formatP d).1 chD'∧S'=[chD']:=by
  have hr:=hD.wf.range
  refine Tri.drop ?_ (fun _ _ _ _ h=>h)
  refine Tri.of (args:=[.pointer (some ⟨bD,0,none⟩)]) tabOk Tryz.func55 rfl (by kernel_rfl) (by kernel_rfl) ?_
  conv=>whnf
  intro b1
  repeat (first | refine LoadD.own 1 rfl _ rfl rfl ?_)
  refine Tri.frame1 0 rfl (dk_Size hD) ?_
  rintro r _ A' hJ ⟨rfl,rfl,rfl⟩
  refine ⟨_,rfl,?_⟩
  refine CmpD.no (by show ((d.now.length:Nat):Int)≠0; omega) ?_
  repeat (first | refine LoadD.own 1 rfl _ rfl rfl ?_)
  refine Tri.frame1 0 rfl (dk_Size hD) ?_
  rintro r _ A' hJ ⟨rfl,rfl,rfl⟩
  refine ⟨_,rfl,?_⟩
  refine Tri.free (layout_Of d.now.length I) ?_
  rintro r _ _ hJ ⟨rfl,rfl⟩
  unfold formatP
  by_cases h64:d.now.length < 64
  · rw [if_pos h64,layA,if_pos (by omega)]
    conv=>whnf
    intro b3
    repeat (first | refine StoreD.st 2 rfl rfl rfl ?_ | refine CmpD.no (by decide) ?_)
    exact Done.mk ⟨_,Drop.pick [0] _ rfl,rfl,chD,hD,rfl⟩
  rw [if_neg h64,layA,if_neg (by omega)]
  conv=>whnf
  intro b3
  repeat (first | refine StoreD.st 2 rfl rfl rfl ?_ | refine CmpD.yes rfl ?_)
  refine makeH tabOk rfl rfl rfl 4096 4096 rfl rfl (Nat.le_refl _) (by show 1 * 4096≤_; decide) (by decide) (by show 4096 * 1≤_; decide) rfl (by decide) ?_
  intro bN NB hNB
  conv=>whnf
  intro b5
  repeat (first | refine LoadD.own 2 rfl _ rfl rfl ?_ | refine StoreD.st 4 rfl rfl rfl ?_)
  obtain ⟨n,hn⟩:∃ n,n=d.now.length:=⟨_,rfl⟩
  rw [← hn] at hr h64 ⊢
  have hlr:=layL_range (n:=(n:Int)) (by omega)
  refine Tri.free (super_PutF ⟨n,1,1,0⟩ I) ?_
  have hR:RightS ⟨n,1,1,0⟩:=⟨by show (64:Int)≤n; omega,by show (n:Int)≤512; omega,by show (1:Int)≤1; decide,by show (1:Int)≤8388608; decide,by show (1:Int)≤1; decide,by show (1:Int)≤549755813888; decide,by show (0:Int)≤0; decide,by show (0:Int)≤511; decide⟩
  rintro r J1 _ hJ1 (⟨h,_⟩ | ⟨_,aS,capS,rfl,hSup⟩)
  · exact absurd hR h
  conv=>whnf
  intro b7
  repeat (first | refine LoadD.own 1 rfl _ rfl rfl ?_ | refine StoreD.st 5 rfl rfl rfl ?_)
  conv=>whnf
  intro bF
  refine Tri.fix 3 rfl fun I5 hI5 hNm=>?_
  refine Tri.fix 6 rfl fun I6 hI6 hFm=>?_
  have hD:=hD.mono (Imm.le_trans hJ1 (Imm.le_trans hI5 hI6))
  have hN:Rds I6 (some ⟨bN,0,none⟩) 4096 (bts noughts):=by
    rw [noughts_bts]
    exact (Rds.of_own (cap:=4096) (by rw [hNB]; show OwnC [(bN,row (rows 4096 [Value.int .u8 0]) _)] 1 _ _ _ _; exact OwnC.whole (by rw [rows_length]; rfl)) hNm).mono hI6
  have hS6:=hSup.mono (Imm.le_trans hI5 hI6)
  have hfs:Rds I6 (some ⟨bF,0,none⟩) 4 [.func (.func 123) #[] #[.pointer (some ⟨b3,0,none⟩),.pointer (some ⟨b1,0,none⟩),.pointer (some ⟨b5,0,none⟩)],.func (.func 125) #[.pointer (some ⟨bD,0,none⟩)] #[],
      .func (.func 126) #[] #[.pointer (some ⟨b1,0,none⟩),.pointer (some ⟨b7,0,none⟩)],.func (.func 125) #[.pointer (some ⟨bD,0,none⟩)] #[]] :=
    ⟨rfl,.inr ⟨bF,0,_,_,_,rfl,hFm _ (List.mem_singleton.2 rfl),rfl⟩⟩
  obtain ⟨x,hx⟩:∃ x:Lay,x=layOf (n:Int):=⟨_,rfl⟩
  have hld:1≤x.d∧x.d≤1000:=by rw [hx]; show 1≤3+layL n+(n:Int) / 16∧3+layL n+(n:Int) / 16≤1000; omega
  have hxv:row (layOf (n:Int)).vals 45=row x.vals 45:=by rw [hx]
  obtain ⟨s,hs⟩:∃ s:Sup,s=⟨n,1,1,0⟩:=⟨_,rfl⟩
  rw [← hs] at hS6
  refine Tri.frameX (fmt_steps (x:=x) (s:=s) hD hf hld hN aS capS hS6 hfs) [0,1,2,4,5] rfl (by rw [hx]; rfl) ?_
  rw [hx,hs]
  rintro r J A' hJ ⟨rfl,chD4,_,hD4,rfl,_⟩
  exact Done.mk ⟨_,Drop.pick [7] _ rfl,rfl,chD4,hD4,rfl⟩
end Go.Proofs.YtegdcjnjnoeinaaGreat
namespace Go.Proofs.YtegdcjnjnoeinaaGreat
open Go.RowKit Go.Sl
set_option maxRecDepth 20000
theorem sortP_length (l:List PImg):(sortP l).length=l.length:=by unfold sortP; rw [List.length_map,(sortI_perm _).length_eq,List.length_map]
theorem release_groups {j:JSt} (hw:j.Wf) (q:Int):(j.release q).1.groups.length≤j.groups.length:=by
  unfold JSt.release
  split
  · exact Nat.le_refl _
  split
  · exact Nat.le_refl _
  generalize hq:relAll q j.groups j.s j.t j.u j.h=w
  obtain ⟨gs,s,t,u,h,e⟩:=w
  obtain ⟨_,k,rfl⟩:=relAll_mid q _ _ _ _ _ _ _ _ _ _ _ hw.ring hq
  show (j.groups.drop k).length≤_
  rw [List.length_drop]; omega
theorem flush_groups (j:JSt) (d:DSt):(j.flush d).1.groups=j.groups:=by
  unfold JSt.flush
  split
  · rfl
  · split <;> rfl
theorem ckS_wf {v:VSt} {d:DSt} (hw:v.j.Wf):(v.ckS d).2.1.Wf∧(v.ckS d).2.1.groups.length≤v.j.groups.length:=by
  unfold VSt.ckS
  have h1:=hw.flush d
  have h2:=flush_groups v.j d
  split
  · exact ⟨h1,by rw [h2]; exact Nat.le_refl _⟩
  split
  · exact ⟨h1,by rw [h2]; exact Nat.le_refl _⟩
  · exact ⟨h1.release _,by have:=release_groups h1 (v.j.flush d).1.synced; rw [h2] at this; exact this⟩
theorem ckS_few {v:VSt} {d:DSt} {k:Nat} (hf:d.Few k):(v.ckS d).2.2.Few (k+v.fresh.length+1):=by
  unfold VSt.ckS
  have h1:=jflush_few (j:=v.j) hf
  have h2:=doP_few h1 (sortP v.fresh) v.sup v.slot
  rw [sortP_length] at h2
  split
  · exact h1.mono (by omega)
  split
  · exact h2
  · exact h2
theorem v_Fits (bV bD bJ bM:Nat) (v:VSt) (I:Imm) (S:St) (k:Nat) (br:Bool) (hk:S[k]?=some (vChunk bV bD bJ bM v.j.lay v.epoch v.slot br)) (n:Int):Tri Tryz.prog 27 #[.pointer (some ⟨bV,0,none⟩),.int .i64 n] I S fun r J S'=>r=.bool (v.fits n)∧I=J∧S'=S:=by
  refine Tri.of (args:=[.pointer (some ⟨bV,0,none⟩),.int .i64 n]) tabOk Tryz.func27 rfl (by kernel_rfl) (by kernel_rfl) ?_
  refine Tri.free (record_Blocks n I []) ?_
  rintro r _ _ hJ ⟨rfl,rfl,rfl⟩
  refine Tri.mono (v_none bV bD bJ bM _ _ _ _ I S k hk) ?_
  rintro r _ _ hJ ⟨rfl,rfl,rfl⟩
  unfold VSt.fits
  refine CmpD.split (fun c1=>?_) (fun c1=>?_)
  · refine LoadD.own k hk [.int .i64 v.j.lay.lb] rfl rfl ?_
    refine CmpD.split (fun c2=>?_) (fun c2=>?_)
    · rw [decide_eq_true ⟨c1,c2⟩]
      exact Done.mk ⟨rfl,rfl,rfl⟩
    · rw [decide_eq_false (fun h=>c2 h.2)]
      exact Done.mk ⟨rfl,rfl,rfl⟩
  · rw [decide_eq_false (fun h=>c1 h.1)]
    exact Done.mk ⟨rfl,rfl,rfl⟩
theorem append_lay (j:JSt) (d:DSt) (l:List PImg) (b:Bool):(j.appendB d l b).1.lay=j.lay:=by
  unfold JSt.appendB
  split
  · rfl
  unfold JSt.append
  split
  · rfl
  split
  · rfl
  generalize putS j.s j.t j.u j.h (l.length+1) (if b=true then l.length+1 else 0)=q
  obtain ⟨⟨s,t,u,h,e⟩,a⟩:=q
  dsimp only
  split
  · rfl
  split <;> rfl
def Apt (X:Nat→Prop) (gs:List Img):Prop:=∀ g ∈ gs,∀ b off,g.a=some ⟨b,off,none⟩→¬ X b
def VkX (X:Nat→Prop) (J:Imm) (bV bD:Nat) (v:VSt) (ch:List Blk):Prop:=∃ (bJ bM:Nat) (ob:Obj) (chJ:List Blk) (gs:List Img),
  ch=vChunk bV bD bJ bM v.j.lay v.epoch v.slot v.broken++((bM,ob) :: chJ)∧Jk bJ bD v.j chJ∧MapR ob (gs.map hdr)∧(∀ g ∈ gs,ImgOk J g)∧gs.map Img.pr=v.fresh∧Apt X gs
theorem VkX.vk {X:Nat→Prop} {J:Imm} {bV bD:Nat} {v:VSt} {ch:List Blk}:VkX X J bV bD v ch→Vk J bV bD v ch:=fun ⟨bJ,bM,ob,chJ,gs,h1,h2,h3,h4,h5,_⟩=>⟨bJ,bM,ob,chJ,gs,h1,h2,h3,h4,h5⟩
theorem Vk.all {J:Imm} {bV bD:Nat} {v:VSt} {ch:List Blk}:Vk J bV bD v ch→VkX (fun _=>False) J bV bD v ch:=fun ⟨bJ,bM,ob,chJ,gs,h1,h2,h3,h4,h5⟩=>⟨bJ,bM,ob,chJ,gs,h1,h2,h3,h4,h5,fun _ _ _ _ _ h=>h⟩
theorem own_blk {ch:List Blk} {size:Nat} {a:Option Addr} {len cap:Nat} {vs:List Value} (h:OwnC ch size a len cap vs) (hl:0 < len) {b off:Nat} (ha:a=some ⟨b,off,none⟩):∃ o,(b,o) ∈ ch:=by
  rcases h.at' with q | ⟨b',pre,post,T,rfl,rfl,_⟩
  · have:=h.le; omega
  · cases ha
    exact ⟨_,List.mem_cons_self⟩
theorem clone_fixN (I:Imm) (a:Option Addr) (len cap:Nat) (l:List UInt8) (h:Rds I a len (bts l)) (hlen:len≤100000000) (h0:0 < len) :
    Tri Tryz.prog 86 #[.slice a len cap] I [] fun v J _=>∃ a' cap',v=.slice a' len cap'∧Rds J a' len (bts l)∧∀ b off,a'=some ⟨b,off,none⟩→I b=none:=by
  refine Tri.fixedN (clone_bytes I [] a len cap (bts l) (by rw [Nat.mul_one]; exact h.slC) (bts_plain l) (by omega)) ?_
  rintro v J S' hJ ⟨a',cap',ch,rfl,hown,rfl,rfl⟩
  refine ⟨0,ch,rfl,fun J' hJ' hm=>⟨a',cap',rfl,Rds.of_own hown fun x hx=>(hm x hx).1,fun b off ha=>?_⟩⟩
  obtain ⟨o,ho⟩:=own_blk hown h0 ha
  exact (hm _ ho).2
theorem Apt.iput {X:Nat→Prop} {gs:List Img} {g:Img} (h:Apt X gs) (hg:∀ b off,g.a=some ⟨b,off,none⟩→¬ X b):Apt X (iput gs g):=by
  intro y hy
  rcases iput_mem hy with rfl | hy
  · exact hg
  · exact h y hy
structure VAt (X:Nat→Prop) (J:Imm) (bD bJ bM:Nat) (v:VSt) (ob:Obj) (chJ:List Blk) (gs:List Img):Prop where
  j:Jk bJ bD v.j chJ
  m:MapR ob (gs.map hdr)
  ok:∀ g ∈ gs,ImgOk J g
  pr:gs.map Img.pr=v.fresh
  ap:Apt X gs
theorem VAt.mono {X:Nat→Prop} {I J:Imm} {bD bJ bM:Nat} {v:VSt} {ob:Obj} {chJ:List Blk} {gs:List Img} (h:VAt X I bD bJ bM v ob chJ gs) (hJ:I.le J):VAt X J bD bJ bM v ob chJ gs:=⟨h.j,h.m,fun g hg=>(h.ok g hg).mono hJ,h.pr,h.ap⟩
theorem homeOk_snoc {x:Lay} {l:List PImg} {g:PImg} (h:HomeOk x l) (hg:x.bi≤g.1∧g.1 < x.b):HomeOk x (l++[g]):=by
  intro y hy
  rcases List.mem_append.1 hy with hy | hy
  · exact h y hy
  · simp only [List.mem_singleton] at hy; subst hy; exact hg
set_option maxHeartbeats 8000000 in
theorem vk_CommitX {X:Nat→Prop} {bV bD:Nat} {v:VSt} {ch:List Blk} {I:Imm} (hX:∀ b,X b→∃ o,I b=some o) (h:VkX X I bV bD v ch) (hw:v.j.Wf) (hep:v.epoch=v.j.epoch) (hsl:0≤v.slot∧v.slot≤1) (hfr:v.fresh.length≤1000) (hgr:v.j.groups.length≤800000) {d:DSt} {chD:List Blk} (hD:Dk I bD d chD) (hf:d.Few 700000)
    (aL:Option Addr) (capL:Nat) (ls:List Img) (hi:ImgsOk I aL ls) (hll:ls.length≤1000000) :
    Tri Tryz.prog 16 #[.pointer (some ⟨bV,0,none⟩),.slice aL ls.length capL] I [ch,chD] fun r J S' =>
      r=.tuple #[.int .i64 (v.commit d (ls.map Img.pr)).2.2.1,.int .i64 (v.commit d (ls.map Img.pr)).2.2.2]∧∃ ch' chD',Vk J bV bD (v.commit d (ls.map Img.pr)).1 ch'∧((v.commit d (ls.map Img.pr)).2.2.2=0→VkX X J bV bD (v.commit d (ls.map Img.pr)).1 ch')∧Dk J bD (v.commit d (ls.map Img.pr)).2.1 chD'∧S'=[ch',chD']:=by
  have h0:=h.vk
  obtain ⟨bJ,bM,ob,chJ,gs,rfl,hj,hM,hg,hp,hap⟩:=h
  have hA:VAt X I bD bJ bM v ob chJ gs:=⟨hj,hM,hg,hp,hap⟩
  have hring:=hw.ring
  unfold Ok at hring
  have hlog:=hw.log
  refine Tri.lay (S2:=[vChunk bV bD bJ bM v.j.lay v.epoch v.slot v.broken,[(bM,ob)],chJ,chD]) (vk_lay2 ..) ?_
  refine Tri.drop ?_ (fun _ _ _ _ h=>h)
  refine Tri.ofF (args:=[.pointer (some ⟨bV,0,none⟩),.slice aL ls.length capL]) tabOk Tryz.func16 rfl (by kernel_rfl) (by kernel_rfl) ?_
  refine CodeF.stepD ?_
  refine CodeF.stepD ?_
  refine Tri.nf (v_wrong bV bD bJ bM _ _ _ _ I _ 0 rfl) ?_
  rintro r _ _ hJ ⟨rfl,rfl,rfl⟩
  unfold VSt.commit
  cases hb:v.broken
  rotate_left
  · repeat (first | refine CmpD.no (by decide) ?_)
    rw [if_pos rfl]
    exact Done.mk ⟨_,Drop.flat (by simp [hb]),rfl,_,chD,h0,fun h=>absurd h (by simp),hD,rfl⟩
  repeat (first | refine CmpD.yes rfl ?_)
  rw [if_neg (by simp)]
  have same:∀ (J:Imm),I.le J→∃ ch' chD',Vk J bV bD v ch'∧Dk J bD d chD'∧[vChunk bV bD bJ bM v.j.lay v.epoch v.slot false++((bM,ob) :: chJ),chD]=[ch',chD']:=fun J hJ=>⟨_,chD,by have:=h0.mono hJ; rw [hb] at this; exact this,hD.mono hJ,rfl⟩
  have flat0:∀ (R:St),Drop ([vChunk bV bD bJ bM v.j.lay v.epoch v.slot false,[(bM,ob)],chJ,chD]++R) [vChunk bV bD bJ bM v.j.lay v.epoch v.slot false++((bM,ob) :: chJ),chD]:=fun R=>⟨R.flatten,by simp⟩
  refine CodeF.stepD ?_
  obtain ⟨n,hn⟩:∃ n,n=ls.length:=⟨_,rfl⟩
  rw [← hn] at hll ⊢
  refine CodeF.loopD [0,1,20,21,22] (fun vs J' S'=>∃ (i:Nat),i≤n∧HomeOk v.j.lay ((ls.map Img.pr).take i)∧I=J'∧vs=[.pointer (some ⟨bV,0,none⟩),.slice aL n capL,.slice aL n capL,.int .i64 n,.int .i64 i]∧S'=[vChunk bV bD bJ bM v.j.lay v.epoch v.slot false,[(bM,ob)],chJ,chD])
    (fun vs _ _=>match vs with | [_,_,_,_,.int _ i]=>((n:Int) - i).toNat | _=>0) ?_ ?_
  · exact ⟨_,Drop.refl _,0,by omega,by intro g hg; simp at hg,rfl,rfl,rfl⟩
  rintro vs gE J' S' hJ' ⟨i,hi1,hho,rfl,rfl,rfl⟩
  refine CmpD.split (fun (c1:(i:Int) < n)=>?_) (fun (c1:¬ (i:Int) < n)=>?_)
  · have hil:i < ls.length:=by omega
    have htk:(ls.map Img.pr).take (i+1)=(ls.map Img.pr).take i++[ls[i].pr]:=by rw [List.take_add_one,List.getElem?_map,List.getElem?_eq_getElem hil]; rfl
    have hcell:=imgCells_at hil
    have hpre:∀ g ∈ (ls.map Img.pr).take (i+1),g ∈ ls.map Img.pr:=fun g hg=>List.mem_of_mem_take hg
    rcases hi.1.mem with q0 | ⟨bL,oL,cL,TL,fL,rfl,hIL,hcL⟩
    · omega
    have hsrc:(cL.drop (oL+i * 2)).take 2=[.int .i64 ls[i].blk,.slice ls[i].a ls[i].len ls[i].cap]:=by
      rw [take_part hcL (by omega),hcell]
    refine Chk.mk (by omega) ?_
    refine LoadD.imm hIL [.int .i64 ls[i].blk,.slice ls[i].a ls[i].len ls[i].cap] hsrc rfl ?_
    conv=>whnf
    intro b8
    refine StoreD.st 4 rfl rfl rfl ?_
    refine CodeF.sched [[],[0],[],[2],[2,3],[2,3,4],[2,3,4,5],[0,1,2,3,4,5,6],[0,1,2,3,4,5,6,7],[0,1,2,3,4,5,6,7,8],[0,1,2,3,4,5,6,7,8,9],[0,1,2,3,4,5,6,7,8],[0,1,2,3,4,5,6,7,8,11],[0,1,2,3,4,5,6,7,8,11,12],[0,1,2,3,4,5,6,7,8,11,12,13],[0,1,2,3,4,5,6,7,8,11,12,13,14],[0,1,2,3,4,5,6,7,8,9,10,11,12,13,14,15],[0,1,2,3,4,5,6,7,8,9,10,11,12,13,14,15,16]] [0,1,2,3,4,5,6,7,8,9,10,11,12,13,14,15,16,17] (by kernel_rfl) ?_
    repeat (first | refine LoadP.at 0 rfl _ rfl rfl ?_ | refine LoadP.at 4 rfl _ rfl rfl ?_)
    have bad:¬ (v.j.lay.bi≤ls[i].blk∧ls[i].blk < v.j.lay.b)→¬ HomeOk v.j.lay (ls.map Img.pr):=fun h hh=>h (hh ls[i].pr (List.mem_map_of_mem (List.getElem_mem hil)))
    refine CmpD.split (fun (c2:ls[i].blk < v.j.lay.bi)=>?_) (fun (c2:¬ ls[i].blk < v.j.lay.bi)=>?_)
    · skip
      rw [if_pos (by simpa using bad (fun h=>by omega))]
      obtain ⟨ch',chD',k1,k2,k3⟩:=same I (Imm.le_refl _)
      exact Done.mk ⟨_,flat0 [_],rfl,ch',chD',k1,fun h=>absurd h (by simp),k2,k3⟩
    repeat (first | refine LoadP.at 0 rfl _ rfl rfl ?_ | refine LoadP.at 4 rfl _ rfl rfl ?_)
    refine CmpD.split (fun (c3:v.j.lay.b≤ls[i].blk)=>?_) (fun (c3:¬ v.j.lay.b≤ls[i].blk)=>?_)
    · skip
      rw [if_pos (by simpa using bad (fun h=>by omega))]
      obtain ⟨ch',chD',k1,k2,k3⟩:=same I (Imm.le_refl _)
      exact Done.mk ⟨_,flat0 [_],rfl,ch',chD',k1,fun h=>absurd h (by simp),k2,k3⟩
    refine ToD.to (((i+1:Nat)):Int) (by rw [wrap_i64 (by omega) (by omega)]; omega) ?_
    refine ⟨_,Drop.pick [0,1,2,3] _ rfl,⟨i+1,by omega,?_,rfl,rfl,rfl⟩,?_⟩
    · rw [htk]
      exact homeOk_snoc hho ⟨by show v.j.lay.bi≤ls[i].blk; omega,by show ls[i].blk < v.j.lay.b; omega⟩
    · show ((n:Int) - ((i+1:Nat):Int)).toNat < ((n:Int) - (i:Int)).toNat; omega
  obtain rfl:i=n:=by omega
  rw [List.take_of_length_le (by rw [List.length_map]; omega)] at hho
  rw [if_neg (by simpa using hho)]
  refine CodeF.stepD ?_
  refine CodeF.sched [[],[0],[0,1],[0,1,2],[],[4],[4,5],[4,5,6],[4,5,6,7],[],[0,1,2,3,4,5,6,7,8,9],[0,1,2,3,4,5,6,7,8,9,10],[0,1,2,3,4,5,6,7,8,9,10,11],[0,1,2,3,4,5,6,7,8,9,10,11,12],[0,1,2,3,4,5,6,7,8,9,10,11,12],[0,1,2,3,4,5,6,7,8,9,10,11,12,13],[0,1,2,3,4,5,6,7,8,9,10,11,12,13,14,15]] [0,1,2,3,4,5,6,7,9,8,10,11,12,13,14,15,16] (by kernel_rfl) ?_
  repeat (first | refine LoadP.at 0 rfl _ rfl rfl ?_)
  refine Tri.frame1 2 rfl (jk_Next hj I) ?_
  rintro r _ A' hJ2 ⟨rfl,rfl,rfl⟩
  refine ⟨_,rfl,?_⟩
  repeat (first | refine Chk.mk ⟨rfl,trivial⟩ ?_)
  rw [hn]
  refine Tri.free (put_of v.epoch v.j.next ⟨by rw [hep]; exact hw.epoch,by have:=hw.next; unfold In64; omega⟩ aL capL ls I hi (by omega)) ?_
  rw [← hn]
  rintro r J2 _ hJ2 (⟨hno,rfl⟩ | ⟨hR,aO,capO,bs,rfl,_,_,_⟩)
  · rw [if_pos hno]
    skip
    refine CodeF.stepD ?_
    repeat (first | refine CmpD.no (by decide) ?_)
    obtain ⟨ch',chD',k1,k2,k3⟩:=same J2 hJ2
    exact Done.mk ⟨_,flat0 [],rfl,ch',chD',k1,fun h=>absurd h (by simp),k2,k3⟩
  rw [if_neg (by simpa using hR)]
  skip
  refine CodeF.stepD ?_
  repeat (first | refine CmpD.yes rfl ?_)
  refine Tri.nf (v_Fits bV bD bJ bM v J2 _ 0 false rfl (i:Int)) ?_
  rintro r _ _ hJ3 ⟨rfl,rfl,rfl⟩
  have hll2:(ls.map Img.pr).length=i:=by rw [List.length_map,hn]
  rw [hll2]
  have hR6:=hR.2.2.2.2
  rw [hll2] at hR6
  cases hfit:v.fits (i:Int)
  · rw [if_pos rfl]
    skip
    obtain ⟨ch',chD',k1,k2,k3⟩:=same J2 hJ2
    exact Done.mk ⟨_,flat0 [],rfl,ch',chD',k1,fun h=>absurd h (by simp),k2,k3⟩
  rw [if_neg (by simp)]
  skip
  have hbn:blocksN (i:Int)=(i:Int)+1:=by unfold blocksN; rw [if_neg (by omega)]
  rw [hbn]
  obtain ⟨W,hW⟩:∃ W:VSt × DSt × Int × Int,W=(if v.j.s - v.j.u - v.j.h < (i:Int)+1 then (if (v.ckpt d).2.2≠0 then ((v.ckpt d).1,(v.ckpt d).2.1,0,(v.ckpt d).2.2) else (v.ckpt d).1.app (v.ckpt d).2.1 (ls.map Img.pr)) else v.app d (ls.map Img.pr)):=⟨_,rfl⟩
  rw [← hW]
  refine CodeF.join [0,1] (fun vs J3 S'=>∃ (v2:VSt) (d2:DSt) (bJ2 bM2:Nat) (ob2:Obj) (chJ2:List Blk) (gs2:List Img) (chD2:List Blk),W=v2.app d2 (ls.map Img.pr)∧VAt X J3 bD bJ2 bM2 v2 ob2 chJ2 gs2∧Dk J3 bD d2 chD2∧v2.j.Wf∧v2.j.groups.length≤800000∧d2.Few 800000∧v2.broken=false∧J2.le J3 ∧
      vs=[.pointer (some ⟨bV,0,none⟩),.slice aL i capL]∧S'=[vChunk bV bD bJ2 bM2 v2.j.lay v2.epoch v2.slot false,[(bM2,ob2)],chJ2,chD2]) ?_ ?_
  · refine CodeF.den ?_
    repeat (first | refine LoadD.own 0 rfl _ rfl rfl ?_)
    refine Tri.frame1 2 rfl (jk_Ring hj J2) ?_
    rintro r _ A' hJ4 ⟨rfl,rfl,rfl⟩
    refine ⟨_,rfl,?_⟩
    refine Tri.free (ring_Free v.j.s v.j.t v.j.u v.j.h J2 (by unfold In64; omega) (by unfold In64; omega) (by unfold In64; omega) (by unfold In64; omega)) ?_
    rintro r _ _ hJ5 ⟨rfl,rfl⟩
    rw [if_pos hw.ring]
    refine Tri.free (record_Blocks (i:Int) J2 []) ?_
    rintro r _ _ hJ6 ⟨rfl,rfl,rfl⟩
    rw [hbn]
    refine CmpD.split (fun (c1:v.j.s - v.j.u - v.j.h < (i:Int)+1)=>?_) (fun (c1:¬ v.j.s - v.j.u - v.j.h < (i:Int)+1)=>?_)
    · rw [if_pos c1] at hW
      have hcw:=ckS_wf (d:=d) hw
      have hcf:=ckS_few (v:=v) hf
      refine Tri.lay (S2:=[vChunk bV bD bJ bM v.j.lay v.epoch v.slot false++((bM,ob) :: chJ),chD]) (by simp) ?_
      refine Tri.drop (vk_Checkpoint (v:=v) (by have:=h0.mono hJ2; rw [hb] at this; exact this) hw hsl hfr (hD.mono hJ2) (hf.mono (by omega))) ?_
      rintro r J3 S' hJ3 ⟨rfl,ch2,chD2,⟨bJ2,bM2,ob2,chJ2,gs2,rfl,hj2,hM2,hg2,hp2⟩,hD2,rfl⟩
      have hfz:(v.ckpt d).2.2=0→(v.ckpt d).1.fresh=[]:=by
        unfold VSt.ckpt
        rw [if_neg (by rw [hb]; simp)]
        split
        · intro h; exact absurd h (by assumption)
        · intro _; rfl
      have hbr:(v.ckpt d).2.2=0→(v.ckpt d).1.broken=false:=by
        unfold VSt.ckpt
        rw [if_neg (by rw [hb]; simp)]
        split
        · intro h; exact absurd h (by assumption)
        · intro _; exact hb
      have hcj:(v.ckpt d).1.j=(v.ckS d).2.1∧(v.ckpt d).2.1=(v.ckS d).2.2:=by
        unfold VSt.ckpt
        rw [if_neg (by rw [hb]; simp)]
        split <;> exact ⟨rfl,rfl⟩
      rw [← hcj.1] at hcw
      rw [← hcj.2] at hcf
      generalize v.ckpt d=ck at *
      obtain ⟨v3,d3,e3⟩:=ck
      dsimp only at *
      refine ⟨[vChunk bV bD bJ2 bM2 v3.j.lay v3.epoch v3.slot v3.broken,[(bM2,ob2)],chJ2,chD2],Drop.flat (by simp),?_⟩
      by_cases he:e3≠0
      · rw [if_pos he] at hW
        refine CmpD.no he ?_
        skip
        rw [hW]
        exact Done.mk ⟨_,Drop.flat (vk_lay2 ..).symm,rfl,_,chD2,⟨bJ2,bM2,ob2,chJ2,gs2,rfl,hj2,hM2,hg2,hp2⟩,fun h=>absurd h he,hD2,rfl⟩
      · rw [if_neg he] at hW
        obtain rfl:e3=0:=by omega
        rw [hbr rfl]
        have hap2:Apt X gs2:=by
          have h5:=hp2
          rw [hfz rfl,List.map_eq_nil_iff] at h5
          subst h5
          intro g hg; cases hg
        repeat (first | refine CmpD.yes rfl ?_)
        exact ⟨_,Drop.refl _,v3,d3,bJ2,bM2,ob2,chJ2,gs2,chD2,hW,⟨hj2,hM2,hg2,hp2,hap2⟩,hD2,hcw.1,by omega,hcf.mono (by omega),hbr rfl,hJ3,rfl,rfl⟩
    · rw [if_neg c1] at hW
      exact ⟨_,Drop.refl _,v,d,bJ,bM,ob,chJ,gs,chD,hW,hA.mono hJ2,hD.mono hJ2,hw,hgr,hf.mono (by omega),hb,Imm.le_refl _,rfl,rfl⟩
  rintro vs gE3 J3 S3 hJ3 ⟨v2,d2,bJ2,bM2,ob2,chJ2,gs2,chD2,hW2,hA2,hD2,hw2,hgr2,hf2,hb2,hle3,rfl,rfl⟩
  refine CodeF.den ?_
  repeat (first | refine LoadD.own 0 rfl _ rfl rfl ?_)
  rw [hn]
  refine Tri.frame (jk_Append hA2.j hw2 hD2 (hf2.mono (by omega)) (by omega) aL capL ls (hi.mono (Imm.le_trans hJ2 hle3)) (by omega) false) [2,3] rfl rfl ?_
  unfold VSt.app at hW2
  have hlay:(v2.j.appendB d2 (ls.map Img.pr) false).1.lay=v2.j.lay:=append_lay _ _ _ _
  generalize v2.j.appendB d2 (ls.map Img.pr) false=ap at *
  obtain ⟨j4,d4,n4,e4⟩:=ap
  dsimp only at hW2 hlay ⊢
  rintro r J4 A' hJ4 ⟨rfl,chJ4,chD4,hj4,hD4,rfl⟩
  refine ⟨Nat.le_refl _,?_⟩
  skip
  refine Tri.frame1 0 rfl (v_did bV bD bJ2 bM2 v2.j.lay v2.epoch v2.slot false J4 e4) ?_
  rintro r _ A' hJ5 ⟨rfl,rfl,rfl⟩
  refine ⟨_,rfl,?_⟩
  have hA4:=hA2.mono hJ4
  by_cases he:e4≠0
  · rw [if_pos he] at hW2
    refine CmpD.no he ?_
    skip
    rw [hW2,decide_eq_true he]
    exact Done.mk ⟨[vChunk bV bD bJ2 bM2 v2.j.lay v2.epoch v2.slot true++((bM2,ob2) :: chJ4),chD4],Drop.flat (by simp),rfl,_,chD4,⟨bJ2,bM2,ob2,chJ4,gs2,by rw [hlay],hj4,hA4.m,hA4.ok,hA4.pr⟩,fun h=>absurd h he,hD4,rfl⟩
  rw [if_neg he] at hW2
  obtain rfl:e4=0:=by omega
  rw [show (false || decide ((0:Int)≠0))=false from rfl]
  repeat (first | refine CmpD.yes rfl ?_)
  rw [← hn]
  have hi4:=hi.mono (Imm.le_trans hJ2 (Imm.le_trans hle3 hJ4))
  have hlen4:∀ g ∈ ls,g.data.length=4096:=fun g hg=>(hR6.2.2.1 g.pr (List.mem_map_of_mem hg)).2.2
  refine CodeF.loopD [0,12,99,100,101] (fun vs J' S'=>∃ (k:Nat) (ob3:Obj) (gs3:List Img),k≤i∧MapR ob3 (gs3.map hdr)∧(∀ g ∈ gs3,ImgOk J' g)∧Apt X gs3∧gs3.map Img.pr=((ls.map Img.pr).take k).foldl pput v2.fresh∧J4.le J' ∧
      vs=[.pointer (some ⟨bV,0,none⟩),.int .i64 n4,.slice aL i capL,.int .i64 i,.int .i64 k]∧S'=[vChunk bV bD bJ2 bM2 v2.j.lay v2.epoch v2.slot false,[(bM2,ob3)],chJ4,chD4])
    (fun vs _ _=>match vs with | [_,_,_,_,.int _ k]=>((i:Int) - k).toNat | _=>0) ?_ ?_
  · exact ⟨_,Drop.refl _,0,ob2,gs2,by omega,hA4.m,hA4.ok,hA4.ap,hA4.pr,Imm.le_refl _,rfl,rfl⟩
  rintro vs gE4 J5 S5 hJ5 ⟨k,ob3,gs3,hk,hM3,hg3,hap3,hp3,hle5,rfl,rfl⟩
  refine CmpD.split (fun (c1:(k:Int) < i)=>?_) (fun (c1:¬ (k:Int) < i)=>?_)
  · have hil:k < ls.length:=by omega
    have htk:(ls.map Img.pr).take (k+1)=(ls.map Img.pr).take k++[ls[k].pr]:=by rw [List.take_add_one,List.getElem?_map,List.getElem?_eq_getElem hil]; rfl
    have hcell:=imgCells_at hil
    have hgm:=List.getElem_mem hil
    have hi5:=hi4.mono hle5
    rcases hi5.1.mem with q0 | ⟨bL,oL,cL,TL,fL,rfl,hIL,hcL⟩
    · omega
    have hsrc:(cL.drop (oL+k * 2)).take 2=[.int .i64 ls[k].blk,.slice ls[k].a ls[k].len ls[k].cap]:=by
      rw [take_part hcL (by omega),hcell]
    have hgk:=hi5.2 _ hgm
    have hgd:=hlen4 _ hgm
    generalize ls[k]=g at *
    have hgl:g.len=4096:=by have:=hgk.2.len; rw [bts_length] at this; omega
    refine Chk.mk (by omega) ?_
    refine LoadD.imm hIL [.int .i64 g.blk,.slice g.a g.len g.cap] hsrc rfl ?_
    conv=>whnf
    intro b8
    refine StoreD.st 4 rfl rfl rfl ?_
    refine CodeF.sched [[],[0],[0,1],[0,1,2],[],[4],[],[6],[6,7],[0,1,2,3,4,5,6,7,8]] [0,1,2,3,4,5,6,7,8,9] (by kernel_rfl) ?_
    repeat (first | refine LoadP.at 0 rfl _ rfl rfl ?_ | refine LoadP.at 4 rfl _ rfl rfl ?_)
    refine Tri.free (clone_fixN J5 g.a g.len g.cap g.data hgk.2 (by omega) (by omega)) ?_
    rintro r J6 _ hJ6 ⟨a',cap',rfl,hcl,hnw⟩
    repeat (first | refine Chk.mk ⟨rfl,rfl,trivial⟩ ?_)
    refine mapUpdateD tabOk rfl rfl rfl rfl rfl 1 rfl hM3 ?_
    intro ob4 hM4
    refine ToD.to (((k+1:Nat)):Int) (by rw [wrap_i64 (by omega) (by omega)]; omega) ?_
    have hM5:MapR ob4 ((iput gs3 ⟨g.blk,a',g.len,cap',g.data⟩).map hdr):=by rw [iput_hdr]; exact hM4
    refine ⟨_,Drop.pick [0,1,2,3] _ rfl,⟨k+1,ob4,iput gs3 ⟨g.blk,a',g.len,cap',g.data⟩,by omega,hM5,?_,hap3.iput fun b off ha hXb=>?_,?_,Imm.le_trans hle5 hJ6,rfl,rfl⟩,?_⟩
    · intro y hy
      rcases iput_mem hy with rfl | hy
      · exact ⟨hgk.1,hcl⟩
      · exact (hg3 y hy).mono hJ6
    · obtain ⟨o,ho⟩:=hX b hXb
      have h5:=Imm.le_trans hJ2 (Imm.le_trans hle3 (Imm.le_trans hJ4 hle5)) b o ho
      rw [hnw b off ha] at h5; cases h5
    · rw [iput_pr,hp3,htk,List.foldl_append]; rfl
    · show ((i:Int) - ((k+1:Nat):Int)).toNat < ((i:Int) - (k:Int)).toNat; omega
  obtain rfl:k=i:=by omega
  rw [List.take_of_length_le (by omega)] at hp3
  skip
  rw [hW2]
  have hfin:VkX X J5 bV bD { v2 with j:=j4,fresh:=(ls.map Img.pr).foldl pput v2.fresh } (vChunk bV bD bJ2 bM2 v2.j.lay v2.epoch v2.slot false++((bM2,ob3) :: chJ4)):=⟨bJ2,bM2,ob3,chJ4,gs3,by rw [hlay,hb2],hj4,hM3,hg3,hp3,hap3⟩
  exact Done.mk ⟨[vChunk bV bD bJ2 bM2 v2.j.lay v2.epoch v2.slot false++((bM2,ob3) :: chJ4),chD4],Drop.flat (by simp),rfl,_,chD4,hfin.vk,fun _=>hfin,hD4.mono hle5,rfl⟩
theorem vk_Commit {bV bD:Nat} {v:VSt} {ch:List Blk} {I:Imm} (h:Vk I bV bD v ch) (hw:v.j.Wf) (hep:v.epoch=v.j.epoch) (hsl:0≤v.slot∧v.slot≤1) (hfr:v.fresh.length≤1000) (hgr:v.j.groups.length≤800000) {d:DSt} {chD:List Blk} (hD:Dk I bD d chD) (hf:d.Few 700000)
    (aL:Option Addr) (capL:Nat) (ls:List Img) (hi:ImgsOk I aL ls) (hll:ls.length≤1000000) :
    Tri Tryz.prog 16 #[.pointer (some ⟨bV,0,none⟩),.slice aL ls.length capL] I [ch,chD] fun r J S' =>
      r=.tuple #[.int .i64 (v.commit d (ls.map Img.pr)).2.2.1,.int .i64 (v.commit d (ls.map Img.pr)).2.2.2]∧∃ ch' chD',Vk J bV bD (v.commit d (ls.map Img.pr)).1 ch'∧Dk J bD (v.commit d (ls.map Img.pr)).2.1 chD'∧S'=[ch',chD']:=by
  refine (vk_CommitX (X:=fun _=>False) (fun _ h=>h.elim) h.all hw hep hsl hfr hgr hD hf aL capL ls hi hll).mono ?_
  rintro r J S' hJ ⟨h1,ch',chD',h2,_,h3,h4⟩
  exact ⟨h1,ch',chD',h2,h3,h4⟩
end Go.Proofs.YtegdcjnjnoeinaaGreat
namespace Go.Proofs.YtegdcjnjnoeinaaGreat
open Go.RowKit Go.Sl
set_option maxRecDepth 20000
theorem DSt.flush_calm {d:DSt} (h:d.Calm):d.flush=({ d with safe:=d.now,writes:=[] },0):=by
  unfold DSt.flush
  rw [DSt.stop_calm h]
  simp
theorem blank_calm:∀ (n k:Nat) (d:DSt),d.Calm→k+n≤d.now.length→(∀ i,k≤i→i < k+n→d.now[i]?=some noughts)→∃ ws,blankP n k d=({ d with writes:=ws,count:=d.count+n },0)
  | 0,k,d,_,_,_=>⟨d.writes,by rw [blankP]; simp⟩
  | n+1,k,d,hc,hl,hz=>by
    have hw:=DSt.write_calm hc (n:=(k:Int)) (b:=noughts) (by omega) noughts_length
    have hset:d.now.set k noughts=d.now:=by
      apply List.ext_getElem?
      intro i
      by_cases hi:k=i
      · subst hi; rw [List.getElem?_set_self (by omega),hz k (by omega) (by omega)]
      · rw [List.getElem?_set_ne hi]
    have hput:d.put (k:Int) noughts={ d with writes:=d.writes++[((k:Int),noughts)],count:=d.count+1 }:=by
      show ({ d with now:=d.now.set (k:Int).toNat noughts,writes:=_,count:=_ }:DSt)=_
      rw [Int.toNat_natCast,hset]
    obtain ⟨ws,ih⟩:=blank_calm n (k+1) { d with writes:=d.writes++[((k:Int),noughts)],count:=d.count+1 } hc (by show k+1+n≤d.now.length; omega) (fun i h1 h2=>hz i (by omega) (by omega))
    refine ⟨ws,?_⟩
    rw [blankP,hw,if_neg (by simp)]
    show blankP n (k+1) (d.put (k:Int) noughts)=_
    rw [hput,ih]
    show (({ d with writes:=ws,count:=d.count+1+n }:DSt),(0:Int))=_
    congr 2
    push_cast
    omega
def zL (a b:Dat):List Dat:=a :: b :: List.replicate 62 noughts
def dz (a b:Dat) (c:Int):DSt:=⟨zL a b,zL a b,[],c,false,⟨false,0⟩,⟨false,0⟩⟩
theorem zL_length (a b:Dat):(zL a b).length=64:=by simp [zL]
theorem dz_calm (a b:Dat) (c:Int):(dz a b c).Calm:=⟨rfl,rfl,rfl⟩
theorem zL_get (a b:Dat) (i:Nat) (h:2≤i) (h2:i < 64):(zL a b)[i]?=some noughts:=by
  obtain ⟨j,rfl⟩:∃ j,i=j+2:=⟨i - 2,by omega⟩
  show (List.replicate 62 noughts)[j]?=_
  rw [List.getElem?_replicate,if_pos (by omega)]
theorem dz_wf {a b:Dat} (ha:a.length=4096) (hb:b.length=4096) (c:Int):(dz a b c).Wf:=by
  have hm:∀ x ∈ zL a b,x.length=4096:=by
    intro x hx
    rcases List.mem_cons.1 hx with rfl | hx
    · exact ha
    rcases List.mem_cons.1 hx with rfl | hx
    · exact hb
    rw [(List.mem_replicate.1 hx).2]; exact noughts_length
  exact ⟨rfl,by show 1≤(zL a b).length∧(zL a b).length≤512; rw [zL_length]; omega,hm,hm,fun w hw=>(List.not_mem_nil hw).elim,fun h=>(Bool.false_ne_true h).elim,fun h=>(Bool.false_ne_true h).elim⟩
theorem dz_few (a b:Dat) (c:Nat):(dz a b c).Few c:=⟨Nat.zero_le _,by show (0:Int)≤c; omega,by show (c:Int)≤c; omega⟩
theorem format_new:formatP (DSt.of (List.replicate 64 noughts))=(dz (supL ⟨64,1,1,0⟩) noughts 23,0):=by
  have e0:DSt.of (List.replicate 64 noughts)=dz noughts noughts 0:=rfl
  have hc:=dz_calm noughts noughts 0
  have hl:(dz noughts noughts 0).now.length=64:=zL_length _ _
  have hall:∀ i,1≤i→i < 1+22→(dz noughts noughts 0).now[i]?=some noughts:=by
    intro i h1 h2
    by_cases h:i=1
    · subst h; rfl
    · exact zL_get _ _ i (by omega) (by omega)
  rw [e0]
  generalize hd:dz noughts noughts 0=d0 at *
  obtain ⟨ws,hb⟩:=blank_calm 22 1 d0 hc (by omega) hall
  unfold formatP
  rw [if_neg (by omega),hl,show (layOf ((64:Nat):Int)).d.toNat - 1=22 from by decide]
  unfold fmtS
  rw [hb]
  dsimp only
  have hc1:({ d0 with writes:=ws,count:=d0.count+(22:Nat) }:DSt).Calm:=hc
  rw [if_neg (by simp),DSt.flush_calm hc1]
  dsimp only
  rw [if_neg (by simp)]
  have hc2:({ d0 with safe:=d0.now,writes:=[],count:=d0.count+(22:Nat) }:DSt).Calm:=hc
  rw [DSt.write_calm (d:={ d0 with safe:=d0.now,writes:=[],count:=d0.count+(22:Nat) }) hc2 (n:=0) (b:=supL ⟨(64:Nat),1,1,0⟩) (by show (0:Int)≤0∧(0:Int) < (d0.now.length:Nat); omega) (supL_length _)]
  dsimp only
  rw [if_neg (by simp),DSt.flush_calm (by exact hc)]
  subst hd
  rfl
theorem rb_dz (a b:Dat) (c:Int) (o:Nat):rbP (dz a b c) 2 16 o=noughts:=by
  unfold rbP
  show (zL a b).getD _ _=_
  rw [List.getD_eq_getElem?_getD,zL_get a b _ (by omega) (by omega)]; rfl
theorem scan_dz (a b:Dat) (c:Int) (s:Sup):scanL (dz a b c) s=[]:=by
  rw [scanL64 (zL_length a b)]
  refine scan_stop ?_
  intro e q l h
  rw [grpP_none (by rw [rb_dz]; exact hd_noughts)] at h
  cases h
theorem do_empty {d:DSt} (hc:d.Calm) (_hw:d.writes=[]∧d.safe=d.now) {s:Sup} (hR:RightS s) (slot:Nat) (hs:slot≤1) (hl:2≤d.now.length):doP d [] s slot=({ d with safe:=d.now.set slot (supL s),now:=d.now.set slot (supL s),writes:=[],count:=d.count+1 },0):=by
  have hd:DoOk d []:=by intro g hg; simp at hg
  unfold doP
  rw [if_neg (by rintro (h | h | h | h); exact h hR; omega; omega; exact h hd)]
  rw [show wrImgs [] d=(d,0) from rfl]
  dsimp only
  rw [if_neg (by simp),DSt.flush_calm hc]
  dsimp only
  rw [if_neg (by simp)]
  unfold lastWr
  have hc2:({ d with safe:=d.now,writes:=[] }:DSt).Calm:=hc
  rw [DSt.write_calm hc2 (n:=(slot:Int)) (b:=supL s) (by show (0:Int)≤slot∧(slot:Int) < d.now.length; omega) (supL_length _)]
  dsimp only
  rw [if_neg (by simp),DSt.flush_calm (by exact hc)]
  show (({ d with safe:=d.now.set (slot:Int).toNat (supL s),now:=d.now.set (slot:Int).toNat (supL s),writes:=[],count:=d.count+1 }:DSt),(0:Int))=_
  rw [Int.toNat_natCast]
theorem mount_dz {a b:Dat} {c:Int} {s:Sup} {slot:Nat} (hch:chooseP (getS a) (getS b)=(s,(slot:Int),true)) (hR:RightS s) (hb:s.blocks=64) (ht:s.tail < 16) (he:s.epoch < 8388608) (hs:slot≤1) :
    mountP (dz a b c)=(dz (if slot=1 then supL ⟨64,s.epoch+1,s.seq,s.tail⟩ else a) (if slot=1 then b else supL ⟨64,s.epoch+1,s.seq,s.tail⟩) (c+1),0,some ⟨openJ 64 (s.epoch+1) s.seq s.tail,s.epoch+1,slot,[],false⟩):=by
  obtain ⟨sb,se,sq,st⟩:=s
  obtain ⟨r1,r2,r3,r4,r5,r6,r7,r8⟩:=hR
  dsimp only at *
  subst hb
  have hl:(dz a b c).now.length=64:=zL_length _ _
  have hf:foundP (dz a b c)=(⟨64,se,sq,st⟩,(slot:Int),0):=by
    unfold foundP
    rw [if_neg (by show ¬ false=true; simp),hl]
    have e1:(dz a b c).now.getD 0 []=a:=rfl
    have e2:(dz a b c).now.getD 1 []=b:=rfl
    rw [e1,e2,hch]
    dsimp only
    rw [if_neg (by rintro (h | h | h | h); exact Bool.noConfusion h; exact h rfl; rw [show layL ((64:Nat):Int)=16 from by decide] at h; omega; omega)]
  unfold mountP
  rw [if_neg (by omega),hf]
  dsimp only
  rw [if_neg (by simp),scan_dz]
  unfold mountL
  have h16:(layL (((dz a b c).now.length:Nat):Int)).toNat=16:=by rw [hl]; decide
  rw [h16]
  have hpl:((placeP 16 st.toNat []:Nat):Int)=st:=by
    unfold placeP
    simp only [List.map_nil,List.sum_nil,Nat.add_zero]
    omega
  rw [if_neg (by rintro (h | h); exact h (by intro g hg; simp [allG] at hg); simp at h; omega)]
  rw [hpl]
  have hdo:=do_empty (d:=dz a b c) (dz_calm a b c) ⟨rfl,rfl⟩ (s:=⟨64,se+1,sq+(([]:List G3).length:Nat),st⟩) ⟨by show (64:Int)≤64; decide,by show (64:Int)≤512; decide,by show 1≤se+1; omega,by show se+1≤8388608; omega,by show 1≤sq+((0:Nat):Int); omega,by show sq+((0:Nat):Int)≤549755813888; omega,r7,r8⟩ (1 - slot) (by omega) (by omega)
  have hsl:((1 - slot:Nat):Int)=1 - (slot:Int):=by omega
  rw [hsl] at hdo
  have hho:homeP (allG [])=[]:=by
    have:=homeP_len (allG [])
    simp [allG] at this
    exact this
  rw [hho,hdo]
  dsimp only
  rw [if_neg (by simp),hl]
  have hsq:sq+(([]:List G3).length:Int)=sq:=by simp
  rw [hsq]
  rcases Nat.eq_or_lt_of_le hs with h | h
  · subst h
    simp only [if_true]
    rfl
  · obtain rfl:slot=0:=by omega
    rw [if_neg (by decide),if_neg (by decide)]
    rfl
end Go.Proofs.YtegdcjnjnoeinaaGreat
namespace Go.Proofs.YtegdcjnjnoeinaaGreat
open Go.RowKit Go.Sl
set_option maxRecDepth 20000
end Go.Proofs.YtegdcjnjnoeinaaGreat
namespace Go.Proofs.YtegdcjnjnoeinaaGreat
open Go.RowKit Go.Sl
set_option maxRecDepth 20000
def sE (ep:Int):Sup:=⟨64,ep,1,0⟩
theorem sE_right {ep:Int} (h:1≤ep∧ep≤8388608):RightS (sE ep):=⟨by show (64:Int)≤64; decide,by show (64:Int)≤512; decide,h.1,h.2,by show (1:Int)≤1; decide,by show (1:Int)≤549755813888; decide,by show (0:Int)≤0; decide,by show (0:Int)≤511; decide⟩
theorem getS_noughts:getS noughts=none:=by
  cases h:getS noughts with
  | none=>rfl
  | some s =>
    have h2:=(getS_some.1 h).2
    have h3:=congrArg (·.head?) h2
    simp [supL,sup44,sup40,magicL,noughts] at h3
def v0:VSt:=⟨openJ 64 2 1 0,2,0,[],false⟩
def dV:DSt:=dz (supL (sE 1)) (supL (sE 2)) 24
theorem mount_first:mountP (dz (supL (sE 1)) noughts 23)=(dV,0,some v0):=by
  have h:=mount_dz (a:=supL (sE 1)) (b:=noughts) (c:=23) (s:=sE 1) (slot:=0) (by rw [get_supL (sE_right (by omega)),getS_noughts]; rfl) (sE_right (by omega)) rfl (by show (0:Int) < 16; decide) (by show (1:Int) < 8388608; decide) (by omega)
  rw [if_neg (by decide),if_neg (by decide)] at h
  exact h
theorem v0_wf:v0.j.Wf:=openJ_wf 64 (by omega) ⟨rfl,by omega,by omega,by omega,by omega,by omega,by rw [layL_64']; omega⟩
end Go.Proofs.YtegdcjnjnoeinaaGreat
namespace Go.Proofs.YtegdcjnjnoeinaaGreat
open Go.RowKit Go.Sl
set_option maxRecDepth 20000
theorem relAll_same (q:Int):∀ (gs:List (Int × Int)) (s t u h:Int),(relAll q gs s t u h).2.1=s∧(relAll q gs s t u h).2.2.2.2.1=h
  | [],s,t,u,h=>⟨rfl,rfl⟩
  | g :: gs,s,t,u,h=>by
    rw [relAll]
    split
    · generalize hd:dropS s t u h g.2=x
      obtain ⟨s',t',u',h',e⟩:=x
      dsimp only
      split
      · rename_i he
        unfold dropS at hd
        split at hd
        · cases hd; cases he
        · cases hd
          exact relAll_same q gs _ _ _ _
      · exact ⟨rfl,rfl⟩
    · exact ⟨rfl,rfl⟩
theorem release_same (j:JSt) (q:Int):(j.release q).1.s=j.s∧(j.release q).1.h=j.h:=by
  unfold JSt.release
  split
  · exact ⟨rfl,rfl⟩
  split
  · exact ⟨rfl,rfl⟩
  · exact relAll_same q j.groups j.s j.t j.u j.h
theorem flush_same (j:JSt) (d:DSt):(j.flush d).1.s=j.s∧(j.flush d).1.h=j.h∧(j.flush d).1.lay=j.lay∧(j.flush d).1.epoch=j.epoch∧(j.flush d).1.next=j.next:=by
  obtain ⟨sy,br,h⟩:=flush_form j d
  rw [h]
  exact ⟨rfl,rfl,rfl,rfl,rfl⟩
theorem putS_h {s t u h n s' t' u' h' e a:Int} (hp:putS s t u h n 0=((s',t',u',h',e),a)) (he:e=0):h'=h:=by
  unfold putS at hp
  subst he
  split at hp
  · simp at hp
  · split at hp
    · simp at hp
    · simp only [Prod.mk.injEq] at hp
      omega
theorem append_same {j:JSt} (hj:j.Wf) (h0:j.h=0) (d:DSt) (l:List PImg):(j.appendB d l false).1.s=j.s∧(j.appendB d l false).1.h=0∧(j.appendB d l false).1.lay=j.lay∧(j.appendB d l false).1.epoch=j.epoch∧(j.appendB d l false).1.groups.length≤j.groups.length+1:=by
  unfold JSt.appendB
  split
  · exact ⟨rfl,h0,rfl,rfl,Nat.le_succ _⟩
  unfold JSt.append
  split
  · exact ⟨rfl,h0,rfl,rfl,Nat.le_succ _⟩
  split
  · exact ⟨rfl,h0,rfl,rfl,Nat.le_succ _⟩
  generalize hp:putS j.s j.t j.u j.h (l.length+1) (if false=true then (l.length:Int)+1 else 0)=x
  obtain ⟨⟨s',t',u',h',e⟩,a⟩:=x
  dsimp only
  split
  · exact ⟨rfl,h0,rfl,rfl,Nat.le_succ _⟩
  rename_i he
  obtain ⟨h1,h2,_⟩:=putS_mid hj.ring hp (by simpa using he)
  have h3:h'=0:=by
    rw [if_neg (show ¬ false=true by simp)] at hp
    rw [putS_h hp (by simpa using he)]; exact h0
  subst h1 h3
  split
  · exact ⟨rfl,rfl,rfl,rfl,Nat.le_succ _⟩
  · exact ⟨rfl,rfl,rfl,rfl,by simp⟩
structure VOk (v:VSt) (k:Nat):Prop where
  wf:v.j.Wf
  lay:v.j.lay=layOf 64
  s:v.j.s=v.j.lay.lb
  ep:v.epoch=v.j.epoch
  slot:0≤v.slot∧v.slot≤1
  h0:v.j.h=0
  fresh:v.fresh.length≤k
  groups:v.j.groups.length≤k
  ho:∀ g ∈ v.fresh,18≤g.1∧g.1 < 64
  len:∀ g ∈ v.fresh,g.2.length=4096
theorem VOk.ckpt {v:VSt} {k:Nat} (h:VOk v k) (d:DSt):VOk (v.ckpt d).1 k:=by
  obtain ⟨f1,f2,f3,f4,f5⟩:=flush_same v.j d
  have hck:(v.ckS d).2.1.s=v.j.s∧(v.ckS d).2.1.h=0∧(v.ckS d).2.1.lay=v.j.lay∧(v.ckS d).2.1.epoch=v.j.epoch:=by
    unfold VSt.ckS
    split
    · exact ⟨f1,by rw [f2]; exact h.h0,f3,f4⟩
    split
    · exact ⟨f1,by rw [f2]; exact h.h0,f3,f4⟩
    · obtain ⟨r1,r2⟩:=release_same (v.j.flush d).1 (v.j.flush d).1.synced
      obtain ⟨r3,r4,_⟩:=release_lay (v.j.flush d).1 (v.j.flush d).1.synced
      exact ⟨r1.trans f1,by rw [r2,f2]; exact h.h0,r3.trans f3,r4.trans f4⟩
  obtain ⟨c1,c2,c3,c4⟩:=hck
  obtain ⟨w1,w2⟩:=ckS_wf (d:=d) h.wf
  have hg:=h.groups
  unfold VSt.ckpt
  split
  · exact h
  split
  · exact ⟨w1,c3.trans h.lay,by show (v.ckS d).2.1.s=(v.ckS d).2.1.lay.lb; rw [c1,c3]; exact h.s,h.ep.trans c4.symm,h.slot,c2,h.fresh,by show (v.ckS d).2.1.groups.length≤k; omega,h.ho,h.len⟩
  · have hsl:=h.slot
    exact ⟨w1,c3.trans h.lay,by show (v.ckS d).2.1.s=(v.ckS d).2.1.lay.lb; rw [c1,c3]; exact h.s,h.ep.trans c4.symm,by show 0≤1 - v.slot∧1 - v.slot≤1; omega,c2,Nat.zero_le _,by show (v.ckS d).2.1.groups.length≤k; omega,fun g hg=>(List.not_mem_nil hg).elim,fun g hg=>(List.not_mem_nil hg).elim⟩
theorem pput_in {P:PImg→Prop} {ms:List PImg} {g:PImg} (hm:∀ x ∈ ms,P x) (hg:P g):∀ x ∈ pput ms g,P x:=by
  intro x hx
  unfold pput at hx
  split at hx
  · obtain ⟨y,hy,rfl⟩:=List.mem_map.1 hx
    split
    · exact hg
    · exact hm y hy
  · rcases List.mem_append.1 hx with hx | hx
    · exact hm x hx
    · simp only [List.mem_singleton] at hx
      subst hx; exact hg
theorem pputs_in {P:PImg→Prop}:∀ (l ms:List PImg),(∀ x ∈ ms,P x)→(∀ x ∈ l,P x)→∀ x ∈ l.foldl pput ms,P x
  | [],_,hm,_=>hm
  | g :: l,ms,hm,hl=>pputs_in l _ (pput_in hm (hl g (by simp))) (fun x hx=>hl x (by simp [hx]))
theorem pput_length (ms:List PImg) (g:PImg):(pput ms g).length≤ms.length+1:=by
  unfold pput
  split <;> simp
theorem pputs_length:∀ (l ms:List PImg),(l.foldl pput ms).length≤ms.length+l.length
  | [],_=>by simp
  | g :: l,ms=>by
    have h1:=pputs_length l (pput ms g)
    have h2:=pput_length ms g
    rw [List.foldl_cons,List.length_cons]
    omega
theorem VOk.app {v:VSt} {k:Nat} (h:VOk v k) (hk:k≤900000) (d:DSt) {l:List PImg} (hho:∀ g ∈ l,18≤g.1∧g.1 < 64) (hl:∀ g ∈ l,g.2.length=4096):VOk (v.app d l).1 (k+l.length+1):=by
  obtain ⟨c1,c2,c3,c4,c5⟩:=append_same h.wf h.h0 d l
  have hg:=h.groups
  have hf:=h.fresh
  have hw:=h.wf.append (d:=d) (l:=l) (held:=false) (by omega)
  have hp:=pputs_length l v.fresh
  unfold VSt.app
  split
  · exact ⟨hw,c3.trans h.lay,by show (v.j.appendB d l false).1.s=(v.j.appendB d l false).1.lay.lb; rw [c1,c3]; exact h.s,h.ep.trans c4.symm,h.slot,c2,by show v.fresh.length≤_; omega,by show (v.j.appendB d l false).1.groups.length≤_; omega,h.ho,h.len⟩
  · exact ⟨hw,c3.trans h.lay,by show (v.j.appendB d l false).1.s=(v.j.appendB d l false).1.lay.lb; rw [c1,c3]; exact h.s,h.ep.trans c4.symm,h.slot,c2,by show (l.foldl pput v.fresh).length≤_; omega,by show (v.j.appendB d l false).1.groups.length≤_; omega,pputs_in l v.fresh h.ho hho,pputs_in l v.fresh h.len hl⟩
theorem VOk.mono {v:VSt} {k m:Nat} (h:VOk v k) (hk:k≤m):VOk v m:=⟨h.wf,h.lay,h.s,h.ep,h.slot,h.h0,Nat.le_trans h.fresh hk,Nat.le_trans h.groups hk,h.ho,h.len⟩
theorem VOk.commit {v:VSt} {k:Nat} (h:VOk v k) (hk:k≤900000) (d:DSt) (l:List PImg):VOk (v.commit d l).1 (k+l.length+1):=by
  unfold VSt.commit
  split
  · exact h.mono (by omega)
  split
  · exact h.mono (by omega)
  split
  · exact h.mono (by omega)
  split
  · exact h.mono (by omega)
  rename_i h1 h2 h3 h4
  have hho:∀ g ∈ l,18≤g.1∧g.1 < 64:=by
    intro g hg
    have h2:HomeOk v.j.lay l:=Decidable.of_not_not h2
    have:=h2 g hg
    rw [h.lay] at this
    exact this
  have h3:RightP v.epoch v.j.next l:=Decidable.of_not_not h3
  have hl:∀ g ∈ l,g.2.length=4096:=fun g hg=>(h3.2.2.2.2.2.2.1 g hg).2.2
  split
  · split
    · exact (h.ckpt d).mono (by omega)
    · exact (h.ckpt d).app hk _ hho hl
  · exact h.app hk _ hho hl
theorem v0_ok:VOk v0 0:=⟨v0_wf,rfl,rfl,rfl,by show (0:Int)≤0∧(0:Int)≤1; omega,rfl,Nat.le_refl _,Nat.le_refl _,fun g hg=>(List.not_mem_nil hg).elim,fun g hg=>(List.not_mem_nil hg).elim⟩
end Go.Proofs.YtegdcjnjnoeinaaGreat

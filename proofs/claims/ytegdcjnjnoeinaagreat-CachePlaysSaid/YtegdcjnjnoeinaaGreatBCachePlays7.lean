/- Texts of this claim laid together: Pj7, Cach1, Cach2, Cach3, Cach4, Cach5, Cach6, Cach7, Cach8, Cach9, Pj8, Pj9, Pj10, Pj11, Cach10, We, Wv, Cach11, Awake12, StaysP, StaysW. -/
import Derived.Test.YtegdcjnjnoeinaaGreatBCachePlays6
import Derived.Test.YtegdcjnjnoeinaaGreatBCachePlays4
import Derived.Test.YtegdcjnjnoeinaaGreatBCachePlays3
import Derived.Test.YtegdcjnjnoeinaaGreatBCachePlays2
import Derived.Test.YtegdcjnjnoeinaaGreatBCachePlays5
import Derived.Test.YtegdcjnjnoeinaaGreatBCachePlays1
namespace Go.Proofs.YtegdcjnjnoeinaaGreat
open Go.RowKit Go.Sl
set_option maxRecDepth 20000
structure RVp (I:Imm) (s w sz fr:Hd) (first:Int) (gs:List Img) (v:VSt) (d:DSt) (k:Nat):Prop where
  dk:RDk I (rV s w d.count d.down (gv d.arm) (gv d.fault)) d
  z:Rds I sz.a sz.len (ints (v.j.groups.map Prod.snd))
  zc:sz.len≤sz.cap
  num:Nums first v.j.groups v.j.next
  f1:1≤first
  g:ImgsOk I fr.a gs
  fl:fr.len=gs.length
  last:lastP (gs.map Img.pr)=v.fresh
  gk:gs.length≤k
theorem RVp.rvk {I:Imm} {s w sz fr:Hd} {first:Int} {gs:List Img} {v:VSt} {d:DSt} {k:Nat} (h:RVp I s w sz fr first gs v d k) :
    RVk I (.agg (vC (jC s w d.count d.down (gv d.arm) (gv d.fault) v.j.lay v.j.s v.j.t v.j.u v.j.h v.j.epoch first sz v.j.synced v.j.broken) v.j.lay v.slot fr v.broken).toArray) v d k :=
  ⟨s,w,sz,fr,first,gs,rfl,h.dk,h.z,h.zc,h.num,h.f1,h.g,h.fl,h.last,h.gk⟩
theorem RVk.parts {I:Imm} {val:Value} {v:VSt} {d:DSt} {k:Nat} (h:RVk I val v d k):∃ s w sz fr first gs,val=.agg (vC (jC s w d.count d.down (gv d.arm) (gv d.fault) v.j.lay v.j.s v.j.t v.j.u v.j.h v.j.epoch first sz v.j.synced v.j.broken) v.j.lay v.slot fr v.broken).toArray∧RVp I s w sz fr first gs v d k:=by
  obtain ⟨s,w,sz,fr,first,gs,h1,h2,h3,h4,h5,h6,h7,h8,h9,h10⟩:=h.ex
  exact ⟨s,w,sz,fr,first,gs,h1,⟨h2,h3,h4,h5,h6,h7,h8,h9,h10⟩⟩
theorem RVp.mono {I J:Imm} {s w sz fr:Hd} {first:Int} {gs:List Img} {v:VSt} {d:DSt} {k:Nat} (h:RVp I s w sz fr first gs v d k) (hJ:I.le J):RVp J s w sz fr first gs v d k :=
  ⟨h.dk.mono hJ,h.z.mono hJ,h.zc,h.num,h.f1,h.g.mono hJ,h.fl,h.last,h.gk⟩
theorem RVp.rjk {I:Imm} {s w sz fr:Hd} {first:Int} {gs:List Img} {v:VSt} {d:DSt} {k:Nat} (h:RVp I s w sz fr first gs v d k):RJk I (.agg (jC s w d.count d.down (gv d.arm) (gv d.fault) v.j.lay v.j.s v.j.t v.j.u v.j.h v.j.epoch first sz v.j.synced v.j.broken).toArray) v.j d :=
  ⟨s,w,sz,first,rfl,h.dk,h.z,h.zc,h.num,h.f1⟩
set_option maxHeartbeats 8000000 in
theorem r11_Commit {I:Imm} {val:Value} {v:VSt} {d:DSt} {q:Nat} (h:RVk I val v d q) (hv:VOk v q) (hq:q≤50000) (hf:d.Few 600000) (aL:Option Addr) (capL:Nat) (ls:List Img) (hi:ImgsOk I aL ls) (hcap:∀ g ∈ ls,g.len≤g.cap) (hll:ls.length≤64) :
    Tri Tryz.prog 189 #[val,.slice aL ls.length capL] I [] fun r J _=>∃ v',r=.tuple #[v',.int .i64 (v.commit d (ls.map Img.pr)).2.2.1,.int .i64 (v.commit d (ls.map Img.pr)).2.2.2]∧RVk J v' (v.commit d (ls.map Img.pr)).1 (v.commit d (ls.map Img.pr)).2.1 (q+ls.length):=by
  have h0:=h
  have hlay:=hv.lay
  have hs:=hv.s
  have hh0:=hv.h0
  have hep:=hv.ep
  have hring:=hv.wf.ring
  have hnext:=hv.wf.next
  have hFit:=fun (J:Imm) (hJ:I.le J)=>r11_Fits (h0.mono hJ) ls.length (by omega)
  have hCk:=fun (J:Imm) (hJ:I.le J)=>r11_Checkpoint (h0.mono hJ) hv.wf (by omega) (hf.mono (by omega)) hlay hs hep hv.ho hv.slot
  have hvC:=hv.ckpt d
  have hfC:=ckS_few (v:=v) hf
  have hfr:=hv.fresh
  have hgr:=hv.groups
  have h0q:RVk I val v d (q+ls.length):=by
    obtain ⟨s,w,sz,fr,first,gs,h1,h2,h3,h4,h5,h6,h7,h8,h9,h10⟩:=h.ex
    exact ⟨s,w,sz,fr,first,gs,h1,h2,h3,h4,h5,h6,h7,h8,h9,by omega⟩
  obtain ⟨s,w,sz,fr,first,gs,rfl,hR,hz,hzc,hN,hf1,hG,hfl,hlast,hgk⟩:=h.ex
  have hNl:=hN.len
  have hzl:sz.len=v.j.groups.length:=by have:=hz.len; simpa [ints] using this.symm
  have hllP:(ls.map Img.pr).length=ls.length:=List.length_map _
  have hput:=r6_PutF v.j.epoch v.j.next (cap:=capL) hi hcap (by omega)
  have hnx:=r8_NextC s w sz d.count d.down (gv d.arm) (gv d.fault) v.j.lay v.j.s v.j.t v.j.u v.j.h v.j.epoch first v.j.synced v.j.broken (by omega) I
  rw [hzl,hNl] at hnx
  unfold VSt.commit
  rw [hllP,hep]
  obtain ⟨W,hW⟩:∃ W:VSt × DSt × Int × Int,W=(if v.j.s - v.j.u - v.j.h < blocksN (ls.length:Int) then (if (v.ckpt d).2.2≠0 then ((v.ckpt d).1,(v.ckpt d).2.1,0,(v.ckpt d).2.2) else (v.ckpt d).1.app (v.ckpt d).2.1 (ls.map Img.pr)) else v.app d (ls.map Img.pr)):=⟨_,rfl⟩
  rw [← hW]
  generalize hvv:v=v0_ at *
  obtain ⟨⟨⟨l1,l2,l3,l4,l5,l6,l7⟩,js,jt,ju,jh,je,jn,jy,jg,jb⟩,ep,slot,vf,vb⟩:=v0_
  obtain ⟨sa,sl,sc⟩:=s
  obtain ⟨wa,wl,wc⟩:=w
  obtain ⟨za,zl,zc⟩:=sz
  obtain ⟨fa,fl,fc⟩:=fr
  dsimp only at *
  subst hvv
  subst hfl
  subst hep
  subst hh0
  obtain rfl:js=l3:=hs
  have e1':l1=64:=by cases hlay; rfl
  have e4':l4=18:=by cases hlay; rfl
  subst e1' e4'
  refine Tri.ofF (args:=[.agg (vC (jC ⟨sa,sl,sc⟩ ⟨wa,wl,wc⟩ d.count d.down (gv d.arm) (gv d.fault) ⟨64,l2,js,18,l5,l6,l7⟩ js jt ju 0 ep first ⟨za,zl,zc⟩ jy jb) ⟨64,l2,js,18,l5,l6,l7⟩ slot ⟨fa,gs.length,fc⟩ vb).toArray,.slice aL ls.length capL]) tabOk Tryz.func189 rfl (by kernel_rfl) (by kernel_rfl) ?_
  refine CodeF.stepD ?_
  conv=>whnf
  intro b2
  conv=>whnf
  intro b4
  refine CodeF.stepD ?_
  repeat (first | refine LoadD.own 0 rfl _ rfl rfl ?_)
  cases vb
  rotate_left
  · repeat (first | refine LoadD.own 0 rfl _ rfl rfl ?_ | refine LoadD.own 1 rfl _ rfl rfl ?_ | refine StoreD.st 1 rfl rfl rfl ?_)
    exact Done.mk ⟨_,rfl,h0q⟩
  skip
  rw [if_neg (by simp)]
  obtain ⟨B4,hB4⟩:∃ B4:List Blk,B4=[(b4,row (vC (jC ⟨none,0,0⟩ ⟨none,0,0⟩ 0 false 0 0 ⟨0,0,0,0,0,0,0⟩ 0 0 0 0 0 0 ⟨none,0,0⟩ 0 false) ⟨0,0,0,0,0,0,0⟩ 0 ⟨none,0,0⟩ false) 87)]:=⟨_,rfl⟩
  obtain ⟨B2,hB2⟩:∃ B2:List Blk,B2=[(b2,row (vC (jC ⟨sa,sl,sc⟩ ⟨wa,wl,wc⟩ d.count d.down (gv d.arm) (gv d.fault) ⟨64,l2,js,18,l5,l6,l7⟩ js jt ju 0 ep first ⟨za,zl,zc⟩ jy jb) ⟨64,l2,js,18,l5,l6,l7⟩ slot ⟨fa,gs.length,fc⟩ false) 87)]:=⟨_,rfl⟩
  obtain ⟨n,hn⟩:∃ n,n=ls.length:=⟨_,rfl⟩
  rw [← hn] at h0q hW hll ⊢
  refine CodeF.join [1,2,4] (fun vs J S'=>HomeOk ⟨64,l2,js,18,l5,l6,l7⟩ (ls.map Img.pr)∧I=J∧vs=[.slice aL n capL,.pointer (some ⟨b2,0,none⟩),.pointer (some ⟨b4,0,none⟩)]∧S'=[B2,B4]) ?_ ?_
  · refine CodeF.den ?_
    refine CodeF.loopD [1,2,4,7] (fun vs J' S'=>∃ (i:Nat),i≤n∧HomeOk ⟨64,l2,js,18,l5,l6,l7⟩ ((ls.map Img.pr).take i)∧I=J'∧vs=[.slice aL n capL,.pointer (some ⟨b2,0,none⟩),.pointer (some ⟨b4,0,none⟩),.int .i64 i]∧S'=[B2,B4])
      (fun vs _ _=>match vs with | [_,_,_,.int _ i]=>((n:Int) - i).toNat | _=>0) ?_ ?_
    · exact ⟨[B2,B4],by rw [hB2,hB4]; exact Drop.refl _,0,by omega,by intro g hg; simp at hg,rfl,rfl,rfl⟩
    rintro vs gE J' S' hJ' ⟨i,hi1,hho,rfl,rfl,rfl⟩
    refine CmpD.split (fun (c1:(i:Int) < n)=>?_) (fun (c1:¬ (i:Int) < n)=>?_)
    rotate_left
    · obtain rfl:i=n:=by omega
      rw [List.take_of_length_le (by omega)] at hho
      exact ⟨_,Drop.refl _,hho,rfl,rfl,rfl⟩
    have hil:i < ls.length:=by omega
    have htk:(ls.map Img.pr).take (i+1)=(ls.map Img.pr).take i++[ls[i].pr]:=by rw [List.take_add_one,List.getElem?_map,List.getElem?_eq_getElem hil]; rfl
    rcases hi.1.mem with q0 | ⟨bL,oL,cL,TL,fL,rfl,hIL,hcL⟩
    · omega
    have hcell:=img_cell hcL rfl hil
    have bad:¬ (18≤ls[i].blk∧ls[i].blk < 64)→¬ HomeOk ⟨64,l2,js,18,l5,l6,l7⟩ (ls.map Img.pr):=fun h hh=>h (hh ls[i].pr (List.mem_map_of_mem (List.getElem_mem hil)))
    refine CodeF.sched [[],[],[0,1],[0,1,2],[0,1,2,3],[],[5],[5,6],[0,1,2,3,4,5,6,7],[0,1,2,3,4,5,6,7,8],[0,1,2,3,4,5,6,7,8,9],[0,1,2,3,4,5,6,7,8,9],[0,1,2,3,4,5,6,7,8,9,10,11],[0,1,2,3,4,5,6,7,8,9,10,11,12],[0,1,2,3,4,5,6,7,8,9,10,11,12,13],[0,1,2,3,4,5,6,7,8,9],[0,1,2,3,4,5,6,7,8,9,15],[0,1,2,3,4,5,6,7,8,9,15,16],[0,1,2,3,4,5,6,7,8,9,10,11,12,13,14,15,16,17],[0,1,2,3,4,5,6,7,8,9,10,11,12,13,14,15,16,17,18]] [0,1,2,3,4,5,6,7,8,9,10,11,12,13,14,15,16,17,18,19] (by kernel_rfl) ?_
    rw [hB2]
    skip
    refine Chk.mk (by omega) ?_
    refine LoadP.imm [.int .i64 ls[i].blk] ⟨cL,TL,fL,.imm hIL,pair_fst hcell,rfl⟩ ?_
    repeat (first | refine LoadP.at 0 rfl _ rfl rfl ?_)
    refine CmpD.split (fun (c2:ls[i].blk < 18)=>?_) (fun (c2:¬ ls[i].blk < 18)=>?_)
    · rw [hB4]
      repeat (first | refine LoadD.own 0 rfl _ rfl rfl ?_ | refine LoadD.own 1 rfl _ rfl rfl ?_ | refine StoreD.st 1 rfl rfl rfl ?_)
      rw [if_pos (by simpa using bad (fun h=>by omega))]
      exact Done.mk ⟨_,rfl,h0q⟩
    skip
    refine Chk.mk (by omega) ?_
    refine LoadP.imm [.int .i64 ls[i].blk] ⟨cL,TL,fL,.imm hIL,pair_fst hcell,rfl⟩ ?_
    repeat (first | refine LoadP.at 0 rfl _ rfl rfl ?_)
    refine CmpD.split (fun (c3:64≤ls[i].blk)=>?_) (fun (c3:¬ 64≤ls[i].blk)=>?_)
    · rw [hB4]
      repeat (first | refine LoadD.own 0 rfl _ rfl rfl ?_ | refine LoadD.own 1 rfl _ rfl rfl ?_ | refine StoreD.st 1 rfl rfl rfl ?_)
      rw [if_pos (by simpa using bad (fun h=>by omega))]
      exact Done.mk ⟨_,rfl,h0q⟩
    refine ToD.to (((i+1:Nat)):Int) (by rw [wrap_i64 (by omega) (by omega)]; omega) ?_
    refine ⟨_,Drop.refl _,⟨i+1,by omega,?_,rfl,rfl,rfl⟩,?_⟩
    · rw [htk]
      exact homeOk_snoc hho ⟨by show 18≤ls[i].blk; omega,by show ls[i].blk < 64; omega⟩
    · show ((n:Int) - ((i+1:Nat):Int)).toNat < ((n:Int) - (i:Int)).toNat; omega
  rintro vs gE J S' hJ ⟨hhome,rfl,rfl,rfl⟩
  rw [if_neg (by simpa using hhome)]
  refine CodeF.stepD ?_
  refine CodeF.sched [[],[0],[0,1],[],[3],[3,4],[],[0,1,2,3,4,5,6],[0,1,2,3,4,5,6,7],[0,1,2,3,4,5,6,7,8],[0,1,2,3,4,5,6,7,8,9],[0,1,2,3,4,5,6,7,8,9],[0,1,2,3,4,5,6,7,8,9,10],[0,1,2,3,4,5,6,7,8,9,10,11,12]] [0,1,2,3,4,6,5,7,8,9,10,11,12,13] (by kernel_rfl) ?_
  rw [hB2]
  repeat (first | refine LoadP.at 0 rfl _ rfl rfl ?_)
  refine Tri.free hnx ?_
  rintro r _ _ hJ1 ⟨rfl,rfl⟩
  repeat (first | refine Chk.mk ⟨rfl,trivial⟩ ?_)
  rw [hn]
  refine Tri.free hput ?_
  rw [← hn]
  rintro r J1 _ hJ1 (⟨hno,rfl⟩ | ⟨hRt,aO,capO,bs,rfl,hO,hbd,hbk⟩)
  · skip
    refine CodeF.stepD ?_
    rw [hB4]
    repeat (first | refine LoadD.own 0 rfl _ rfl rfl ?_ | refine LoadD.own 1 rfl _ rfl rfl ?_ | refine StoreD.st 1 rfl rfl rfl ?_ | refine CmpD.no (by decide) ?_)
    rw [if_pos hno]
    exact Done.mk ⟨_,rfl,h0q.mono hJ1⟩
  rw [if_neg (by simpa using hRt)]
  skip
  refine CodeF.stepD ?_
  repeat (first | refine CmpD.yes rfl ?_)
  refine CodeF.stepD ?_
  repeat (first | refine LoadD.own 0 rfl _ rfl rfl ?_)
  have hFit1:=hFit J1 hJ1
  rw [← hn] at hFit1
  refine Tri.free hFit1 ?_
  rintro r _ _ hJ2 ⟨rfl,rfl⟩
  cases hfit:VSt.fits ⟨⟨⟨64,l2,js,18,l5,l6,l7⟩,js,jt,ju,0,ep,jn,jy,jg,jb⟩,ep,slot,vf,false⟩ (n:Int)
  · rw [hB4]
    repeat (first | refine LoadD.own 0 rfl _ rfl rfl ?_ | refine LoadD.own 1 rfl _ rfl rfl ?_ | refine StoreD.st 1 rfl rfl rfl ?_)
    rw [if_pos rfl]
    exact Done.mk ⟨_,rfl,h0q.mono hJ1⟩
  rw [if_neg (by simp)]
  skip
  have hn1:1≤n:=by
    unfold VSt.fits blocksN at hfit
    have:=of_decide_eq_true hfit
    split at this <;> omega
  have hbn:blocksN (n:Int)=(n:Int)+1:=by unfold blocksN; rw [if_neg (by have:=hRt.2.2.2.2.2.1; rw [hllP,← hn] at this; omega)]
  rw [hbn] at hW
  have hV0:RVp I ⟨sa,sl,sc⟩ ⟨wa,wl,wc⟩ ⟨za,zl,zc⟩ ⟨fa,gs.length,fc⟩ first gs ⟨⟨⟨64,l2,js,18,l5,l6,l7⟩,js,jt,ju,0,ep,jn,jy,jg,jb⟩,ep,slot,vf,false⟩ d q:=⟨hR,hz,hzc,hN,hf1,hG,rfl,hlast,hgk⟩
  rw [← hB2]
  refine CodeF.join [1,2,4] (fun vs J S'=>∃ (v2:VSt) (d2:DSt) (s2 w2 z2 f2:Hd) (first2:Int) (gs2:List Img),W=v2.app d2 (ls.map Img.pr)∧VOk v2 q∧RVp J s2 w2 z2 f2 first2 gs2 v2 d2 q∧d2.Few 700000∧v2.broken=false∧J1.le J ∧
      vs=[.slice aL n capL,.pointer (some ⟨b2,0,none⟩),.pointer (some ⟨b4,0,none⟩)] ∧
      S'=[[(b2,row (vC (jC s2 w2 d2.count d2.down (gv d2.arm) (gv d2.fault) v2.j.lay v2.j.s v2.j.t v2.j.u v2.j.h v2.j.epoch first2 z2 v2.j.synced v2.j.broken) v2.j.lay v2.slot f2 v2.broken) 87)],B4]) ?_ ?_
  · refine CodeF.den ?_
    unfold Ok at hring
    rw [hB2]
    repeat (first | refine LoadD.own 0 rfl _ rfl rfl ?_)
    refine ToD.to (ju+n) (by show IntKind.i64.wrap (ju+(n:Int))=_; exact wrap_i64 (by omega) (by omega)) ?_
    refine ToD.to (ju+n+1) (by show IntKind.i64.wrap (ju+(n:Int)+1)=_; exact wrap_i64 (by omega) (by omega)) ?_
    repeat (first | refine LoadD.own 0 rfl _ rfl rfl ?_)
    refine CmpD.split (fun (c1:js < ju+n+1)=>?_) (fun (c1:¬ js < ju+n+1)=>?_)
    rotate_left
    · rw [if_neg (by omega)] at hW
      exact ⟨_,Drop.refl _,_,d,⟨sa,sl,sc⟩,⟨wa,wl,wc⟩,⟨za,zl,zc⟩,⟨fa,gs.length,fc⟩,first,gs,hW,hv,hV0.mono hJ1,hf.mono (by omega),rfl,Imm.le_refl _,rfl,rfl⟩
    rw [if_pos (by omega)] at hW
    repeat (first | refine LoadD.own 0 rfl _ rfl rfl ?_)
    refine Tri.free (hCk J1 hJ1) ?_
    have hbr:(VSt.ckpt ⟨⟨⟨64,l2,js,18,l5,l6,l7⟩,js,jt,ju,0,ep,jn,jy,jg,jb⟩,ep,slot,vf,false⟩ d).2.2=0→(VSt.ckpt ⟨⟨⟨64,l2,js,18,l5,l6,l7⟩,js,jt,ju,0,ep,jn,jy,jg,jb⟩,ep,slot,vf,false⟩ d).1.broken=false:=by
      unfold VSt.ckpt
      rw [if_neg (by simp)]
      split
      · intro h; exact absurd h (by assumption)
      · intro _; rfl
    have hcj:(VSt.ckpt ⟨⟨⟨64,l2,js,18,l5,l6,l7⟩,js,jt,ju,0,ep,jn,jy,jg,jb⟩,ep,slot,vf,false⟩ d).2.1=(VSt.ckS ⟨⟨⟨64,l2,js,18,l5,l6,l7⟩,js,jt,ju,0,ep,jn,jy,jg,jb⟩,ep,slot,vf,false⟩ d).2.2:=by
      unfold VSt.ckpt
      rw [if_neg (by simp)]
      split <;> rfl
    rw [← hcj] at hfC
    generalize VSt.ckpt ⟨⟨⟨64,l2,js,18,l5,l6,l7⟩,js,jt,ju,0,ep,jn,jy,jg,jb⟩,ep,slot,vf,false⟩ d=ck at *
    obtain ⟨v3,d3,e3⟩:=ck
    dsimp only at *
    rintro r J2 _ hJ2 ⟨v',rfl,hRV⟩
    obtain ⟨⟨sa3,sl3,sc3⟩,⟨wa3,wl3,wc3⟩,⟨za3,zl3,zc3⟩,⟨fa3,fl3,fc3⟩,first3,gs3,rfl,hP3⟩:=hRV.parts
    obtain ⟨⟨⟨p1,p2,p3,p4,p5,p6,p7⟩,q1,q2,q3,q4,q5,q6,q7,q8,q9⟩,r1,r2,r3,r4⟩:=v3
    repeat (first | refine StoreD.st 0 rfl rfl rfl ?_)
    by_cases he:e3≠0
    · rw [if_pos he] at hW
      refine CmpD.no he ?_
      rw [hB4]
      repeat (first | refine LoadD.own 0 rfl _ rfl rfl ?_ | refine LoadD.own 1 rfl _ rfl rfl ?_ | refine StoreD.st 1 rfl rfl rfl ?_)
      rw [hW]
      have hP4:=hP3.rvk
      refine Done.mk ⟨_,rfl,?_⟩
      exact ⟨⟨sa3,sl3,sc3⟩,⟨wa3,wl3,wc3⟩,⟨za3,zl3,zc3⟩,⟨fa3,fl3,fc3⟩,first3,gs3,rfl,hP3.dk,hP3.z,hP3.zc,hP3.num,hP3.f1,hP3.g,hP3.fl,hP3.last,by have:=hP3.gk; omega⟩
    · rw [if_neg he] at hW
      obtain rfl:e3=0:=by omega
      have hb3:=hbr rfl
      repeat (first | refine CmpD.yes rfl ?_)
      exact ⟨_,Drop.refl _,_,d3,⟨sa3,sl3,sc3⟩,⟨wa3,wl3,wc3⟩,⟨za3,zl3,zc3⟩,⟨fa3,fl3,fc3⟩,first3,gs3,hW,hvC,hP3,hfC.mono (by omega),hb3,hJ2,rfl,rfl⟩
  rintro vs gE J S' hJ ⟨v2,d2,⟨sa2,sl2,sc2⟩,⟨wa2,wl2,wc2⟩,⟨za2,zl2,zc2⟩,⟨fa2,fl2,fc2⟩,first2,gs2,hW2,hv2,hP2,hf2,hb2,hle2,rfl,rfl⟩
  have hAp:=fun (J':Imm) (hJ':J.le J')=>r8_Append (hP2.mono hJ').rjk hv2.wf hv2.s.symm (hf2.mono (by omega)) aL capL ls (hi.mono (Imm.le_trans hJ1 (Imm.le_trans hle2 hJ'))) hcap (by omega) (by have:=hv2.groups; omega)
  have hsame:=append_same hv2.wf hv2.h0 d2 (ls.map Img.pr)
  have hi2:=hi.mono (Imm.le_trans hJ1 hle2)
  rw [← hn] at hAp
  unfold VSt.app at hW2
  obtain ⟨⟨⟨p1,p2,p3,p4,p5,p6,p7⟩,q1,q2,q3,q4,q5,q6,q7,q8,q9⟩,r1,r2,r3,r4⟩:=v2
  dsimp only at hW2 hAp hb2 hsame
  subst hb2
  generalize JSt.appendB ⟨⟨p1,p2,p3,p4,p5,p6,p7⟩,q1,q2,q3,q4,q5,q6,q7,q8,q9⟩ d2 (ls.map Img.pr) false=ap at *
  obtain ⟨⟨lay3,t1,t2,t3,t4,t5,t6,t7,t8,t9⟩,d3,n3,e3⟩:=ap
  dsimp only at hW2 hAp hsame
  obtain ⟨_,_,rfl,_,_⟩:=hsame
  refine CodeF.stepD ?_
  repeat (first | refine LoadD.own 0 rfl _ rfl rfl ?_)
  refine Tri.free (hAp J (Imm.le_refl _)) ?_
  rintro r J3 _ hJ3 ⟨v',rfl,hRJ⟩
  obtain ⟨⟨sa3,sl3,sc3⟩,⟨wa3,wl3,wc3⟩,⟨za3,zl3,zc3⟩,first3,rfl,hR3,hz3,hzc3,hN3,hf13⟩:=hRJ.ex
  conv=>whnf
  intro b10
  repeat (first | refine StoreD.st 2 rfl rfl rfl ?_)
  refine CodeF.stepD ?_
  repeat (first | refine LoadD.own 2 rfl _ rfl rfl ?_ | refine StoreD.st 0 rfl rfl rfl ?_)
  refine CodeF.stepD ?_
  have hG3:=hP2.g.mono hJ3
  have hfl2:=hP2.fl
  have hlast2:=hP2.last
  have hgk2:=hP2.gk
  dsimp only at hfl2 hlast2 hG3
  by_cases he:e3≠0
  · rw [if_pos he] at hW2
    refine CmpD.no he ?_
    rw [hB4]
    repeat (first | refine LoadD.own 0 rfl _ rfl rfl ?_ | refine LoadD.own 1 rfl _ rfl rfl ?_ | refine StoreD.st 0 rfl rfl rfl ?_ | refine StoreD.st 1 rfl rfl rfl ?_)
    rw [hW2]
    exact Done.mk ⟨_,rfl,⟨⟨sa3,sl3,sc3⟩,⟨wa3,wl3,wc3⟩,⟨za3,zl3,zc3⟩,⟨fa2,fl2,fc2⟩,first3,gs2,rfl,hR3,hz3,hzc3,hN3,hf13,hG3,hfl2,hlast2,by omega⟩⟩
  rw [if_neg he] at hW2
  obtain rfl:e3=0:=by omega
  repeat (first | refine CmpD.yes rfl ?_)
  refine CodeF.stepD ?_
  skip
  subst hfl2
  have hplain:∀ (gs:List Img),∀ u ∈ imgCells gs,Plain u=true:=by
    intro gs u hu
    unfold imgCells at hu
    obtain ⟨g,_,h⟩:=List.mem_flatMap.1 hu
    simp only [List.mem_cons,List.not_mem_nil,or_false] at h
    rcases h with rfl | rfl <;> rfl
  refine CodeF.dropD (Drop.and (Drop.refl _)) ?_
  refine CodeF.stepD ?_
  repeat (first | refine LoadD.own 0 rfl _ rfl rfl ?_)
  refine appendD tabOk rfl rfl rfl rfl rfl rfl rfl 3 rfl (OwnC.nil 2 none) (SrcOk.slice (n:=gs2.length) (news:=imgCells gs2) tabOk rfl hG3.1.slC (hplain gs2)) rfl (by show (0+gs2.length) * 32≤_; omega) (by omega) ?_
  intro aM capM chM hM
  rw [List.nil_append,Nat.zero_add gs2.length] at hM
  rw [Nat.zero_add gs2.length]
  refine CodeF.stepD ?_
  skip
  have hl4:∀ g ∈ ls,g.len≤1000000000:=by
    intro g hg
    have h1:=(hRt.2.2.2.2.2.2.1 g.pr (List.mem_map_of_mem hg)).2.2
    have h2:=(hi.2 g hg).2.len
    rw [bts_length] at h2
    have h3:g.data.length=4096:=h1
    omega
  have hcp:=copy_imgs aL capL ls (hi2.mono hJ3) (by omega) hl4
  rw [← hn] at hcp
  refine Tri.free hcp ?_
  rintro r J4 _ hJ4 ⟨aC,capC,gs4,rfl,hi4,hpr4⟩
  have hgl4:gs4.length=n:=by have:=congrArg List.length hpr4; rw [List.length_map,List.length_map,← hn] at this; exact this
  refine appendD tabOk rfl rfl rfl rfl rfl rfl rfl 3 rfl hM (SrcOk.slice (n:=gs4.length) (news:=imgCells gs4) tabOk rfl hi4.1.slC (hplain gs4)) rfl (by show (gs2.length+gs4.length) * 32≤_; omega) (by omega) ?_
  intro aM2 capM2 chM2 hM2
  repeat (first | refine StoreD.st 0 rfl rfl rfl ?_)
  refine CodeF.fixD 3 rfl fun J5 hJ5 hm5=>?_
  refine CodeF.den ?_
  rw [hB4]
  repeat (first | refine LoadD.own 0 rfl _ rfl rfl ?_ | refine LoadD.own 1 rfl _ rfl rfl ?_ | refine StoreD.st 1 rfl rfl rfl ?_)
  rw [hW2]
  have hle5:=Imm.le_trans hJ4 hJ5
  refine Done.mk ⟨_,rfl,⟨⟨sa3,sl3,sc3⟩,⟨wa3,wl3,wc3⟩,⟨za3,zl3,zc3⟩,⟨aM2,gs2.length+gs4.length,capM2⟩,first3,gs2++gs4,rfl,hR3.mono hle5,hz3.mono hle5,hzc3,hN3,hf13,⟨?_,?_⟩,by rw [List.length_append],?_,by rw [List.length_append]; omega⟩⟩
  · have:=Rds.of_ownS hM2 hm5
    rw [List.length_append,imgCells,List.flatMap_append]
    exact this
  · intro g hg
    rcases List.mem_append.1 hg with hg | hg
    · exact (hG3.2 g hg).mono hle5
    · exact (hi4.2 g hg).mono hJ5
  · show lastP ((gs2++gs4).map Img.pr)=(ls.map Img.pr).foldl pput r3
    rw [List.map_append,hpr4,lastP,List.foldl_append,← hlast2]; rfl
end Go.Proofs.YtegdcjnjnoeinaaGreat
namespace Go.Proofs.YtegdcjnjnoeinaaGreat
open Go.RowKit Go.Sl
set_option maxRecDepth 20000
structure Buf where
  n:Int
  data:Dat
  pins:Int
  dirty:Bool
  mark:Bool
structure CSt where
  slots:List (Option Buf)
  hand:Nat
def isN (n:Int) (x:Option Buf):Bool:=match x with
  | some b=>decide (b.n=n)
  | none=>false
def CSt.find (c:CSt) (n:Int):Option Nat:=c.slots.findIdx? (isN n)
def idxV:Option Nat→Int
  | some i=>i
  | none=>-1
def roomK:Nat→CSt→CSt × Option Nat
  | 0,c=>(c,none)
  | f+1,c=>match c.slots[c.hand]? with
    | some (some b)=>if 0 < b.pins∨b.dirty=true then roomK f ⟨c.slots,(c.hand+1) % c.slots.length⟩ else
        if b.mark=true then roomK f ⟨c.slots.set c.hand (some { b with mark:=false }),(c.hand+1) % c.slots.length⟩ else
        (⟨c.slots.set c.hand none,(c.hand+1) % c.slots.length⟩,some c.hand)
    | _=>(c,none)
def CSt.room (c:CSt):CSt × Option Nat:=match c.slots.findIdx? Option.isNone with
  | some i=>(c,some i)
  | none=>roomK (2 * c.slots.length) c
structure BufM where
  blk:Nat
  a:Option Addr
  cap:Nat
  b:Buf
@[reducible] def BufM.cells (m:BufM):List Value:=[.int .i64 m.b.n,.slice m.a m.b.data.length m.cap,.int .i64 m.b.pins,.bool m.b.dirty,.bool m.b.mark]
def ptrB (x:Option BufM):Value:=.pointer (x.map fun m=>⟨m.blk,0,none⟩)
def bufBlk (m:BufM):Blk:=(m.blk,row m.cells 184)
def bufs (cs:List (Option BufM)):List Blk:=cs.filterMap fun x=>x.map bufBlk
def slotsOf (cs:List (Option BufM)):List (Option Buf):=cs.map (Option.map BufM.b)
theorem bufs_mem {cs:List (Option BufM)} {m:BufM} (h:some m ∈ cs):bufBlk m ∈ bufs cs:=List.mem_filterMap.2 ⟨_,h,rfl⟩
theorem bufs_append (a b:List (Option BufM)):bufs (a++b)=bufs a++bufs b:=by simp [bufs]
theorem bufs_some (m:BufM) (l:List (Option BufM)):bufs (some m :: l)=bufBlk m :: bufs l:=by simp [bufs]
theorem bufs_none (l:List (Option BufM)):bufs (none :: l)=bufs l:=by simp [bufs]
theorem split_at {α:Type} {l:List α} {i:Nat} {x:α} (h:l[i]?=some x):l=l.take i++x :: l.drop (i+1)∧∀ y,l.set i y=l.take i++y :: l.drop (i+1):=by
  have hlt:i < l.length:=(List.getElem?_eq_some_iff.1 h).1
  have hx:l[i]=x:=by rw [List.getElem?_eq_getElem hlt] at h; exact Option.some.inj h
  refine ⟨?_,fun y=>by rw [List.set_eq_take_append_cons_drop,if_pos hlt]⟩
  rw [← hx,← List.drop_eq_getElem_cons hlt,List.take_append_drop]
theorem bufs_at {cs:List (Option BufM)} {i:Nat} {m:BufM} (h:cs[i]?=some (some m)):∃ A B,bufs cs=A++bufBlk m :: B∧(∀ m',bufs (cs.set i (some m'))=A++bufBlk m' :: B)∧bufs (cs.set i none)=A++B:=by
  obtain ⟨h1,h2⟩:=split_at h
  refine ⟨bufs (cs.take i),bufs (cs.drop (i+1)),?_,fun m'=>?_,?_⟩
  · rw [h1,bufs_append,bufs_some]
    congr 1
    · congr 1; rw [← h1]
    · congr 2; rw [← h1]
  · rw [h2,bufs_append,bufs_some]
  · rw [h2,bufs_append,bufs_none]
theorem bufs_put {cs:List (Option BufM)} {i:Nat} (h:cs[i]?=some none) (m:BufM):(bufs (cs.set i (some m))).Perm (bufBlk m :: bufs cs):=by
  obtain ⟨h1,h2⟩:=split_at h
  rw [h2,bufs_append,bufs_some]
  refine List.perm_middle.trans (List.Perm.cons _ ?_)
  conv=>rhs; rw [h1,bufs_append,bufs_none]
theorem LoadD.mem {I:Imm} {S:St} {b off n:Nat} {G:List Value→Prop} (k:Nat) {ch:List Blk} (hk:S[k]?=some ch) {c:List Value} {T:TypeId} {fr:Nat × Nat} (hm:(b,row c T fr) ∈ ch) (vs:List Value) (h:(c.drop off).take n=vs) (hl:vs.length=n) (g:G vs):LoadD I S b off n G :=
  .mk vs ⟨c,T,fr,.own k (mem_getD hk hm),h,hl⟩ g
theorem LoadP.mem {I:Imm} {S:St} {b off n:Nat} {K:List Value→List Nat→Prop} (k:Nat) {ch:List Blk} (hk:S[k]?=some ch) {c:List Value} {T:TypeId} {fr:Nat × Nat} (hm:(b,row c T fr) ∈ ch) (vs:List Value) (h:(c.drop off).take n=vs) (hl:vs.length=n) (g:K vs [k]):LoadP I S b off n K:=by
  refine .own k vs ⟨c,T,fr,.own 0 ?_,h,hl⟩ g
  show (b,row c T fr) ∈ S.getD k []
  exact mem_getD hk hm
theorem forceL_to {l:List Value} {K:List Value→Prop} (h:K l):forceL l K:=by rw [forceL_eq]; exact h
theorem Tri.castA {P:Program} {f:FuncId} {args args':Array Value} {I:Imm} {S:St} {Q:Value→Imm→St→Prop} (e:args=args') (h:Tri P f args I S Q):Tri P f args' I S Q:=by subst e; exact h
section
variable (I:Imm) (S:St)
theorem find_1 (n:Int) (x:Option BufM) (cs:List (Option BufM)) (hx:∀ m,x=some m→some m ∈ cs) (k:Nat) (hk:S[k]?=some (bufs cs)) (b3:Nat) {T3:TypeId} (h3:I b3=some (row [.int .i64 n] T3)) :
    Tri Tryz.prog 182 #[ptrB x,.pointer (some ⟨b3,0,none⟩)] I S fun v J S'=>v=.bool (isN n (x.map BufM.b))∧I=J∧S'=S:=by
  cases x with
  | none =>
    refine Tri.of (args:=[.pointer none,.pointer (some ⟨b3,0,none⟩)]) tabOk Tryz.func182 rfl (by kernel_rfl) (by kernel_rfl) ?_
    refine CodeF.sched [[],[0],[0,1],[0,1,2],[0,1,2,3],[0,1,2,3,4],[0,1,2,3,4,5],[0,1,2],[0,1,2,3,4,5,6,7],[0,1,2,3,4,5,6,7,8],[0,1,2,3,4,5,6,7,8,9]] [0,1,2,3,4,5,6,7,8,9,10] (by kernel_rfl) ?_
    exact Done.mk ⟨rfl,rfl,rfl⟩
  | some m =>
    refine Tri.of (args:=[.pointer (some ⟨m.blk,0,none⟩),.pointer (some ⟨b3,0,none⟩)]) tabOk Tryz.func182 rfl (by kernel_rfl) (by kernel_rfl) ?_
    refine CodeF.sched [[],[0],[0,1],[0,1,2],[0,1,2,3],[0,1,2,3,4],[0,1,2,3,4,5],[0,1,2],[0,1,2,3,4,5,6,7],[0,1,2,3,4,5,6,7,8],[0,1,2,3,4,5,6,7,8,9]] [0,1,2,3,4,5,6,7,8,9,10] (by kernel_rfl) ?_
    refine LoadP.mem k hk (bufs_mem (hx m rfl)) [.int .i64 m.b.n] rfl rfl ?_
    refine LoadP.imms [.int .i64 n] ⟨_,_,_,.imm h3,rfl,rfl⟩ ?_
    refine CmpD.split (fun (c:m.b.n=n)=>?_) (fun (c:¬ m.b.n=n)=>?_)
    · exact Done.mk ⟨by show _=Value.bool (decide (m.b.n=n)); rw [decide_eq_true c]; rfl,rfl,rfl⟩
    · exact Done.mk ⟨by show _=Value.bool (decide (m.b.n=n)); rw [decide_eq_false c]; rfl,rfl,rfl⟩
theorem findIdx_take {α:Type} (p:α→Bool) (l:List α) {i:Nat} (h:∀ (j:Nat) (x:α),j < i→l[j]?=some x→p x=false) {x:α} (hx:l[i]?=some x) (hp:p x=true):l.findIdx? p=some i:=by
  have hlt:i < l.length:=(List.getElem?_eq_some_iff.1 hx).1
  have e:l[i]=x:=by rw [List.getElem?_eq_getElem hlt] at hx; exact Option.some.inj hx
  rw [List.findIdx?_eq_some_iff_getElem]
  refine ⟨hlt,by rw [e]; exact hp,fun j hj=>?_⟩
  rw [h j l[j] hj (List.getElem?_eq_getElem (by omega))]; simp
theorem findIdx_no {α:Type} (p:α→Bool) (l:List α) (h:∀ (j:Nat) (x:α),l[j]?=some x→p x=false):l.findIdx? p=none:=by
  rw [List.findIdx?_eq_none_iff]
  intro x hx
  obtain ⟨j,hj⟩:=List.mem_iff_getElem?.1 hx
  exact h j x hj
theorem index_func (g:FuncId) (caps:List Value) (p:Option BufM→Bool) (cs:List (Option BufM)) (a:Option Addr) (len cap:Nat) (hlen:len≤1000000) (hs:SlC I S a len (cs.map ptrB))
    (hg:∀ x ∈ cs,Tri Tryz.prog g (ptrB x :: caps).toArray I S fun v J S'=>v=.bool (p x)∧I=J∧S'=S) :
    Tri Tryz.prog 181 #[.slice a len cap,.func (.func g) #[] caps.toArray] I S fun v J S'=>v=.int .i64 (idxV (cs.findIdx? p))∧I=J∧S'=S:=by
  have hcl:cs.length=len:=by have:=hs.len; simpa using this
  refine Tri.of (args:=[.slice a len cap,.func (.func g) #[] caps.toArray]) tabOk Tryz.func181 rfl (by kernel_rfl) (by kernel_rfl) ?_
  refine CodeF.loopD [0,1,7,8] (fun vs J S'=>∃ i:Nat,i≤len∧(∀ (j:Nat) (x:Option BufM),j < i→cs[j]?=some x→p x=false)∧vs=[.slice a len cap,.func (.func g) #[] caps.toArray,.int .i64 len,.int .i64 i]∧I=J∧S'=S)
    (fun vs _ _=>match vs with | [_,_,_,.int _ i]=>((len:Int) - i).toNat | _=>0) ?_ ?_
  · exact ⟨_,Drop.refl _,0,by omega,by omega,rfl,rfl,rfl⟩
  rintro vs gE J S' hJ ⟨i,hi,hno,rfl,rfl,rfl⟩
  refine CmpD.split (fun (c1:(i:Int) < len)=>?_) (fun (c1:¬ (i:Int) < len)=>?_)
  · obtain ⟨b,off,rfl,hc⟩:=hs.cells (by omega)
    obtain ⟨x,hx⟩:∃ x,cs[i]?=some x:=⟨_,List.getElem?_eq_getElem (by omega)⟩
    refine Chk.mk (by omega) ?_
    refine LoadD.mk [ptrB x] (hc.at (by rw [Int.toNat_natCast,List.getElem?_map,hx]; rfl)) ?_
    refine forceL_to ?_
    refine Tri.castA (args:=(ptrB x :: caps).toArray) (by simp; rfl) ((hg x (List.mem_of_getElem? hx)).mono ?_)
    rintro v _ _ hJ ⟨rfl,rfl,rfl⟩
    cases hp:p x
    · refine ToD.to (((i+1:Nat)):Int) (by rw [wrap_i64 (by omega) (by omega)]; omega) ?_
      refine ⟨_,Drop.refl _,⟨i+1,by omega,fun j y hj hy=>?_,rfl,rfl,rfl⟩,?_⟩
      · rcases Nat.lt_or_ge j i with g | g
        · exact hno j y g hy
        · obtain rfl:j=i:=by omega
          rw [hx] at hy; cases hy; exact hp
      · show ((len:Int) - ((i+1:Nat):Int)).toNat < ((len:Int) - (i:Int)).toNat; omega
    · rw [findIdx_take p cs hno hx hp]
      exact Done.mk ⟨rfl,rfl,rfl⟩
  · rw [findIdx_no p cs (fun j x hx=>hno j x (by have:=(List.getElem?_eq_some_iff.1 hx).1; omega) hx)]
    exact Done.mk ⟨rfl,rfl,rfl⟩
theorem index_nil (cs:List (Option BufM)) (a:Option Addr) (len cap:Nat) (hlen:len≤1000000) (hs:SlC I S a len (cs.map ptrB)) :
    Tri Tryz.prog 183 #[.slice a len cap,.pointer none] I S fun v J S'=>v=.int .i64 (idxV (cs.findIdx? Option.isNone))∧I=J∧S'=S:=by
  have hcl:cs.length=len:=by have:=hs.len; simpa using this
  refine Tri.of (args:=[.slice a len cap,.pointer none]) tabOk Tryz.func183 rfl (by kernel_rfl) (by kernel_rfl) ?_
  refine CodeF.loopD [0,1,7,8] (fun vs J S'=>∃ i:Nat,i≤len∧(∀ (j:Nat) (x:Option BufM),j < i→cs[j]?=some x→x.isNone=false)∧vs=[.slice a len cap,.pointer none,.int .i64 len,.int .i64 i]∧I=J∧S'=S)
    (fun vs _ _=>match vs with | [_,_,_,.int _ i]=>((len:Int) - i).toNat | _=>0) ?_ ?_
  · exact ⟨_,Drop.refl _,0,by omega,by omega,rfl,rfl,rfl⟩
  rintro vs gE J S' hJ ⟨i,hi,hno,rfl,rfl,rfl⟩
  refine CmpD.split (fun (c1:(i:Int) < len)=>?_) (fun (c1:¬ (i:Int) < len)=>?_)
  · obtain ⟨b,off,rfl,hc⟩:=hs.cells (by omega)
    obtain ⟨x,hx⟩:∃ x,cs[i]?=some x:=⟨_,List.getElem?_eq_getElem (by omega)⟩
    refine Chk.mk (by omega) ?_
    refine LoadD.mk [ptrB x] (hc.at (by rw [Int.toNat_natCast,List.getElem?_map,hx]; rfl)) ?_
    cases x with
    | some m =>
      refine ToD.to (((i+1:Nat)):Int) (by rw [wrap_i64 (by omega) (by omega)]; omega) ?_
      refine ⟨_,Drop.refl _,⟨i+1,by omega,fun j y hj hy=>?_,rfl,rfl,rfl⟩,?_⟩
      · rcases Nat.lt_or_ge j i with g | g
        · exact hno j y g hy
        · obtain rfl:j=i:=by omega
          rw [hx] at hy; cases hy; rfl
      · show ((len:Int) - ((i+1:Nat):Int)).toNat < ((len:Int) - (i:Int)).toNat; omega
    | none =>
      rw [findIdx_take Option.isNone cs hno hx rfl]
      exact Done.mk ⟨rfl,rfl,rfl⟩
  · rw [findIdx_no Option.isNone cs (fun j x hx=>hno j x (by have:=(List.getElem?_eq_some_iff.1 hx).1; omega) hx)]
    exact Done.mk ⟨rfl,rfl,rfl⟩
end
end Go.Proofs.YtegdcjnjnoeinaaGreat
namespace Go.Proofs.YtegdcjnjnoeinaaGreat
open Go.RowKit Go.Sl
set_option maxRecDepth 20000
@[reducible] def cChunk (bC bV bS len hand:Nat):List Blk:=[(bC,row [.pointer (some ⟨bV,0,none⟩),.slice (some ⟨bS,0,none⟩) len len,.int .i64 hand] 107)]
@[reducible] def sChunk (bS:Nat) (cs:List (Option BufM)):List Blk:=[(bS,row (cs.map ptrB) 185)]
theorem slC_slots {I:Imm} {S:St} (k:Nat) {bS:Nat} {cs:List (Option BufM)} (hk:S[k]?=some (sChunk bS cs)):SlC I S (some ⟨bS,0,none⟩) cs.length (cs.map ptrB) :=
  ⟨by simp,.inr ⟨bS,0,rfl,⟨_,_,_,.one k hk,by rw [List.drop_zero,List.take_of_length_le (by simp)],by simp⟩⟩⟩
theorem isN_slots (n:Int) (cs:List (Option BufM)):(cs.findIdx? fun x=>isN n (x.map BufM.b))=(slotsOf cs).findIdx? (isN n):=by
  unfold slotsOf
  rw [List.findIdx?_map]; rfl
section
variable (I:Imm)
theorem c_none (bC bV bS len hand:Nat) (S:St) (k:Nat) (hk:S[k]?=some (cChunk bC bV bS len hand)) :
    Tri Tryz.prog 128 #[.pointer (some ⟨bC,0,none⟩)] I S fun v J S'=>v=.bool false∧I=J∧S'=S:=by
  refine Tri.of (args:=[.pointer (some ⟨bC,0,none⟩)]) tabOk Tryz.func128 rfl (by kernel_rfl) (by kernel_rfl) ?_
  refine LoadD.own k hk [.pointer (some ⟨bV,0,none⟩)] rfl rfl ?_
  exact Done.mk ⟨rfl,rfl,rfl⟩
theorem c_find (bC bV bS hand:Nat) (cs:List (Option BufM)) (hl:cs.length≤1000000) (R:St) (n:Int) :
    Tri Tryz.prog 129 #[.pointer (some ⟨bC,0,none⟩),.int .i64 n] I (cChunk bC bV bS cs.length hand :: sChunk bS cs :: bufs cs :: R) fun v J S'=>v=.int .i64 (idxV ((slotsOf cs).findIdx? (isN n)))∧I.le J∧S'=cChunk bC bV bS cs.length hand :: sChunk bS cs :: bufs cs :: R:=by
  refine Tri.drop ?_ (fun _ _ _ _ h=>h)
  refine Tri.of (args:=[.pointer (some ⟨bC,0,none⟩),.int .i64 n]) tabOk Tryz.func129 rfl (by kernel_rfl) (by kernel_rfl) ?_
  conv=>whnf
  intro b3
  refine LoadD.own 0 rfl [.slice (some ⟨bS,0,none⟩) cs.length cs.length] rfl rfl ?_
  have e3:(cChunk bC bV bS cs.length hand :: sChunk bS cs :: bufs cs :: R++[[(b3,row [Value.int .i64 n] 3)]])[R.length+3]?=some [(b3,row [Value.int .i64 n] 3)]:=by simp
  refine Tri.fix (R.length+3) e3 fun I2 hI2 hm=>?_
  have h3:=hm _ (List.mem_singleton.2 rfl)
  refine Tri.mono (index_func I2 _ _ [.pointer (some ⟨b3,0,none⟩)] (fun x=>isN n (x.map BufM.b)) cs (some ⟨bS,0,none⟩) cs.length cs.length hl (slC_slots 1 rfl) (fun x hx=>find_1 I2 _ n x cs (fun m hm=>by rw [← hm]; exact hx) 2 rfl b3 h3)) ?_
  rintro v _ _ hJ ⟨rfl,rfl,rfl⟩
  rw [isN_slots]
  refine Done.mk ⟨_,⟨[],?_⟩,rfl,hI2,rfl⟩
  simp
structure Bok (J:Imm) (m:BufM):Prop where
  rd:Rds J m.a m.b.data.length (bts m.b.data)
  len:m.b.data.length≤1000000
  n:0≤m.b.n∧m.b.n≤1000000
  pins:0≤m.b.pins∧m.b.pins≤1000
theorem Bok.mono {J K:Imm} {m:BufM} (h:Bok J m) (hJ:J.le K):Bok K m:=⟨h.rd.mono hJ,h.len,h.n,h.pins⟩
def CsOk (J:Imm) (cs:List (Option BufM)):Prop:=∀ m,some m ∈ cs→Bok J m
theorem CsOk.mono {J K:Imm} {cs:List (Option BufM)} (h:CsOk J cs) (hJ:J.le K):CsOk K cs:=fun m hm=>(h m hm).mono hJ
theorem CsOk.set {J:Imm} {cs:List (Option BufM)} (h:CsOk J cs) (i:Nat) {x:Option BufM} (hx:∀ m,x=some m→Bok J m):CsOk J (cs.set i x):=fun m hm=>by
  rcases List.mem_or_eq_of_mem_set hm with hm | hm
  · exact h m hm
  · exact hx m hm.symm
theorem slotsOf_get {cs:List (Option BufM)} {i:Nat} {x:Option BufM} (h:cs[i]?=some x):(slotsOf cs)[i]?=some (x.map BufM.b):=by simp [slotsOf,h]
theorem slotsOf_set (cs:List (Option BufM)) (i:Nat) (x:Option BufM):slotsOf (cs.set i x)=(slotsOf cs).set i (x.map BufM.b):=by simp [slotsOf,List.map_set]
theorem slotsOf_len (cs:List (Option BufM)):(slotsOf cs).length=cs.length:=by simp [slotsOf]
theorem none_slots (cs:List (Option BufM)):(cs.findIdx? Option.isNone)=(slotsOf cs).findIdx? Option.isNone:=by
  unfold slotsOf
  rw [List.findIdx?_map]
  congr 1
  funext x; cases x <;> rfl
omit I in
theorem StoreD.buf {S:St} {cs:List (Option BufM)} {i:Nat} {m:BufM} (k:Nat) (hk:S[k]?=some (bufs cs)) (hx:cs[i]?=some (some m)) (m':BufM) (hblk:m'.blk=m.blk) {off:Nat} {vs:List Value} {K:St→Prop} (hc:splice m.cells off vs=m'.cells) (hl:Nat.ble (off+vs.length) 5=true)
    (h:K (S.set k (bufs (cs.set i (some m'))))):StoreD S m.blk off vs K:=by
  obtain ⟨A,B,h1,h2,_⟩:=bufs_at hx
  refine .mk k A B m.cells 184 (0,0) (by rw [hk,h1]; rfl) (Nat.le_of_ble_eq_true hl) (.inr (.inr (Nat.le_refl _))) ?_
  rw [hc,← hblk]
  rw [h2] at h
  exact h
omit I in
theorem splice_slot (cs:List (Option BufM)) {i:Nat} (hi:i < cs.length) (x:Option BufM):splice (cs.map ptrB) i [ptrB x]=(cs.set i x).map ptrB:=by
  unfold splice
  rw [List.map_set,List.set_eq_take_append_cons_drop,if_pos (by simpa using hi)]
  simp
omit I in
theorem StoreD.slot {S:St} {cs:List (Option BufM)} {i bS:Nat} (k:Nat) (hk:S[k]?=some (sChunk bS cs)) (hi:i < cs.length) (x:Option BufM) {off:Nat} (ho:off=i) {K:St→Prop} (h:K (S.set k (sChunk bS (cs.set i x)))):StoreD S bS off [ptrB x] K:=by
  subst ho
  exact .to k hk _ (splice_slot cs hi x) (by simp; omega) (.inr (.inr (Nat.le_refl _))) _ rfl h
set_option maxHeartbeats 1000000 in
theorem c_room (bC bV bS hand:Nat) (cs:List (Option BufM)) (hl:1≤cs.length∧cs.length≤1000) (hh:hand < cs.length) (hok:CsOk I cs) (R:List Blk) :
    Tri Tryz.prog 130 #[.pointer (some ⟨bC,0,none⟩)] I [cChunk bC bV bS cs.length hand,sChunk bS cs,bufs cs,R] fun v J S'=>v=.int .i64 (idxV (CSt.room ⟨slotsOf cs,hand⟩).2)∧I=J ∧
      ∃ cs' hand',⟨slotsOf cs',hand'⟩=(CSt.room ⟨slotsOf cs,hand⟩).1∧cs'.length=cs.length∧hand' < cs.length∧CsOk I cs'∧(∀ i,(CSt.room ⟨slotsOf cs,hand⟩).2=some i→cs'[i]?=some none)∧S'=[cChunk bC bV bS cs.length hand',sChunk bS cs',bufs cs',R]:=by
  refine Tri.drop ?_ (fun _ _ _ _ h=>h)
  refine Tri.of (args:=[.pointer (some ⟨bC,0,none⟩)]) tabOk Tryz.func130 rfl (by kernel_rfl) (by kernel_rfl) ?_
  refine LoadD.own 0 rfl [.slice (some ⟨bS,0,none⟩) cs.length cs.length] rfl rfl ?_
  refine Tri.mono (index_nil I _ cs (some ⟨bS,0,none⟩) cs.length cs.length (by omega) (slC_slots 1 rfl)) ?_
  rintro v _ _ hJ ⟨rfl,rfl,rfl⟩
  rw [none_slots]
  unfold CSt.room
  cases hf:(slotsOf cs).findIdx? Option.isNone with
  | some i =>
    refine CmpD.yes (by show (0:Int)≤(i:Int); omega) ?_
    refine Done.mk ⟨_,Drop.refl _,rfl,rfl,cs,hand,rfl,rfl,hh,hok,fun j hj=>?_,rfl⟩
    cases hj
    rw [← none_slots,List.findIdx?_eq_some_iff_getElem] at hf
    obtain ⟨h1,h2,_⟩:=hf
    rw [List.getElem?_eq_getElem h1]
    cases hc:cs[i] with
    | none=>rfl
    | some m=>rw [hc] at h2; cases h2
  | none =>
    have hall:∀ (j:Nat) (x:Option BufM),cs[j]?=some x→∃ m,x=some m:=by
      intro j x hx
      rw [← none_slots,List.findIdx?_eq_none_iff] at hf
      have:=hf x (List.mem_of_getElem? hx)
      cases x with
      | none=>cases this
      | some m=>exact ⟨m,rfl⟩
    refine CmpD.no (by show ¬ (0:Int)≤-1; omega) ?_
    dsimp only
    obtain ⟨n,hn⟩:∃ n,n=cs.length:=⟨_,rfl⟩
    have hsn:(slotsOf cs).length=n:=by rw [slotsOf_len,hn]
    rw [hsn]
    rw [← hn] at hl hh ⊢
    repeat (first | refine LoadD.own 0 rfl _ rfl rfl ?_)
    refine ToD.to (2 * (n:Int)) (wrap_i64 (by omega) (by omega)) ?_
    refine CodeF.loopD [0,19,20] (fun vs J' S'=>∃ (i hand':Nat) (cs':List (Option BufM)),i≤2 * n∧roomK (2 * n - i) ⟨slotsOf cs',hand'⟩=roomK (2 * n) ⟨slotsOf cs,hand⟩∧cs'.length=n∧hand' < n∧CsOk I cs'∧(∀ (j:Nat) (x:Option BufM),cs'[j]?=some x→∃ m,x=some m)∧I=J' ∧
        vs=[.pointer (some ⟨bC,0,none⟩),.int .i64 (2 * (n:Int)),.int .i64 i]∧S'=[cChunk bC bV bS n hand',sChunk bS cs',bufs cs',R])
      (fun vs _ _=>match vs with | [_,_,.int _ i]=>(2 * (n:Int) - i).toNat | _=>0) ?_ ?_
    · exact ⟨_,Drop.refl _,0,hand,cs,by omega,rfl,hn.symm,hh,hok,hall,rfl,rfl,rfl⟩
    clear hok hall hf hh hn hsn
    rintro vs gE J' S' hJ' ⟨i,hd,cs',hi,hrk,hln,hh,hok,hall,rfl,rfl,rfl⟩
    have hsn:(slotsOf cs').length=n:=by rw [slotsOf_len,hln]
    refine CmpD.split (fun (c1:(i:Int) < 2 * n)=>?_) (fun (c1:¬ (i:Int) < 2 * n)=>?_)
    rotate_left
    · rw [show 2 * n - i=0 by omega] at hrk
      rw [← hrk]
      exact Done.mk ⟨_,Drop.refl _,rfl,rfl,cs',hd,rfl,hln,hh,hok,(fun i h=>by cases h),rfl⟩
    obtain ⟨x,hx⟩:∃ x,cs'[hd]?=some x:=⟨_,List.getElem?_eq_getElem (by omega)⟩
    obtain ⟨m,rfl⟩:=hall _ _ hx
    obtain ⟨A,B,hb1,hb2,hb3⟩:=bufs_at hx
    rw [show 2 * n - i=(2 * n - (i+1))+1 by omega,roomK] at hrk
    dsimp only at hrk
    rw [slotsOf_get hx] at hrk
    simp only [Option.map_some] at hrk
    rw [hsn] at hrk
    refine LoadD.own 0 rfl [.int .i64 hd] rfl rfl ?_
    refine ToD.to ((hd:Int)+1) (wrap_i64 (by omega) (by omega)) ?_
    refine LoadD.own 0 rfl [.slice (some ⟨bS,0,none⟩) n n] rfl rfl ?_
    refine Chk.mk (by omega) ?_
    refine ToD.to (((hd+1) % n:Nat):Int) (by rw [Int.tmod_eq_emod_of_nonneg (by omega)]; push_cast; rfl) ?_
    refine StoreD.st 0 rfl rfl rfl ?_
    refine LoadD.own 0 rfl [.slice (some ⟨bS,0,none⟩) n n] rfl rfl ?_
    refine Chk.mk (by omega) ?_
    have hcell:(cs'.map ptrB)[hd]?=some (ptrB (some m)):=by rw [List.getElem?_map,hx]; rfl
    refine LoadD.own 1 rfl [ptrB (some m)] (take_get (c:=cs'.map ptrB) (off:=0) (n:=n) (by rw [List.drop_zero,List.take_of_length_le (by simp [hln])]) (by simpa using hcell)) rfl ?_
    have hmem:=bufs_mem (List.mem_of_getElem? hx)
    have hmod:(hd+1) % n < n:=Nat.mod_lt _ (by omega)
    refine LoadD.mem 2 rfl hmem [.int .i64 m.b.pins] rfl rfl ?_
    have goOn:∀ (cs2:List (Option BufM)),roomK (2 * n - (i+1)) ⟨slotsOf cs2,(hd+1) % n⟩=roomK (2 * n) ⟨slotsOf cs,hand⟩→cs2.length=n→CsOk I cs2→(∀ (j:Nat) (x:Option BufM),cs2[j]?=some x→∃ m,x=some m) →
        ∃ (i2 hand':Nat) (cs':List (Option BufM)),i2≤2 * n∧roomK (2 * n - i2) ⟨slotsOf cs',hand'⟩=roomK (2 * n) ⟨slotsOf cs,hand⟩∧cs'.length=n∧hand' < n∧CsOk I cs'∧(∀ (j:Nat) (x:Option BufM),cs'[j]?=some x→∃ m,x=some m)∧I=I ∧
        [.pointer (some ⟨bC,0,none⟩),.int .i64 (2 * (n:Int)),.int .i64 ((i+1:Nat):Int)]=[.pointer (some ⟨bC,0,none⟩),.int .i64 (2 * (n:Int)),Value.int .i64 i2]∧[cChunk bC bV bS n ((hd+1) % n),sChunk bS cs2,bufs cs2,R]=[cChunk bC bV bS n hand',sChunk bS cs',bufs cs',R] :=
      fun cs2 h1 h2 h3 h4=>⟨i+1,(hd+1) % n,cs2,by omega,h1,h2,hmod,h3,h4,rfl,rfl,rfl⟩
    have mu:(2 * (n:Int) - ((i+1:Nat):Int)).toNat < (2 * (n:Int) - (i:Int)).toNat:=by omega
    refine CmpD.split (fun (c2:0 < m.b.pins)=>?_) (fun (c2:¬ 0 < m.b.pins)=>?_)
    · rw [if_pos (.inl c2)] at hrk
      refine ToD.to (((i+1:Nat)):Int) (by rw [wrap_i64 (by omega) (by omega)]; omega) ?_
      exact ⟨_,Drop.refl _,goOn cs' hrk hln hok hall,mu⟩
    have all2:∀ m':BufM,∀ (j:Nat) (x:Option BufM),(cs'.set hd (some m'))[j]?=some x→∃ m,x=some m:=by
      intro m' j x hj
      by_cases hjd:hd=j
      · subst hjd
        rw [List.getElem?_set_self (by omega)] at hj
        exact ⟨m',(Option.some.inj hj).symm⟩
      · rw [List.getElem?_set_ne hjd] at hj
        exact hall j x hj
    have hbok:=hok m (List.mem_of_getElem? hx)
    cases hdt:m.b.dirty
    rotate_left
    · refine LoadD.mem 2 rfl hmem [.bool true] (by show [Value.bool m.b.dirty]=_; rw [hdt]) rfl ?_
      rw [if_pos (.inr hdt)] at hrk
      refine ToD.to (((i+1:Nat)):Int) (by rw [wrap_i64 (by omega) (by omega)]; omega) ?_
      exact ⟨_,Drop.refl _,goOn cs' hrk hln hok hall,mu⟩
    refine LoadD.mem 2 rfl hmem [.bool false] (by show [Value.bool m.b.dirty]=_; rw [hdt]) rfl ?_
    rw [if_neg (by rintro (h | h); exact c2 h; rw [hdt] at h; cases h)] at hrk
    cases hmk:m.b.mark
    rotate_left
    · refine LoadD.mem 2 rfl hmem [.bool true] (by show [Value.bool m.b.mark]=_; rw [hmk]) rfl ?_
      rw [if_pos hmk] at hrk
      refine StoreD.buf 2 rfl hx ⟨m.blk,m.a,m.cap,{ m.b with mark:=false }⟩ rfl rfl rfl ?_
      refine ToD.to (((i+1:Nat)):Int) (by rw [wrap_i64 (by omega) (by omega)]; omega) ?_
      have hset:sChunk bS (cs'.set hd (some ⟨m.blk,m.a,m.cap,{ m.b with mark:=false }⟩))=sChunk bS cs':=by
        unfold sChunk
        rw [List.map_set]
        congr 3
        exact List.ext_getElem? fun j=>by
          by_cases hj:hd=j
          · subst hj; rw [List.getElem?_set_self (by simp; omega),List.getElem?_map,hx]; rfl
          · rw [List.getElem?_set_ne hj]
      have hgo:=goOn (cs'.set hd (some ⟨m.blk,m.a,m.cap,{ m.b with mark:=false }⟩)) (by rw [slotsOf_set]; exact hrk) (by rw [List.length_set]; exact hln) (hok.set hd (fun x hx2=>by cases hx2; exact ⟨hbok.rd,hbok.len,hbok.n,hbok.pins⟩)) (all2 _)
      rw [hset] at hgo
      exact ⟨_,Drop.refl _,hgo,mu⟩
    refine LoadD.mem 2 rfl hmem [.bool false] (by show [Value.bool m.b.mark]=_; rw [hmk]) rfl ?_
    rw [if_neg (by rw [hmk]; simp)] at hrk
    refine LoadD.own 0 rfl [.slice (some ⟨bS,0,none⟩) n n] rfl rfl ?_
    refine Chk.mk (by omega) ?_
    refine StoreD.slot 1 rfl (i:=hd) (by omega) none (by show 0+((hd:Nat):Int).toNat=hd; simp) ?_
    rw [← hrk]
    refine Done.mk ⟨[cChunk bC bV bS n ((hd+1) % n),sChunk bS (cs'.set hd none),bufs (cs'.set hd none),R],⟨[bufBlk m],?_⟩,rfl,rfl,cs'.set hd none,(hd+1) % n,by rw [slotsOf_set]; rfl,by rw [List.length_set]; exact hln,hmod,hok.set hd (by simp),fun j hj=>?_,rfl⟩
    · rw [hb3]
      show (cChunk bC bV bS n ((hd+1) % n)++(sChunk bS (cs'.set hd none)++(bufs cs'++(R++[])))).Perm _
      rw [hb1]
      simp only [List.flatten_cons,List.flatten_nil,List.append_assoc,List.append_nil,List.cons_append]
      refine List.Perm.cons _ (List.Perm.cons _ ?_)
      refine (List.perm_middle (l₁:=A)).trans ?_
      have:=(List.perm_append_singleton (bufBlk m) (A++(B++R))).symm
      simpa only [List.append_assoc,List.nil_append] using this
    · cases hj
      rw [List.getElem?_set_self (by omega)]
end
end Go.Proofs.YtegdcjnjnoeinaaGreat
namespace Go.Proofs.YtegdcjnjnoeinaaGreat
open Go.RowKit Go.Sl
set_option maxRecDepth 20000
def CSt.got (c:CSt) (n:Int):Option (Nat × Buf):=match c.find n with
  | some i=>(match c.slots[i]? with
    | some (some b)=>some (i,b)
    | _=>none)
  | none=>none
def CSt.put (c:CSt) (i:Nat) (b:Buf):CSt:=⟨c.slots.set i (some b),c.hand⟩
def CSt.pin (c:CSt) (n:Int):CSt × Int:=match c.got n with
  | none=>(c,2)
  | some (i,b)=>if b.pins=1000 then (c,5) else (c.put i { b with pins:=b.pins+1 },0)
def CSt.unpin (c:CSt) (n:Int):CSt × Int:=match c.got n with
  | none=>(c,2)
  | some (i,b)=>if b.pins=0 then (c,2) else (c.put i { b with pins:=b.pins - 1 },0)
def CSt.putD (c:CSt) (n:Int) (l:Dat):CSt × Int:=match c.got n with
  | none=>(c,2)
  | some (i,b)=>if l.length≠4096 then (c,2) else (c.put i ⟨b.n,l,b.pins,true,true⟩,0)
def CSt.drop (c:CSt) (n:Int):CSt × Int:=match c.got n with
  | none=>(c,2)
  | some (i,b)=>if 0 < b.pins then (c,130) else (⟨c.slots.set i none,c.hand⟩,0)
theorem got_none {cs:List (Option BufM)} {hand:Nat} {n:Int} (h:(slotsOf cs).findIdx? (isN n)=none):CSt.got ⟨slotsOf cs,hand⟩ n=none:=by
  unfold CSt.got CSt.find
  rw [h]
theorem got_some {cs:List (Option BufM)} {hand:Nat} {n:Int} {i:Nat} (h:(slotsOf cs).findIdx? (isN n)=some i):∃ m,cs[i]?=some (some m)∧m.b.n=n∧CSt.got ⟨slotsOf cs,hand⟩ n=some (i,m.b):=by
  have h0:=h
  rw [List.findIdx?_eq_some_iff_getElem] at h
  obtain ⟨h1,h2,_⟩:=h
  have h1':i < cs.length:=by rwa [slotsOf_len] at h1
  have hc:cs[i]?=some cs[i]:=List.getElem?_eq_getElem h1'
  have hs:=slotsOf_get hc
  rw [List.getElem?_eq_getElem h1] at hs
  have hs:=Option.some.inj hs
  rw [hs] at h2
  cases hx:cs[i] with
  | none=>rw [hx] at h2; simp [isN] at h2
  | some m =>
    rw [hx] at h2 hc
    refine ⟨m,hc,by simpa [isN] using h2,?_⟩
    unfold CSt.got CSt.find
    simp only [h0]
    rw [slotsOf_get hc]; rfl
def Ck (I:Imm) (bC bV:Nat) (c:CSt) (ch:List Blk):Prop:=∃ (bS:Nat) (cs:List (Option BufM)),ch=cChunk bC bV bS cs.length c.hand++(sChunk bS cs++bufs cs)∧slotsOf cs=c.slots∧CsOk I cs∧1≤cs.length∧cs.length≤1000∧c.hand < cs.length
theorem Ck.mono {I J:Imm} {bC bV:Nat} {c:CSt} {ch:List Blk} (h:Ck I bC bV c ch) (hJ:I.le J):Ck J bC bV c ch:=by
  obtain ⟨bS,cs,h1,h2,h3,h4⟩:=h
  exact ⟨bS,cs,h1,h2,h3.mono hJ,h4⟩
theorem ck_lay (bC bV bS hand:Nat) (cs:List (Option BufM)) (R:St):((cChunk bC bV bS cs.length hand++(sChunk bS cs++bufs cs)) :: R).flatten=(cChunk bC bV bS cs.length hand :: sChunk bS cs :: bufs cs :: R).flatten:=by simp
theorem ck_drop (bC bV bS hand:Nat) (cs:List (Option BufM)) (R:St) (X:St):Drop ((cChunk bC bV bS cs.length hand :: sChunk bS cs :: bufs cs :: R)++X) ((cChunk bC bV bS cs.length hand++(sChunk bS cs++bufs cs)) :: R):=⟨X.flatten,by simp⟩
theorem sChunk_same {bS:Nat} {cs:List (Option BufM)} {i:Nat} {m m':BufM} (hx:cs[i]?=some (some m)) (hb:m'.blk=m.blk):sChunk bS (cs.set i (some m'))=sChunk bS cs:=by
  have hlt:=(List.getElem?_eq_some_iff.1 hx).1
  unfold sChunk
  rw [List.map_set]
  congr 3
  exact List.ext_getElem? fun j=>by
    by_cases hj:i=j
    · subst hj
      rw [List.getElem?_set_self (by simpa using hlt),List.getElem?_map,hx]
      simp [ptrB,hb]
    · rw [List.getElem?_set_ne hj]
theorem ck_drop' {bC bV bS hand:Nat} {cs cs':List (Option BufM)} {R:St} (h1:sChunk bS cs'=sChunk bS cs) (h2:cs'.length=cs.length):Drop (cChunk bC bV bS cs.length hand :: sChunk bS cs :: bufs cs' :: R) ((cChunk bC bV bS cs'.length hand++(sChunk bS cs'++bufs cs')) :: R):=by
  rw [h1,h2]; exact ⟨[],by simp⟩
section
variable (I:Imm)
theorem c_held (bC bV bS hand:Nat) (cs:List (Option BufM)) (hl:cs.length≤1000000) (R:St) (n:Int) :
    Tri Tryz.prog 133 #[.pointer (some ⟨bC,0,none⟩),.int .i64 n] I (cChunk bC bV bS cs.length hand :: sChunk bS cs :: bufs cs :: R) fun v J S'=>I.le J∧S'=cChunk bC bV bS cs.length hand :: sChunk bS cs :: bufs cs :: R ∧
      ((CSt.got ⟨slotsOf cs,hand⟩ n=none∧v=.tuple #[.pointer none,.int .i64 2])∨∃ i m,cs[i]?=some (some m)∧m.b.n=n∧CSt.got ⟨slotsOf cs,hand⟩ n=some (i,m.b)∧v=.tuple #[.pointer (some ⟨m.blk,0,none⟩),.int .i64 0]):=by
  refine Tri.of (args:=[.pointer (some ⟨bC,0,none⟩),.int .i64 n]) tabOk Tryz.func133 rfl (by kernel_rfl) (by kernel_rfl) ?_
  refine Tri.mono (c_none I bC bV bS cs.length hand _ 0 rfl) ?_
  rintro v _ _ hJ ⟨rfl,rfl,rfl⟩
  refine Tri.mono (c_find I bC bV bS hand cs hl R n) ?_
  rintro v J _ hJ ⟨rfl,hle,rfl⟩
  cases hf:(slotsOf cs).findIdx? (isN n) with
  | none =>
    refine CmpD.yes (by show (-1:Int) < 0; omega) ?_
    exact Done.mk ⟨hle,rfl,.inl ⟨got_none hf,rfl⟩⟩
  | some i =>
    obtain ⟨m,h1,h2,h3⟩:=got_some (hand:=hand) hf
    have hlt:=(List.getElem?_eq_some_iff.1 h1).1
    refine CmpD.no (by show ¬ (i:Int) < 0; omega) ?_
    refine LoadD.own 0 rfl [.slice (some ⟨bS,0,none⟩) cs.length cs.length] rfl rfl ?_
    refine Chk.mk (by show 0≤(i:Int)∧(i:Int) < cs.length; omega) ?_
    have hcell:(cs.map ptrB)[i]?=some (ptrB (some m)):=by rw [List.getElem?_map,h1]; rfl
    refine LoadD.own 1 rfl [ptrB (some m)] (take_get (c:=cs.map ptrB) (off:=0) (n:=cs.length) (by rw [List.drop_zero,List.take_of_length_le (by simp)]) (by simpa [idxV] using hcell)) rfl ?_
    exact Done.mk ⟨hle,rfl,.inr ⟨i,m,h1,h2,h3,rfl⟩⟩
end
section
variable {I:Imm} {bC bV:Nat} {c:CSt} {ch:List Blk}
theorem ck_Pin (h:Ck I bC bV c ch) (n:Int):Tri Tryz.prog 62 #[.pointer (some ⟨bC,0,none⟩),.int .i64 n] I [ch] fun r J S'=>r=.int .i64 (c.pin n).2∧∃ ch',Ck J bC bV (c.pin n).1 ch'∧S'=[ch']:=by
  obtain ⟨slots,hand⟩:=c
  obtain ⟨bS,cs,rfl,rfl,hok,hl1,hl2,hh⟩:=h
  dsimp only at hh ⊢
  refine Tri.lay (ck_lay bC bV bS hand cs []) ?_
  refine Tri.drop ?_ (fun _ _ _ _ h=>h)
  refine Tri.of (args:=[.pointer (some ⟨bC,0,none⟩),.int .i64 n]) tabOk Tryz.func62 rfl (by kernel_rfl) (by kernel_rfl) ?_
  refine Tri.mono (c_held I bC bV bS hand cs (by omega) [] n) ?_
  unfold CSt.pin
  rintro v J _ hJ ⟨hle,rfl,(⟨hg,rfl⟩ | ⟨i,m,h1,h2,hg,rfl⟩)⟩
  · rw [hg]
    repeat (first | refine CmpD.no (by decide) ?_)
    exact Done.mk ⟨_,ck_drop bC bV bS hand cs [] [],rfl,_,⟨bS,cs,rfl,rfl,hok.mono hle,hl1,hl2,hh⟩,rfl⟩
  rw [hg]
  have hmem:=bufs_mem (List.mem_of_getElem? h1)
  have hbok:=(hok.mono hle) m (List.mem_of_getElem? h1)
  have hp:=hbok.pins
  have hlt:=(List.getElem?_eq_some_iff.1 h1).1
  repeat (first | refine CmpD.yes rfl ?_)
  refine LoadD.mem 2 rfl hmem [.int .i64 m.b.pins] rfl rfl ?_
  refine CmpD.split (fun (c1:m.b.pins=1000)=>?_) (fun (c1:¬ m.b.pins=1000)=>?_)
  · dsimp only
    rw [if_pos c1]
    skip
    exact Done.mk ⟨_,ck_drop bC bV bS hand cs [] [],rfl,_,⟨bS,cs,rfl,rfl,hok.mono hle,hl1,hl2,hh⟩,rfl⟩
  · dsimp only
    rw [if_neg c1]
    skip
    refine LoadD.mem 2 rfl hmem [.int .i64 m.b.pins] rfl rfl ?_
    refine ToD.to (m.b.pins+1) (wrap_i64 (by omega) (by omega)) ?_
    refine StoreD.buf 2 rfl h1 ⟨m.blk,m.a,m.cap,{ m.b with pins:=m.b.pins+1 }⟩ rfl rfl rfl ?_
    have hset:sChunk bS (cs.set i (some ⟨m.blk,m.a,m.cap,{ m.b with pins:=m.b.pins+1 }⟩))=sChunk bS cs:=sChunk_same h1 rfl
    have hln:(cs.set i (some (⟨m.blk,m.a,m.cap,{ m.b with pins:=m.b.pins+1 }⟩:BufM))).length=cs.length:=List.length_set
    refine Done.mk ⟨_,ck_drop' hset hln,rfl,_,⟨bS,_,rfl,by rw [slotsOf_set]; rfl,(hok.mono hle).set i (fun x hx=>by cases hx; exact ⟨hbok.rd,hbok.len,hbok.n,by show 0≤m.b.pins+1∧m.b.pins+1≤1000; omega⟩),by rw [hln]; exact hl1,by rw [hln]; exact hl2,by rw [hln]; exact hh⟩,rfl⟩
theorem ck_Unpin (h:Ck I bC bV c ch) (n:Int):Tri Tryz.prog 66 #[.pointer (some ⟨bC,0,none⟩),.int .i64 n] I [ch] fun r J S'=>r=.int .i64 (c.unpin n).2∧∃ ch',Ck J bC bV (c.unpin n).1 ch'∧S'=[ch']:=by
  obtain ⟨slots,hand⟩:=c
  obtain ⟨bS,cs,rfl,rfl,hok,hl1,hl2,hh⟩:=h
  dsimp only at hh ⊢
  refine Tri.lay (ck_lay bC bV bS hand cs []) ?_
  refine Tri.drop ?_ (fun _ _ _ _ h=>h)
  refine Tri.of (args:=[.pointer (some ⟨bC,0,none⟩),.int .i64 n]) tabOk Tryz.func66 rfl (by kernel_rfl) (by kernel_rfl) ?_
  refine Tri.mono (c_held I bC bV bS hand cs (by omega) [] n) ?_
  unfold CSt.unpin
  rintro v J _ hJ ⟨hle,rfl,(⟨hg,rfl⟩ | ⟨i,m,h1,h2,hg,rfl⟩)⟩
  · rw [hg]
    repeat (first | refine CmpD.no (by decide) ?_)
    exact Done.mk ⟨_,ck_drop bC bV bS hand cs [] [],rfl,_,⟨bS,cs,rfl,rfl,hok.mono hle,hl1,hl2,hh⟩,rfl⟩
  rw [hg]
  have hmem:=bufs_mem (List.mem_of_getElem? h1)
  have hbok:=(hok.mono hle) m (List.mem_of_getElem? h1)
  have hp:=hbok.pins
  have hlt:=(List.getElem?_eq_some_iff.1 h1).1
  repeat (first | refine CmpD.yes rfl ?_)
  refine LoadD.mem 2 rfl hmem [.int .i64 m.b.pins] rfl rfl ?_
  refine CmpD.split (fun (c1:m.b.pins=0)=>?_) (fun (c1:¬ m.b.pins=0)=>?_)
  · dsimp only
    rw [if_pos c1]
    skip
    exact Done.mk ⟨_,ck_drop bC bV bS hand cs [] [],rfl,_,⟨bS,cs,rfl,rfl,hok.mono hle,hl1,hl2,hh⟩,rfl⟩
  · dsimp only
    rw [if_neg c1]
    skip
    refine LoadD.mem 2 rfl hmem [.int .i64 m.b.pins] rfl rfl ?_
    refine ToD.to (m.b.pins - 1) (wrap_i64 (by omega) (by omega)) ?_
    refine StoreD.buf 2 rfl h1 ⟨m.blk,m.a,m.cap,{ m.b with pins:=m.b.pins - 1 }⟩ rfl rfl rfl ?_
    have hset:sChunk bS (cs.set i (some ⟨m.blk,m.a,m.cap,{ m.b with pins:=m.b.pins - 1 }⟩))=sChunk bS cs:=sChunk_same h1 rfl
    have hln:(cs.set i (some (⟨m.blk,m.a,m.cap,{ m.b with pins:=m.b.pins - 1 }⟩:BufM))).length=cs.length:=List.length_set
    refine Done.mk ⟨_,ck_drop' hset hln,rfl,_,⟨bS,_,rfl,by rw [slotsOf_set]; rfl,(hok.mono hle).set i (fun x hx=>by cases hx; exact ⟨hbok.rd,hbok.len,hbok.n,by show 0≤m.b.pins - 1∧m.b.pins - 1≤1000; omega⟩),by rw [hln]; exact hl1,by rw [hln]; exact hl2,by rw [hln]; exact hh⟩,rfl⟩
theorem ck_Put (h:Ck I bC bV c ch) (n:Int) (aL:Option Addr) (lL capL:Nat) (l:Dat) (hL:Rds I aL lL (bts l)):Tri Tryz.prog 63 #[.pointer (some ⟨bC,0,none⟩),.int .i64 n,.slice aL lL capL] I [ch] fun r J S'=>r=.int .i64 (c.putD n l).2∧∃ ch',Ck J bC bV (c.putD n l).1 ch'∧S'=[ch']:=by
  have hll:l.length=lL:=by have:=hL.len; rwa [bts_length] at this
  obtain ⟨slots,hand⟩:=c
  obtain ⟨bS,cs,rfl,rfl,hok,hl1,hl2,hh⟩:=h
  dsimp only at hh ⊢
  refine Tri.lay (ck_lay bC bV bS hand cs []) ?_
  refine Tri.drop ?_ (fun _ _ _ _ h=>h)
  refine Tri.of (args:=[.pointer (some ⟨bC,0,none⟩),.int .i64 n,.slice aL lL capL]) tabOk Tryz.func63 rfl (by kernel_rfl) (by kernel_rfl) ?_
  refine Tri.mono (c_held I bC bV bS hand cs (by omega) [] n) ?_
  unfold CSt.putD
  rintro v J _ hJ ⟨hle,rfl,(⟨hg,rfl⟩ | ⟨i,m,h1,h2,hg,rfl⟩)⟩
  · rw [hg]
    repeat (first | refine CmpD.no (by decide) ?_)
    exact Done.mk ⟨_,ck_drop bC bV bS hand cs [] [],rfl,_,⟨bS,cs,rfl,rfl,hok.mono hle,hl1,hl2,hh⟩,rfl⟩
  rw [hg]
  have hbok:=(hok.mono hle) m (List.mem_of_getElem? h1)
  have hlt:=(List.getElem?_eq_some_iff.1 h1).1
  rw [hll]
  dsimp only
  repeat (first | refine CmpD.yes rfl ?_)
  refine CmpD.split (fun (c1:(lL:Int)=4096)=>?_) (fun (c1:¬ (lL:Int)=4096)=>?_)
  rotate_left
  · rw [if_pos (by omega)]
    skip
    exact Done.mk ⟨_,ck_drop bC bV bS hand cs [] [],rfl,_,⟨bS,cs,rfl,rfl,hok.mono hle,hl1,hl2,hh⟩,rfl⟩
  · rw [if_neg (by omega)]
    have h4:lL=4096:=by omega
    skip
    refine Tri.fixed (clone_bytes J _ aL lL capL (bts l) (by rw [Nat.mul_one]; exact (hL.mono hle).slC) (bts_plain l) (by omega)) ?_
    rintro r _ A' hJ2 ⟨a2,cap2,chB,rfl,hB,rfl,rfl⟩
    refine ⟨3,chB,rfl,fun J3 hJ3 hm=>?_⟩
    have hB3:=Rds.of_own hB hm
    obtain ⟨m',hm'⟩:∃ m':BufM,m'=⟨m.blk,a2,cap2,⟨m.b.n,l,m.b.pins,true,true⟩⟩:=⟨_,rfl⟩
    have hblk:m'.blk=m.blk:=by rw [hm']
    have hlt':i < (cs.set i (some m')).length:=by rw [List.length_set]; exact hlt
    refine StoreD.buf 2 rfl h1 ⟨m.blk,a2,cap2,⟨m.b.n,l,m.b.pins,m.b.dirty,m.b.mark⟩⟩ rfl (by show _=[Value.int .i64 m.b.n,.slice a2 l.length cap2,.int .i64 m.b.pins,.bool m.b.dirty,.bool m.b.mark]; rw [hll]; rfl) rfl ?_
    skip
    refine StoreD.buf (m:=⟨m.blk,a2,cap2,⟨m.b.n,l,m.b.pins,m.b.dirty,m.b.mark⟩⟩) 2 rfl (i:=i) (List.getElem?_set_self hlt) ⟨m.blk,a2,cap2,⟨m.b.n,l,m.b.pins,true,m.b.mark⟩⟩ rfl rfl rfl ?_
    skip
    refine StoreD.buf (m:=⟨m.blk,a2,cap2,⟨m.b.n,l,m.b.pins,true,m.b.mark⟩⟩) 2 rfl (i:=i) (List.getElem?_set_self (by rw [List.length_set]; exact hlt)) ⟨m.blk,a2,cap2,⟨m.b.n,l,m.b.pins,true,true⟩⟩ rfl rfl rfl ?_
    skip
    rw [← hm']
    have hset:sChunk bS (cs.set i (some m'))=sChunk bS cs:=sChunk_same h1 hblk
    have hln:(cs.set i (some m')).length=cs.length:=List.length_set
    have hok3:=(hok.mono (Imm.le_trans hle hJ3)).set i (x:=some m') (fun x hx=>by cases hx; rw [hm']; exact ⟨by show Rds J3 a2 l.length (bts l); rw [hll]; exact hB3,by show l.length≤_; omega,hbok.n,hbok.pins⟩)
    refine Done.mk ⟨[cChunk bC bV bS (cs.set i (some m')).length hand++(sChunk bS (cs.set i (some m'))++bufs (cs.set i (some m')))],⟨[],?_⟩,rfl,_,⟨bS,_,rfl,by rw [slotsOf_set,hm']; rfl,hok3,by rw [hln]; exact hl1,by rw [hln]; exact hl2,by rw [hln]; exact hh⟩,rfl⟩
    rw [hset,hln]
    show (cChunk bC bV bS cs.length hand++(sChunk bS cs++(bufs (((cs.set i _).set i _).set i (some m'))++([]++[])))).Perm _
    rw [List.set_set,List.set_set]
    simp
theorem ck_Drop (h:Ck I bC bV c ch) (n:Int):Tri Tryz.prog 64 #[.pointer (some ⟨bC,0,none⟩),.int .i64 n] I [ch] fun r J S'=>r=.int .i64 (c.drop n).2∧∃ ch',Ck J bC bV (c.drop n).1 ch'∧S'=[ch']:=by
  obtain ⟨slots,hand⟩:=c
  obtain ⟨bS,cs,rfl,rfl,hok,hl1,hl2,hh⟩:=h
  dsimp only at hh ⊢
  refine Tri.lay (ck_lay bC bV bS hand cs []) ?_
  refine Tri.drop ?_ (fun _ _ _ _ h=>h)
  refine Tri.of (args:=[.pointer (some ⟨bC,0,none⟩),.int .i64 n]) tabOk Tryz.func64 rfl (by kernel_rfl) (by kernel_rfl) ?_
  refine Tri.mono (c_held I bC bV bS hand cs (by omega) [] n) ?_
  unfold CSt.drop
  rintro v J _ hJ ⟨hle,rfl,(⟨hg,rfl⟩ | ⟨i,m,h1,h2,hg,rfl⟩)⟩
  · rw [hg]
    repeat (first | refine CmpD.no (by decide) ?_)
    exact Done.mk ⟨_,ck_drop bC bV bS hand cs [] [],rfl,_,⟨bS,cs,rfl,rfl,hok.mono hle,hl1,hl2,hh⟩,rfl⟩
  rw [hg]
  have hmem:=bufs_mem (List.mem_of_getElem? h1)
  have hlt:=(List.getElem?_eq_some_iff.1 h1).1
  dsimp only
  repeat (first | refine CmpD.yes rfl ?_)
  refine LoadD.mem 2 rfl hmem [.int .i64 m.b.pins] rfl rfl ?_
  refine CmpD.split (fun (c1:0 < m.b.pins)=>?_) (fun (c1:¬ 0 < m.b.pins)=>?_)
  · rw [if_pos c1]
    skip
    exact Done.mk ⟨_,ck_drop bC bV bS hand cs [] [],rfl,_,⟨bS,cs,rfl,rfl,hok.mono hle,hl1,hl2,hh⟩,rfl⟩
  rw [if_neg c1]
  have hfi:(slotsOf cs).findIdx? (isN n)=some i:=by
    unfold CSt.got CSt.find at hg
    dsimp only at hg
    cases hf:(slotsOf cs).findIdx? (isN n) with
    | none=>rw [hf] at hg; cases hg
    | some k =>
      rw [hf] at hg
      dsimp only at hg
      split at hg
      · injection hg with hg; injection hg with hg; rw [hg]
      · cases hg
  refine CodeF.sched [[],[0],[0,1],[0,1,2],[],[],[4,5],[0,1,2,3,4,5,6],[0,1,2,3,4,5,6,7]] [0,1,2,3,4,5,6,7,8] (by kernel_rfl) ?_
  refine LoadP.at 0 rfl [.slice (some ⟨bS,0,none⟩) cs.length cs.length] rfl rfl ?_
  refine Tri.mono (c_find J bC bV bS hand cs (by omega) [] n) ?_
  rintro v J2 _ hJ ⟨rfl,hle2,rfl⟩
  rw [hfi]
  refine Chk.mk ⟨rfl,trivial⟩ ?_
  refine Chk.mk (by show 0≤(i:Int)∧(i:Int) < cs.length; omega) ?_
  refine StoreD.slot 1 rfl (i:=i) hlt none (by show 0+((i:Nat):Int).toNat=i; simp) ?_
  obtain ⟨A,B,hb1,hb2,hb3⟩:=bufs_at h1
  have hln:(cs.set i none).length=cs.length:=List.length_set
  refine Done.mk ⟨_,⟨[bufBlk m],?_⟩,rfl,_,⟨bS,cs.set i none,rfl,by rw [slotsOf_set]; rfl,(hok.mono (Imm.le_trans hle hle2)).set i (by simp),by rw [hln]; exact hl1,by rw [hln]; exact hl2,by rw [hln]; exact hh⟩,rfl⟩
  rw [hb3,hln]
  show (cChunk bC bV bS cs.length hand++(sChunk bS (cs.set i none)++(bufs cs++[]))).Perm _
  rw [hb1]
  simp only [List.flatten_cons,List.flatten_nil,List.append_assoc,List.append_nil,List.cons_append]
  refine List.Perm.cons _ (List.Perm.cons _ ?_)
  refine (List.perm_middle (l₁:=A)).trans ?_
  have:=(List.perm_append_singleton (bufBlk m) (A++B)).symm
  simpa only [List.append_assoc,List.nil_append] using this
end
end Go.Proofs.YtegdcjnjnoeinaaGreat
namespace Go.Proofs.YtegdcjnjnoeinaaGreat
open Go.RowKit Go.Sl
set_option maxRecDepth 20000
@[reducible] def ptrM (m:BufM):Value:=.pointer (some ⟨m.blk,0,none⟩)
def KeyLe (x y:BufM):Prop:=x.b.n≤y.b.n
theorem which_cmp (I:Imm) (S:St) (m1 m2:BufM) (cs:List (Option BufM)) (h1:some m1 ∈ cs) (h2:some m2 ∈ cs) (hok:CsOk I cs) (k:Nat) (hk:S[k]?=some (bufs cs)) :
    Tri Tryz.prog 185 #[ptrM m1,ptrM m2] I S fun v J S'=>v=.int .i64 (m1.b.n - m2.b.n)∧I=J∧S'=S:=by
  have b1:=(hok m1 h1).n
  have b2:=(hok m2 h2).n
  refine Tri.of (args:=[ptrM m1,ptrM m2]) tabOk Tryz.func185 rfl (by kernel_rfl) (by kernel_rfl) ?_
  refine CodeF.sched [[],[0],[0,1],[0,1,2],[],[4],[4,5],[4,5,6],[0,1,2,3,4,5,6,7],[0,1,2,3,4,5,6,7,8]] [0,1,2,3,4,5,6,7,8,9] (by kernel_rfl) ?_
  refine LoadP.mem k hk (bufs_mem h1) [.int .i64 m1.b.n] rfl rfl ?_
  refine LoadP.mem k hk (bufs_mem h2) [.int .i64 m2.b.n] rfl rfl ?_
  refine ToD.to (m1.b.n - m2.b.n) (wrap_i64 (by omega) (by omega)) ?_
  exact Done.mk ⟨rfl,rfl,rfl⟩
theorem own_at {pr vs po:List Value} {i:Nat} {v:Value} (h:vs[i]?=some v):((pr++vs++po).drop (pr.length+i)).take 1=[v] :=
  take_get (own_take pr vs po) h
theorem splice_set (pr vs po:List Value) (i:Nat) (v:Value) (h:i < vs.length):splice (pr++vs++po) (pr.length+i) [v]=pr++vs.set i v++po:=by
  rw [splice_mid pr vs po [v] i (by simp; omega),List.set_eq_take_append_cons_drop,if_pos h]
  simp
theorem swap_set {α:Type} (x y:α) (tl:List α):∀ (p:List α),((p++y :: x :: tl).set (p.length+1) y).set p.length x=p++x :: y :: tl
  | []=>rfl
  | a :: p=>by
    have:=swap_set x y tl p
    simp only [List.cons_append,List.length_cons,List.set_cons_succ]
    rw [this]
set_option maxHeartbeats 1000000 in
theorem ins_sort (I:Imm) (cs:List (Option BufM)) (hok:CsOk I cs) (ps:List BufM) (hps:∀ m ∈ ps,some m ∈ cs) (hlen:ps.length≤1000) (ch:List Blk) (a:Option Addr) (cap:Nat) (hown:OwnC ch 1 a ps.length cap (ps.map ptrM)) :
    Tri Tryz.prog 234 #[.slice a ps.length cap,.int .i64 0,.int .i64 ps.length,.func (.func 185) #[] #[]] I [bufs cs,ch] fun _ J S' =>
      I=J∧∃ (ps':List BufM) (ch':List Blk),ps'.Perm ps∧ps'.Pairwise KeyLe∧OwnC ch' 1 a ps.length cap (ps'.map ptrM)∧S'=[bufs cs,ch']:=by
  refine Tri.drop ?_ (fun _ _ _ _ h=>h)
  obtain ⟨len,hln⟩:∃ len,len=ps.length:=⟨_,rfl⟩
  rw [← hln] at hlen hown ⊢
  refine Tri.of (args:=[.slice a len cap,.int .i64 0,.int .i64 len,.func (.func 185) #[] #[]]) tabOk Tryz.func234 rfl (by kernel_rfl) (by kernel_rfl) ?_
  refine ToD.to (1:Int) rfl ?_
  refine CodeF.loopD [0,1,2,3,8] (fun vs J' S'=>∃ (i:Nat) (ps':List BufM) (ch':List Blk),1≤i∧(i≤len∨i=1)∧ps'.Perm ps∧(ps'.take i).Pairwise KeyLe∧OwnC ch' 1 a len cap (ps'.map ptrM)∧I=J' ∧
      vs=[.slice a len cap,.int .i64 0,.int .i64 len,.func (.func 185) #[] #[],.int .i64 i]∧S'=[bufs cs,ch'])
    (fun vs _ _=>match vs with | [_,_,_,_,.int _ i]=>((len:Int) - i).toNat | _=>0) ?_ ?_
  · refine ⟨_,Drop.refl _,1,ps,ch,by omega,.inr rfl,List.Perm.refl _,?_,hown,rfl,rfl,rfl⟩
    cases ps with
    | nil=>simp
    | cons x l=>simp
  clear hown
  rintro vs gE J' S' hJ' ⟨i,ps',ch',hi1,hi2,hperm,hsort,hown,rfl,rfl,rfl⟩
  have hpl:=hperm.length_eq
  refine CmpD.split (fun (c1:(i:Int) < len)=>?_) (fun (c1:¬ (i:Int) < len)=>?_)
  rotate_left
  · rw [List.take_of_length_le (by omega)] at hsort
    exact Done.mk ⟨_,Drop.refl _,rfl,ps',ch',hperm,hsort,hown,rfl⟩
  have hx:ps'[i]?=some (ps'[i]'(by omega)):=List.getElem?_eq_getElem (by omega)
  obtain ⟨x,hx'⟩:∃ x,x=ps'[i]'(by omega):=⟨_,rfl⟩
  rw [← hx'] at hx
  obtain ⟨hsp,_⟩:=split_at hx
  refine CodeF.loopD [0,1,2,3,8,9] (fun vs J' S'=>∃ (j:Nat) (pre mid:List BufM) (ch':List Blk),pre.length=j∧j+mid.length=i∧(pre++x :: (mid++ps'.drop (i+1))).Perm ps∧(pre++mid).Pairwise KeyLe∧(∀ y ∈ mid,KeyLe x y)∧OwnC ch' 1 a len cap ((pre++x :: (mid++ps'.drop (i+1))).map ptrM)∧I=J' ∧
      vs=[.slice a len cap,.int .i64 0,.int .i64 len,.func (.func 185) #[] #[],.int .i64 i,.int .i64 j]∧S'=[bufs cs,ch'])
    (fun vs _ _=>match vs with | [_,_,_,_,_,.int _ j]=>j.toNat | _=>0) ?_ ?_
  · refine ⟨_,Drop.refl _,i,ps'.take i,[],ch',by rw [List.length_take]; omega,by simp,?_,by simpa using hsort,by simp,?_,rfl,rfl,rfl⟩
    · rw [List.nil_append,← hsp]; exact hperm
    · rw [List.nil_append,← hsp]; exact hown
  clear hown hsort
  rintro vs gE J' S' hJ2 ⟨j,pre,mid,ch',rfl,hj2,hperm,hsort,hmid,hown,rfl,rfl,rfl⟩
  obtain ⟨rest,hrest⟩:∃ rest,rest=ps'.drop (i+1):=⟨_,rfl⟩
  rw [← hrest] at hperm hown ⊢
  have hvl:((pre++x :: (mid++rest)).map ptrM).length=len:=by have:=hown.len1; exact this
  rcases hown.at' with q0 | ⟨b,pr,po,T,ha,hch,hpo⟩
  · have:=hown.le; omega
  subst ha hch
  have hcap:=hown.le
  have fin:(pre++x :: mid).Pairwise KeyLe→∃ S0,Drop [bufs cs,[(b,row (pr++(pre++x :: (mid++rest)).map ptrM++po) T)]] S0∧(∃ (i2:Nat) (ps':List BufM) (ch':List Blk),1≤i2∧(i2≤len∨i2=1)∧ps'.Perm ps∧(ps'.take i2).Pairwise KeyLe∧OwnC ch' 1 (some ⟨b,pr.length,none⟩) len cap (ps'.map ptrM)∧I=I ∧
      [.slice (some ⟨b,pr.length,none⟩) len cap,.int .i64 0,.int .i64 len,.func (.func 185) #[] #[],.int .i64 ((i+1:Nat):Int)]=[.slice (some ⟨b,pr.length,none⟩) len cap,.int .i64 0,.int .i64 len,.func (.func 185) #[] #[],Value.int .i64 i2]∧S0=[bufs cs,ch']):=by
    intro hp
    refine ⟨_,Drop.refl _,i+1,pre++x :: (mid++rest),_,by omega,.inl (by omega),hperm,?_,hown,rfl,rfl,rfl⟩
    have:(pre++x :: (mid++rest)).take (i+1)=pre++x :: mid:=by
      have e:pre++x :: (mid++rest)=(pre++x :: mid)++rest:=by simp
      rw [e,List.take_left' (by simp; omega)]
    rw [this]; exact hp
  have mu:((len:Int) - ((i+1:Nat):Int)).toNat < ((len:Int) - (i:Int)).toNat:=by omega
  refine CodeF.sched [[],[],[0,1],[0,1,2],[0,1,2,3],[0,1,2,3],[0,1,2,3],[0,1,2,3,5,6],[0,1,2,3,5,6,7],[0,1,2,3],[0,1,2,3],[0,1,2,3,10],[0,1,2,3,9,10,11],[0,1,2,3,9,10,11,12],[0,1,2,3,4,5,6,7,8,9,10,11,12,13],[0,1,2,3,4,5,6,7,8,9,10,11,12,13,14],[0,1,2,3,4,5,6,7,8,9,10,11,12,13,14,15]] [0,1,2,3,4,5,6,7,8,9,10,11,12,13,14,15,16] (by kernel_rfl) ?_
  refine CmpD.split (fun (c2:(0:Int) < (pre.length:Int))=>?_) (fun (c2:¬ (0:Int) < (pre.length:Int))=>?_)
  rotate_left
  · obtain rfl:pre=[]:=List.length_eq_zero_iff.1 (by omega)
    refine ToD.to (((i+1:Nat)):Int) (by rw [wrap_i64 (by omega) (by omega)]; omega) ?_
    obtain ⟨S0,h1,h2⟩:=fin (by rw [List.nil_append] at hsort ⊢; exact List.pairwise_cons.2 ⟨fun y hy=>hmid y hy,hsort⟩)
    exact ⟨S0,h1,h2,mu⟩
  obtain ⟨pre',y,rfl⟩:∃ pre' y,pre=pre'++[y]:=⟨pre.dropLast,pre.getLast (by intro h; subst h; simp at c2),(List.dropLast_concat_getLast _).symm⟩
  have hpl':(pre'++[y]).length=pre'.length+1:=by simp
  have hx1:((pre'++[y]++x :: (mid++rest)).map ptrM)[pre'.length+1]?=some (ptrM x):=by
    rw [List.getElem?_map,List.getElem?_append_right (by simp)]; simp
  have hy1:((pre'++[y]++x :: (mid++rest)).map ptrM)[pre'.length]?=some (ptrM y):=by
    rw [List.getElem?_map,List.append_assoc,List.getElem?_append_right (by simp)]; simp
  have hxm:some x ∈ cs:=hps x (hperm.mem_iff.1 (by simp))
  have hym:some y ∈ cs:=hps y (hperm.mem_iff.1 (by simp))
  refine Chk.mk (by show 0≤((pre'++[y]).length:Int)∧((pre'++[y]).length:Int) < len; omega) ?_
  refine LoadP.at 1 rfl [ptrM x] (by show ((pr++_++po).drop (pr.length+(((pre'++[y]).length:Nat):Int).toNat)).take 1=_; rw [Int.toNat_natCast,hpl']; exact own_at hx1) rfl ?_
  refine ToD.to (pre'.length:Int) (by rw [hpl',wrap_i64 (by omega) (by omega)]; omega) ?_
  refine Chk.mk (by omega) ?_
  refine LoadP.at 1 rfl [ptrM y] (by show ((pr++_++po).drop (pr.length+((pre'.length:Nat):Int).toNat)).take 1=_; rw [Int.toNat_natCast]; exact own_at hy1) rfl ?_
  refine Tri.mono (which_cmp I _ x y cs hxm hym hok 0 rfl) ?_
  rintro v _ _ hJ ⟨rfl,rfl,rfl⟩
  skip
  refine CmpD.split (fun (c3:x.b.n - y.b.n < 0)=>?_) (fun (c3:¬ x.b.n - y.b.n < 0)=>?_)
  rotate_left
  · refine ToD.to (((i+1:Nat)):Int) (by rw [wrap_i64 (by omega) (by omega)]; omega) ?_
    obtain ⟨S0,h1,h2⟩:=fin (by
      have hyx:KeyLe y x:=by unfold KeyLe; omega
      rw [List.pairwise_append] at hsort ⊢
      obtain ⟨s1,s2,s3⟩:=hsort
      refine ⟨s1,List.pairwise_cons.2 ⟨fun z hz=>hmid z hz,s2⟩,fun u hu z hz=>?_⟩
      rcases List.mem_cons.1 hz with rfl | hz
      · have hle:KeyLe u y:=by
          rw [List.pairwise_append] at s1
          obtain ⟨_,_,s4⟩:=s1
          rcases List.mem_append.1 hu with hu | hu
          · exact s4 u hu y (by simp)
          · simp at hu; subst hu; exact Int.le_refl _
        exact Int.le_trans hle hyx
      · exact s3 u hu z hz)
    exact ⟨S0,h1,h2,mu⟩
  refine CodeF.sched [[],[],[],[],[3],[],[],[6],[5,6,7],[5,6,7,8],[],[],[10,11],[10,11,12],[0,1,5,6,7,8,9,10,11,12,13],[0,1,5,6,7,8,9,10,11,12,13,14],[0,1,2,3,4,5,6,7,8,9,10,11,12,13,14,15],[0,1,2,3,4,5,6,7,8,9,10,11,12,13,14,15,16]] [0,1,2,3,4,5,6,7,8,9,10,11,12,13,14,15,16,17] (by kernel_rfl) ?_
  have off1:∀ {vs:List Value} {v:Value} {n:Nat},vs[n]?=some v→((pr++vs++po).drop (pr.length+((n:Nat):Int).toNat)).take 1=[v]:=fun h=>by rw [Int.toNat_natCast]; exact own_at h
  have hbig:(pr++(pre'++[y]++x :: (mid++rest)).map ptrM++po).length=pr.length+len+po.length:=by rw [List.length_append,List.length_append,hvl]
  have hbig2:(pr++((pre'++[y]++x :: (mid++rest)).map ptrM).set (pre'.length+1) (ptrM y)++po).length=pr.length+len+po.length:=by rw [List.length_append,List.length_append,List.length_set,hvl]
  refine ToD.to (pre'.length:Int) (by rw [hpl',wrap_i64 (by omega) (by omega)]; omega) ?_
  refine ToD.to (pre'.length:Int) (by rw [hpl',wrap_i64 (by omega) (by omega)]; omega) ?_
  refine Chk.mk (by omega) ?_
  refine LoadP.at 1 rfl [ptrM y] (off1 hy1) rfl ?_
  refine Chk.mk (by show 0≤((pre'++[y]).length:Int)∧((pre'++[y]).length:Int) < len; omega) ?_
  refine LoadP.at 1 rfl [ptrM x] (off1 (by rw [hpl']; exact hx1)) rfl ?_
  refine Chk.mk (by show 0≤((pre'++[y]).length:Int)∧((pre'++[y]).length:Int) < len; omega) ?_
  refine StoreD.to 1 rfl (pr++((pre'++[y]++x :: (mid++rest)).map ptrM).set (pre'.length+1) (ptrM y)++po) (by show splice _ (pr.length+(((pre'++[y]).length:Nat):Int).toNat) _=_; rw [Int.toNat_natCast,hpl']; exact splice_set pr _ po _ _ (by rw [hvl]; omega)) (by show pr.length+(((pre'++[y]).length:Nat):Int).toNat+1≤_; rw [Int.toNat_natCast,hbig]; omega) (.inr (.inr (Nat.le_refl _))) _ rfl ?_
  skip
  refine Chk.mk (by omega) ?_
  refine StoreD.to 1 rfl (pr++(((pre'++[y]++x :: (mid++rest)).map ptrM).set (pre'.length+1) (ptrM y)).set pre'.length (ptrM x)++po) (by show splice _ (pr.length+((pre'.length:Nat):Int).toNat) _=_; rw [Int.toNat_natCast]; exact splice_set pr _ po _ _ (by rw [List.length_set,hvl]; omega)) (by show pr.length+((pre'.length:Nat):Int).toNat+1≤_; rw [Int.toNat_natCast,hbig2]; omega) (.inr (.inr (Nat.le_refl _))) _ rfl ?_
  have hsw:(((pre'++[y]++x :: (mid++rest)).map ptrM).set (pre'.length+1) (ptrM y)).set pre'.length (ptrM x)=(pre'++x :: (y :: mid++rest)).map ptrM:=by
    have:=swap_set (ptrM x) (ptrM y) ((mid++rest).map ptrM) (pre'.map ptrM)
    rw [List.length_map] at this
    simp only [List.map_append,List.map_cons,List.append_assoc,List.cons_append,List.nil_append] at this ⊢
    exact this
  rw [hsw]
  skip
  refine ToD.to (pre'.length:Int) (by rw [hpl',wrap_i64 (by omega) (by omega)]; omega) ?_
  have hxy:KeyLe x y:=by unfold KeyLe; omega
  have hperm':(pre'++x :: (y :: mid++rest)).Perm ps:=by
    refine List.Perm.trans ?_ hperm
    have e:pre'++[y]++x :: (mid++rest)=pre'++(y :: x :: (mid++rest)):=by simp
    rw [e]
    exact List.Perm.append_left _ (List.Perm.swap _ _ _)
  refine ⟨_,Drop.refl _,⟨pre'.length,pre',y :: mid,_,rfl,by rw [hpl'] at hj2; simp; omega,hperm',by simpa using hsort,fun z hz=>?_,⟨by rw [List.length_map,Nat.mul_one,hperm'.length_eq,← hln],hown.le,.inr ⟨b,pr,po,T,rfl,rfl,hpo⟩⟩,rfl,rfl,rfl⟩,?_⟩
  · rcases List.mem_cons.1 hz with rfl | hz
    · exact hxy
    · exact hmid z hz
  · show ((pre'.length:Nat):Int).toNat < (((pre'++[y]).length:Nat):Int).toNat
    rw [hpl']; omega
end Go.Proofs.YtegdcjnjnoeinaaGreat
namespace Go.Proofs.YtegdcjnjnoeinaaGreat
open Go.RowKit Go.Sl
set_option maxRecDepth 20000
theorem bits_Len64 (n:Nat) (hn:n < 256) (I:Imm) (S:St):Tri Tryz.prog 224 #[.int .u64 n] I S fun v J S'=>(∃ k:Int,v=.int .i64 k)∧I=J∧S'=S:=by
  refine Tri.of (args:=[.int .u64 n]) tabOk Tryz.func224 rfl (by kernel_rfl) (by kernel_rfl) ?_
  refine CmpD.no (by omega) ?_
  refine CmpD.no (by omega) ?_
  refine CmpD.no (by omega) ?_
  refine ToD.to (n:Int) (by rw [wrap_u rfl (by omega) (by show (n:Int) < 256; omega)]) ?_
  refine indexStrD tabOk rfl rfl rfl rfl (by show n < 256; exact hn) ?_
  intro b hb
  have hb2:=b.toNat_lt
  refine ToD.to (b.toNat:Int) (wrap_i64 (by omega) (by omega)) ?_
  refine ToD.to (0+(b.toNat:Int)) (wrap_i64 (by omega) (by omega)) ?_
  exact Done.mk ⟨⟨_,rfl⟩,rfl,rfl⟩
theorem bits_Len (n:Nat) (hn:n < 256) (I:Imm) (S:St):Tri Tryz.prog 196 #[.int .u64 n] I S fun v J S'=>(∃ k:Int,v=.int .i64 k)∧I=J∧S'=S:=by
  refine Tri.of (args:=[.int .u64 n]) tabOk Tryz.func196 rfl (by kernel_rfl) (by kernel_rfl) ?_
  refine Tri.mono (bits_Len64 n hn I S) ?_
  rintro v _ _ hJ ⟨⟨k,rfl⟩,rfl,rfl⟩
  exact Done.mk ⟨⟨_,rfl⟩,rfl,rfl⟩
section
variable (I:Imm) (cs:List (Option BufM)) (hok:CsOk I cs) (ps:List BufM) (hps:∀ m ∈ ps,some m ∈ cs) (hlen:ps.length≤12) (ch:List Blk) (a:Option Addr) (cap:Nat) (hown:OwnC ch 1 a ps.length cap (ps.map ptrM))
include hok hps hlen hown
theorem pdq_few (k : Int) : Tri Tryz.prog 205 #[.slice a ps.length cap, .int .i64 0, .int .i64 ps.length, .int .i64 k, .func (.func 185) #[] #[]] I [bufs cs, ch] fun _ J S' =>
      I=J∧∃ (ps':List BufM) (ch':List Blk),ps'.Perm ps∧ps'.Pairwise KeyLe∧OwnC ch' 1 a ps.length cap (ps'.map ptrM)∧S'=[bufs cs,ch']:=by
  refine Tri.of (args:=[.slice a ps.length cap,.int .i64 0,.int .i64 ps.length,.int .i64 k,.func (.func 185) #[] #[]]) tabOk Tryz.func205 rfl (by kernel_rfl) (by kernel_rfl) ?_
  refine CodeF.loopD [0,1,2,3,4] (fun vs J' S'=>vs=[.slice a ps.length cap,.int .i64 0,.int .i64 ps.length,.int .i64 k,.func (.func 185) #[] #[]]∧I=J'∧S'=[bufs cs,ch]) (fun _ _ _=>0) ?_ ?_
  · exact ⟨_,Drop.refl _,rfl,rfl,rfl⟩
  rintro vs gE J' S' hJ' ⟨rfl,rfl,rfl⟩
  refine ToD.to (ps.length:Int) (by rw [wrap_i64 (by omega) (by omega)]; omega) ?_
  refine CmpD.yes (by omega) ?_
  refine Tri.mono (ins_sort I cs hok ps hps (by omega) ch a cap hown) ?_
  rintro v _ _ hJ ⟨rfl,ps',ch',h1,h2,h3,rfl⟩
  exact Done.mk ⟨rfl,ps',ch',h1,h2,h3,rfl⟩
theorem sort_func : Tri Tryz.prog 184 #[.slice a ps.length cap, .func (.func 185) #[] #[]] I [bufs cs, ch] fun _ J S' =>
      I=J∧∃ (ps':List BufM) (ch':List Blk),ps'.Perm ps∧ps'.Pairwise KeyLe∧OwnC ch' 1 a ps.length cap (ps'.map ptrM)∧S'=[bufs cs,ch']:=by
  refine Tri.of (args:=[.slice a ps.length cap,.func (.func 185) #[] #[]]) tabOk Tryz.func184 rfl (by kernel_rfl) (by kernel_rfl) ?_
  refine ToD.to (ps.length:Int) (by rw [wrap_u rfl (by omega) (by show (ps.length:Int) < 18446744073709551616; omega)]) ?_
  refine Tri.mono (bits_Len ps.length (by omega) I _) ?_
  rintro v _ _ hJ ⟨⟨k,rfl⟩,rfl,rfl⟩
  refine Tri.mono (pdq_few I cs hok ps hps hlen ch a cap hown k) ?_
  rintro v _ _ hJ ⟨rfl,ps',ch',h1,h2,h3,rfl⟩
  exact Done.mk ⟨rfl,ps',ch',h1,h2,h3,rfl⟩
end
end Go.Proofs.YtegdcjnjnoeinaaGreat
namespace Go.Proofs.YtegdcjnjnoeinaaGreat
open Go.RowKit Go.Sl
set_option maxRecDepth 20000
def heldM (cs:List (Option BufM)):List BufM:=cs.filterMap id
theorem heldM_mem {cs:List (Option BufM)} {m:BufM}:m ∈ heldM cs↔some m ∈ cs:=by simp [heldM]
theorem heldM_len (cs:List (Option BufM)):(heldM cs).length≤cs.length:=List.length_filterMap_le ..
theorem heldM_take {cs:List (Option BufM)} {i:Nat} {x:Option BufM} (h:cs[i]?=some x):heldM (cs.take (i+1))=heldM (cs.take i)++x.toList:=by
  unfold heldM
  rw [List.take_add_one,h,List.filterMap_append]
  cases x <;> rfl
def CSt.held (c:CSt):List Buf:=c.slots.filterMap id
theorem heldM_b (cs:List (Option BufM)) (hand:Nat):(heldM cs).map BufM.b=CSt.held ⟨slotsOf cs,hand⟩:=by
  unfold heldM CSt.held slotsOf
  rw [List.map_filterMap,List.filterMap_map]
  rfl
def CSt.which (c:CSt) (p:Buf→Bool):List Int:=sortI ((c.held.filter p).map Buf.n)
theorem sorted_nums {cs:List (Option BufM)} {hand:Nat} {p:Buf→Bool} {ps:List BufM} (hp:ps.Perm ((heldM cs).filter fun m=>p m.b)) (hs:ps.Pairwise KeyLe):ps.map (fun m=>m.b.n)=CSt.which ⟨slotsOf cs,hand⟩ p:=by
  unfold CSt.which
  rw [← heldM_b,List.filter_map]
  have e:(((heldM cs).filter (p ∘ BufM.b)).map BufM.b).map Buf.n=((heldM cs).filter fun m=>p m.b).map fun m=>m.b.n:=by rw [List.map_map]; rfl
  rw [e]
  refine List.Perm.eq_of_pairwise (le:=fun a b=>a≤b) (fun _ _ _ _ h1 h2=>Int.le_antisymm h1 h2) ?_ (sortI_le _) ((hp.map _).trans (sortI_perm _).symm)
  exact List.pairwise_map.2 hs
section
variable (I:Imm)
set_option maxHeartbeats 1000000 in
theorem c_which (bC bV bS hand:Nat) (cs:List (Option BufM)) (hl:cs.length≤12) (hok:CsOk I cs) (g:FuncId) (p:Buf→Bool)
    (hg:∀ (S:St) (k:Nat) (m:BufM),S[k]?=some (bufs cs)→some m ∈ cs→Tri Tryz.prog g #[ptrM m] I S fun v J S'=>v=.bool (p m.b)∧I=J∧S'=S) :
    Tri Tryz.prog 131 #[.pointer (some ⟨bC,0,none⟩),.func (.func g) #[] #[]] I [cChunk bC bV bS cs.length hand,sChunk bS cs,bufs cs] fun v J S' =>
      I=J∧∃ (ps:List BufM) (a:Option Addr) (cap:Nat) (ch:List Blk),v=.slice a ps.length cap∧OwnC ch 1 a ps.length cap (ps.map ptrM)∧ps.Perm ((heldM cs).filter fun m=>p m.b)∧ps.Pairwise KeyLe∧S'=[cChunk bC bV bS cs.length hand,sChunk bS cs,bufs cs,ch]:=by
  refine Tri.drop ?_ (fun _ _ _ _ h=>h)
  obtain ⟨n,hn⟩:∃ n,n=cs.length:=⟨_,rfl⟩
  rw [← hn] at hl ⊢
  refine Tri.of (args:=[.pointer (some ⟨bC,0,none⟩),.func (.func g) #[] #[]]) tabOk Tryz.func131 rfl (by kernel_rfl) (by kernel_rfl) ?_
  refine Tri.mono (c_none I bC bV bS n hand _ 0 rfl) ?_
  rintro v _ _ hJ ⟨rfl,rfl,rfl⟩
  refine LoadD.own 0 rfl [.slice (some ⟨bS,0,none⟩) n n] rfl rfl ?_
  refine CodeF.loopD [1,5,13,14,15] (fun vs J' S'=>∃ (i:Nat) (a:Option Addr) (cap:Nat) (ch:List Blk),i≤n∧OwnC ch 1 a ((heldM (cs.take i)).filter fun m=>p m.b).length cap (((heldM (cs.take i)).filter fun m=>p m.b).map ptrM)∧I=J' ∧
      vs=[.func (.func g) #[] #[],.slice a ((heldM (cs.take i)).filter fun m=>p m.b).length cap,.slice (some ⟨bS,0,none⟩) n n,.int .i64 n,.int .i64 i]∧S'=[cChunk bC bV bS n hand,sChunk bS cs,bufs cs,ch])
    (fun vs _ _=>match vs with | [_,_,_,_,.int _ i]=>((n:Int) - i).toNat | _=>0) ?_ ?_
  · exact ⟨_,Drop.and (Drop.refl _),0,none,0,[],by omega,OwnC.nil _ _,rfl,rfl,rfl⟩
  rintro vs gE J' S' hJ' ⟨i,a,cap,ch,hi,hown,rfl,rfl,rfl⟩
  refine CmpD.split (fun (c1:(i:Int) < n)=>?_) (fun (c1:¬ (i:Int) < n)=>?_)
  · obtain ⟨x,hx⟩:∃ x,cs[i]?=some x:=⟨_,List.getElem?_eq_getElem (by omega)⟩
    have htk:=heldM_take hx
    have hcell:(cs.map ptrB)[i]?=some (ptrB x):=by rw [List.getElem?_map,hx]; rfl
    have mu:((n:Int) - ((i+1:Nat):Int)).toNat < ((n:Int) - (i:Int)).toNat:=by omega
    refine Chk.mk (by omega) ?_
    refine LoadD.own 1 rfl [ptrB x] (take_get (c:=cs.map ptrB) (off:=0) (n:=n) (by rw [List.drop_zero,List.take_of_length_le (by simp; omega)]) (by simpa using hcell)) rfl ?_
    have same:((heldM (cs.take (i+1))).filter fun m=>p m.b)=((heldM (cs.take i)).filter fun m=>p m.b)→∃ S0,Drop [cChunk bC bV bS n hand,sChunk bS cs,bufs cs,ch] S0∧(∃ (i2:Nat) (a2:Option Addr) (cap2:Nat) (ch2:List Blk),i2≤n∧OwnC ch2 1 a2 ((heldM (cs.take i2)).filter fun m=>p m.b).length cap2 (((heldM (cs.take i2)).filter fun m=>p m.b).map ptrM)∧I=I ∧
      [.func (.func g) #[] #[],.slice a ((heldM (cs.take i)).filter fun m=>p m.b).length cap,.slice (some ⟨bS,0,none⟩) n n,.int .i64 n,.int .i64 ((i+1:Nat):Int)]=[.func (.func g) #[] #[],.slice a2 ((heldM (cs.take i2)).filter fun m=>p m.b).length cap2,.slice (some ⟨bS,0,none⟩) n n,.int .i64 n,Value.int .i64 i2]∧S0=[cChunk bC bV bS n hand,sChunk bS cs,bufs cs,ch2]):=fun h =>
      ⟨_,Drop.refl _,i+1,a,cap,ch,by omega,by rw [h]; exact hown,rfl,by rw [h],rfl⟩
    cases x with
    | none =>
      refine ToD.to (((i+1:Nat)):Int) (by rw [wrap_i64 (by omega) (by omega)]; omega) ?_
      obtain ⟨S0,h1,h2⟩:=same (by rw [htk]; simp)
      exact ⟨S0,h1,h2,mu⟩
    | some m =>
      have hm:some m ∈ cs:=List.mem_of_getElem? hx
      refine Tri.mono (hg _ 2 m rfl hm) ?_
      rintro v _ _ hJ ⟨rfl,rfl,rfl⟩
      cases hp:p m.b
      · refine ToD.to (((i+1:Nat)):Int) (by rw [wrap_i64 (by omega) (by omega)]; omega) ?_
        obtain ⟨S0,h1,h2⟩:=same (by rw [htk]; simp [hp])
        exact ⟨S0,h1,h2,mu⟩
      · conv=>whnf
        intro bN
        have hll:((heldM (cs.take i)).filter fun m=>p m.b).length≤12:=by
          have h1:=List.length_filter_le (fun m:BufM=>p m.b) (heldM (cs.take i))
          have h2:=heldM_len (cs.take i)
          have h3:(cs.take i).length≤12:=by rw [List.length_take]; omega
          omega
        refine appendD tabOk rfl rfl rfl rfl rfl rfl rfl 3 rfl hown (SrcOk.slice (n:=1) (news:=[ptrM m]) tabOk rfl ((OwnC.whole (len:=1) (size:=1) rfl).slC 4 rfl) (by intro v hv; simp at hv; subst hv; rfl)) rfl (by show (_+1) * 8≤_; omega) (by omega) ?_
        intro a2 cap2 ch2 hown2
        have e:((heldM (cs.take (i+1))).filter fun m=>p m.b)=((heldM (cs.take i)).filter fun m=>p m.b)++[m]:=by rw [htk,List.filter_append]; simp [hp]
        refine ToD.to (((i+1:Nat)):Int) (by rw [wrap_i64 (by omega) (by omega)]; omega) ?_
        refine ⟨_,Drop.pick [0,1,2,3] _ rfl,⟨i+1,a2,cap2,ch2,by omega,by rw [e,List.map_append,List.length_append]; exact hown2,rfl,by rw [e,List.length_append]; rfl,rfl⟩,mu⟩
  · rw [List.take_of_length_le (by omega)] at hown ⊢
    have hlen:((heldM cs).filter fun m=>p m.b).length≤12:=by
      have h1:=List.length_filter_le (fun m:BufM=>p m.b) (heldM cs)
      have h2:=heldM_len cs
      omega
    refine Tri.frame (sort_func I cs hok _ (fun m hm=>heldM_mem.1 ((List.mem_filter.1 hm).1)) hlen ch a cap hown) [2,3] rfl rfl ?_
    rintro v _ A' hJ ⟨rfl,ps',ch',h1,h2,h3,rfl⟩
    refine ⟨Nat.le_refl _,?_⟩
    refine Done.mk ⟨_,Drop.refl _,rfl,ps',a,cap,ch',by rw [h1.length_eq]; rfl,by rw [h1.length_eq]; exact h3,h1,h2,rfl⟩
theorem c_numbers (cs:List (Option BufM)) (ps:List BufM) (hps:∀ m ∈ ps,some m ∈ cs) (hlen:ps.length≤1000) (S:St) (k:Nat) (hk:S[k]?=some (bufs cs)) (a:Option Addr) (cap:Nat) (hs:SlC I S a ps.length (ps.map ptrM)) :
    Tri Tryz.prog 134 #[.slice a ps.length cap] I S fun v J S'=>I=J∧∃ (a':Option Addr) (cap':Nat) (ch:List Blk),v=.slice a' ps.length cap'∧OwnC ch 1 a' ps.length cap' (ints (ps.map fun m=>m.b.n))∧S'=S++[ch]:=by
  refine Tri.drop ?_ (fun _ _ _ _ h=>h)
  obtain ⟨n,hn⟩:∃ n,n=ps.length:=⟨_,rfl⟩
  rw [← hn] at hlen hs ⊢
  refine Tri.of (args:=[.slice a n cap]) tabOk Tryz.func134 rfl (by kernel_rfl) (by kernel_rfl) ?_
  refine CodeF.loopD [3,6,7,8] (fun vs J' S'=>∃ (i:Nat) (a':Option Addr) (cap':Nat) (ch:List Blk),i≤n∧OwnC ch 1 a' i cap' (ints ((ps.take i).map fun m=>m.b.n))∧I=J'∧vs=[.slice a' i cap',.slice a n cap,.int .i64 n,.int .i64 i]∧S'=S++[ch])
    (fun vs _ _=>match vs with | [_,_,_,.int _ i]=>((n:Int) - i).toNat | _=>0) ?_ ?_
  · exact ⟨_,Drop.and (Drop.refl _),0,none,0,[],by omega,OwnC.nil _ _,rfl,rfl,rfl⟩
  rintro vs gE J' S' hJ' ⟨i,a',cap',ch,hi,hown,rfl,rfl,rfl⟩
  refine CmpD.split (fun (c1:(i:Int) < n)=>?_) (fun (c1:¬ (i:Int) < n)=>?_)
  · obtain ⟨m,hm⟩:∃ m,ps[i]?=some m:=⟨_,List.getElem?_eq_getElem (by omega)⟩
    have hmc:=hps m (List.mem_of_getElem? hm)
    have hs2:=hs.more ch
    obtain ⟨b,off,rfl,hc⟩:=hs2.cells (by omega)
    have hk2:(S++[ch])[k]?=some (bufs cs):=by rw [List.getElem?_append_left (List.getElem?_eq_some_iff.1 hk).1]; exact hk
    refine Chk.mk (by omega) ?_
    refine LoadD.mk [ptrM m] (hc.at (by rw [Int.toNat_natCast,List.getElem?_map,hm]; rfl)) ?_
    refine LoadD.mem k hk2 (bufs_mem hmc) [.int .i64 m.b.n] rfl rfl ?_
    conv=>whnf
    intro bN
    refine appendD tabOk rfl rfl rfl rfl rfl rfl rfl S.length (by simp) hown (SrcOk.slice (n:=1) (news:=[.int .i64 m.b.n]) tabOk rfl ((OwnC.whole (len:=1) (size:=1) rfl).slC (S.length+1) (two_get1 S _ _)) (by intro v hv; simp at hv; subst hv; rfl)) rfl (by show (i+1) * 8≤_; omega) (by omega) ?_
    intro a2 cap2 ch2 hown2
    rw [two_set]
    refine ToD.to (((i+1:Nat)):Int) (by rw [wrap_i64 (by omega) (by omega)]; omega) ?_
    refine ⟨_,Drop.init _ _,⟨i+1,a2,cap2,ch2,by omega,?_,rfl,rfl,rfl⟩,?_⟩
    · have e:ints ((ps.take (i+1)).map fun m=>m.b.n)=ints ((ps.take i).map fun m=>m.b.n)++[.int .i64 m.b.n]:=by rw [List.take_add_one,hm]; simp [ints]
      rw [e]; exact hown2
    · show ((n:Int) - ((i+1:Nat):Int)).toNat < ((n:Int) - (i:Int)).toNat; omega
  · obtain rfl:i=n:=by omega
    rw [List.take_of_length_le (by omega)] at hown
    exact Done.mk ⟨_,Drop.refl _,rfl,a',cap',ch,rfl,hown,rfl⟩
end
end Go.Proofs.YtegdcjnjnoeinaaGreat
namespace Go.Proofs.YtegdcjnjnoeinaaGreat
open Go.RowKit Go.Sl
set_option maxRecDepth 20000
section
variable (I:Imm)
theorem w_dirty (cs:List (Option BufM)) (S:St) (k:Nat) (m:BufM) (hk:S[k]?=some (bufs cs)) (hm:some m ∈ cs):Tri Tryz.prog 132 #[ptrM m] I S fun v J S'=>v=.bool m.b.dirty∧I=J∧S'=S:=by
  refine Tri.of (args:=[ptrM m]) tabOk Tryz.func132 rfl (by kernel_rfl) (by kernel_rfl) ?_
  refine LoadD.mem k hk (bufs_mem hm) [.bool m.b.dirty] rfl rfl ?_
  exact Done.mk ⟨rfl,rfl,rfl⟩
theorem w_held (S:St) (m:BufM):Tri Tryz.prog 136 #[ptrM m] I S fun v J S'=>v=.bool true∧I=J∧S'=S:=by
  refine Tri.of (args:=[ptrM m]) tabOk Tryz.func136 rfl (by kernel_rfl) (by kernel_rfl) ?_
  exact Done.mk ⟨rfl,rfl,rfl⟩
theorem w_pinned (cs:List (Option BufM)) (S:St) (k:Nat) (m:BufM) (hk:S[k]?=some (bufs cs)) (hm:some m ∈ cs):Tri Tryz.prog 135 #[ptrM m] I S fun v J S'=>v=.bool (decide (0 < m.b.pins))∧I=J∧S'=S:=by
  refine Tri.of (args:=[ptrM m]) tabOk Tryz.func135 rfl (by kernel_rfl) (by kernel_rfl) ?_
  refine LoadD.mem k hk (bufs_mem hm) [.int .i64 m.b.pins] rfl rfl ?_
  refine CmpD.split (fun (c:0 < m.b.pins)=>?_) (fun (c:¬ 0 < m.b.pins)=>?_)
  · exact Done.mk ⟨by rw [decide_eq_true c]; rfl,rfl,rfl⟩
  · exact Done.mk ⟨by rw [decide_eq_false c]; rfl,rfl,rfl⟩
end
theorem ck_drop4 (bC bV bS hand:Nat) (cs:List (Option BufM)) (x:List Blk):Drop (St.at [cChunk bC bV bS cs.length hand,sChunk bS cs,bufs cs,x] [0,1,2,3]) [cChunk bC bV bS cs.length hand++(sChunk bS cs++bufs cs),x]:=⟨[],by simp [St.at]⟩
section
variable {I:Imm} {bC bV:Nat} {c:CSt} {ch:List Blk}
def WhichQ (J:Imm) (c:CSt) (p:Buf→Bool) (I:Imm) (ch:List Blk) (r:Value) (S':St):Prop:=I=J∧∃ (a:Option Addr) (cap:Nat) (chO:List Blk),r=.slice a (c.which p).length cap∧OwnC chO 1 a (c.which p).length cap (ints (c.which p))∧S'=[ch,chO]
theorem ck_Held (h:Ck I bC bV c ch) (hl:c.slots.length≤12):Tri Tryz.prog 70 #[.pointer (some ⟨bC,0,none⟩)] I [ch] fun r J S'=>WhichQ J c (fun _=>true) I ch r S':=by
  obtain ⟨slots,hand⟩:=c
  obtain ⟨bS,cs,rfl,rfl,hok,hl1,hl2,hh⟩:=h
  dsimp only at hh hl ⊢
  rw [slotsOf_len] at hl
  refine Tri.lay (ck_lay bC bV bS hand cs []) ?_
  refine Tri.drop ?_ (fun _ _ _ _ h=>h)
  refine Tri.of (args:=[.pointer (some ⟨bC,0,none⟩)]) tabOk Tryz.func70 rfl (by kernel_rfl) (by kernel_rfl) ?_
  refine Tri.mono (c_which I bC bV bS hand cs hl hok _ (fun _=>true) (fun S k m _ _=>w_held I S m)) ?_
  rintro v _ _ hJ ⟨rfl,ps,a,cap,chP,rfl,hown,hperm,hsort,rfl⟩
  have hps:∀ m ∈ ps,some m ∈ cs:=fun m hm=>heldM_mem.1 (List.mem_filter.1 (hperm.mem_iff.1 hm)).1
  have hpl:ps.length≤1000:=by
    have h1:=hperm.length_eq
    have h2:ps.length≤(heldM cs).length:=by rw [h1]; exact List.length_filter_le ..
    have h3:=heldM_len cs
    omega
  refine Tri.mono (c_numbers I cs ps hps hpl _ 2 rfl a cap (hown.slC1 3 rfl)) ?_
  rintro v _ _ hJ ⟨rfl,a',cap',ch',rfl,hown',rfl⟩
  have hnum:=sorted_nums (hand:=hand) (p:=fun _=>true) hperm hsort
  have hnl:ps.length=(CSt.which ⟨slotsOf cs,hand⟩ (fun _=>true)).length:=by rw [← hnum,List.length_map]
  rw [hnum] at hown'
  rw [hnl] at hown' ⊢
  exact Done.mk ⟨_,Drop.trans (Drop.pick [0,1,2,4] _ rfl) (ck_drop4 bC bV bS hand cs ch'),rfl,a',cap',ch',rfl,hown',rfl⟩
theorem ck_Dirty (h:Ck I bC bV c ch) (hl:c.slots.length≤12):Tri Tryz.prog 69 #[.pointer (some ⟨bC,0,none⟩)] I [ch] fun r J S'=>WhichQ J c Buf.dirty I ch r S':=by
  obtain ⟨slots,hand⟩:=c
  obtain ⟨bS,cs,rfl,rfl,hok,hl1,hl2,hh⟩:=h
  dsimp only at hh hl ⊢
  rw [slotsOf_len] at hl
  refine Tri.lay (ck_lay bC bV bS hand cs []) ?_
  refine Tri.drop ?_ (fun _ _ _ _ h=>h)
  refine Tri.of (args:=[.pointer (some ⟨bC,0,none⟩)]) tabOk Tryz.func69 rfl (by kernel_rfl) (by kernel_rfl) ?_
  refine Tri.mono (c_which I bC bV bS hand cs hl hok _ Buf.dirty (fun S k m hk hm=>w_dirty I cs S k m hk hm)) ?_
  rintro v _ _ hJ ⟨rfl,ps,a,cap,chP,rfl,hown,hperm,hsort,rfl⟩
  have hps:∀ m ∈ ps,some m ∈ cs:=fun m hm=>heldM_mem.1 (List.mem_filter.1 (hperm.mem_iff.1 hm)).1
  have hpl:ps.length≤1000:=by
    have h1:=hperm.length_eq
    have h2:ps.length≤(heldM cs).length:=by rw [h1]; exact List.length_filter_le ..
    have h3:=heldM_len cs
    omega
  refine Tri.mono (c_numbers I cs ps hps hpl _ 2 rfl a cap (hown.slC1 3 rfl)) ?_
  rintro v _ _ hJ ⟨rfl,a',cap',ch',rfl,hown',rfl⟩
  have hnum:=sorted_nums (hand:=hand) (p:=Buf.dirty) hperm hsort
  have hnl:ps.length=(CSt.which ⟨slotsOf cs,hand⟩ Buf.dirty).length:=by rw [← hnum,List.length_map]
  rw [hnum] at hown'
  rw [hnl] at hown' ⊢
  exact Done.mk ⟨_,Drop.trans (Drop.pick [0,1,2,4] _ rfl) (ck_drop4 bC bV bS hand cs ch'),rfl,a',cap',ch',rfl,hown',rfl⟩
theorem ck_Pinned (h:Ck I bC bV c ch) (hl:c.slots.length≤12):Tri Tryz.prog 68 #[.pointer (some ⟨bC,0,none⟩)] I [ch] fun r J S'=>WhichQ J c (fun b=>decide (0 < b.pins)) I ch r S':=by
  obtain ⟨slots,hand⟩:=c
  obtain ⟨bS,cs,rfl,rfl,hok,hl1,hl2,hh⟩:=h
  dsimp only at hh hl ⊢
  rw [slotsOf_len] at hl
  refine Tri.lay (ck_lay bC bV bS hand cs []) ?_
  refine Tri.drop ?_ (fun _ _ _ _ h=>h)
  refine Tri.of (args:=[.pointer (some ⟨bC,0,none⟩)]) tabOk Tryz.func68 rfl (by kernel_rfl) (by kernel_rfl) ?_
  refine Tri.mono (c_which I bC bV bS hand cs hl hok _ (fun b=>decide (0 < b.pins)) (fun S k m hk hm=>w_pinned I cs S k m hk hm)) ?_
  rintro v _ _ hJ ⟨rfl,ps,a,cap,chP,rfl,hown,hperm,hsort,rfl⟩
  have hps:∀ m ∈ ps,some m ∈ cs:=fun m hm=>heldM_mem.1 (List.mem_filter.1 (hperm.mem_iff.1 hm)).1
  have hpl:ps.length≤1000:=by
    have h1:=hperm.length_eq
    have h2:ps.length≤(heldM cs).length:=by rw [h1]; exact List.length_filter_le ..
    have h3:=heldM_len cs
    omega
  refine Tri.mono (c_numbers I cs ps hps hpl _ 2 rfl a cap (hown.slC1 3 rfl)) ?_
  rintro v _ _ hJ ⟨rfl,a',cap',ch',rfl,hown',rfl⟩
  have hnum:=sorted_nums (hand:=hand) (p:=fun b=>decide (0 < b.pins)) hperm hsort
  have hnl:ps.length=(CSt.which ⟨slotsOf cs,hand⟩ (fun b=>decide (0 < b.pins))).length:=by rw [← hnum,List.length_map]
  rw [hnum] at hown'
  rw [hnl] at hown' ⊢
  exact Done.mk ⟨_,Drop.trans (Drop.pick [0,1,2,4] _ rfl) (ck_drop4 bC bV bS hand cs ch'),rfl,a',cap',ch',rfl,hown',rfl⟩
end
end Go.Proofs.YtegdcjnjnoeinaaGreat
namespace Go.Proofs.YtegdcjnjnoeinaaGreat
open Go.RowKit Go.Sl
set_option maxRecDepth 20000
def CSt.load (c:CSt) (v:VSt) (d:DSt) (n:Int):CSt × Dat × Int:=match c.got n with
  | some (i,b)=>(c.put i { b with mark:=true },b.data,0)
  | none=>if (v.read d n).2≠0 then (c,[],(v.read d n).2) else match c.room.2 with
    | some i=>(⟨c.room.1.slots.set i (some ⟨n,(v.read d n).1,0,false,true⟩),c.room.1.hand⟩,(v.read d n).1,0)
    | none=>(c.room.1,[],130)
theorem drop_new {c s b1 b2 V D B:List Blk} {x:Blk} (h:b2.Perm (x :: b1)):Drop [c,s,b1,V,D,B,[],[x]] [c++(s++b2),V,D,B]:=by
  refine ⟨[],?_⟩
  simp only [List.flatten_cons,List.flatten_nil,List.append_nil,List.append_assoc,List.nil_append]
  refine List.Perm.append_left _ (List.Perm.append_left _ ?_)
  refine List.Perm.trans ?_ (h.append_right _).symm
  have:=List.perm_append_singleton x (b1++(V++(D++B)))
  simpa only [List.append_assoc,List.cons_append] using this
section
variable {I:Imm} {bC bV bD:Nat} {c:CSt} {ch:List Blk}
set_option maxHeartbeats 2000000 in
theorem ck_Load (h:Ck I bC bV c ch) {v:VSt} {chV:List Blk} (hV:Vk I bV bD v chV) {d:DSt} {chD:List Blk} (hD:Dk I bD d chD) (hfew:∀ g ∈ v.fresh,g.2.length≤1000000) (n:Int)
    (hrd:(v.read d n).2=0→0≤n∧n≤1000000∧(v.read d n).1.length≤1000000) :
    Tri Tryz.prog 60 #[.pointer (some ⟨bC,0,none⟩),.int .i64 n] I [ch,chV,chD] fun r J S'=>∃ a cap chB ch',r=.tuple #[.slice a (c.load v d n).2.1.length cap,.int .i64 (c.load v d n).2.2]∧OwnB chB a (c.load v d n).2.1.length cap (c.load v d n).2.1∧I.le J∧Ck J bC bV (c.load v d n).1 ch'∧S'=[ch',chV,chD,chB]:=by
  obtain ⟨slots,hand⟩:=c
  obtain ⟨bS,cs,rfl,rfl,hok,hl1,hl2,hh⟩:=h
  dsimp only at hh ⊢
  refine Tri.lay (ck_lay bC bV bS hand cs [chV,chD]) ?_
  refine Tri.drop ?_ (fun _ _ _ _ h=>h)
  refine Tri.of (args:=[.pointer (some ⟨bC,0,none⟩),.int .i64 n]) tabOk Tryz.func60 rfl (by kernel_rfl) (by kernel_rfl) ?_
  refine Tri.nf (c_none I bC bV bS cs.length hand _ 0 rfl) ?_
  rintro r _ _ hJ ⟨rfl,rfl,rfl⟩
  refine Tri.nf (c_find I bC bV bS hand cs (by omega) [chV,chD] n) ?_
  rintro r J _ hJ ⟨rfl,hle,rfl⟩
  unfold CSt.load
  cases hf:(slotsOf cs).findIdx? (isN n) with
  | some i =>
    obtain ⟨m,h1,h2,h3⟩:=got_some (hand:=hand) hf
    have hlt:=(List.getElem?_eq_some_iff.1 h1).1
    have hbok:=(hok.mono hle) m (List.mem_of_getElem? h1)
    rw [h3]
    dsimp only
    refine CmpD.yes (by show (0:Int)≤(i:Int); omega) ?_
    have hcell:(cs.map ptrB)[i]?=some (ptrB (some m)):=by rw [List.getElem?_map,h1]; rfl
    refine LoadD.own 0 rfl [.slice (some ⟨bS,0,none⟩) cs.length cs.length] rfl rfl ?_
    refine Chk.mk (by show 0≤(i:Int)∧(i:Int) < cs.length; omega) ?_
    refine LoadD.own 1 rfl [ptrB (some m)] (take_get (c:=cs.map ptrB) (off:=0) (n:=cs.length) (by rw [List.drop_zero,List.take_of_length_le (by simp)]) (by simpa [idxV] using hcell)) rfl ?_
    obtain ⟨m',hm'⟩:∃ m':BufM,m'=⟨m.blk,m.a,m.cap,{ m.b with mark:=true }⟩:=⟨_,rfl⟩
    refine StoreD.buf 2 rfl h1 m' (by rw [hm']) (by rw [hm']; rfl) rfl ?_
    have hset:sChunk bS (cs.set i (some m'))=sChunk bS cs:=sChunk_same h1 (by rw [hm'])
    have hln:(cs.set i (some m')).length=cs.length:=List.length_set
    have hmem:bufBlk m' ∈ bufs (cs.set i (some m')):=bufs_mem (List.mem_of_getElem? (List.getElem?_set_self hlt))
    have hmb:(m.blk,row [.int .i64 m.b.n,.slice m.a m.b.data.length m.cap,.int .i64 m.b.pins,.bool m.b.dirty,.bool true] 184) ∈ bufs (cs.set i (some m')):=by rw [hm'] at hmem ⊢; exact hmem
    refine LoadD.own 0 rfl [.slice (some ⟨bS,0,none⟩) cs.length cs.length] rfl rfl ?_
    refine Chk.mk (by show 0≤(i:Int)∧(i:Int) < cs.length; omega) ?_
    refine LoadD.own 1 rfl [ptrB (some m)] (take_get (c:=cs.map ptrB) (off:=0) (n:=cs.length) (by rw [List.drop_zero,List.take_of_length_le (by simp)]) (by simpa [idxV] using hcell)) rfl ?_
    refine LoadD.mem 2 rfl hmb [.slice m.a m.b.data.length m.cap] rfl rfl ?_
    refine Tri.frameX (clone_bytes J [] m.a m.b.data.length m.cap (bts m.b.data) (by rw [Nat.mul_one]; exact hbok.rd.slC) (bts_plain _) (by have:=hbok.len; omega)) [] rfl rfl ?_
    rintro r _ A' hJ2 ⟨a,cap,chB,rfl,hB,rfl,rfl⟩
    refine Done.mk ⟨[cChunk bC bV bS (cs.set i (some m')).length hand++(sChunk bS (cs.set i (some m'))++bufs (cs.set i (some m'))),chV,chD,chB],?_,a,cap,chB,_,rfl,hB,hle,⟨bS,_,rfl,by rw [slotsOf_set,hm']; rfl,(hok.mono hle).set i (fun x hx=>by cases hx; rw [hm']; exact ⟨hbok.rd,hbok.len,hbok.n,hbok.pins⟩),by rw [hln]; exact hl1,by rw [hln]; exact hl2,by rw [hln]; exact hh⟩,rfl⟩
    rw [hset,hln]
    exact ⟨[],by simp⟩
  | none =>
    rw [got_none hf]
    dsimp only
    refine CmpD.no (by show ¬ (0:Int)≤-1; omega) ?_
    refine LoadD.own 0 rfl [.pointer (some ⟨bV,0,none⟩)] rfl rfl ?_
    refine Tri.frame (vk_Read (hV.mono hle) (hD.mono hle) hfew n) [3,4] rfl rfl ?_
    generalize v.read d n=rd at *
    obtain ⟨x,e⟩:=rd
    dsimp only at hrd ⊢
    rintro r _ A' hJ2 ⟨a,cap,chB,rfl,hB,rfl,rfl⟩
    refine ⟨by simp,?_⟩
    skip
    refine CmpD.split (fun (c1:e=0)=>?_) (fun (c1:¬ e=0)=>?_)
    rotate_left
    · rw [if_pos c1]
      skip
      exact Done.mk ⟨_,((Drop.pick [0,1,2,3,4] _ rfl).and).trans (ck_drop bC bV bS hand cs [chV,chD,[]] []),none,0,[],_,rfl,OwnC.nil _ _,hle,⟨bS,cs,rfl,rfl,hok.mono hle,hl1,hl2,hh⟩,rfl⟩
    subst c1
    obtain ⟨hn0,hn1,hxl⟩:=hrd rfl
    rw [if_neg (by simp)]
    skip
    refine Tri.frame (c_room J bC bV bS hand cs ⟨hl1,hl2⟩ hh (hok.mono hle) chV) [0,1,2,3] rfl rfl ?_
    generalize CSt.room ⟨slotsOf cs,hand⟩=rm at *
    obtain ⟨c2,oi⟩:=rm
    dsimp only
    rintro r _ A' hJ3 ⟨rfl,rfl,cs',hand',rfl,hln,hh',hok',hat,rfl⟩
    refine ⟨Nat.le_refl _,?_⟩
    rw [← hln] at hl1 hl2 hh' ⊢
    cases oi with
    | none =>
      refine CmpD.yes (by show (-1:Int) < 0; omega) ?_
      skip
      exact Done.mk ⟨_,((Drop.pick [0,1,2,3,4] _ rfl).and).trans (ck_drop bC bV bS hand' cs' [chV,chD,[]] []),none,0,[],_,rfl,OwnC.nil _ _,hle,⟨bS,cs',rfl,rfl,hok',hl1,hl2,hh'⟩,rfl⟩
    | some i =>
      have hi:=hat i rfl
      have hlt:=(List.getElem?_eq_some_iff.1 hi).1
      refine CmpD.no (by show ¬ (i:Int) < 0; omega) ?_
      refine CodeF.sched [[],[0],[0,1],[0,1,2],[],[],[],[6],[5,6,7],[5,6,7,8],[0,1,2,3,4,5,6,7,8,9],[0,1,2,3,4,5,6,7,8,9,10]] [0,1,2,3,4,5,6,7,8,9,10,11] (by kernel_rfl) ?_
      refine LoadP.at 0 rfl [.slice (some ⟨bS,0,none⟩) cs'.length cs'.length] rfl rfl ?_
      refine Tri.fixed (clone_bytes J _ a x.length cap (bts x) (by rw [Nat.mul_one]; exact hB.slC1 5 rfl) (bts_plain _) (by omega)) ?_
      rintro r _ A' hJ2 ⟨a2,cap2,chB2,rfl,hB2,rfl,rfl⟩
      refine ⟨6,chB2,rfl,fun J3 hJ3 hm=>?_⟩
      have hR2:=Rds.of_own hB2 hm
      refine Chk.mk ⟨rfl,trivial⟩ ?_
      conv=>whnf
      intro bN
      refine Chk.mk ⟨rfl,trivial⟩ ?_
      refine Chk.mk (by show 0≤(i:Int)∧(i:Int) < cs'.length; omega) ?_
      refine StoreD.slot 1 rfl (i:=i) hlt (some ⟨bN,a2,cap2,⟨n,x,0,false,true⟩⟩) (by show 0+((i:Nat):Int).toNat=i; simp) ?_
      have hlnS:(cs'.set i (some (⟨bN,a2,cap2,⟨n,x,0,false,true⟩⟩:BufM))).length=cs'.length:=List.length_set
      refine Done.mk ⟨[cChunk bC bV bS (cs'.set i (some (⟨bN,a2,cap2,⟨n,x,0,false,true⟩⟩:BufM))).length hand'++(sChunk bS (cs'.set i (some ⟨bN,a2,cap2,⟨n,x,0,false,true⟩⟩))++bufs (cs'.set i (some ⟨bN,a2,cap2,⟨n,x,0,false,true⟩⟩))),chV,chD,chB],?_,a,cap,chB,_,rfl,hB,Imm.le_trans hle hJ3,⟨bS,_,rfl,by rw [slotsOf_set]; rfl,(hok'.mono hJ3).set i (fun y hy=>by cases hy; exact ⟨hR2,hxl,⟨hn0,hn1⟩,by show (0:Int)≤0∧(0:Int)≤1000; omega⟩),by rw [hlnS]; exact hl1,by rw [hlnS]; exact hl2,by rw [hlnS]; exact hh'⟩,rfl⟩
      rw [hlnS]
      exact drop_new (bufs_put hi _)
end
end Go.Proofs.YtegdcjnjnoeinaaGreat
namespace Go.Proofs.YtegdcjnjnoeinaaGreat
open Go.RowKit Go.Sl
set_option maxRecDepth 20000
theorem Tri.nodup {P:Program} {f:FuncId} {args:Array Value} {I:Imm} {S:St} {K:Value→Imm→St→Prop} (k:Nat) {ch:List Blk} (hk:S[k]?=some ch) (h:(ch.map Prod.fst).Nodup→Tri P f args I S K):Tri P f args I S K:=by
  have nd:∀ w F,Has w I (S.flatten++F)→(ch.map Prod.fst).Nodup:=by
    intro w F hw
    have h1:=hw.nodup
    rw [List.map_append] at h1
    have h2:=(List.nodup_append.1 h1).1
    have hs:(ch.map Prod.fst).Sublist (S.flatten.map Prod.fst):=(List.sublist_flatten_of_mem (List.mem_of_getElem? hk)).map _
    exact hs.nodup h2
  exact ⟨fun w F hw=>(h (nd w F hw)).ent w F hw,fun w F hw=>(h (nd w F hw)).run w F hw⟩
theorem nodup_inj {α β:Type} (f:α→β):∀ {l:List α},(l.map f).Nodup→∀ {a b:α},a ∈ l→b ∈ l→f a=f b→a=b
  | [],_,_,_,ha,_,_=>by cases ha
  | x :: l,h,a,b,ha,hb,he=>by
    rw [List.map_cons,List.nodup_cons] at h
    rcases List.mem_cons.1 ha with h1 | h1
    · rcases List.mem_cons.1 hb with h2 | h2
      · rw [h1,h2]
      · exact absurd (List.mem_map.2 ⟨b,h2,by rw [← he,h1]⟩) h.1
    · rcases List.mem_cons.1 hb with h2 | h2
      · exact absurd (List.mem_map.2 ⟨a,h1,by rw [he,h2]⟩) h.1
      · exact nodup_inj f h.2 h1 h2 he
def CSt.dirtyL (c:CSt):List Buf:=(c.held.filter Buf.dirty).mergeSort fun a b=>decide (a.n≤b.n)
def CSt.clean (c:CSt):CSt:=⟨c.slots.map (Option.map fun b=>{ b with dirty:=false }),c.hand⟩
def CSt.commit (c:CSt) (v:VSt) (d:DSt):CSt × VSt × DSt × Int × Int :=
  if c.dirtyL=[] then (c,v,d,0,0) else
  if (v.commit d (c.dirtyL.map fun b=>(b.n,b.data))).2.2.2≠0 then (c,(v.commit d (c.dirtyL.map fun b=>(b.n,b.data))).1,(v.commit d (c.dirtyL.map fun b=>(b.n,b.data))).2.1,0,(v.commit d (c.dirtyL.map fun b=>(b.n,b.data))).2.2.2) else
  (c.clean,(v.commit d (c.dirtyL.map fun b=>(b.n,b.data))).1,(v.commit d (c.dirtyL.map fun b=>(b.n,b.data))).2.1,(v.commit d (c.dirtyL.map fun b=>(b.n,b.data))).2.2.1,0)
theorem dirtyL_perm (c:CSt):c.dirtyL.Perm (c.held.filter Buf.dirty):=List.mergeSort_perm _ _
theorem dirtyL_le (c:CSt):c.dirtyL.Pairwise fun a b=>a.n≤b.n:=by
  have:=List.pairwise_mergeSort (le:=fun x y:Buf=>decide (x.n≤y.n)) (by intro a b c h1 h2; simp only [decide_eq_true_eq] at *; omega) (by intro a b; simp only [Bool.or_eq_true,decide_eq_true_eq]; omega) (c.held.filter Buf.dirty)
  exact this.imp (by intro _ _ h; simpa using h)
theorem dirtyL_eq {cs:List (Option BufM)} {hand:Nat} {ps:List BufM} (hp:ps.Perm ((heldM cs).filter fun m=>m.b.dirty)) (hs:ps.Pairwise KeyLe) (hnd:((CSt.held ⟨slotsOf cs,hand⟩).map Buf.n).Nodup):ps.map BufM.b=CSt.dirtyL ⟨slotsOf cs,hand⟩:=by
  have e:((heldM cs).filter fun m=>m.b.dirty).map BufM.b=(CSt.held ⟨slotsOf cs,hand⟩).filter Buf.dirty:=by rw [← heldM_b,List.filter_map]; rfl
  have hpp:(ps.map BufM.b).Perm ((CSt.held ⟨slotsOf cs,hand⟩).filter Buf.dirty):=by rw [← e]; exact hp.map _
  refine List.Perm.eq_of_pairwise (le:=fun a b=>a.n≤b.n) (fun a b ha hb h1 h2=>?_) (List.pairwise_map.2 hs) (dirtyL_le _) (hpp.trans (dirtyL_perm _).symm)
  have ha':=(List.mem_filter.1 (hpp.mem_iff.1 ha)).1
  have hb':=(List.mem_filter.1 ((dirtyL_perm _).mem_iff.1 hb)).1
  exact nodup_inj Buf.n hnd ha' hb' (Int.le_antisymm h1 h2)
def und (l:List BufM) (m:BufM):BufM:=if m.blk ∈ l.map BufM.blk then ⟨m.blk,m.a,m.cap,{ m.b with dirty:=false }⟩ else m
theorem und_blk (l:List BufM) (m:BufM):(und l m).blk=m.blk:=by unfold und; split <;> rfl
def imgOf (m:BufM):Img:=⟨m.b.n,m.a,m.b.data.length,m.cap,m.b.data⟩
theorem bufs_fst (cs:List (Option BufM)):(bufs cs).map Prod.fst=(heldM cs).map BufM.blk:=by
  unfold bufs heldM
  rw [List.map_filterMap,List.map_filterMap]
  congr 1
  funext x; cases x <;> rfl
theorem held_once {cs:List (Option BufM)} (hnd:((heldM cs).map BufM.blk).Nodup) {i j:Nat} {m y:BufM} (hj:cs[j]?=some (some m)) (hi:cs[i]?=some (some y)) (hb:y.blk=m.blk):i=j:=by
  obtain ⟨h1,_⟩:=split_at hj
  have e:heldM cs=heldM (cs.take j)++m :: heldM (cs.drop (j+1)):=by
    conv=>lhs; rw [h1]
    simp [heldM]
  rw [e,List.map_append,List.map_cons,List.nodup_append] at hnd
  obtain ⟨_,h3,h4⟩:=hnd
  rw [List.nodup_cons] at h3
  rcases Nat.lt_trichotomy i j with g | g | g
  · exfalso
    have hy:y ∈ heldM (cs.take j):=heldM_mem.2 (List.mem_of_getElem? (i:=i) (by rw [List.getElem?_take,if_pos g]; exact hi))
    exact h4 y.blk (List.mem_map_of_mem hy) m.blk (by simp) hb
  · exact g
  · exfalso
    have hy:y ∈ heldM (cs.drop (j+1)):=heldM_mem.2 (List.mem_of_getElem? (i:=i - (j+1)) (by rw [List.getElem?_drop,show j+1+(i - (j+1))=i by omega]; exact hi))
    exact h3.1 (by rw [← hb]; exact List.mem_map_of_mem hy)
theorem und_step {cs:List (Option BufM)} (hnd:((bufs cs).map Prod.fst).Nodup) {l:List BufM} {m:BufM} {j:Nat} (hj:cs[j]?=some (some m)) :
    (cs.map (Option.map (und l))).set j (some ⟨m.blk,m.a,m.cap,{ m.b with dirty:=false }⟩)=cs.map (Option.map (und (l++[m]))):=by
  rw [bufs_fst] at hnd
  have hlt:=(List.getElem?_eq_some_iff.1 hj).1
  refine List.ext_getElem? fun i=>?_
  by_cases hij:j=i
  · subst hij
    rw [List.getElem?_set_self (by simpa using hlt),List.getElem?_map,hj]
    simp [und]
  · rw [List.getElem?_set_ne hij,List.getElem?_map,List.getElem?_map]
    cases hx:cs[i]? with
    | none=>rfl
    | some x =>
      cases x with
      | none=>rfl
      | some y =>
        have hne:y.blk≠m.blk:=by
          intro e
          exact hij (held_once hnd hj hx e).symm
        simp [und,hne]
theorem und_all {cs:List (Option BufM)} {ps:List BufM} (hp:ps.Perm ((heldM cs).filter fun m=>m.b.dirty)) (hand:Nat):slotsOf (cs.map (Option.map (und ps)))=(CSt.clean ⟨slotsOf cs,hand⟩).slots:=by
  unfold CSt.clean slotsOf
  rw [List.map_map,List.map_map]
  refine List.map_congr_left fun x hx=>?_
  cases x with
  | none=>rfl
  | some m =>
    show some (und ps m).b=some { m.b with dirty:=false }
    congr 1
    unfold und
    split
    · rfl
    · rename_i h
      have hd:m.b.dirty=false:=by
        cases hd:m.b.dirty with
        | false=>rfl
        | true=>exact absurd (List.mem_map_of_mem (hp.mem_iff.2 (List.mem_filter.2 ⟨heldM_mem.2 hx,hd⟩))) h
      rw [← hd]
theorem und_ok {J:Imm} {cs:List (Option BufM)} (h:CsOk J cs) (l:List BufM):CsOk J (cs.map (Option.map (und l))):=by
  intro m hm
  obtain ⟨x,hx,hxm⟩:=List.mem_map.1 hm
  cases x with
  | none=>cases hxm
  | some y =>
    cases hxm
    have:=h y hx
    unfold und
    split
    · exact ⟨this.rd,this.len,this.n,this.pins⟩
    · exact this
theorem und_same {bS:Nat} (cs:List (Option BufM)) (l:List BufM):sChunk bS (cs.map (Option.map (und l)))=sChunk bS cs:=by
  unfold sChunk
  rw [List.map_map]
  congr 3
  refine List.map_congr_left fun x _=>?_
  cases x with
  | none=>rfl
  | some m=>simp [ptrB,und_blk]
end Go.Proofs.YtegdcjnjnoeinaaGreat
namespace Go.Proofs.YtegdcjnjnoeinaaGreat
open Go.RowKit Go.Sl
set_option maxRecDepth 20000
structure VC where
  s:Hd
  w:Hd
  sz:Hd
  fr:Hd
  count:Int
  down:Bool
  arm:Int
  fault:Int
  x:Lay
  js:Int
  jt:Int
  ju:Int
  jh:Int
  je:Int
  first:Int
  jy:Int
  jb:Bool
  y:Lay
  slot:Int
  br:Bool
@[reducible] def VC.l (m:VC):List Value:=vC (jC m.s m.w m.count m.down m.arm m.fault m.x m.js m.jt m.ju m.jh m.je m.first m.sz m.jy m.jb) m.y m.slot m.fr m.br
structure RB where
  a:Option Addr
  cap:Nat
  o:Option Buf
def RB.cells (x:RB):List Value:=match x.o with
  | none=>[.int .i64 (-1),.slice none 0 0,.int .i64 0,.bool false,.bool false]
  | some b=>[.int .i64 b.n,.slice x.a b.data.length x.cap,.int .i64 b.pins,.bool b.dirty,.bool b.mark]
def RbOk (I:Imm) (x:RB):Prop:=∀ b,x.o=some b→Rds I x.a b.data.length (bts b.data)∧0≤b.n∧b.n < 64∧0≤b.pins∧b.pins≤1000∧(b.dirty=true→b.data.length≤x.cap)∧b.data.length≤1000000
theorem RbOk.mono {I J:Imm} {x:RB} (h:RbOk I x) (hJ:I.le J):RbOk J x:=fun b hb=>⟨(h b hb).1.mono hJ,(h b hb).2⟩
def rcells (xs:List RB):List Value:=xs.flatMap RB.cells
theorem RB.cells_length (x:RB):x.cells.length=5:=by unfold RB.cells; split <;> rfl
theorem rcells_length:∀ xs:List RB,(rcells xs).length=xs.length * 5
  | []=>rfl
  | x :: xs=>by
    have:=rcells_length xs
    unfold rcells at this ⊢
    rw [List.flatMap_cons,List.length_append,RB.cells_length,this,List.length_cons]; omega
theorem rcells_append (a b:List RB):rcells (a++b)=rcells a++rcells b:=by unfold rcells; rw [List.flatMap_append]
theorem rcells_cons (x:RB) (b:List RB):rcells (x :: b)=x.cells++rcells b:=rfl
theorem rcells_at {xs:List RB} {i:Nat} {x:RB} (h:xs[i]?=some x):rcells xs=rcells (xs.take i)++x.cells++rcells (xs.drop (i+1))∧(rcells (xs.take i)).length=i * 5∧∀ y,rcells (xs.set i y)=rcells (xs.take i)++y.cells++rcells (xs.drop (i+1)):=by
  have hlt:i < xs.length:=(List.getElem?_eq_some_iff.1 h).1
  obtain ⟨h1,h2⟩:=split_at h
  refine ⟨?_,?_,fun y=>?_⟩
  · conv=>lhs; rw [h1]
    rw [rcells_append,rcells_cons,List.append_assoc]
  · rw [rcells_length,List.length_take]; congr 1; omega
  · rw [h2,rcells_append,rcells_cons,List.append_assoc]
theorem rcell_take {c:List Value} {o:Nat} {xs:List RB} (hc:(c.drop o).take (xs.length * 5)=rcells xs) {i:Nat} {x:RB} (h:xs[i]?=some x) (k m:Nat) (hk:k+m≤5):(c.drop (o+i * 5+k)).take m=(x.cells.drop k).take m:=by
  have hlt:i < xs.length:=(List.getElem?_eq_some_iff.1 h).1
  obtain ⟨h1,h2,_⟩:=rcells_at h
  have hp:=take_part (i:=i * 5+k) (m:=m) hc (by omega)
  rw [show o+(i * 5+k)=o+i * 5+k by omega] at hp
  rw [hp,h1,List.append_assoc,List.drop_append,List.drop_of_length_le (by omega),List.nil_append,h2,show i * 5+k - i * 5=k by omega,List.drop_append,List.take_append,List.length_drop,RB.cells_length,show m - (5 - k)=0 by omega,List.take_zero,List.append_nil]
theorem splice_in (P X Q:List Value) (k:Nat) (vs:List Value) (h:k+vs.length≤X.length):splice (P++X++Q) (P.length+k) vs=P++splice X k vs++Q:=by
  unfold splice
  rw [List.append_assoc P X Q,List.take_append,List.take_of_length_le (by omega),show P.length+k - P.length=k by omega,List.take_append_of_le_length (by omega)]
  rw [show P.length+k+vs.length=P.length+(k+vs.length) by omega,List.drop_append,List.drop_of_length_le (by omega),List.nil_append,show P.length+(k+vs.length) - P.length=k+vs.length by omega,List.drop_append_of_le_length (by omega)]
  simp only [List.append_assoc]
theorem splice_rb {pre post:List Value} {xs:List RB} {i:Nat} {x x':RB} (h:xs[i]?=some x) (k:Nat) (vs:List Value) (hk:k+vs.length≤5) (hx:splice x.cells k vs=x'.cells):splice (pre++rcells xs++post) (pre.length+i * 5+k) vs=pre++rcells (xs.set i x')++post:=by
  obtain ⟨h1,h2,h3⟩:=rcells_at h
  rw [h3,h1]
  have:=splice_in (pre++rcells (xs.take i)) x.cells (rcells (xs.drop (i+1))++post) k vs (by rw [RB.cells_length]; exact hk)
  rw [List.length_append,h2,hx] at this
  simp only [List.append_assoc] at this ⊢
  exact this
@[reducible] def cV (m:VC) (aS:Option Addr) (len cap:Nat) (hand:Int):List Value:=m.l++[.slice aS len cap,.int .i64 hand]
def RB.n (x:RB):Int:=match x.o with
  | none=>-1
  | some b=>b.n
theorem RB.cells_n (x:RB):(x.cells.drop 0).take 1=[.int .i64 x.n]:=by unfold RB.cells RB.n; split <;> rfl
theorem isN_n {I:Imm} {x:RB} (hx:RbOk I x) (n:Int):isN n x.o=decide (x.n=n∧0≤n):=by
  cases ho:x.o with
  | none=>unfold RB.n isN; rw [ho]; simp; omega
  | some b =>
    have:=(hx b ho).2.1
    unfold RB.n isN; rw [ho]
    by_cases h:b.n=n
    · simp [h]; omega
    · simp [h]
theorem slots_idx (xs:List RB) (p:Option Buf→Bool):(xs.map RB.o).findIdx? p=xs.findIdx? fun x=>p x.o:=by rw [List.findIdx?_map]; rfl
set_option maxHeartbeats 4000000 in
theorem r12_find {I:Imm} (m:VC) (aS:Option Addr) (cap:Nat) (xs:List RB) (hand:Int) (hR:Rds I aS (xs.length * 5) (rcells xs)) (hok:∀ x ∈ xs,RbOk I x) (hl:xs.length≤1000) (n:Int) :
    Tri Tryz.prog 146 #[.agg (cV m aS xs.length cap hand).toArray,.int .i64 n] I [] fun r J _=>I=J∧r=.int .i64 (idxV ((xs.map RB.o).findIdx? (isN n))):=by
  rw [slots_idx]
  refine Tri.of (args:=[.agg (cV m aS xs.length cap hand).toArray,.int .i64 n]) tabOk Tryz.func146 rfl (by kernel_rfl) (by kernel_rfl) ?_
  conv=>whnf
  intro b2
  refine CodeF.loopD [1,2,5] (fun vs J S'=>∃ i:Nat,i≤xs.length∧(∀ (j:Nat) (x:RB),j < i→xs[j]?=some x→isN n x.o=false)∧I=J∧vs=[.int .i64 n,.pointer (some ⟨b2,0,none⟩),.int .i64 i]∧S'=[[(b2,row (cV m aS xs.length cap hand) 116)]])
    (fun vs _ _=>match vs with | [_,_,.int _ i]=>((xs.length:Int) - i).toNat | _=>0) ?_ ?_
  · exact ⟨_,Drop.refl _,0,by omega,fun j x h=>by omega,rfl,rfl,rfl⟩
  rintro vs gE J S' hJ ⟨i,hi,hno,rfl,rfl,rfl⟩
  repeat (first | refine LoadD.own 0 rfl _ rfl rfl ?_)
  refine CmpD.split (fun (c1:(i:Int) < xs.length)=>?_) (fun (c1:¬ (i:Int) < xs.length)=>?_)
  · have hil:i < xs.length:=by omega
    have hx:xs[i]?=some xs[i]:=List.getElem?_eq_getElem hil
    have hxo:=hok _ (List.getElem_mem hil)
    generalize xs[i]=x at *
    rcases hR.mem with q0 | ⟨bS,oS,cS,TS,fS,rfl,hIS,hcS⟩
    · omega
    have hcell:=rcell_take hcS hx 0 1 (by omega)
    rw [RB.cells_n] at hcell
    repeat (first | refine LoadD.own 0 rfl _ rfl rfl ?_)
    refine Chk.mk (by show 0≤(i:Int)∧(i:Int) < xs.length; omega) ?_
    refine LoadD.imm hIS [.int .i64 x.n] hcell rfl ?_
    have next:isN n x.o=false→∀ (j:Nat) (y:RB),j < i+1→xs[j]?=some y→isN n y.o=false:=by
      intro hf j y hj hy
      by_cases hji:j=i
      · subst hji; rw [hx] at hy; cases hy; exact hf
      · exact hno j y (by omega) hy
    have hmu:((xs.length:Int) - ((i+1:Nat):Int)).toNat < ((xs.length:Int) - (i:Int)).toNat:=by omega
    refine CmpD.split (fun (c2:x.n=n)=>?_) (fun (c2:¬ x.n=n)=>?_)
    · refine CmpD.split (fun (c3:(0:Int)≤n)=>?_) (fun (c3:¬ (0:Int)≤n)=>?_)
      · skip
        rw [findIdx_take (fun x:RB=>isN n x.o) xs hno hx (by show isN n x.o=true; rw [isN_n hxo]; exact decide_eq_true ⟨c2,c3⟩)]
        exact Done.mk ⟨rfl,rfl⟩
      · refine ToD.to (((i+1:Nat)):Int) (by rw [wrap_i64 (by omega) (by omega)]; omega) ?_
        exact ⟨_,Drop.refl _,⟨i+1,by omega,next (by rw [isN_n hxo]; exact decide_eq_false (fun h=>c3 h.2)),rfl,rfl,rfl⟩,hmu⟩
    · refine ToD.to (((i+1:Nat)):Int) (by rw [wrap_i64 (by omega) (by omega)]; omega) ?_
      exact ⟨_,Drop.refl _,⟨i+1,by omega,next (by rw [isN_n hxo]; exact decide_eq_false (fun h=>c2 h.1)),rfl,rfl,rfl⟩,hmu⟩
  · obtain rfl:i=xs.length:=by omega
    rw [findIdx_no (fun x:RB=>isN n x.o) xs (fun j x hx=>hno j x (List.getElem?_eq_some_iff.1 hx).1 hx)]
    skip
    exact Done.mk ⟨rfl,rfl⟩
theorem rcells_plain (xs:List RB):∀ u ∈ rcells xs,Plain u=true:=by
  intro u hu
  unfold rcells at hu
  obtain ⟨x,_,h⟩:=List.mem_flatMap.1 hu
  unfold RB.cells at h
  split at h <;> simp only [List.mem_cons,List.not_mem_nil,or_false] at h <;> rcases h with rfl | rfl | rfl | rfl | rfl <;> rfl
theorem r12_copied {I:Imm} (m:VC) (aS:Option Addr) (cap:Nat) (xs:List RB) (hand:Int) (hR:Rds I aS (xs.length * 5) (rcells xs)) (hl:xs.length≤1000) :
    Tri Tryz.prog 186 #[.agg (cV m aS xs.length cap hand).toArray] I [] fun r J S'=>I=J∧∃ a2 cap2 ch,r=.agg (cV m a2 xs.length cap2 hand).toArray∧OwnC ch 5 a2 xs.length cap2 (rcells xs)∧S'=[ch]:=by
  refine Tri.lay (S2:=[[]]) (by simp) ?_
  refine Tri.drop ?_ (fun _ _ _ _ h=>h)
  refine Tri.of (args:=[.agg (cV m aS xs.length cap hand).toArray]) tabOk Tryz.func186 rfl (by kernel_rfl) (by kernel_rfl) ?_
  conv=>whnf
  intro b1
  conv=>whnf
  intro b2
  repeat (first | refine LoadD.own 1 rfl _ rfl rfl ?_)
  skip
  refine appendD tabOk rfl rfl rfl rfl rfl rfl rfl 0 rfl (OwnC.nil 5 none) (SrcOk.slice (n:=xs.length) (news:=rcells xs) tabOk rfl hR.slC (rcells_plain xs)) rfl (by show (0+xs.length) * 48≤_; omega) (by omega) ?_
  intro aM capM chM hM
  rw [List.nil_append,Nat.zero_add] at hM
  rw [Nat.zero_add xs.length]
  repeat (first | refine LoadD.own 1 rfl _ rfl rfl ?_ | refine LoadD.own 2 rfl _ rfl rfl ?_ | refine StoreD.st 1 rfl rfl rfl ?_ | refine StoreD.st 2 rfl rfl rfl ?_)
  exact Done.mk ⟨[chM],Drop.pick [0] _ rfl,rfl,aM,capM,chM,rfl,hM,rfl⟩
end Go.Proofs.YtegdcjnjnoeinaaGreat
namespace Go.Proofs.YtegdcjnjnoeinaaGreat
open Go.RowKit Go.Sl
set_option maxRecDepth 20000
def RCv (I:Imm) (val:Value) (m:VC) (c:CSt):Prop:=∃ (aS:Option Addr) (cap:Nat) (xs:List RB),val=.agg (cV m aS xs.length cap c.hand).toArray∧Rds I aS (xs.length * 5) (rcells xs)∧xs.map RB.o=c.slots∧(∀ x ∈ xs,RbOk I x)∧c.hand < xs.length∧xs.length≤64
theorem RCv.mono {I J:Imm} {val:Value} {m:VC} {c:CSt} (h:RCv I val m c) (hJ:I.le J):RCv J val m c:=by
  obtain ⟨aS,cap,xs,h1,h2,h3,h4,h5⟩:=h
  exact ⟨aS,cap,xs,h1,h2.mono hJ,h3,fun x hx=>(h4 x hx).mono hJ,h5⟩
theorem got_of_none {c:CSt} {n:Int} (h:c.slots.findIdx? (isN n)=none):c.got n=none:=by unfold CSt.got CSt.find; rw [h]
theorem got_of_some {c:CSt} {n:Int} {i:Nat} (h:c.slots.findIdx? (isN n)=some i):∃ b,c.slots[i]?=some (some b)∧b.n=n∧c.got n=some (i,b):=by
  have h0:=h
  rw [List.findIdx?_eq_some_iff_getElem] at h
  obtain ⟨h1,h2,_⟩:=h
  have hk:c.slots[i]?=some c.slots[i]:=List.getElem?_eq_getElem h1
  cases hx:c.slots[i] with
  | none=>rw [hx] at h2; simp [isN] at h2
  | some b =>
    rw [hx] at h2 hk
    refine ⟨b,hk,by simpa [isN] using h2,?_⟩
    unfold CSt.got CSt.find
    simp only [h0]
    rw [hk]
theorem rb_some {xs:List RB} {slots:List (Option Buf)} (h:xs.map RB.o=slots) {i:Nat} {b:Buf} (hi:slots[i]?=some (some b)):∃ x,xs[i]?=some x∧x.o=some b∧i < xs.length:=by
  rw [← h,List.getElem?_map] at hi
  cases hx:xs[i]? with
  | none=>rw [hx] at hi; cases hi
  | some x =>
    rw [hx] at hi
    exact ⟨x,rfl,by simpa using hi,(List.getElem?_eq_some_iff.1 hx).1⟩
theorem own_open {ch:List Blk} {a:Option Addr} {len cap:Nat} {vs:List Value} (h:OwnC ch 5 a len cap vs) (hl:0 < len):∃ bX pre post T,a=some ⟨bX,pre.length,none⟩∧ch=[(bX,row (pre++vs++post) T)]∧post.length=(cap - len) * 5∧len≤cap:=by
  rcases h.at' with q | ⟨b,pre,post,T,h1,h2,h3⟩
  · have:=h.le; omega
  · exact ⟨b,pre,post,T,h1,h2,h3,h.le⟩
theorem own_rds {J:Imm} {bX:Nat} {pre post:List Value} {T:TypeId} {xs:List RB} (hm:∀ x ∈ [(bX,row (pre++rcells xs++post) T)],J x.1=some x.2):Rds J (some ⟨bX,pre.length,none⟩) (xs.length * 5) (rcells xs) :=
  ⟨rcells_length xs,.inr ⟨bX,pre.length,_,_,_,rfl,hm _ (List.mem_singleton.2 rfl),by have:=own_take pre (rcells xs) post; rwa [rcells_length] at this⟩⟩
theorem own_rcell {pre post:List Value} {xs:List RB} {i:Nat} {x:RB} (h:xs[i]?=some x) (k m:Nat) (hk:k+m≤5):((pre++rcells xs++post).drop (pre.length+i * 5+k)).take m=(x.cells.drop k).take m :=
  rcell_take (by have:=own_take pre (rcells xs) post; rwa [rcells_length] at this) h k m hk
theorem rb_set {xs:List RB} {slots:List (Option Buf)} (h:xs.map RB.o=slots) (i:Nat) (x:RB):(xs.set i x).map RB.o=slots.set i x.o:=by rw [List.map_set,h]
theorem rb_set_ok {I:Imm} {xs:List RB} (h:∀ x ∈ xs,RbOk I x) (i:Nat) {y:RB} (hy:RbOk I y):∀ x ∈ xs.set i y,RbOk I x:=fun x hx=>by
  rcases List.mem_or_eq_of_mem_set hx with hx | rfl
  · exact h x hx
  · exact hy
theorem RB.cells_some {x:RB} {b:Buf} (h:x.o=some b):x.cells=[.int .i64 b.n,.slice x.a b.data.length x.cap,.int .i64 b.pins,.bool b.dirty,.bool b.mark]:=by unfold RB.cells; rw [h]
theorem RB.cells_none {x:RB} (h:x.o=none):x.cells=[.int .i64 (-1),.slice none 0 0,.int .i64 0,.bool false,.bool false]:=by unfold RB.cells; rw [h]
section
variable {I:Imm} {val:Value} {m:VC} {c:CSt}
set_option maxHeartbeats 4000000 in
theorem r12_Pin (h:RCv I val m c) (n:Int):Tri Tryz.prog 138 #[val,.int .i64 n] I [] fun r J _=>∃ v',r=.tuple #[v',.int .i64 (c.pin n).2]∧RCv J v' m (c.pin n).1:=by
  unfold CSt.pin
  have h0:=h
  obtain ⟨slots,hand⟩:=c
  obtain ⟨aS,cap,xs,rfl,hR,ho,hok,hh,hl⟩:=h
  dsimp only at ho hh
  refine Tri.ofF (args:=[.agg (cV m aS xs.length cap hand).toArray,.int .i64 n]) tabOk Tryz.func138 rfl (by kernel_rfl) (by kernel_rfl) ?_
  refine CodeF.stepD ?_
  conv=>whnf
  intro b2
  conv=>whnf
  intro b4
  refine CodeF.stepD ?_
  repeat (first | refine LoadD.own 0 rfl _ rfl rfl ?_)
  refine Tri.free (r12_find m aS cap xs hand hR hok (by omega) n) ?_
  rintro r _ _ hJ ⟨rfl,rfl⟩
  rw [ho]
  skip
  refine CodeF.stepD ?_
  cases hf:slots.findIdx? (isN n) with
  | none =>
    rw [got_of_none (c:=⟨slots,hand⟩) hf]
    refine CmpD.yes (by show (-1:Int) < 0; omega) ?_
    repeat (first | refine LoadD.own 0 rfl _ rfl rfl ?_ | refine LoadD.own 1 rfl _ rfl rfl ?_ | refine StoreD.st 1 rfl rfl rfl ?_)
    exact Done.mk ⟨_,rfl,h0⟩
  | some i =>
    obtain ⟨b,hb,hbn,hg⟩:=got_of_some (c:=⟨slots,hand⟩) hf
    obtain ⟨x,hx,hxo,hil⟩:=rb_some ho hb
    have hxk:=hok x (List.mem_of_getElem? hx) b hxo
    have hxc:=RB.cells_some hxo
    rcases hR.mem with q0 | ⟨bS,oS,cS,TS,fS,rfl,hIS,hcS⟩
    · omega
    rw [hg]
    dsimp only
    refine CmpD.no (by show ¬ (i:Int) < 0; omega) ?_
    refine CodeF.stepD ?_
    repeat (first | refine LoadD.own 0 rfl _ rfl rfl ?_)
    refine Chk.mk (by show 0≤(i:Int)∧(i:Int) < xs.length; omega) ?_
    refine LoadD.imm hIS [.int .i64 b.pins] (by have e:=rcell_take hcS hx 2 1 (by omega); rw [hxc] at e; exact e) rfl ?_
    refine CmpD.split (fun (c1:1000≤b.pins)=>?_) (fun (c1:¬ 1000≤b.pins)=>?_)
    · rw [if_pos (by omega)]
      repeat (first | refine LoadD.own 0 rfl _ rfl rfl ?_ | refine LoadD.own 1 rfl _ rfl rfl ?_ | refine StoreD.st 1 rfl rfl rfl ?_)
      exact Done.mk ⟨_,rfl,h0⟩
    rw [if_neg (by omega)]
    refine CodeF.stepD ?_
    repeat (first | refine LoadD.own 0 rfl _ rfl rfl ?_)
    refine Tri.frameX (r12_copied m _ cap xs hand hR (by omega)) [] rfl rfl ?_
    rintro r _ A' hJ ⟨rfl,a2,cap2,ch,rfl,hO,rfl⟩
    obtain ⟨bX,pre,post,TX,rfl,rfl,hpost,hle2⟩:=own_open hO (by omega)
    repeat (first | refine StoreD.st 0 rfl rfl rfl ?_)
    refine CodeF.stepD ?_
    repeat (first | refine LoadD.own 0 rfl _ rfl rfl ?_)
    refine Chk.mk (by show 0≤(i:Int)∧(i:Int) < xs.length; omega) ?_
    refine LoadD.own 2 rfl [.int .i64 b.pins] (by have e:=own_rcell (pre:=pre) (post:=post) hx 2 1 (by omega); rw [hxc] at e; exact e) rfl ?_
    refine ToD.to (b.pins+1) (wrap_i64 (by omega) (by omega)) ?_
    refine Chk.mk (by show 0≤(i:Int)∧(i:Int) < xs.length; omega) ?_
    refine StoreD.to 2 rfl _ (splice_rb (x':=⟨x.a,x.cap,some { b with pins:=b.pins+1 }⟩) hx 2 [.int .i64 (b.pins+1)] (by simp) (by rw [hxc]; rfl)) (by simp only [List.length_append,rcells_length]; show pre.length+i * 5+2+1≤_; omega) (.inr (.inr (Nat.le_refl _))) _ rfl ?_
    refine CodeF.fixD 2 rfl fun J3 hJ3 hm3=>?_
    refine CodeF.den ?_
    repeat (first | refine LoadD.own 0 rfl _ rfl rfl ?_ | refine LoadD.own 1 rfl _ rfl rfl ?_ | refine StoreD.st 1 rfl rfl rfl ?_)
    have hR3:=own_rds hm3
    rw [List.length_set] at hR3
    refine Done.mk ⟨_,rfl,⟨some ⟨bX,pre.length,none⟩,cap2,xs.set i ⟨x.a,x.cap,some { b with pins:=b.pins+1 }⟩,by rw [List.length_set]; rfl,by rw [List.length_set]; exact hR3,by rw [rb_set ho] <;> rfl,rb_set_ok (fun x hx=>(hok x hx).mono hJ3) i ?_,by rw [List.length_set]; exact hh,by rw [List.length_set]; exact hl⟩⟩
    intro b' hb'
    cases hb'
    exact ⟨hxk.1.mono hJ3,hxk.2.1,hxk.2.2.1,by show 0≤b.pins+1; omega,by show b.pins+1≤1000; omega,hxk.2.2.2.2.2⟩
set_option maxHeartbeats 4000000 in
theorem r12_Unpin (h:RCv I val m c) (n:Int):Tri Tryz.prog 139 #[val,.int .i64 n] I [] fun r J _=>∃ v',r=.tuple #[v',.int .i64 (c.unpin n).2]∧RCv J v' m (c.unpin n).1:=by
  unfold CSt.unpin
  have h0:=h
  obtain ⟨slots,hand⟩:=c
  obtain ⟨aS,cap,xs,rfl,hR,ho,hok,hh,hl⟩:=h
  dsimp only at ho hh
  refine Tri.ofF (args:=[.agg (cV m aS xs.length cap hand).toArray,.int .i64 n]) tabOk Tryz.func139 rfl (by kernel_rfl) (by kernel_rfl) ?_
  refine CodeF.stepD ?_
  conv=>whnf
  intro b2
  conv=>whnf
  intro b4
  refine CodeF.stepD ?_
  repeat (first | refine LoadD.own 0 rfl _ rfl rfl ?_)
  refine Tri.free (r12_find m aS cap xs hand hR hok (by omega) n) ?_
  rintro r _ _ hJ ⟨rfl,rfl⟩
  rw [ho]
  skip
  refine CodeF.stepD ?_
  cases hf:slots.findIdx? (isN n) with
  | none =>
    rw [got_of_none (c:=⟨slots,hand⟩) hf]
    refine CmpD.yes (by show (-1:Int) < 0; omega) ?_
    repeat (first | refine LoadD.own 0 rfl _ rfl rfl ?_ | refine LoadD.own 1 rfl _ rfl rfl ?_ | refine StoreD.st 1 rfl rfl rfl ?_)
    exact Done.mk ⟨_,rfl,h0⟩
  | some i =>
    obtain ⟨b,hb,hbn,hg⟩:=got_of_some (c:=⟨slots,hand⟩) hf
    obtain ⟨x,hx,hxo,hil⟩:=rb_some ho hb
    have hxk:=hok x (List.mem_of_getElem? hx) b hxo
    have hxc:=RB.cells_some hxo
    rcases hR.mem with q0 | ⟨bS,oS,cS,TS,fS,rfl,hIS,hcS⟩
    · omega
    rw [hg]
    dsimp only
    refine CmpD.no (by show ¬ (i:Int) < 0; omega) ?_
    repeat (first | refine LoadD.own 0 rfl _ rfl rfl ?_)
    refine Chk.mk (by show 0≤(i:Int)∧(i:Int) < xs.length; omega) ?_
    refine LoadD.imm hIS [.int .i64 b.pins] (by have e:=rcell_take hcS hx 2 1 (by omega); rw [hxc] at e; exact e) rfl ?_
    refine CmpD.split (fun (c1:b.pins=0)=>?_) (fun (c1:¬ b.pins=0)=>?_)
    · rw [if_pos c1]
      repeat (first | refine LoadD.own 0 rfl _ rfl rfl ?_ | refine LoadD.own 1 rfl _ rfl rfl ?_ | refine StoreD.st 1 rfl rfl rfl ?_)
      exact Done.mk ⟨_,rfl,h0⟩
    rw [if_neg c1]
    refine CodeF.stepD ?_
    repeat (first | refine LoadD.own 0 rfl _ rfl rfl ?_)
    refine Tri.frameX (r12_copied m _ cap xs hand hR (by omega)) [] rfl rfl ?_
    rintro r _ A' hJ ⟨rfl,a2,cap2,ch,rfl,hO,rfl⟩
    obtain ⟨bX,pre,post,TX,rfl,rfl,hpost,hle2⟩:=own_open hO (by omega)
    repeat (first | refine StoreD.st 0 rfl rfl rfl ?_)
    refine CodeF.stepD ?_
    repeat (first | refine LoadD.own 0 rfl _ rfl rfl ?_)
    refine Chk.mk (by show 0≤(i:Int)∧(i:Int) < xs.length; omega) ?_
    refine LoadD.own 2 rfl [.int .i64 b.pins] (by have e:=own_rcell (pre:=pre) (post:=post) hx 2 1 (by omega); rw [hxc] at e; exact e) rfl ?_
    refine ToD.to (b.pins - 1) (wrap_i64 (by omega) (by omega)) ?_
    refine Chk.mk (by show 0≤(i:Int)∧(i:Int) < xs.length; omega) ?_
    refine StoreD.to 2 rfl _ (splice_rb (x':=⟨x.a,x.cap,some { b with pins:=b.pins - 1 }⟩) hx 2 [.int .i64 (b.pins - 1)] (by simp) (by rw [hxc]; rfl)) (by simp only [List.length_append,rcells_length]; show pre.length+i * 5+2+1≤_; omega) (.inr (.inr (Nat.le_refl _))) _ rfl ?_
    refine CodeF.fixD 2 rfl fun J3 hJ3 hm3=>?_
    refine CodeF.den ?_
    repeat (first | refine LoadD.own 0 rfl _ rfl rfl ?_ | refine LoadD.own 1 rfl _ rfl rfl ?_ | refine StoreD.st 1 rfl rfl rfl ?_)
    have hR3:=own_rds hm3
    rw [List.length_set] at hR3
    refine Done.mk ⟨_,rfl,⟨some ⟨bX,pre.length,none⟩,cap2,xs.set i ⟨x.a,x.cap,some { b with pins:=b.pins - 1 }⟩,by rw [List.length_set]; rfl,by rw [List.length_set]; exact hR3,by rw [rb_set ho] <;> rfl,rb_set_ok (fun x hx=>(hok x hx).mono hJ3) i ?_,by rw [List.length_set]; exact hh,by rw [List.length_set]; exact hl⟩⟩
    intro b' hb'
    cases hb'
    exact ⟨hxk.1.mono hJ3,hxk.2.1,hxk.2.2.1,by show 0≤b.pins - 1; omega,by show b.pins - 1≤1000; omega,hxk.2.2.2.2.2⟩
set_option maxHeartbeats 4000000 in
theorem r12_Drop (h:RCv I val m c) (n:Int):Tri Tryz.prog 144 #[val,.int .i64 n] I [] fun r J _=>∃ v',r=.tuple #[v',.int .i64 (c.drop n).2]∧RCv J v' m (c.drop n).1:=by
  unfold CSt.drop
  have h0:=h
  obtain ⟨slots,hand⟩:=c
  obtain ⟨aS,cap,xs,rfl,hR,ho,hok,hh,hl⟩:=h
  dsimp only at ho hh
  refine Tri.ofF (args:=[.agg (cV m aS xs.length cap hand).toArray,.int .i64 n]) tabOk Tryz.func144 rfl (by kernel_rfl) (by kernel_rfl) ?_
  refine CodeF.stepD ?_
  conv=>whnf
  intro b2
  conv=>whnf
  intro b4
  refine CodeF.stepD ?_
  repeat (first | refine LoadD.own 0 rfl _ rfl rfl ?_)
  refine Tri.free (r12_find m aS cap xs hand hR hok (by omega) n) ?_
  rintro r _ _ hJ ⟨rfl,rfl⟩
  rw [ho]
  skip
  refine CodeF.stepD ?_
  cases hf:slots.findIdx? (isN n) with
  | none =>
    rw [got_of_none (c:=⟨slots,hand⟩) hf]
    refine CmpD.yes (by show (-1:Int) < 0; omega) ?_
    repeat (first | refine LoadD.own 0 rfl _ rfl rfl ?_ | refine LoadD.own 1 rfl _ rfl rfl ?_ | refine StoreD.st 1 rfl rfl rfl ?_)
    exact Done.mk ⟨_,rfl,h0⟩
  | some i =>
    obtain ⟨b,hb,hbn,hg⟩:=got_of_some (c:=⟨slots,hand⟩) hf
    obtain ⟨x,hx,hxo,hil⟩:=rb_some ho hb
    have hxk:=hok x (List.mem_of_getElem? hx) b hxo
    have hxc:=RB.cells_some hxo
    rcases hR.mem with q0 | ⟨bS,oS,cS,TS,fS,rfl,hIS,hcS⟩
    · omega
    rw [hg]
    dsimp only
    refine CmpD.no (by show ¬ (i:Int) < 0; omega) ?_
    refine CodeF.stepD ?_
    repeat (first | refine LoadD.own 0 rfl _ rfl rfl ?_)
    refine Chk.mk (by show 0≤(i:Int)∧(i:Int) < xs.length; omega) ?_
    refine LoadD.imm hIS [.int .i64 b.pins] (by have e:=rcell_take hcS hx 2 1 (by omega); rw [hxc] at e; exact e) rfl ?_
    refine CmpD.split (fun (c1:0 < b.pins)=>?_) (fun (c1:¬ 0 < b.pins)=>?_)
    · rw [if_pos c1]
      repeat (first | refine LoadD.own 0 rfl _ rfl rfl ?_ | refine LoadD.own 1 rfl _ rfl rfl ?_ | refine StoreD.st 1 rfl rfl rfl ?_)
      exact Done.mk ⟨_,rfl,h0⟩
    rw [if_neg c1]
    refine CodeF.stepD ?_
    repeat (first | refine LoadD.own 0 rfl _ rfl rfl ?_)
    refine Tri.frameX (r12_copied m _ cap xs hand hR (by omega)) [] rfl rfl ?_
    rintro r _ A' hJ ⟨rfl,a2,cap2,ch,rfl,hO,rfl⟩
    obtain ⟨bX,pre,post,TX,rfl,rfl,hpost,hle2⟩:=own_open hO (by omega)
    repeat (first | refine StoreD.st 0 rfl rfl rfl ?_)
    refine CodeF.stepD ?_
    repeat (first | refine LoadD.own 0 rfl _ rfl rfl ?_)
    refine Chk.mk (by show 0≤(i:Int)∧(i:Int) < xs.length; omega) ?_
    refine StoreD.to 2 rfl _ (splice_rb (x':=⟨none,0,none⟩) hx 0 [.int .i64 (-1),.slice none 0 0,.int .i64 0,.bool false,.bool false] (by simp) (by rw [hxc] <;> rfl)) (by simp only [List.length_append,rcells_length]; show pre.length+i * 5+5≤_; omega) (.inr (.inr (Nat.le_refl _))) _ rfl ?_
    refine CodeF.fixD 2 rfl fun J3 hJ3 hm3=>?_
    refine CodeF.den ?_
    repeat (first | refine LoadD.own 0 rfl _ rfl rfl ?_ | refine LoadD.own 1 rfl _ rfl rfl ?_ | refine StoreD.st 1 rfl rfl rfl ?_)
    have hR3:=own_rds hm3
    rw [List.length_set] at hR3
    refine Done.mk ⟨_,rfl,⟨some ⟨bX,pre.length,none⟩,cap2,xs.set i ⟨none,0,none⟩,by rw [List.length_set]; rfl,by rw [List.length_set]; exact hR3,by rw [rb_set ho] <;> rfl,rb_set_ok (fun x hx=>(hok x hx).mono hJ3) i ?_,by rw [List.length_set]; exact hh,by rw [List.length_set]; exact hl⟩⟩
    intro b' hb'
    cases hb'
set_option maxHeartbeats 4000000 in
theorem r12_Put (h:RCv I val m c) (n:Int) (aL:Option Addr) (lL capL:Nat) (l:Dat) (hL:Rds I aL lL (bts l)) (hll:lL≤1000000):Tri Tryz.prog 141 #[val,.int .i64 n,.slice aL lL capL] I [] fun r J _=>∃ v',r=.tuple #[v',.int .i64 (c.putD n l).2]∧RCv J v' m (c.putD n l).1:=by
  have hlen:l.length=lL:=by have:=hL.len; rwa [bts_length] at this
  unfold CSt.putD
  have h0:=h
  obtain ⟨slots,hand⟩:=c
  obtain ⟨aS,cap,xs,rfl,hR,ho,hok,hh,hl⟩:=h
  dsimp only at ho hh
  refine Tri.ofF (args:=[.agg (cV m aS xs.length cap hand).toArray,.int .i64 n,.slice aL lL capL]) tabOk Tryz.func141 rfl (by kernel_rfl) (by kernel_rfl) ?_
  refine CodeF.stepD ?_
  conv=>whnf
  intro b2
  conv=>whnf
  intro b4
  refine CodeF.stepD ?_
  repeat (first | refine LoadD.own 0 rfl _ rfl rfl ?_)
  refine Tri.free (r12_find m aS cap xs hand hR hok (by omega) n) ?_
  rintro r _ _ hJ ⟨rfl,rfl⟩
  rw [ho]
  skip
  refine CodeF.stepD ?_
  cases hf:slots.findIdx? (isN n) with
  | none =>
    rw [got_of_none (c:=⟨slots,hand⟩) hf]
    refine CmpD.yes (by show (-1:Int) < 0; omega) ?_
    repeat (first | refine LoadD.own 0 rfl _ rfl rfl ?_ | refine LoadD.own 1 rfl _ rfl rfl ?_ | refine StoreD.st 1 rfl rfl rfl ?_)
    exact Done.mk ⟨_,rfl,h0⟩
  | some i =>
    obtain ⟨b,hb,hbn,hg⟩:=got_of_some (c:=⟨slots,hand⟩) hf
    obtain ⟨x,hx,hxo,hil⟩:=rb_some ho hb
    have hxk:=hok x (List.mem_of_getElem? hx) b hxo
    have hxc:=RB.cells_some hxo
    rcases hR.mem with q0 | ⟨bS,oS,cS,TS,fS,rfl,hIS,hcS⟩
    · omega
    rw [hg]
    dsimp only
    refine CmpD.no (by show ¬ (i:Int) < 0; omega) ?_
    skip
    refine CmpD.split (fun (c1:(lL:Int)=4096)=>?_) (fun (c1:¬ (lL:Int)=4096)=>?_)
    rotate_left
    · rw [if_pos (by omega)]
      repeat (first | refine LoadD.own 0 rfl _ rfl rfl ?_ | refine LoadD.own 1 rfl _ rfl rfl ?_ | refine StoreD.st 1 rfl rfl rfl ?_)
      exact Done.mk ⟨_,rfl,h0⟩
    rw [if_neg (by omega)]
    obtain rfl:lL=4096:=by omega
    skip
    refine CodeF.stepD ?_
    repeat (first | refine LoadD.own 0 rfl _ rfl rfl ?_)
    refine Tri.frameX (r12_copied m _ cap xs hand hR (by omega)) [] rfl rfl ?_
    rintro r _ A' hJ ⟨rfl,a2,cap2,ch,rfl,hO,rfl⟩
    obtain ⟨bX,pre,post,TX,rfl,rfl,hpost,hle2⟩:=own_open hO (by omega)
    repeat (first | refine StoreD.st 0 rfl rfl rfl ?_)
    refine CodeF.stepD ?_
    refine CodeF.sched [[],[0],[],[],[3],[0,1,2,3,4],[0,1,2,3,4,5],[0,1,2,3,4,5,6]] [0,1,2,3,4,5,6,7] (by kernel_rfl) ?_
    repeat (first | refine LoadP.at 0 rfl _ rfl rfl ?_)
    refine Tri.frameX (copy_own I aL 4096 capL l hL (by omega)) [] rfl rfl ?_
    rintro r _ A' hJ4 ⟨aC,capC,chC,rfl,hC,rfl,rfl⟩
    have hCle:=hC.le
    repeat (first | refine Chk.mk ⟨rfl,trivial⟩ ?_)
    refine Chk.mk (by show 0≤(i:Int)∧(i:Int) < xs.length; omega) ?_
    refine StoreD.to 2 rfl _ (splice_rb (x':=⟨aC,capC,some { b with data:=l }⟩) hx 1 [.slice aC 4096 capC] (by simp) (by rw [hxc]; show _=[Value.int .i64 b.n,.slice aC l.length capC,.int .i64 b.pins,.bool b.dirty,.bool b.mark]; rw [hlen]; rfl)) (by simp only [List.length_append,rcells_length]; show pre.length+i * 5+1+1≤_; omega) (.inr (.inr (Nat.le_refl _))) _ rfl ?_
    refine CodeF.stepD ?_
    repeat (first | refine LoadD.own 0 rfl _ rfl rfl ?_)
    refine Chk.mk (by show 0≤(i:Int)∧(i:Int) < xs.length; omega) ?_
    have hx1:(xs.set i ⟨aC,capC,some { b with data:=l }⟩)[i]?=some ⟨aC,capC,some { b with data:=l }⟩:=List.getElem?_set_self hil
    have hx2:((xs.set i ⟨aC,capC,some { b with data:=l }⟩).set i ⟨aC,capC,some { b with data:=l,dirty:=true }⟩)[i]?=some ⟨aC,capC,some { b with data:=l,dirty:=true }⟩:=List.getElem?_set_self (by rw [List.length_set]; exact hil)
    refine StoreD.to 2 rfl _ (splice_rb (x':=⟨aC,capC,some { b with data:=l,dirty:=true }⟩) hx1 3 [.bool true] (by simp) rfl) (by simp only [List.length_append,rcells_length,List.length_set]; show pre.length+i * 5+3+1≤_; omega) (.inr (.inr (Nat.le_refl _))) _ rfl ?_
    refine CodeF.stepD ?_
    repeat (first | refine LoadD.own 0 rfl _ rfl rfl ?_)
    refine Chk.mk (by show 0≤(i:Int)∧(i:Int) < xs.length; omega) ?_
    refine StoreD.to 2 rfl _ (splice_rb (x':=⟨aC,capC,some { b with data:=l,dirty:=true,mark:=true }⟩) hx2 4 [.bool true] (by simp) rfl) (by simp only [List.length_append,rcells_length,List.length_set]; show pre.length+i * 5+4+1≤_; omega) (.inr (.inr (Nat.le_refl _))) _ rfl ?_
    refine CodeF.fixD 3 rfl fun J2 hJ2 hm2=>?_
    have hCr:=Rds.of_own hC hm2
    refine CodeF.fixD 2 rfl fun J3 hJ3 hm3=>?_
    refine CodeF.den ?_
    repeat (first | refine LoadD.own 0 rfl _ rfl rfl ?_ | refine LoadD.own 1 rfl _ rfl rfl ?_ | refine StoreD.st 1 rfl rfl rfl ?_)
    have hR3:=own_rds hm3
    rw [List.set_set,List.set_set] at hR3
    rw [List.length_set] at hR3
    refine Done.mk ⟨_,rfl,⟨some ⟨bX,pre.length,none⟩,cap2,xs.set i ⟨aC,capC,some { b with data:=l,dirty:=true,mark:=true }⟩,by rw [List.length_set]; rfl,by rw [List.length_set]; exact hR3,by rw [rb_set ho] <;> rfl,rb_set_ok (fun x hx=>(hok x hx).mono (Imm.le_trans hJ2 hJ3)) i ?_,by rw [List.length_set]; exact hh,by rw [List.length_set]; exact hl⟩⟩
    intro b' hb'
    cases hb'
    refine ⟨?_,hxk.2.1,hxk.2.2.1,hxk.2.2.2.1,hxk.2.2.2.2.1,fun _=>by show l.length≤capC; omega,by show l.length≤1000000; omega⟩
    show Rds J3 aC l.length (bts l)
    rw [hlen]
    exact hCr.mono hJ3
end
end Go.Proofs.YtegdcjnjnoeinaaGreat
namespace Go.Proofs.YtegdcjnjnoeinaaGreat
open Go.RowKit Go.Sl
set_option maxRecDepth 20000
theorem roomK_at (f:Nat) (c:CSt) {b:Buf} (h:c.slots[c.hand]?=some (some b)):roomK (f+1) c=if 0 < b.pins∨b.dirty=true then roomK f ⟨c.slots,(c.hand+1) % c.slots.length⟩ else
    if b.mark=true then roomK f ⟨c.slots.set c.hand (some { b with mark:=false }),(c.hand+1) % c.slots.length⟩ else (⟨c.slots.set c.hand none,(c.hand+1) % c.slots.length⟩,some c.hand):=by
  rw [roomK,h]
set_option maxHeartbeats 8000000 in
theorem r12_room {I:Imm} {val:Value} {m:VC} {c:CSt} (h:RCv I val m c):Tri Tryz.prog 188 #[val] I [] fun r J _=>∃ v',r=.tuple #[v',.int .i64 (idxV c.room.2)]∧RCv J v' m c.room.1:=by
  refine Tri.fixed (Q:=fun r J S'=>∃ v' ch,r=.tuple #[v',.int .i64 (idxV c.room.2)]∧S'=[ch]∧∀ J',J.le J'→(∀ x ∈ ch,J' x.1=some x.2)→RCv J' v' m c.room.1) ?_ ?_
  rotate_left
  · rintro r J S' hJ ⟨v',ch,rfl,rfl,h⟩
    exact ⟨0,ch,rfl,fun J' hJ' hm=>⟨v',rfl,h J' hJ' hm⟩⟩
  have h0:=h
  obtain ⟨slots,hand⟩:=c
  obtain ⟨aS,cap,xs,rfl,hR,ho,hok,hh,hl⟩:=h
  dsimp only at ho hh
  refine Tri.lay (S2:=[[]]) (by simp) ?_
  refine Tri.drop ?_ (fun _ _ _ _ h=>h)
  refine Tri.of (args:=[.agg (cV m aS xs.length cap hand).toArray]) tabOk Tryz.func188 rfl (by kernel_rfl) (by kernel_rfl) ?_
  conv=>whnf
  intro b1
  conv=>whnf
  intro b2
  obtain ⟨B2,hB2⟩:∃ B2:List Blk,B2=[(b2,row (cV ⟨⟨none,0,0⟩,⟨none,0,0⟩,⟨none,0,0⟩,⟨none,0,0⟩,0,false,0,0,⟨0,0,0,0,0,0,0⟩,0,0,0,0,0,0,0,false,⟨0,0,0,0,0,0,0⟩,0,false⟩ none 0 0 0) 116)]:=⟨_,rfl⟩
  unfold CSt.room
  dsimp only
  refine CodeF.loopD [1,2,4] (fun vs J S'=>∃ i:Nat,i≤xs.length∧(∀ (j:Nat) (x:RB),j < i→xs[j]?=some x→x.o.isNone=false)∧I=J∧vs=[.pointer (some ⟨b1,0,none⟩),.pointer (some ⟨b2,0,none⟩),.int .i64 i]∧S'=[[],[(b1,row (cV m aS xs.length cap hand) 116)],B2])
    (fun vs _ _=>match vs with | [_,_,.int _ i]=>((xs.length:Int) - i).toNat | _=>0) ?_ ?_
  · exact ⟨_,by rw [hB2]; exact Drop.refl _,0,by omega,fun j x h=>by omega,rfl,rfl,rfl⟩
  rintro vs gE J S' hJ ⟨i,hi,hno,rfl,rfl,rfl⟩
  repeat (first | refine LoadD.own 1 rfl _ rfl rfl ?_)
  refine CmpD.split (fun (c1:(i:Int) < xs.length)=>?_) (fun (c1:¬ (i:Int) < xs.length)=>?_)
  · have hil:i < xs.length:=by omega
    have hx:xs[i]?=some xs[i]:=List.getElem?_eq_getElem hil
    have hxo:=hok _ (List.getElem_mem hil)
    generalize xs[i]=x at *
    rcases hR.mem with q0 | ⟨bS,oS,cS,TS,fS,rfl,hIS,hcS⟩
    · omega
    have hcell:=rcell_take hcS hx 0 1 (by omega)
    rw [RB.cells_n] at hcell
    repeat (first | refine LoadD.own 1 rfl _ rfl rfl ?_)
    refine Chk.mk (by show 0≤(i:Int)∧(i:Int) < xs.length; omega) ?_
    refine LoadD.imm hIS [.int .i64 x.n] hcell rfl ?_
    refine CmpD.split (fun (c2:x.n < 0)=>?_) (fun (c2:¬ x.n < 0)=>?_)
    · have hxn:x.o=none:=by
        cases hx2:x.o with
        | none=>rfl
        | some b=>exfalso; have:=(hxo b hx2).2.1; unfold RB.n at c2; rw [hx2] at c2; dsimp only at c2; omega
      rw [hB2]
      repeat (first | refine LoadD.own 1 rfl _ rfl rfl ?_ | refine LoadD.own 2 rfl _ rfl rfl ?_ | refine StoreD.st 2 rfl rfl rfl ?_)
      rw [← ho,slots_idx,findIdx_take (fun x:RB=>x.o.isNone) xs hno hx (by show x.o.isNone=true; rw [hxn]; rfl)]
      dsimp only
      rw [ho]
      exact Done.mk ⟨[[]],Drop.pick [0] _ rfl,_,[],rfl,rfl,fun J' hJ' _=>h0.mono hJ'⟩
    · refine ToD.to (((i+1:Nat)):Int) (by rw [wrap_i64 (by omega) (by omega)]; omega) ?_
      refine ⟨_,Drop.refl _,⟨i+1,by omega,?_,rfl,rfl,rfl⟩,?_⟩
      · intro j y hj hy
        by_cases hji:j=i
        · subst hji; rw [hx] at hy; cases hy
          cases hx2:x.o with
          | none=>exfalso; unfold RB.n at c2; rw [hx2] at c2; dsimp only at c2; omega
          | some b=>rfl
        · exact hno j y (by omega) hy
      · show ((xs.length:Int) - ((i+1:Nat):Int)).toNat < ((xs.length:Int) - (i:Int)).toNat; omega
  obtain rfl:i=xs.length:=by omega
  have hall:(slots.findIdx? Option.isNone)=none:=by
    rw [← ho,slots_idx,findIdx_no (fun x:RB=>x.o.isNone) xs (fun j x hx=>hno j x (List.getElem?_eq_some_iff.1 hx).1 hx)]
  rw [hall]
  dsimp only
  have hsome:∀ x ∈ xs,x.o≠none:=by
    intro x hx hn
    obtain ⟨j,hj⟩:=List.mem_iff_getElem?.1 hx
    have:=hno j x (List.getElem?_eq_some_iff.1 hj).1 hj
    rw [hn] at this
    cases this
  have hsl:slots.length=xs.length:=by rw [← ho,List.length_map]
  rw [hsl]
  repeat (first | refine LoadD.own 1 rfl _ rfl rfl ?_)
  refine Tri.frameX (r12_copied m _ cap xs hand hR (by omega)) [] rfl rfl ?_
  rintro r _ A' hJ2 ⟨rfl,a2,cap2,ch,rfl,hO,rfl⟩
  obtain ⟨bX,pre,post,TX,rfl,rfl,hpost,hle2⟩:=own_open hO (by omega)
  repeat (first | refine StoreD.st 1 rfl rfl rfl ?_)
  refine CodeF.loopD [1,2,5] (fun vs J S'=>∃ (k:Nat) (ys:List RB) (hd:Nat),k≤2 * xs.length∧roomK (2 * xs.length) ⟨slots,hand⟩=roomK (2 * xs.length - k) ⟨ys.map RB.o,hd⟩∧ys.length=xs.length∧hd < xs.length∧(∀ y ∈ ys,RbOk I y∧y.o≠none)∧I=J ∧
      vs=[.pointer (some ⟨b1,0,none⟩),.pointer (some ⟨b2,0,none⟩),.int .i64 k] ∧
      S'=[[],[(b1,row (cV m (some ⟨bX,pre.length,none⟩) xs.length cap2 hd) 116)],B2,[(bX,row (pre++rcells ys++post) TX)]])
    (fun vs _ _=>match vs with | [_,_,.int _ k]=>((2 * xs.length:Int) - k).toNat | _=>0) ?_ ?_
  · exact ⟨_,Drop.refl _,0,xs,hand,by omega,by rw [ho]; rfl,rfl,hh,fun y hy=>⟨hok y hy,hsome y hy⟩,rfl,rfl,rfl⟩
  rintro vs gE2 J2 S2 hJ2 ⟨k,ys,hd,hk,hrel,hyl,hhd,hyok,rfl,rfl,rfl⟩
  repeat (first | refine LoadD.own 1 rfl _ rfl rfl ?_)
  refine ToD.to ((2 * xs.length:Nat):Int) (by show IntKind.i64.wrap (2 * (xs.length:Int))=_; rw [wrap_i64 (by omega) (by omega)]; omega) ?_
  refine CmpD.split (fun (c3:(k:Int) < ((2 * xs.length:Nat):Int))=>?_) (fun (c3:¬ (k:Int) < ((2 * xs.length:Nat):Int))=>?_)
  rotate_left
  · obtain rfl:k=2 * xs.length:=by omega
    rw [Nat.sub_self,roomK] at hrel
    rw [hrel,hB2]
    repeat (first | refine LoadD.own 1 rfl _ rfl rfl ?_ | refine LoadD.own 2 rfl _ rfl rfl ?_ | refine StoreD.st 2 rfl rfl rfl ?_)
    refine Done.mk ⟨[[(bX,row (pre++rcells ys++post) TX)]],Drop.pick [3] _ rfl,_,_,rfl,rfl,fun J' hJ' hm=>?_⟩
    have hR3:=own_rds hm
    exact ⟨some ⟨bX,pre.length,none⟩,cap2,ys,by rw [hyl]; rfl,hR3,rfl,fun y hy=>((hyok y hy).1).mono hJ',by rw [hyl]; exact hhd,by rw [hyl]; exact hl⟩
  have hhy:hd < ys.length:=by omega
  have hy:ys[hd]?=some ys[hd]:=List.getElem?_eq_getElem hhy
  obtain ⟨hyk,hyn⟩:=hyok _ (List.getElem_mem hhy)
  generalize ys[hd]=y at *
  obtain ⟨b,hyb⟩:∃ b,y.o=some b:=by
    cases hyo:y.o with
    | none=>exact absurd hyo hyn
    | some b=>exact ⟨b,rfl⟩
  have hyc:=RB.cells_some hyb
  have hyb':=hyk b hyb
  have hsl2:(ys.map RB.o)[hd]?=some (some b):=by rw [List.getElem?_map,hy]; show some y.o=_; rw [hyb]
  have hstep:=roomK_at (2 * xs.length - (k+1)) ⟨ys.map RB.o,hd⟩ hsl2
  rw [show 2 * xs.length - (k+1)+1=2 * xs.length - k by omega,← hrel] at hstep
  dsimp only at hstep
  rw [List.length_map,hyl] at hstep
  have hmu:((2 * xs.length:Int) - ((k+1:Nat):Int)).toNat < ((2 * xs.length:Int) - (k:Int)).toNat:=by omega
  obtain ⟨bn,bd,bp,bdirty,bmark⟩:=b
  dsimp only at hyc hyb' hstep
  repeat (first | refine LoadD.own 1 rfl _ rfl rfl ?_)
  refine ToD.to (((hd+1:Nat)):Int) (by rw [wrap_i64 (by omega) (by omega)]; omega) ?_
  repeat (first | refine LoadD.own 1 rfl _ rfl rfl ?_ | refine StoreD.st 1 rfl rfl rfl ?_)
  refine CmpD.split (fun (c4:(((hd+1:Nat)):Int)=xs.length)=>?_) (fun (c4:¬ (((hd+1:Nat)):Int)=xs.length)=>?_)
  · have hmod:(hd+1) % xs.length=0:=by rw [show hd+1=xs.length by omega,Nat.mod_self]
    rw [hmod] at hstep
    repeat (first | refine LoadD.own 1 rfl _ rfl rfl ?_ | refine StoreD.st 1 rfl rfl rfl ?_)
    refine Chk.mk (by show 0≤(hd:Int)∧(hd:Int) < xs.length; omega) ?_
    refine LoadD.own 3 rfl [.int .i64 bn,.slice y.a bd.length y.cap,.int .i64 bp,.bool bdirty,.bool bmark] (by have e:=own_rcell (pre:=pre) (post:=post) hy 0 5 (by omega); rw [hyc] at e; exact e) rfl ?_
    conv=>whnf
    intro b7
    repeat (first | refine LoadD.own 4 rfl _ rfl rfl ?_ | refine StoreD.st 4 rfl rfl rfl ?_)
    refine CmpD.split (fun (c5:0 < bp)=>?_) (fun (c5:¬ 0 < bp)=>?_)
    · rw [if_pos (.inl c5)] at hstep
      refine ToD.to (((k+1:Nat)):Int) (by rw [wrap_i64 (by omega) (by omega)]; omega) ?_
      exact ⟨_,Drop.pick [0,1,2,3] _ rfl,⟨k+1,ys,0,by omega,hstep,hyl,by omega,hyok,rfl,rfl,rfl⟩,hmu⟩
    repeat (first | refine LoadD.own 4 rfl _ rfl rfl ?_)
    cases bdirty with
    | true =>
      rw [if_pos (.inr rfl)] at hstep
      skip
      refine ToD.to (((k+1:Nat)):Int) (by rw [wrap_i64 (by omega) (by omega)]; omega) ?_
      exact ⟨_,Drop.pick [0,1,2,3] _ rfl,⟨k+1,ys,0,by omega,hstep,hyl,by omega,hyok,rfl,rfl,rfl⟩,hmu⟩
    | false =>
      rw [if_neg (by simp; omega)] at hstep
      repeat (first | refine LoadD.own 4 rfl _ rfl rfl ?_)
      cases bmark with
      | false =>
        rw [if_neg (by simp)] at hstep
        repeat (first | refine LoadD.own 1 rfl _ rfl rfl ?_)
        refine Chk.mk (by show 0≤(hd:Int)∧(hd:Int) < xs.length; omega) ?_
        refine StoreD.to 3 rfl _ (splice_rb (x':=⟨none,0,none⟩) hy 0 [.int .i64 (-1),.slice none 0 0,.int .i64 0,.bool false,.bool false] (by simp) (by rw [hyc] <;> rfl)) (by simp only [List.length_append,rcells_length]; show pre.length+hd * 5+5≤_; omega) (.inr (.inr (Nat.le_refl _))) _ rfl ?_
        rw [hB2]
        repeat (first | refine LoadD.own 1 rfl _ rfl rfl ?_ | refine LoadD.own 2 rfl _ rfl rfl ?_ | refine StoreD.st 2 rfl rfl rfl ?_)
        rw [hstep]
        refine Done.mk ⟨[[(bX,row (pre++rcells (ys.set hd ⟨none,0,none⟩)++post) TX)]],Drop.pick [3] _ rfl,_,_,rfl,rfl,fun J' hJ' hm=>?_⟩
        have hR3:=own_rds hm
        rw [List.length_set] at hR3
        refine ⟨some ⟨bX,pre.length,none⟩,cap2,ys.set hd ⟨none,0,none⟩,by rw [List.length_set,hyl]; rfl,by rw [List.length_set]; exact hR3,by rw [rb_set rfl] <;> rfl,rb_set_ok (fun x hx=>((hyok x hx).1).mono hJ') hd ?_,by rw [List.length_set,hyl]; show 0 < xs.length; omega,by rw [List.length_set,hyl]; exact hl⟩
        intro b' hb'
        cases hb'
      | true =>
        rw [if_pos rfl] at hstep
        repeat (first | refine LoadD.own 1 rfl _ rfl rfl ?_)
        refine Chk.mk (by show 0≤(hd:Int)∧(hd:Int) < xs.length; omega) ?_
        refine StoreD.to 3 rfl _ (splice_rb (x':=⟨y.a,y.cap,some ⟨bn,bd,bp,false,false⟩⟩) hy 4 [.bool false] (by simp) (by rw [hyc] <;> rfl)) (by simp only [List.length_append,rcells_length]; show pre.length+hd * 5+4+1≤_; omega) (.inr (.inr (Nat.le_refl _))) _ rfl ?_
        refine ToD.to (((k+1:Nat)):Int) (by rw [wrap_i64 (by omega) (by omega)]; omega) ?_
        refine ⟨_,Drop.pick [0,1,2,3] _ rfl,⟨k+1,ys.set hd ⟨y.a,y.cap,some ⟨bn,bd,bp,false,false⟩⟩,0,by omega,?_,by rw [List.length_set]; exact hyl,by omega,?_,rfl,rfl,rfl⟩,hmu⟩
        · rw [rb_set rfl]; exact hstep
        · intro z hz
          rcases List.mem_or_eq_of_mem_set hz with hz | rfl
          · exact hyok z hz
          · exact ⟨fun b' hb'=>by cases hb'; exact ⟨hyb'.1,hyb'.2.1,hyb'.2.2.1,hyb'.2.2.2.1,hyb'.2.2.2.2.1,fun h=>absurd h (by simp),hyb'.2.2.2.2.2.2⟩,by simp⟩
  · have hmod:(hd+1) % xs.length=hd+1:=Nat.mod_eq_of_lt (by omega)
    rw [hmod] at hstep
    repeat (first | refine LoadD.own 1 rfl _ rfl rfl ?_)
    refine Chk.mk (by show 0≤(hd:Int)∧(hd:Int) < xs.length; omega) ?_
    refine LoadD.own 3 rfl [.int .i64 bn,.slice y.a bd.length y.cap,.int .i64 bp,.bool bdirty,.bool bmark] (by have e:=own_rcell (pre:=pre) (post:=post) hy 0 5 (by omega); rw [hyc] at e; exact e) rfl ?_
    conv=>whnf
    intro b7
    repeat (first | refine LoadD.own 4 rfl _ rfl rfl ?_ | refine StoreD.st 4 rfl rfl rfl ?_)
    refine CmpD.split (fun (c5:0 < bp)=>?_) (fun (c5:¬ 0 < bp)=>?_)
    · rw [if_pos (.inl c5)] at hstep
      refine ToD.to (((k+1:Nat)):Int) (by rw [wrap_i64 (by omega) (by omega)]; omega) ?_
      exact ⟨_,Drop.pick [0,1,2,3] _ rfl,⟨k+1,ys,hd+1,by omega,hstep,hyl,by omega,hyok,rfl,rfl,rfl⟩,hmu⟩
    repeat (first | refine LoadD.own 4 rfl _ rfl rfl ?_)
    cases bdirty with
    | true =>
      rw [if_pos (.inr rfl)] at hstep
      skip
      refine ToD.to (((k+1:Nat)):Int) (by rw [wrap_i64 (by omega) (by omega)]; omega) ?_
      exact ⟨_,Drop.pick [0,1,2,3] _ rfl,⟨k+1,ys,hd+1,by omega,hstep,hyl,by omega,hyok,rfl,rfl,rfl⟩,hmu⟩
    | false =>
      rw [if_neg (by simp; omega)] at hstep
      repeat (first | refine LoadD.own 4 rfl _ rfl rfl ?_)
      cases bmark with
      | false =>
        rw [if_neg (by simp)] at hstep
        repeat (first | refine LoadD.own 1 rfl _ rfl rfl ?_)
        refine Chk.mk (by show 0≤(hd:Int)∧(hd:Int) < xs.length; omega) ?_
        refine StoreD.to 3 rfl _ (splice_rb (x':=⟨none,0,none⟩) hy 0 [.int .i64 (-1),.slice none 0 0,.int .i64 0,.bool false,.bool false] (by simp) (by rw [hyc] <;> rfl)) (by simp only [List.length_append,rcells_length]; show pre.length+hd * 5+5≤_; omega) (.inr (.inr (Nat.le_refl _))) _ rfl ?_
        rw [hB2]
        repeat (first | refine LoadD.own 1 rfl _ rfl rfl ?_ | refine LoadD.own 2 rfl _ rfl rfl ?_ | refine StoreD.st 2 rfl rfl rfl ?_)
        rw [hstep]
        refine Done.mk ⟨[[(bX,row (pre++rcells (ys.set hd ⟨none,0,none⟩)++post) TX)]],Drop.pick [3] _ rfl,_,_,rfl,rfl,fun J' hJ' hm=>?_⟩
        have hR3:=own_rds hm
        rw [List.length_set] at hR3
        refine ⟨some ⟨bX,pre.length,none⟩,cap2,ys.set hd ⟨none,0,none⟩,by rw [List.length_set,hyl]; rfl,by rw [List.length_set]; exact hR3,by rw [rb_set rfl] <;> rfl,rb_set_ok (fun x hx=>((hyok x hx).1).mono hJ') hd ?_,by rw [List.length_set,hyl]; show hd+1 < xs.length; omega,by rw [List.length_set,hyl]; exact hl⟩
        intro b' hb'
        cases hb'
      | true =>
        rw [if_pos rfl] at hstep
        repeat (first | refine LoadD.own 1 rfl _ rfl rfl ?_)
        refine Chk.mk (by show 0≤(hd:Int)∧(hd:Int) < xs.length; omega) ?_
        refine StoreD.to 3 rfl _ (splice_rb (x':=⟨y.a,y.cap,some ⟨bn,bd,bp,false,false⟩⟩) hy 4 [.bool false] (by simp) (by rw [hyc] <;> rfl)) (by simp only [List.length_append,rcells_length]; show pre.length+hd * 5+4+1≤_; omega) (.inr (.inr (Nat.le_refl _))) _ rfl ?_
        refine ToD.to (((k+1:Nat)):Int) (by rw [wrap_i64 (by omega) (by omega)]; omega) ?_
        refine ⟨_,Drop.pick [0,1,2,3] _ rfl,⟨k+1,ys.set hd ⟨y.a,y.cap,some ⟨bn,bd,bp,false,false⟩⟩,hd+1,by omega,?_,by rw [List.length_set]; exact hyl,by omega,?_,rfl,rfl,rfl⟩,hmu⟩
        · rw [rb_set rfl]; exact hstep
        · intro z hz
          rcases List.mem_or_eq_of_mem_set hz with hz | rfl
          · exact hyok z hz
          · exact ⟨fun b' hb'=>by cases hb'; exact ⟨hyb'.1,hyb'.2.1,hyb'.2.2.1,hyb'.2.2.2.1,hyb'.2.2.2.2.1,fun h=>absurd h (by simp),hyb'.2.2.2.2.2.2⟩,by simp⟩
end Go.Proofs.YtegdcjnjnoeinaaGreat
namespace Go.Proofs.YtegdcjnjnoeinaaGreat
open Go.RowKit Go.Sl
set_option maxRecDepth 20000
theorem room_some (c:CSt) (hh:c.hand < c.slots.length) {i:Nat}:c.room.2=some i→i < c.room.1.slots.length∧c.room.1.slots[i]?=some none:=by
  have key:∀ (f:Nat) (c:CSt),c.hand < c.slots.length→(roomK f c).2=some i→i < (roomK f c).1.slots.length∧(roomK f c).1.slots[i]?=some none:=by
    intro f
    induction f with
    | zero=>intro c _ h; cases h
    | succ f ih =>
      intro c hc h
      unfold roomK at h ⊢
      split at h
      · rename_i b hb
        have hm:(c.hand+1) % c.slots.length < c.slots.length:=Nat.mod_lt _ (by omega)
        split at h
        · rename_i h1
          rw [if_pos h1]
          exact ih _ hm h
        · rename_i h1
          rw [if_neg h1]
          split at h
          · rename_i h2
            rw [if_pos h2]
            refine ih _ ?_ h
            show _ % c.slots.length < (c.slots.set _ _).length
            rw [List.length_set]; exact hm
          · rename_i h2
            rw [if_neg h2]
            cases h
            dsimp only
            rw [List.length_set]
            exact ⟨hc,List.getElem?_set_self hc⟩
      · cases h
  unfold CSt.room
  cases hf:c.slots.findIdx? Option.isNone with
  | some j =>
    intro h
    cases h
    rw [List.findIdx?_eq_some_iff_getElem] at hf
    obtain ⟨h1,h2,_⟩:=hf
    refine ⟨h1,?_⟩
    show c.slots[i]?=_
    rw [List.getElem?_eq_getElem h1]
    cases hx:c.slots[i] with
    | none=>rfl
    | some b=>rw [hx] at h2; cases h2
  | none=>exact key _ c hh
set_option maxHeartbeats 8000000 in
theorem r12_Load {I:Imm} {val:Value} {m:VC} {c:CSt} (h:RCv I val m c) {v:VSt} {d:DSt} {q:Nat} (hV:RVk I (.agg m.l.toArray) v d q) (hq:q≤1000000) (hf:d.Few 1000000) (hlay:v.j.lay.b=d.now.length) (hho:∀ g ∈ v.fresh,0≤g.1∧g.1 < d.now.length) (n:Int)
    (hrd:(v.read d n).2=0→0≤n∧n < 64∧(v.read d n).1.length≤1000000) :
    Tri Tryz.prog 137 #[val,.int .i64 n] I [] fun r J _=>∃ v' a cap,r=.tuple #[v',.slice a (c.load v d n).2.1.length cap,.int .i64 (c.load v d n).2.2]∧Rds J a (c.load v d n).2.1.length (bts (c.load v d n).2.1)∧RCv J v' m (c.load v d n).1:=by
  have h0:=h
  have hRead:=r11_Read hV hq hf hlay hho n
  have hroom:=r12_room h
  have hsome:=fun i=>room_some c (by obtain ⟨aS,cap,xs,h1,h2,h3,h4,h5,h6⟩:=h; rw [← h3,List.length_map]; exact h5) (i:=i)
  obtain ⟨aS,cap,xs,rfl,hR,ho,hok,hh,hl⟩:=h
  generalize hvr:v.read d n=vr at *
  refine Tri.ofF (args:=[.agg (cV m aS xs.length cap c.hand).toArray,.int .i64 n]) tabOk Tryz.func137 rfl (by kernel_rfl) (by kernel_rfl) ?_
  unfold CSt.load
  rw [hvr]
  refine CodeF.stepD ?_
  conv=>whnf
  intro b2
  conv=>whnf
  intro b4
  refine CodeF.seqF ?_
  refine CodeF.stepD ?_
  repeat (first | refine LoadD.own 0 rfl _ rfl rfl ?_)
  refine Tri.free (r12_find m aS cap xs c.hand hR hok (by omega) n) ?_
  rintro r _ _ hJ ⟨rfl,rfl⟩
  rw [ho]
  skip
  refine CodeF.stepD ?_
  cases hfi:c.slots.findIdx? (isN n) with
  | some i =>
    obtain ⟨b,hb,hbn,hg⟩:=got_of_some hfi
    obtain ⟨x,hx,hxo,hil⟩:=rb_some ho hb
    have hxk:=hok x (List.mem_of_getElem? hx) b hxo
    have hxc:=RB.cells_some hxo
    rw [hg]
    dsimp only
    refine CmpD.yes (by show 0≤(i:Int); omega) ?_
    refine CodeF.den ?_
    repeat (first | refine LoadD.own 0 rfl _ rfl rfl ?_)
    refine Tri.frameX (r12_copied m _ cap xs c.hand hR (by omega)) [] rfl rfl ?_
    rintro r _ A' hJ ⟨rfl,a2,cap2,ch,rfl,hO,rfl⟩
    obtain ⟨bX,pre,post,TX,rfl,rfl,hpost,hle2⟩:=own_open hO (by omega)
    repeat (first | refine LoadD.own 0 rfl _ rfl rfl ?_ | refine StoreD.st 0 rfl rfl rfl ?_)
    refine Chk.mk (by show 0≤(i:Int)∧(i:Int) < xs.length; omega) ?_
    refine StoreD.to 2 rfl _ (splice_rb (x':=⟨x.a,x.cap,some { b with mark:=true }⟩) hx 4 [.bool true] (by simp) (by rw [hxc] <;> rfl)) (by simp only [List.length_append,rcells_length]; show pre.length+i * 5+4+1≤_; omega) (.inr (.inr (Nat.le_refl _))) _ rfl ?_
    refine CodeF.fixD 2 rfl fun J3 hJ3 hm3=>?_
    have hR3:=own_rds hm3
    have hx3:(xs.set i ⟨x.a,x.cap,some { b with mark:=true }⟩)[i]?=some ⟨x.a,x.cap,some { b with mark:=true }⟩:=List.getElem?_set_self hil
    rw [List.length_set] at hR3
    rcases hR3.mem with q0 | ⟨bZ,oZ,cZ,TZ,fZ,hZa,hIZ,hcZ⟩
    · omega
    cases hZa
    refine CodeF.sched [[],[],[1],[],[1,2,3],[1,2,3,4],[1,2,3,4,5],[0],[0,1,2,3,4,5,6,7],[0,1,2,3,4,5,6,7,8]] [0,1,2,3,4,5,6,7,8,9] (by kernel_rfl) ?_
    repeat (first | refine LoadP.at 0 rfl _ rfl rfl ?_)
    refine Chk.mk (by show 0≤(i:Int)∧(i:Int) < xs.length; omega) ?_
    refine LoadP.imm [.slice x.a b.data.length x.cap] ⟨cZ,TZ,fZ,.imm hIZ,by have e:=rcell_take (by rw [List.length_set]; exact hcZ) hx3 1 1 (by omega); exact e,rfl⟩ ?_
    repeat (first | refine LoadD.own 1 rfl _ rfl rfl ?_ | refine StoreD.st 1 rfl rfl rfl ?_ | refine Chk.mk ⟨rfl,trivial⟩ ?_)
    refine Done.mk ⟨_,x.a,x.cap,rfl,hxk.1.mono hJ3,⟨some ⟨bX,pre.length,none⟩,cap2,xs.set i ⟨x.a,x.cap,some { b with mark:=true }⟩,by rw [List.length_set]; rfl,by rw [List.length_set]; exact hR3,by rw [rb_set ho] <;> rfl,rb_set_ok (fun x hx=>(hok x hx).mono hJ3) i ?_,by rw [List.length_set]; exact hh,by rw [List.length_set]; exact hl⟩⟩
    intro b' hb'
    cases hb'
    exact ⟨hxk.1.mono hJ3,hxk.2⟩
  | none =>
    rw [got_of_none hfi]
    dsimp only
    refine CmpD.no (by show ¬ (0:Int)≤-1; omega) ?_
    refine CodeF.den ?_
    refine CodeF.stepD ?_
    repeat (first | refine LoadD.own 0 rfl _ rfl rfl ?_)
    refine Tri.free hRead ?_
    obtain ⟨dat,e⟩:=vr
    dsimp only at hrd ⊢
    rintro r _ _ hJ ⟨rfl,aD,lD,capD,rfl,hD⟩
    have hDl:dat.length=lD:=by have:=hD.len; rwa [bts_length] at this
    subst hDl
    skip
    refine CodeF.stepD ?_
    by_cases he:e≠0
    · refine CmpD.no he ?_
      rw [if_pos he]
      repeat (first | refine LoadD.own 0 rfl _ rfl rfl ?_ | refine LoadD.own 1 rfl _ rfl rfl ?_ | refine StoreD.st 1 rfl rfl rfl ?_)
      exact Done.mk ⟨_,none,0,rfl,⟨rfl,.inl rfl⟩,h0⟩
    obtain rfl:e=0:=by omega
    rw [if_neg he]
    have hn:=hrd rfl
    repeat (first | refine CmpD.yes rfl ?_)
    refine CodeF.stepD ?_
    repeat (first | refine LoadD.own 0 rfl _ rfl rfl ?_)
    refine Tri.free hroom ?_
    generalize c.room=cr at *
    obtain ⟨c2,ri⟩:=cr
    dsimp only at hsome ⊢
    rintro r J2 _ hJ2 ⟨v',rfl,hC2⟩
    have hC2':=hC2
    obtain ⟨aT,capT,zs,rfl,hRT,hoT,hokT,hhT,hlT⟩:=hC2
    repeat (first | refine StoreD.st 0 rfl rfl rfl ?_)
    refine CodeF.stepD ?_
    cases ri with
    | none =>
      dsimp only
      refine CmpD.yes (by show (-1:Int) < 0; omega) ?_
      repeat (first | refine LoadD.own 0 rfl _ rfl rfl ?_ | refine LoadD.own 1 rfl _ rfl rfl ?_ | refine StoreD.st 1 rfl rfl rfl ?_)
      exact Done.mk ⟨_,none,0,rfl,⟨rfl,.inl rfl⟩,hC2'⟩
    | some i =>
      dsimp only
      refine CmpD.no (by show ¬ (i:Int) < 0; omega) ?_
      obtain ⟨hi1,hi2⟩:=hsome i rfl
      rw [← hoT,List.length_map] at hi1
      have hzi:zs[i]?=some zs[i]:=List.getElem?_eq_getElem hi1
      have hzn:zs[i].o=none:=by
        rw [← hoT,List.getElem?_map,hzi] at hi2
        simpa using hi2
      have hzc:=RB.cells_none hzn
      generalize zs[i]=z at *
      refine CodeF.stepD ?_
      repeat (first | refine LoadD.own 0 rfl _ rfl rfl ?_)
      refine Tri.frameX (r12_copied m _ capT zs c2.hand hRT (by omega)) [] rfl rfl ?_
      rintro r _ A' hJ ⟨rfl,a2,cap2,ch,rfl,hO,rfl⟩
      obtain ⟨bX,pre,post,TX,rfl,rfl,hpost,hle2⟩:=own_open hO (by omega)
      repeat (first | refine StoreD.st 0 rfl rfl rfl ?_)
      refine CodeF.stepD ?_
      repeat (first | refine LoadD.own 0 rfl _ rfl rfl ?_)
      refine Chk.mk (by show 0≤(i:Int)∧(i:Int) < zs.length; omega) ?_
      refine StoreD.to 2 rfl _ (splice_rb (x':=⟨aD,capD,some ⟨n,dat,0,false,true⟩⟩) hzi 0 [.int .i64 n,.slice aD dat.length capD,.int .i64 0,.bool false,.bool true] (by simp) (by rw [hzc] <;> rfl)) (by simp only [List.length_append,rcells_length]; show pre.length+i * 5+5≤_; omega) (.inr (.inr (Nat.le_refl _))) _ rfl ?_
      refine CodeF.fixD 2 rfl fun J3 hJ3 hm3=>?_
      refine CodeF.den ?_
      repeat (first | refine LoadD.own 0 rfl _ rfl rfl ?_ | refine LoadD.own 1 rfl _ rfl rfl ?_ | refine StoreD.st 1 rfl rfl rfl ?_)
      have hR3:=own_rds hm3
      rw [List.length_set] at hR3
      refine Done.mk ⟨_,aD,capD,rfl,hD.mono (Imm.le_trans hJ2 hJ3),⟨some ⟨bX,pre.length,none⟩,cap2,zs.set i ⟨aD,capD,some ⟨n,dat,0,false,true⟩⟩,by rw [List.length_set]; rfl,by rw [List.length_set]; exact hR3,by rw [rb_set hoT] <;> rfl,rb_set_ok (fun x hx=>(hokT x hx).mono hJ3) i ?_,by rw [List.length_set]; exact hhT,by rw [List.length_set]; exact hlT⟩⟩
      intro b' hb'
      cases hb'
      exact ⟨hD.mono (Imm.le_trans hJ2 hJ3),hn.1,hn.2.1,Int.le_refl _,by show (0:Int)≤1000; decide,fun h=>absurd h (by simp),hn.2.2⟩
end Go.Proofs.YtegdcjnjnoeinaaGreat
namespace Go.Proofs.YtegdcjnjnoeinaaGreat
open Go.RowKit Go.Sl
set_option maxRecDepth 20000
theorem und_form (l:List BufM) (m:BufM):∃ dd:Bool,und l m=⟨m.blk,m.a,m.cap,⟨m.b.n,m.b.data,m.b.pins,dd,m.b.mark⟩⟩:=by
  unfold und
  split
  · exact ⟨false,rfl⟩
  · exact ⟨m.b.dirty,rfl⟩
section
variable {I:Imm} {bC bV bD:Nat} {c:CSt} {ch:List Blk}
set_option maxHeartbeats 2000000 in
theorem ck_Commit (h:Ck I bC bV c ch) (hl12:c.slots.length≤12) (hnd:(c.held.map Buf.n).Nodup) {v:VSt} {chV:List Blk} (hV:Vk I bV bD v chV) (hw:v.j.Wf) (hep:v.epoch=v.j.epoch) (hsl:0≤v.slot∧v.slot≤1) (hfr:v.fresh.length≤1000) (hgr:v.j.groups.length≤800000) {d:DSt} {chD:List Blk} (hD:Dk I bD d chD) (hf:d.Few 700000) :
    Tri Tryz.prog 61 #[.pointer (some ⟨bC,0,none⟩)] I [ch,chV,chD] fun r J S'=>r=.tuple #[.int .i64 (c.commit v d).2.2.2.1,.int .i64 (c.commit v d).2.2.2.2]∧I.le J ∧
      ∃ ch' chV' chD',Ck J bC bV (c.commit v d).1 ch'∧Vk J bV bD (c.commit v d).2.1 chV'∧Dk J bD (c.commit v d).2.2.1 chD'∧S'=[ch',chV',chD']:=by
  obtain ⟨slots,hand⟩:=c
  obtain ⟨bS,cs,rfl,rfl,hok,hl1,hl2,hh⟩:=h
  dsimp only at hh hl12 ⊢
  rw [slotsOf_len] at hl12
  refine Tri.lay (ck_lay bC bV bS hand cs [chV,chD]) ?_
  refine Tri.drop ?_ (fun _ _ _ _ h=>h)
  refine Tri.nodup 2 rfl fun hnb=>?_
  refine Tri.of (args:=[.pointer (some ⟨bC,0,none⟩)]) tabOk Tryz.func61 rfl (by kernel_rfl) (by kernel_rfl) ?_
  refine Tri.nf (c_none I bC bV bS cs.length hand _ 0 rfl) ?_
  rintro r _ _ hJ ⟨rfl,rfl,rfl⟩
  refine Tri.frame (c_which I bC bV bS hand cs hl12 hok _ Buf.dirty (fun S k m hk hm=>w_dirty I cs S k m hk hm)) [0,1,2] rfl rfl ?_
  rintro r _ A' hJ ⟨rfl,ps,aP,capP,chP,rfl,hownP,hperm,hsort,rfl⟩
  refine ⟨by simp,?_⟩
  have hdl:=dirtyL_eq (hand:=hand) hperm hsort hnd
  have hps:∀ m ∈ ps,some m ∈ cs:=fun m hm=>heldM_mem.1 (List.mem_filter.1 (hperm.mem_iff.1 hm)).1
  have hpl:ps.length≤12:=by
    have h1:=hperm.length_eq
    have h2:ps.length≤(heldM cs).length:=by rw [h1]; exact List.length_filter_le ..
    have h3:=heldM_len cs
    omega
  unfold CSt.commit
  rw [← hdl]
  obtain ⟨n,hn⟩:∃ n,n=ps.length:=⟨_,rfl⟩
  rw [← hn] at hpl hownP ⊢
  refine CmpD.split (fun (c1:(n:Int)=0)=>?_) (fun (c1:¬ (n:Int)=0)=>?_)
  · have hp0:ps=[]:=List.length_eq_zero_iff.1 (by omega)
    subst hp0
    rw [List.map_nil,if_pos rfl]
    skip
    exact Done.mk ⟨_,(Drop.pick [0,1,2,3,4] _ rfl).trans (ck_drop bC bV bS hand cs [chV,chD] []),rfl,hJ,_,chV,chD,⟨bS,cs,rfl,rfl,hok,hl1,hl2,hh⟩,hV,hD,rfl⟩
  have hpne:¬ ps.map BufM.b=[]:=by
    intro h
    have:=congrArg List.length h
    rw [List.length_map,List.length_nil] at this
    omega
  rw [if_neg hpne]
  refine CodeF.loopD [0,4,5,19,20,21] (fun vs J' S'=>∃ (i:Nat) (aL:Option Addr) (capL:Nat) (chL:List Blk),i≤n∧OwnC chL 2 aL i capL (imgCells ((ps.take i).map imgOf))∧I=J' ∧
      vs=[.pointer (some ⟨bC,0,none⟩),.slice aP n capP,.slice aL i capL,.slice aP n capP,.int .i64 n,.int .i64 i]∧S'=[cChunk bC bV bS cs.length hand,sChunk bS cs,bufs cs,chV,chD,chP,chL])
    (fun vs _ _=>match vs with | [_,_,_,_,_,.int _ i]=>((n:Int) - i).toNat | _=>0) ?_ ?_
  · exact ⟨_,Drop.and (Drop.refl _),0,none,0,[],by omega,OwnC.nil _ _,rfl,rfl,rfl⟩
  rintro vs gE J' S' hJ' ⟨i,aL,capL,chL,hi,hownL,rfl,rfl,rfl⟩
  refine CmpD.split (fun (c2:(i:Int) < n)=>?_) (fun (c2:¬ (i:Int) < n)=>?_)
  · obtain ⟨m,hm⟩:∃ m,ps[i]?=some m:=⟨_,List.getElem?_eq_getElem (by omega)⟩
    have hmc:=hps m (List.mem_of_getElem? hm)
    have hsP:=hownP.slC1 (I:=I) (S:=[cChunk bC bV bS cs.length hand,sChunk bS cs,bufs cs,chV,chD,chP,chL]) 5 rfl
    obtain ⟨b,off,rfl,hc⟩:=hsP.cells (by omega)
    refine Chk.mk (by omega) ?_
    refine LoadD.mk [ptrM m] (hc.at (by rw [Int.toNat_natCast,List.getElem?_map,hm]; rfl)) ?_
    refine CodeF.sched [[],[],[1],[1,2],[1,2,3],[],[5],[5,6],[5,6,7],[1,2,3,4,5,6,7,8],[1,2,3,4,5,6,7,8,9],[0,1,2,3,4,5,6,7,8,9,10],[0,1,2,3,4,5,6,7,8,9,10,11]] [0,1,2,3,4,5,6,7,8,9,10,11,12] (by kernel_rfl) ?_
    refine LoadP.mem 2 rfl (bufs_mem hmc) [.int .i64 m.b.n] rfl rfl ?_
    refine LoadP.mem 2 rfl (bufs_mem hmc) [.slice m.a m.b.data.length m.cap] rfl rfl ?_
    conv=>whnf
    intro bN
    skip
    refine appendD tabOk rfl rfl rfl rfl rfl rfl rfl 6 rfl hownL (SrcOk.slice (n:=1) (news:=imgCells [imgOf m]) tabOk rfl ((OwnC.whole (len:=1) (size:=2) rfl).slC 7 rfl) (by intro v hv; simp [imgCells] at hv; rcases hv with rfl | rfl <;> rfl)) rfl (by show (i+1) * 32≤_; omega) (by omega) ?_
    intro aL2 capL2 chL2 hownL2
    skip
    refine ToD.to (((i+1:Nat)):Int) (by rw [wrap_i64 (by omega) (by omega)]; omega) ?_
    refine ⟨_,Drop.pick [0,1,2,3,4,5,6] _ rfl,⟨i+1,aL2,capL2,chL2,by omega,?_,rfl,rfl,rfl⟩,?_⟩
    · have e:imgCells ((ps.take (i+1)).map imgOf)=imgCells ((ps.take i).map imgOf)++imgCells [imgOf m]:=by rw [List.take_add_one,hm]; simp [imgCells]
      rw [e]; exact hownL2
    · show ((n:Int) - ((i+1:Nat):Int)).toNat < ((n:Int) - (i:Int)).toNat; omega
  obtain rfl:i=n:=by omega
  rw [List.take_of_length_le (by omega)] at hownL
  have hpr:(ps.map imgOf).map Img.pr=(ps.map BufM.b).map fun b=>(b.n,b.data):=by rw [List.map_map,List.map_map]; rfl
  refine LoadD.own 0 rfl [.pointer (some ⟨bV,0,none⟩)] rfl rfl ?_
  refine Tri.fix 6 rfl fun I2 hI2 hm2=>?_
  have hImgs:ImgsOk I2 aL (ps.map imgOf):=by
    refine ⟨by rw [List.length_map,← hn]; exact Rds.of_ownS hownL hm2,fun g hg=>?_⟩
    obtain ⟨m,hm,rfl⟩:=List.mem_map.1 hg
    have hb:=(hok.mono hI2) m (hps m hm)
    have hbn:=hb.n
    exact ⟨by show In64 m.b.n; unfold In64; omega,hb.rd⟩
  have hcall:=vk_Commit (hV.mono hI2) hw hep hsl hfr hgr (hD.mono hI2) hf aL capL (ps.map imgOf) hImgs (by rw [List.length_map]; omega)
  rw [List.length_map,← hn,hpr] at hcall
  refine Tri.frame hcall [3,4] rfl rfl ?_
  generalize v.commit d ((ps.map BufM.b).map fun b=>(b.n,b.data))=cm
  obtain ⟨v2,d2,k,e⟩:=cm
  dsimp only
  rintro r J3 A' hJ3 ⟨rfl,chV2,chD2,hV2,hD2,rfl⟩
  refine ⟨Nat.le_refl _,?_⟩
  have hle3:=Imm.le_trans hI2 hJ3
  refine CmpD.split (fun (c3:e=0)=>?_) (fun (c3:¬ e=0)=>?_)
  rotate_left
  · rw [if_pos c3]
    skip
    exact Done.mk ⟨_,(Drop.pick [0,1,2,3,4] _ rfl).trans (ck_drop bC bV bS hand cs [chV2,chD2] []),rfl,hle3,_,chV2,chD2,⟨bS,cs,rfl,rfl,hok.mono hle3,hl1,hl2,hh⟩,hV2,hD2,rfl⟩
  subst c3
  rw [if_neg (by simp)]
  skip
  refine CodeF.loopD [8,50,51,52] (fun vs J' S'=>∃ j:Nat,j≤i∧J3=J'∧vs=[.int .i64 k,.slice aP i capP,.int .i64 i,.int .i64 j]∧S'=[cChunk bC bV bS cs.length hand,sChunk bS cs,bufs (cs.map (Option.map (und (ps.take j)))),chV2,chD2,chP,[]])
    (fun vs _ _=>match vs with | [_,_,_,.int _ j]=>((i:Int) - j).toNat | _=>0) ?_ ?_
  · have e0:cs.map (Option.map (und (ps.take 0)))=cs:=by
      have:(Option.map (und (ps.take 0)):Option BufM→Option BufM)=id:=by funext x; cases x <;> simp [und]
      rw [this,List.map_id]
    exact ⟨_,Drop.refl _,0,by omega,rfl,rfl,by rw [e0]⟩
  rintro vs gE2 J' S' hJ4 ⟨j,hj,rfl,rfl,rfl⟩
  refine CmpD.split (fun (c4:(j:Int) < i)=>?_) (fun (c4:¬ (j:Int) < i)=>?_)
  · obtain ⟨m,hm⟩:∃ m,ps[j]?=some m:=⟨_,List.getElem?_eq_getElem (by omega)⟩
    have hmc:=hps m (List.mem_of_getElem? hm)
    obtain ⟨q,hq⟩:=List.mem_iff_getElem?.1 hmc
    have hsP:=hownP.slC1 (I:=J3) (S:=[cChunk bC bV bS cs.length hand,sChunk bS cs,bufs (cs.map (Option.map (und (ps.take j)))),chV2,chD2,chP,[]]) 5 rfl
    obtain ⟨b,off,rfl,hc⟩:=hsP.cells (by omega)
    refine Chk.mk (by omega) ?_
    refine LoadD.mk [ptrM m] (hc.at (by rw [Int.toNat_natCast,List.getElem?_map,hm]; rfl)) ?_
    obtain ⟨dd,hdd⟩:=und_form (ps.take j) m
    have hqc:(cs.map (Option.map (und (ps.take j))))[q]?=some (some ⟨m.blk,m.a,m.cap,⟨m.b.n,m.b.data,m.b.pins,dd,m.b.mark⟩⟩):=by rw [List.getElem?_map,hq,← hdd]; rfl
    refine StoreD.buf (m:=⟨m.blk,m.a,m.cap,⟨m.b.n,m.b.data,m.b.pins,dd,m.b.mark⟩⟩) 2 rfl hqc ⟨m.blk,m.a,m.cap,{ m.b with dirty:=false }⟩ rfl rfl rfl ?_
    rw [und_step hnb hq]
    have etk:ps.take j++[m]=ps.take (j+1):=by rw [List.take_add_one,hm]; rfl
    rw [etk]
    refine ToD.to (((j+1:Nat)):Int) (by rw [wrap_i64 (by omega) (by omega)]; omega) ?_
    refine ⟨_,Drop.refl _,⟨j+1,by omega,rfl,rfl,rfl⟩,?_⟩
    show ((i:Int) - ((j+1:Nat):Int)).toNat < ((i:Int) - (j:Int)).toNat; omega
  · obtain rfl:j=i:=by omega
    rw [List.take_of_length_le (by omega)]
    have hln:(cs.map (Option.map (und ps))).length=cs.length:=List.length_map _
    refine Done.mk ⟨[cChunk bC bV bS (cs.map (Option.map (und ps))).length hand++(sChunk bS (cs.map (Option.map (und ps)))++bufs (cs.map (Option.map (und ps)))),chV2,chD2],?_,rfl,hle3,_,chV2,chD2,⟨bS,_,rfl,und_all hperm hand,und_ok (hok.mono hle3) ps,by rw [hln]; exact hl1,by rw [hln]; exact hl2,by rw [hln]; exact hh⟩,hV2,hD2,rfl⟩
    rw [hln,und_same]
    exact ⟨chP,by simp⟩
end
end Go.Proofs.YtegdcjnjnoeinaaGreat
namespace Go.Proofs.YtegdcjnjnoeinaaGreat
open Go.RowKit Go.Sl
set_option maxRecDepth 20000
def rgAt (o:Nat):Nat→Int:=fun k=>((2+(o+k) % 16:Nat):Int)
structure WE (ep t0 sq:Nat) (j:JSt) (d:DSt) (ls:List (List PImg)) (k:Nat):Prop where
  lay:j.lay=layOf 64
  s:j.s=16
  t:j.t=((t0 % 16:Nat):Int)
  u:j.u=(usedP ls:Nat)
  h:j.h=0
  epoch:j.epoch=ep
  epr:1≤ep∧ep≤8388608
  next:j.next=((sq+ls.length:Nat):Int)
  pos:1≤sq
  groups:j.groups=grL sq ls
  broken:j.broken=false
  wf:j.Wf
  calm:d.Calm
  dwf:d.Wf
  len:d.now.length=64
  few:d.Few k
  used:usedP ls≤16
  right:∀ (i:Nat) (h:i < ls.length),RightP ep ((sq+i:Nat):Int) ls[i]
  ring:∀ (o:Nat) (h:o < (ringB ep sq ls).length),rbP d 2 16 (t0+o)=(ringB ep sq ls)[o]
section
variable {ep t0 sq:Nat} {j:JSt} {d:DSt} {ls:List (List PImg)} {k:Nat}
theorem WE.mono {m:Nat} (w:WE ep t0 sq j d ls k) (h:k≤m):WE ep t0 sq j d ls m:={ w with few:=w.few.mono h }
theorem WE.room (w:WE ep t0 sq j d ls k):Ok 16 ((t0 % 16:Nat):Int) (usedP ls:Nat) 0:=by
  have:=w.wf.ring; rw [w.s,w.t,w.u,w.h] at this; exact this
theorem putP_lens {e s:Nat} {l:List PImg} (hR:RightP e s l):∀ b ∈ putP e s l,b.length=4096:=putP_len (e:=e) (s:=s) hR.2.2.2.2.2.1 hR.lens
theorem WE.append (w:WE ep t0 sq j d ls k) {l:List PImg} (hR:RightP ep ((sq+ls.length:Nat):Int) l) (hroom:usedP ls+(l.length+1)≤16) :
    ∃ j',j.appendB d l false=(j',wrD (rgAt (t0+usedP ls)) (putP ep (sq+ls.length) l) 0 d,((sq+ls.length:Nat):Int),0)∧WE ep t0 sq j' (wrD (rgAt (t0+usedP ls)) (putP ep (sq+ls.length) l) 0 d) (ls++[l]) (k+16)∧j'.synced=j.synced:=by
  have hge:=usedP_ge ls
  have hu:=w.used
  have hll:=hR.2.2.2.2.2.1
  have hR':RightP j.epoch j.next l:=by rw [w.epoch,w.next]; exact hR
  have hokd:=w.room
  have hok:=hokd
  unfold Ok at hok
  have hp:putS j.s j.t j.u j.h ((l.length:Int)+1) (if false=true then (l.length:Int)+1 else 0)=((j.s,((t0 % 16:Nat):Int),((usedP ls:Nat):Int)+((l.length:Int)+1),0,0),(((t0 % 16:Nat):Int)+(usedP ls:Nat)) % 16):=by
    rw [w.s,w.t,w.u,w.h]
    unfold putS
    rw [if_neg (by simp only [Bool.false_eq_true,if_false]; rintro (h | h | h | h | h); exact h hokd; omega; omega; omega; omega),if_neg (by simp only [Bool.false_eq_true,if_false]; omega)]
    simp only [Bool.false_eq_true,if_false,Int.sub_zero]
  have hlen16:j.s+2≤d.now.length:=by rw [w.s,w.len]; decide
  have hs1:(l.length:Int)+1≤j.s:=by rw [w.s]; omega
  have hgl:j.groups.length=ls.length:=by rw [w.groups,grL_length]
  obtain ⟨j',a,f1,f2,f3,f4,f5,f6,f7,f8,f9,f10,w'⟩:=JSt.append_next w.wf (by rw [hgl]; omega) w.broken hR' hs1 w.calm hlen16 hp
  have hff:(fun k:Nat=>(2:Int)+((((t0 % 16:Nat):Int)+(usedP ls:Nat)) % 16+k) % j.s)=rgAt (t0+usedP ls):=by
    funext k
    rw [w.s]; unfold rgAt; omega
  have he1:j.epoch.toNat=ep:=by rw [w.epoch]; rfl
  have he2:j.next.toNat=sq+ls.length:=by rw [w.next]; omega
  rw [hff,he1,he2,w.next] at a
  have hB:=putP_lens (e:=ep) (s:=sq+ls.length) hR
  have hfl:∀ k:Nat,(0:Int)≤rgAt (t0+usedP ls) k∧rgAt (t0+usedP ls) k < d.now.length:=by
    intro k
    rw [w.len]; unfold rgAt; omega
  refine ⟨j',a,⟨by rw [f1,w.lay],by rw [f2,w.s],f3,by rw [f4,usedP_snoc]; omega,f5,by rw [f6,w.epoch],w.epr,by rw [f7,w.next,List.length_append]; show _=(((sq+(ls.length+1):Nat)):Int); omega,w.pos,by rw [f9,w.groups,w.next,grL_snoc],f10,w',wrD_calm _ _ _ _ w.calm,wrD_wf _ _ _ _ w.dwf w.calm hB hfl,by rw [wrD_len,w.len],?_,by rw [usedP_snoc]; exact hroom,?_,?_⟩,f8⟩
  · have:=wrD_few (rgAt (t0+usedP ls)) (putP ep (sq+ls.length) l) 0 d _ w.few
    rw [putP_length] at this
    exact this.mono (by omega)
  · intro i hi
    rw [List.getElem_append]
    split
    · rename_i h; exact w.right i h
    · rename_i h
      simp only [List.length_append,List.length_singleton] at hi
      obtain rfl:i=ls.length:=by omega
      simpa using hR
  · intro o ho
    have hrl:=ringB_length ep ls sq
    have hsn:=ringB_snoc ep ls sq l
    have hpl:=putP_length ep (sq+ls.length) l
    obtain ⟨B,hBe⟩:∃ B,B=putP ep (sq+ls.length) l:=⟨_,rfl⟩
    rw [← hBe] at hpl hsn ⊢
    have ho2:o < usedP ls+B.length:=by rw [hsn,List.length_append,hrl] at ho; exact ho
    have e0:(ringB ep sq (ls++[l]))[o]?=(ringB ep sq ls++B)[o]?:=by rw [hsn]
    rw [List.getElem?_eq_getElem ho] at e0
    unfold rbP
    rw [List.getD_eq_getElem?_getD]
    have inj:∀ k,k < B.length→(2+(t0+usedP ls+k) % 16=2+(t0+o) % 16↔usedP ls+k=o):=by
      intro k hk; omega
    by_cases hin:usedP ls≤o
    · have:=wrD_hit (fun k=>2+(t0+usedP ls+k) % 16) (2+(t0+o) % 16) B 0 d (o - usedP ls) (by omega) (by have:=(inj (o - usedP ls) (by omega)).2 (by omega); simpa using this)
        (fun k' h1 h2 h3=>by have:=(inj k' h2).1 (by simpa using h3); omega) (by rw [w.len]; omega)
      rw [show (rgAt (t0+usedP ls))=fun k=>((2+(t0+usedP ls+k) % 16:Nat):Int) from rfl,this]
      rw [List.getElem?_append_right (by omega),hrl,List.getElem?_eq_getElem (by omega)] at e0
      exact (Option.some.inj e0).symm
    · have:=wrD_miss (fun k=>2+(t0+usedP ls+k) % 16) (2+(t0+o) % 16) B 0 d (fun k hk h3=>by have:=(inj k hk).1 (by simpa using h3); omega)
      rw [show (rgAt (t0+usedP ls))=fun k=>((2+(t0+usedP ls+k) % 16:Nat):Int) from rfl,this]
      rw [List.getElem?_append_left (by omega),List.getElem?_eq_getElem (by omega)] at e0
      have hw:=w.ring o (by omega)
      unfold rbP at hw
      rw [List.getD_eq_getElem?_getD] at hw
      rw [hw]
      exact (Option.some.inj e0).symm
theorem WE.flush (w:WE ep t0 sq j d ls k) :
    ∃ j',j.flush d=(j',{ d with safe:=d.now,writes:=[] },0)∧WE ep t0 sq j' { d with safe:=d.now,writes:=[] } ls k∧j'.synced=j'.next - 1:=by
  obtain ⟨j',a,f1,f2,f3,f4,f5,f6,f7,f8,f9,f10,w'⟩:=JSt.flush_next w.wf w.broken w.calm
  have hc:=w.calm
  have hdw:({ d with safe:=d.now,writes:=[] }:DSt).Wf:=by
    have:=w.dwf.flush
    rwa [DSt.flush_calm w.calm] at this
  refine ⟨j',a,⟨by rw [f1,w.lay],by rw [f2,w.s],by rw [f3,w.t],by rw [f4,w.u],by rw [f5,w.h],by rw [f6,w.epoch],w.epr,by rw [f7,w.next],w.pos,by rw [f9,w.groups],f10,w',hc,hdw,w.len,?_,w.used,w.right,w.ring⟩,by rw [f8,f7]⟩
  obtain ⟨h1,h2,h3⟩:=w.few
  exact ⟨by simp,h2,h3⟩
theorem WE.release (w:WE ep t0 sq j d ls k) (hsy:j.synced=j.next - 1) :
    ∃ j',j.release j.synced=(j',0)∧WE ep (t0+usedP ls) (sq+ls.length) j' d [] k∧j'.synced=j.synced:=by
  have hu:=w.used
  cases ls with
  | nil =>
    have hr:relAll j.synced j.groups j.s j.t j.u j.h=([],(16,((t0 % 16:Nat):Int),0,0,0)):=by
      rw [w.groups,w.s,w.t,w.u,w.h]; rfl
    obtain ⟨j',a,f1,f2,f3,f4,f5,f6,f7,f8,f9,f10,w'⟩:=JSt.release_next w.wf (seq:=j.synced) w.broken (by omega) hr
    refine ⟨j',a,⟨by rw [f1,w.lay],f2,by rw [f3]; simp [usedP],f4,f5,by rw [f6,w.epoch],w.epr,by rw [f7,w.next]; rfl,w.pos,f9,f10,w',w.calm,w.dwf,w.len,w.few,by simp [usedP],w.right,fun o ho=>by simp [ringB] at ho⟩,f8⟩
  | cons l ls' =>
    have hm:ls'.length < (l :: ls').length:=by simp
    have hle:(l :: ls').length=ls'.length+1:=rfl
    have hr:relAll ((sq+ls'.length:Nat):Int) j.groups j.s j.t j.u j.h=(grL (sq+(ls'.length+1)) ((l :: ls').drop (ls'.length+1)),(16,(((t0+usedP ((l :: ls').take (ls'.length+1))) % 16:Nat):Int),((usedP ((l :: ls').drop (ls'.length+1)):Nat):Int),0,0)):=by
      rw [w.groups,w.s,w.t,w.u,w.h]; exact rel_gr ls'.length (l :: ls') sq t0 ((usedP (l :: ls'):Nat):Int) 0 hm rfl w.room
    rw [← hle,List.take_length,List.drop_length] at hr
    have hse:j.synced=((sq+ls'.length:Nat):Int):=by rw [hsy,w.next,hle]; omega
    rw [← hse] at hr
    obtain ⟨j',a,f1,f2,f3,f4,f5,f6,f7,f8,f9,f10,w'⟩:=JSt.release_next w.wf (seq:=j.synced) w.broken (by omega) hr
    refine ⟨j',a,⟨by rw [f1,w.lay],f2,f3,f4,f5,by rw [f6,w.epoch],w.epr,by rw [f7,w.next]; rfl,by have:=w.pos; omega,f9,f10,w',w.calm,w.dwf,w.len,w.few,by simp [usedP],fun i hi=>by simp at hi,fun o ho=>by simp [ringB] at ho⟩,f8⟩
end
theorem doP_calm {d:DSt} (hc:d.Calm) (hlen:d.now.length=64) {l:List PImg} (hok:DoOk d l) {s:Sup} (hR:RightS s) {slot:Int} (hsl:0≤slot∧slot≤1) :
    ∃ e,doP d l s slot=(e,0)∧e.Calm∧e.writes=[]∧e.safe=e.now∧e.now=(wrC l d).now.set slot.toNat (supL s)∧e.now.length=64:=by
  have hw:=wrC_imgs l d hc hok
  have hcw:=wrC_calm l d hc
  have hnl:=(wrC_now l d (fun g hg=>(hok g hg).1) (fun g hg=>(hok g hg).2.1)).1
  have f1:=DSt.flush_calm hcw
  obtain ⟨e1,he1⟩:∃ e1,e1=({ wrC l d with safe:=(wrC l d).now,writes:=[] }:DSt):=⟨_,rfl⟩
  rw [← he1] at f1
  have ce1:e1.Calm:=by rw [he1]; exact hcw
  have ne1:e1.now=(wrC l d).now:=by rw [he1]
  have w2:e1.write slot (supL s)=(e1.put slot (supL s),0):=DSt.write_calm ce1 ⟨hsl.1,by rw [ne1,hnl,hlen]; omega⟩ (supL_length _)
  have f2:(e1.put slot (supL s)).flush=({ e1.put slot (supL s) with safe:=(e1.put slot (supL s)).now,writes:=[] },0):=DSt.flush_calm ce1
  refine ⟨{ e1.put slot (supL s) with safe:=(e1.put slot (supL s)).now,writes:=[] },?_,ce1,rfl,rfl,?_,?_⟩
  · unfold doP lastWr
    rw [if_neg (by rintro (h | h | h | h); exact h hR; omega; omega; exact h hok),hw]
    simp [f1,w2,f2]
  · show e1.now.set _ _=_; rw [ne1]
  · show (e1.now.set _ _).length=64; rw [List.length_set,ne1,hnl,hlen]
theorem doP_wf {d:DSt} (h:d.Wf) (l:List PImg) (s:Sup) (slot:Int):(doP d l s slot).1.Wf:=by
  have h1:∀ (l:List PImg) (d:DSt),d.Wf→(wrImgs l d).1.Wf:=by
    intro l
    induction l with
    | nil=>intro d h; exact h
    | cons g l ih =>
      intro d h
      rw [wrImgs]
      split
      · exact h.write _ _
      · exact ih _ (h.write _ _)
  unfold doP
  split
  · exact h
  split
  · exact h1 l d h
  split
  · exact (h1 l d h).flush
  unfold lastWr
  split
  · exact ((h1 l d h).flush).write _ _
  · exact (((h1 l d h).flush).write _ _).flush
end Go.Proofs.YtegdcjnjnoeinaaGreat
namespace Go.Proofs.YtegdcjnjnoeinaaGreat
open Go.RowKit Go.Sl
set_option maxRecDepth 20000
def VSt.cur (v:VSt) (d:DSt) (n:Int):Dat:=match v.fresh.lookup n with
  | some b=>b
  | none=>d.now.getD n.toNat []
structure WV (ep t0 sq:Nat) (v:VSt) (d:DSt) (ls:List (List PImg)) (k:Nat):Prop where
  e:WE ep t0 sq v.j d ls k
  epoch:v.epoch=ep
  slot:v.slot=0∨v.slot=1
  fresh:v.fresh=lastP ls.flatten
  home:HomeOk (layOf 64) ls.flatten
  broken:v.broken=false
theorem home64 {l:List PImg} (h:HomeOk (layOf 64) l):∀ g ∈ l,18≤g.1∧g.1 < 64:=by
  intro g hg
  have:=h g hg
  have e1:(layOf 64).bi=18:=by decide
  have e2:(layOf 64).b=64:=rfl
  rw [e1,e2] at this; exact this
theorem of_home64 {l:List PImg} (h:∀ g ∈ l,18≤g.1∧g.1 < 64):HomeOk (layOf 64) l:=by
  intro g hg
  have:=h g hg
  have e1:(layOf 64).bi=18:=by decide
  have e2:(layOf 64).b=64:=rfl
  rw [e1,e2]; exact this
section
variable {ep t0 sq:Nat} {v:VSt} {d:DSt} {ls:List (List PImg)} {k:Nat}
theorem WV.mono {m:Nat} (w:WV ep t0 sq v d ls k) (h:k≤m):WV ep t0 sq v d ls m:={ w with e:=w.e.mono h }
theorem WV.lens (w:WV ep t0 sq v d ls k):∀ g ∈ ls.flatten,g.2.length=4096:=by
  intro g hg
  obtain ⟨l,hl,hgl⟩:=List.mem_flatten.1 hg
  obtain ⟨i,hi⟩:=List.mem_iff_getElem?.1 hl
  have hlt:=(List.getElem?_eq_some_iff.1 hi).1
  have hr:=w.e.right i hlt
  have e:ls[i]=l:=by rw [List.getElem?_eq_getElem hlt] at hi; exact Option.some.inj hi
  rw [e] at hr
  exact (hr.2.2.2.2.2.2.1 g hgl).2.2
theorem WV.lookup (w:WV ep t0 sq v d ls k) (n:Int):v.fresh.lookup n=lastD ls.flatten n:=by rw [w.fresh,lookup_lastP]
theorem WV.few_fresh (w:WV ep t0 sq v d ls k):v.fresh.length≤16:=by
  have h1:(ls.flatten).length≤usedP ls:=by
    unfold usedP
    rw [List.length_flatten]
    have:∀ l:List (List PImg),(l.map List.length).sum≤(l.map fun g=>g.length+1).sum:=by
      intro l
      induction l with
      | nil=>simp
      | cons g l ih=>simp; omega
    exact this ls
  have h2:∀ (l ms:List PImg),(l.foldl pput ms).length≤ms.length+l.length:=by
    intro l
    induction l with
    | nil=>intro ms; simp
    | cons g l ih =>
      intro ms
      have h1:=ih (pput ms g)
      have h2:(pput ms g).length≤ms.length+1:=by unfold pput; split <;> simp
      rw [List.foldl_cons,List.length_cons]; omega
  have h3:=h2 ls.flatten []
  have:=w.e.used
  rw [w.fresh]
  unfold lastP
  rw [List.length_nil,Nat.zero_add] at h3
  omega
theorem WV.fresh_len (w:WV ep t0 sq v d ls k):∀ g ∈ v.fresh,g.2.length=4096:=by
  intro g hg
  rw [w.fresh] at hg
  have h2:∀ (l ms:List PImg),(∀ g ∈ ms,g.2.length=4096)→(∀ g ∈ l,g.2.length=4096)→∀ g ∈ l.foldl pput ms,g.2.length=4096:=by
    intro l
    induction l with
    | nil=>intro ms h _; exact h
    | cons x l ih =>
      intro ms h h'
      refine ih (pput ms x) ?_ (fun g hg=>h' g (by simp [hg]))
      intro g hg
      unfold pput at hg
      split at hg
      · obtain ⟨y,hy,rfl⟩:=List.mem_map.1 hg
        split
        · exact h' x (by simp)
        · exact h y hy
      · rcases List.mem_append.1 hg with hg | hg
        · exact h g hg
        · simp at hg; subst hg; exact h' g (by simp)
  exact h2 _ [] (by simp) w.lens g hg
theorem WV.read (w:WV ep t0 sq v d ls k) {n:Int} (h:0≤n∧n < 64):v.read d n=(v.cur d n,0):=by
  unfold VSt.read VSt.cur
  rw [if_neg (by rw [w.broken]; simp)]
  cases hl:v.fresh.lookup n with
  | some b=>rfl
  | none =>
    have e:n=((n.toNat:Nat):Int):=by omega
    have:=read_up w.e.dwf w.e.calm.1 (k:=n.toNat) (by rw [w.e.len]; omega)
    rw [← e] at this
    exact this
theorem WV.app (w:WV ep t0 sq v d ls k) {l:List PImg} (hho:HomeOk (layOf 64) l) (hR:RightP ep ((sq+ls.length:Nat):Int) l) (hroom:usedP ls+(l.length+1)≤16) :
    ∃ v' ,v.app d l=(v',wrD (rgAt (t0+usedP ls)) (putP ep (sq+ls.length) l) 0 d,((sq+ls.length:Nat):Int),0)∧WV ep t0 sq v' (wrD (rgAt (t0+usedP ls)) (putP ep (sq+ls.length) l) 0 d) (ls++[l]) (k+16) ∧
      (∀ n,18≤n→n < 64→v'.cur (wrD (rgAt (t0+usedP ls)) (putP ep (sq+ls.length) l) 0 d) n=(lastD l n).getD (v.cur d n))∧v'.j.synced=v.j.synced∧v'.slot=v.slot:=by
  obtain ⟨j',a,w',hs⟩:=w.e.append hR hroom
  have hv:v.app d l=({ v with j:=j',fresh:=l.foldl pput v.fresh },wrD (rgAt (t0+usedP ls)) (putP ep (sq+ls.length) l) 0 d,((sq+ls.length:Nat):Int),0):=by
    unfold VSt.app
    rw [a]
    dsimp only
    rw [if_neg (by simp)]
  have hfr:l.foldl pput v.fresh=lastP (ls++[l]).flatten:=by
    rw [w.fresh]; unfold lastP; rw [List.flatten_append,List.foldl_append]; simp
  refine ⟨_,hv,⟨w',w.epoch,w.slot,hfr,?_,w.broken⟩,fun n h1 h2=>?_,hs,rfl⟩
  · intro g hg
    rw [List.flatten_append] at hg
    rcases List.mem_append.1 hg with hg | hg
    · exact w.home g hg
    · exact hho g (by simpa using hg)
  · unfold VSt.cur
    dsimp only
    rw [hfr,lookup_lastP,w.lookup,List.flatten_append,List.flatten_singleton]
    have hla:lastD (ls.flatten++l) n=(lastD l n).or (lastD ls.flatten n):=by
      refine snoc_ind (p:=fun l:List PImg=>lastD (ls.flatten++l) n=(lastD l n).or (lastD ls.flatten n)) ?_ ?_ l
      · rw [List.append_nil]; simp [lastD]
      · intro l g ih
        rw [← List.append_assoc,lastD_snoc,lastD_snoc]
        split
        · rfl
        · exact ih
    rw [hla]
    cases lastD l n with
    | some x=>rfl
    | none =>
      simp only [Option.none_or,Option.getD_none]
      cases lastD ls.flatten n with
      | some x=>rfl
      | none =>
        show List.getD _ _ _=_
        rw [List.getD_eq_getElem?_getD,List.getD_eq_getElem?_getD,show (rgAt (t0+usedP ls))=fun k=>((2+(t0+usedP ls+k) % 16:Nat):Int) from rfl,
          wrD_miss (fun k=>2+(t0+usedP ls+k) % 16) n.toNat _ 0 d (fun k _=>by omega)]
theorem lastD_keys (f:Int→Dat):∀ (l:List Int) (n:Int),lastD (l.map fun m=>(m,f m)) n=if n ∈ l then some (f n) else none:=by
  refine fun l n=>snoc_ind (p:=fun l:List Int=>lastD (l.map fun m=>(m,f m)) n=if n ∈ l then some (f n) else none) ?_ ?_ l
  · simp [lastD]
  · intro l m ih
    rw [List.map_append,List.map_cons,List.map_nil,lastD_snoc]
    dsimp only
    by_cases h:m=n
    · subst h; simp
    · rw [if_neg h,ih]
      have h':¬ n=m:=fun e=>h e.symm
      simp [h']
theorem lookup_keys (l:List PImg) (n:Int):(l.lookup n).isSome=true↔n ∈ l.map Prod.fst:=by
  induction l with
  | nil=>simp
  | cons x l ih =>
    obtain ⟨m,b⟩:=x
    rw [List.lookup_cons]
    by_cases h:n=m
    · subst h; simp
    · have:(n == m)=false:=by simp [h]
      rw [this]
      simp only [List.map_cons,List.mem_cons]
      rw [ih]
      simp [h]
theorem lastD_sortP (l:List PImg) (n:Int):lastD (sortP l) n=l.lookup n:=by
  unfold sortP
  rw [lastD_keys]
  have hk:=lookup_keys l n
  have hm:n ∈ sortI (l.map Prod.fst)↔n ∈ l.map Prod.fst:=(sortI_perm _).mem_iff
  by_cases h:n ∈ l.map Prod.fst
  · rw [if_pos (hm.2 h)]
    cases hl:l.lookup n with
    | some b=>rfl
    | none=>rw [hl] at hk; exact absurd (hk.2 h) (by simp)
  · rw [if_neg (fun h'=>h (hm.1 h'))]
    cases hl:l.lookup n with
    | none=>rfl
    | some b=>rw [hl] at hk; exact absurd (hk.1 rfl) h
theorem sortP_mem {l:List PImg} {g:PImg} (h:g ∈ sortP l):g.1 ∈ l.map Prod.fst∧l.lookup g.1=some g.2:=by
  unfold sortP at h
  obtain ⟨n,hn,rfl⟩:=List.mem_map.1 h
  have hn:=(sortI_perm _).mem_iff.1 hn
  refine ⟨hn,?_⟩
  have hk:=(lookup_keys l n).2 hn
  dsimp only
  cases hl:l.lookup n with
  | some b=>rfl
  | none=>rw [hl] at hk; cases hk
theorem lookup_mem {l:List PImg} {n:Int} {b:Dat} (h:l.lookup n=some b):(n,b) ∈ l:=by
  induction l with
  | nil=>simp at h
  | cons x l ih =>
    obtain ⟨m,c⟩:=x
    rw [List.lookup_cons] at h
    by_cases hm:n=m
    · subst hm; simp at h; subst h; simp
    · have:(n == m)=false:=by simp [hm]
      rw [this] at h
      exact List.mem_cons_of_mem _ (ih h)
theorem WV.fresh_home (w:WV ep t0 sq v d ls k):∀ g ∈ sortP v.fresh,18≤g.1∧g.1 < 64∧g.2.length=4096:=by
  intro g hg
  obtain ⟨_,h2⟩:=sortP_mem hg
  rw [w.lookup] at h2
  obtain ⟨x,hx,q1,q2⟩:=lastD_mem _ _ _ h2
  have h3:=home64 w.home x hx
  have h4:=w.lens x hx
  rw [← q1,← q2]; exact ⟨h3.1,h3.2,h4⟩
theorem WV.sup (w:WV ep t0 sq v d ls k):v.sup=⟨64,ep,((sq+ls.length:Nat):Int),(((t0+usedP ls) % 16:Nat):Int)⟩:=by
  unfold VSt.sup
  rw [w.e.lay,w.epoch,w.e.next,w.e.t,w.e.u,w.e.s]
  congr 1
  omega
theorem WV.ckpt (w:WV ep t0 sq v d ls k) (hsq:sq+ls.length≤549755813888) :
    ∃ v' d',v.ckpt d=(v',d',0)∧WV ep (t0+usedP ls) (sq+ls.length) v' d' [] (k+17)∧(∀ n,18≤n→n < 64→v'.cur d' n=v.cur d n)∧v'.j.synced=v'.j.next - 1∧v'.slot=1 - v.slot∧v'.fresh=[]∧d'.writes=[]∧d'.safe=d'.now ∧
      d'.now=(wrC (sortP v.fresh) { d with safe:=d.now,writes:=[] }).now.set v.slot.toNat (supL v.sup):=by
  obtain ⟨j1,a1,w1,s1⟩:=w.e.flush
  have hsl:0≤v.slot∧v.slot≤1:=by rcases w.slot with h | h <;> omega
  have hho:=w.fresh_home
  have hep:=w.e.epr
  have hpos:=w.e.pos
  have hRs:RightS v.sup:=by
    rw [w.sup]
    exact ⟨by show (64:Int)≤64; decide,by show (64:Int)≤512; decide,by show (1:Int)≤(ep:Int); omega,by show (ep:Int)≤8388608; omega,by show (1:Int)≤((sq+ls.length:Nat):Int); omega,by show ((sq+ls.length:Nat):Int)≤549755813888; omega,by show (0:Int)≤(((t0+usedP ls) % 16:Nat):Int); omega,by show (((t0+usedP ls) % 16:Nat):Int)≤511; omega⟩
  have hok:DoOk ({ d with safe:=d.now,writes:=[] }:DSt) (sortP v.fresh):=fun g hg=>by
    obtain ⟨h1,h2,h3⟩:=hho g hg
    exact ⟨by omega,by rw [w1.len]; exact h2,h3⟩
  obtain ⟨e,b1,b2,b3,b4,b5,b6⟩:=doP_calm w1.calm w1.len hok hRs hsl
  have hwf:=doP_wf w1.dwf (sortP v.fresh) v.sup v.slot
  have hfew:=doP_few w1.few (sortP v.fresh) v.sup v.slot
  rw [b1] at hwf hfew
  dsimp only at hwf hfew
  have hfl:=w.few_fresh
  have hsl2:(sortP v.fresh).length=v.fresh.length:=sortP_length _
  have w2:WE ep t0 sq j1 e ls (k+17):={ w1 with calm:=b2,dwf:=hwf,len:=b6,few:=hfew.mono (by omega),ring:=?ring }
  case ring =>
    intro o ho
    have hw:=w1.ring o ho
    unfold rbP at hw ⊢
    rw [b5,List.getD_eq_getElem?_getD]
    rw [List.getD_eq_getElem?_getD] at hw
    have hq:=(wrC_now (sortP v.fresh) ({ d with safe:=d.now,writes:=[] }:DSt) (fun g hg=>(hok g hg).1) (fun g hg=>(hok g hg).2.1)).2 (2+(t0+o) % 16) (by rw [w1.len]; omega)
    rw [List.getElem?_set_ne (by omega),hq]
    have hno:lastD (sortP v.fresh) ((2+(t0+o) % 16:Nat):Int)=none:=lastD_none fun hm=>by
      obtain ⟨g,hg,he⟩:=List.mem_map.1 hm
      have:=hho g hg; omega
    rw [hno]; exact hw
  obtain ⟨j2,a2,w3,s3⟩:=w2.release s1
  have hck:v.ckS d=(0,j2,e):=by
    unfold VSt.ckS
    rw [a1]
    dsimp only
    rw [if_neg (by simp),b1]
    dsimp only
    rw [if_neg (by simp),a2]
  have hv:v.ckpt d=({ v with j:=j2,slot:=1 - v.slot,fresh:=[] },e,0):=by
    unfold VSt.ckpt
    rw [if_neg (by rw [w.broken]; simp),hck]
    dsimp only
    rw [if_neg (by simp)]
  refine ⟨_,e,hv,⟨w3,w.epoch,by rcases w.slot with h | h <;> simp [h],rfl,by intro g hg; simp at hg,w.broken⟩,fun n h1 h2=>?_,?_,rfl,rfl,b3,b4,b5⟩
  · unfold VSt.cur
    show e.now.getD _ _=_
    rw [b5,List.getD_eq_getElem?_getD,List.getElem?_set_ne (by omega)]
    have hq:=(wrC_now (sortP v.fresh) ({ d with safe:=d.now,writes:=[] }:DSt) (fun g hg=>(hok g hg).1) (fun g hg=>(hok g hg).2.1)).2 n.toNat (by rw [w1.len]; omega)
    rw [hq,show ((n.toNat:Nat):Int)=n by omega,lastD_sortP]
    cases v.fresh.lookup n with
    | some b=>rfl
    | none=>show _=d.now.getD _ _; rw [List.getD_eq_getElem?_getD]
  · show j2.synced=j2.next - 1
    rw [s3,s1,w3.next,w1.next]; rfl
theorem WV.fits (w:WV ep t0 sq v d ls k) {n:Nat} (h:1≤n∧n+1≤16):v.fits n=true:=by
  unfold VSt.fits
  have hb:blocksN (n:Int)=n+1:=by unfold blocksN; rw [if_neg (by omega)]
  rw [hb,w.e.lay]
  exact decide_eq_true ⟨by omega,by show (n:Int)+1≤layL ((64:Nat):Int); rw [layL_64']; omega⟩
theorem WV.commit (w:WV ep t0 sq v d ls k) {l:List PImg} (hho:HomeOk (layOf 64) l) (hR:RightP ep ((sq+ls.length:Nat):Int) l) (hl:l.length+1≤16) :
    ∃ v' d' t1 sq' ls',v.commit d l=(v',d',((sq+ls.length:Nat):Int),0)∧WV ep t1 sq' v' d' ls' (k+33)∧sq'+ls'.length=sq+ls.length+1∧(∀ n,18≤n→n < 64→v'.cur d' n=(lastD l n).getD (v.cur d n)):=by
  have hll:=hR.2.2.2.2.1
  have hsq:sq+ls.length≤549755813888:=by have:=hR.2.2.2.1; omega
  have hb:blocksN (l.length:Int)=l.length+1:=by unfold blocksN; rw [if_neg (by omega)]
  have hu:=w.e.used
  have hc:v.commit d l=if v.j.s - v.j.u - v.j.h < blocksN l.length then (if (v.ckpt d).2.2≠0 then ((v.ckpt d).1,(v.ckpt d).2.1,0,(v.ckpt d).2.2) else (v.ckpt d).1.app (v.ckpt d).2.1 l) else v.app d l:=by
    unfold VSt.commit
    rw [if_neg (by rw [w.broken]; simp),if_neg (by rw [w.e.lay]; exact fun h=>h hho),if_neg (by rw [w.epoch,w.e.next]; exact fun h=>h hR),if_neg (by rw [w.fits ⟨hll,hl⟩]; simp)]
  rw [hc,hb,w.e.s,w.e.u,w.e.h]
  by_cases hr:(16:Int) - ((usedP ls:Nat):Int) - 0 < (l.length:Int)+1
  · rw [if_pos hr]
    obtain ⟨v1,d1,a1,w1,c1,_⟩:=w.ckpt hsq
    rw [a1]
    dsimp only
    rw [if_neg (by simp)]
    obtain ⟨v2,a2,w2,c2,_⟩:=w1.app hho (by simpa using hR) (by simp [usedP]; omega)
    refine ⟨v2,_,_,_,_,a2,w2.mono (by omega),by simp,fun n h1 h2=>?_⟩
    rw [c2 n h1 h2,c1 n h1 h2]
  · rw [if_neg hr]
    obtain ⟨v2,a2,w2,c2,_⟩:=w.app hho hR (by omega)
    exact ⟨v2,_,_,_,_,a2,w2.mono (by omega),by simp; omega,c2⟩
end
theorem openJ_we {ep sq t0:Nat} {d:DSt} {k:Nat} (hep:1≤ep∧ep≤8388608) (hsq:1≤sq∧sq≤549755813888) (ht:t0 < 16) (hc:d.Calm) (hw:d.Wf) (hl:d.now.length=64) (hf:d.Few k):WE ep t0 sq (openJ 64 ep sq t0) d [] k :=
  ⟨rfl,layL_64',by show (t0:Int)=_; omega,rfl,rfl,rfl,hep,by show (sq:Int)=((sq+0:Nat):Int); simp,hsq.1,rfl,rfl,openJ_wf 64 (by omega) ⟨rfl,by omega,by omega,by omega,by omega,by omega,by rw [layL_64']; omega⟩,hc,hw,hl,hf,by simp [usedP],fun i hi=>by simp at hi,fun o ho=>by simp [ringB] at ho⟩
end Go.Proofs.YtegdcjnjnoeinaaGreat
namespace Go.Proofs.YtegdcjnjnoeinaaGreat
open Go.RowKit Go.Sl
set_option maxRecDepth 20000
theorem rows_map (n:Nat):(List.replicate n (none:Option BufM)).map ptrB=rows n [.pointer none]:=by
  unfold rows
  induction n with
  | zero=>rfl
  | succ n ih=>rw [List.replicate_succ,List.replicate_succ,List.map_cons,ih,List.flatten_cons]; rfl
theorem bufs_rep (n:Nat):bufs (List.replicate n none)=[]:=by
  induction n with
  | zero=>rfl
  | succ n ih=>rw [List.replicate_succ,bufs_none,ih]
def newC (n:Nat):CSt:=⟨List.replicate n none,0⟩
theorem v_Layout2 (bV bD bJ bM:Nat) (x:Lay) (ep sl:Int) (br:Bool) (I:Imm) (S:St) (k:Nat) (hk:S[k]?=some (vChunk bV bD bJ bM x ep sl br)):Tri Tryz.prog 29 #[.pointer (some ⟨bV,0,none⟩)] I S fun v J S'=>v=x.v∧I=J∧S'=S:=by
  refine Tri.drop ?_ (fun _ _ _ _ h=>h)
  have h0:=fun (S:St) (hk:S[k]?=some (vChunk bV bD bJ bM x ep sl br))=>v_none bV bD bJ bM x ep sl br I S k hk
  obtain ⟨l1,l2,l3,l4,l5,l6,l7⟩:=x
  refine Tri.of (args:=[.pointer (some ⟨bV,0,none⟩)]) tabOk Tryz.func29 rfl (by kernel_rfl) (by kernel_rfl) ?_
  conv=>whnf
  intro b2
  have hk2:∀ y,(S++[y])[k]?=some (vChunk bV bD bJ bM ⟨l1,l2,l3,l4,l5,l6,l7⟩ ep sl br):=fun y=>by
    rw [List.getElem?_append_left (List.getElem?_eq_some_iff.1 hk).1]; exact hk
  refine Tri.mono (h0 _ (hk2 _)) ?_
  rintro v _ _ hJ ⟨rfl,rfl,rfl⟩
  refine LoadD.own k (hk2 _) [.int .i64 l1,.int .i64 l2,.int .i64 l3,.int .i64 l4,.int .i64 l5,.int .i64 l6,.int .i64 l7] rfl rfl ?_
  refine StoreD.one S.length (last_get S _) (by show 0+7≤7; omega) (.inr (.inr (Nat.le_refl _))) ?_
  rw [last_set]
  refine LoadD.own S.length (last_get S _) [.int .i64 l1,.int .i64 l2,.int .i64 l3,.int .i64 l4,.int .i64 l5,.int .i64 l6,.int .i64 l7] rfl rfl ?_
  exact Done.mk ⟨_,Drop.init _ _,rfl,rfl,rfl⟩
theorem vk_Layout {I:Imm} {bV bD:Nat} {v:VSt} {ch:List Blk} (h:Vk I bV bD v ch):Tri Tryz.prog 29 #[.pointer (some ⟨bV,0,none⟩)] I [ch] fun r J S'=>r=v.j.lay.v∧I=J∧S'=[ch]:=by
  obtain ⟨bJ,bM,ob,chJ,gs,rfl,hj,hM,hg,hp⟩:=h
  refine Tri.abs (S2:=[vChunk bV bD bJ bM v.j.lay v.epoch v.slot v.broken,[(bM,ob)],chJ]) (vk_lay ..) (v_Layout2 bV bD bJ bM v.j.lay v.epoch v.slot v.broken I _ 0 rfl) ?_
  rintro r _ _ hJ ⟨rfl,rfl,rfl⟩
  exact ⟨_,Drop.flat (vk_lay ..).symm,rfl,rfl,rfl⟩
theorem newC_slots (n:Nat):slotsOf (List.replicate n none)=(newC n).slots:=by unfold slotsOf newC; rw [List.map_replicate]; rfl
theorem ck_New {I:Imm} {bV bD:Nat} {v:VSt} {chV:List Blk} (hV:Vk I bV bD v chV) (hlay:v.j.lay=layOf 64) (n:Int) :
    Tri Tryz.prog 59 #[.pointer (some ⟨bV,0,none⟩),.int .i64 n] I [chV] fun r J S'=>I=J ∧
      ((¬ (1≤n∧n≤64)∧r=.tuple #[.pointer none,.int .i64 2]∧S'=[chV])∨(1≤n∧n≤64∧∃ bC ch,r=.tuple #[.pointer (some ⟨bC,0,none⟩),.int .i64 0]∧Ck J bC bV (newC n.toNat) ch∧S'=[chV,ch])):=by
  refine Tri.drop ?_ (fun _ _ _ _ h=>h)
  have hL:=vk_Layout hV
  rw [hlay] at hL
  refine Tri.of (args:=[.pointer (some ⟨bV,0,none⟩),.int .i64 n]) tabOk Tryz.func59 rfl (by kernel_rfl) (by kernel_rfl) ?_
  refine Tri.nf hL ?_
  rintro r _ _ hJ ⟨rfl,rfl,rfl⟩
  refine lay_cmp (layOf 64) ⟨0,0,0,0,0,0,0⟩ rfl (.inl rfl) rfl rfl ?_
  refine CmpD.no (by decide) ?_
  refine CmpD.split (fun (c1:n < 1)=>?_) (fun (c1:¬ n < 1)=>?_)
  · exact Done.mk ⟨_,Drop.refl _,rfl,.inl ⟨by omega,rfl,rfl⟩⟩
  refine CmpD.split (fun (c2:64 < n)=>?_) (fun (c2:¬ 64 < n)=>?_)
  · exact Done.mk ⟨_,Drop.refl _,rfl,.inl ⟨by omega,rfl,rfl⟩⟩
  obtain ⟨m,rfl⟩:∃ m:Nat,n=m:=⟨n.toNat,by omega⟩
  refine makeD tabOk rfl rfl rfl m m rfl rfl (Nat.le_refl _) (by show 8 * m≤_; omega) (by omega) (by show m * 1≤_; omega) rfl (by decide) ?_
  intro bS
  conv=>whnf
  intro bC
  have hl:(List.replicate m (none:Option BufM)).length=m:=List.length_replicate
  refine Done.mk ⟨[chV,cChunk bC bV bS (List.replicate m (none:Option BufM)).length 0++(sChunk bS (List.replicate m none)++bufs (List.replicate m none))],?_,rfl,.inr ⟨by omega,by omega,bC,_,rfl,⟨bS,List.replicate m none,by rw [Int.toNat_natCast]; rfl,by rw [Int.toNat_natCast]; exact newC_slots m,(fun x hx=>by have:=List.eq_of_mem_replicate hx; cases this),by rw [hl]; omega,by rw [hl]; omega,by rw [hl]; show 0 < m; omega⟩,rfl⟩⟩
  rw [hl,bufs_rep]
  unfold sChunk
  rw [rows_map]
  refine ⟨[],?_⟩
  simp only [List.flatten_cons,List.flatten_nil,List.append_nil,List.append_assoc]
  refine List.Perm.append_left _ ?_
  exact List.Perm.swap _ _ _
theorem v0_wv:WV 2 0 1 v0 dV [] 24 :=
  ⟨openJ_we (by omega) (by omega) (by omega) (dz_calm _ _ _) (dz_wf (supL_length _) (supL_length _) _) (zL_length _ _) (dz_few _ _ 24),rfl,.inl rfl,rfl,by intro g hg; simp at hg,rfl⟩
theorem v0_cur {n:Int} (h:2≤n∧n < 64):v0.cur dV n=noughts:=by
  show (zL _ _).getD n.toNat []=_
  rw [List.getD_eq_getElem?_getD,zL_get _ _ _ (by omega) (by omega)]; rfl
theorem law12_fresh (I:Imm) (n:Int) (hn:1≤n∧n≤64):Tri Tryz.prog 58 #[.int .i64 n] I [] fun r J S'=>∃ bD bV bC,r=.tuple #[.pointer (some ⟨bD,0,none⟩),.pointer (some ⟨bV,0,none⟩),.pointer (some ⟨bC,0,none⟩),.bool true]∧∃ chC chV chD,S'=[chC,chV,chD]∧Ck J bC bV (newC n.toNat) chC∧Vk J bV bD v0 chV∧Dk J bD dV chD:=by
  refine Tri.drop ?_ (fun _ _ _ _ h=>h)
  refine Tri.of (args:=[.int .i64 n]) tabOk Tryz.func58 rfl (by kernel_rfl) (by kernel_rfl) ?_
  refine Tri.frameX (dk_New I 64 (by omega)) [] rfl rfl ?_
  rintro r J1 A' hJ1 ⟨bD,chD,rfl,hD,rfl⟩
  repeat (first | refine CmpD.yes rfl ?_)
  refine Tri.frame1 0 rfl (vk_Format hD ((DSt.of_few _).mono (by omega))) ?_
  rw [format_new]
  rintro r J2 A' hJ2 ⟨rfl,chD2,hD2,rfl⟩
  refine ⟨_,rfl,?_⟩
  repeat (first | refine CmpD.yes rfl ?_)
  have hf:(dz (supL ⟨64,1,1,0⟩) noughts 23).Few 700000:=(dz_few _ _ 23).mono (by omega)
  refine Tri.frameX (vk_Mount hD2 hf) [0] rfl rfl ?_
  rw [show mountP (dz (supL ⟨64,1,1,0⟩) noughts 23)=(dV,0,some v0) from mount_first]
  rintro r J3 A' hJ3 ⟨chD3,hD3,(⟨h,_⟩ | ⟨_,v,bV,chV,hv,rfl,hV,rfl⟩)⟩
  · exact absurd rfl h
  cases hv
  repeat (first | refine CmpD.yes rfl ?_)
  refine Tri.frameX (ck_New hV rfl n) [2] rfl rfl ?_
  rintro r _ A' hJ4 ⟨rfl,(⟨h,_⟩ | ⟨_,_,bC,chC,rfl,hC,rfl⟩)⟩
  · exact absurd hn h
  repeat (first | refine CmpD.yes rfl ?_)
  exact Done.mk ⟨_,Drop.pick [4,3,1] _ rfl,bD,bV,bC,rfl,chC,chV,chD3,rfl,hC,hV,hD3⟩
theorem law12_load {I:Imm} {bC bV bD:Nat} {c:CSt} {chC:List Blk} (hC:Ck I bC bV c chC) {v:VSt} {chV:List Blk} (hV:Vk I bV bD v chV) {d:DSt} {chD:List Blk} (hD:Dk I bD d chD) (hfew:∀ g ∈ v.fresh,g.2.length≤1000000) (n:Int)
    (hrd:(v.read d n).2=0→0≤n∧n≤1000000∧(v.read d n).1.length≤1000000) (hl2:(c.load v d n).1.slots.length≤12) (aH:Option Addr) (lH capH:Nat) (z:List Int) (hH:Rds I aH lH (ints z)) :
    Tri Tryz.prog 65 #[.pointer (some ⟨bC,0,none⟩),.int .i64 n,.slice aH lH capH] I [chC,chV,chD] fun r J S'=>r=.bool (decide ((c.load v d n).2.2=0∧(c.load v d n).1.which (fun _=>true)=z))∧I.le J∧∃ chC',Ck J bC bV (c.load v d n).1 chC'∧S'=[chC',chV,chD]:=by
  refine Tri.drop ?_ (fun _ _ _ _ h=>h)
  refine Tri.of (args:=[.pointer (some ⟨bC,0,none⟩),.int .i64 n,.slice aH lH capH]) tabOk Tryz.func65 rfl (by kernel_rfl) (by kernel_rfl) ?_
  refine Tri.nf (ck_Load hC hV hD hfew n hrd) ?_
  generalize c.load v d n=L at *
  obtain ⟨c2,x,e⟩:=L
  dsimp only at hl2 ⊢
  rintro r J A' hJ ⟨a,cap,chB,chC2,rfl,hB,hle,hC2,rfl⟩
  skip
  refine CmpD.split (fun (c1:e=0)=>?_) (fun (c1:¬ e=0)=>?_)
  rotate_left
  · rw [decide_eq_false (fun h=>c1 h.1)]
    skip
    exact Done.mk ⟨_,Drop.pick [0,1,2] _ rfl,rfl,hle,chC2,hC2,rfl⟩
  skip
  refine Tri.frame (ck_Held hC2 hl2) [0] rfl rfl ?_
  rintro r _ A' hJ2 ⟨rfl,a2,cap2,chO,rfl,hO,rfl⟩
  refine ⟨by simp,?_⟩
  skip
  refine Tri.pack ?_
  refine Tri.mono (same_ints _ J a2 aH _ lH cap2 capH _ z ((hO.slC1 4 rfl).pack) ((hH.mono hle).slC) ?_) ?_
  · have:(c2.which (fun _=>true)).length≤12:=by
      unfold CSt.which
      rw [(sortI_perm _).length_eq,List.length_map]
      have h1:=List.length_filter_le (fun _:Buf=>true) c2.held
      have h2:c2.held.length≤c2.slots.length:=List.length_filterMap_le ..
      omega
    omega
  rintro r _ _ hJ3 ⟨b,rfl,hb,rfl,rfl⟩
  refine ⟨[],by simp,?_⟩
  have e1:b=decide (e=0∧c2.which (fun _=>true)=z):=by
    cases b with
    | true=>exact (decide_eq_true ⟨c1,hb.1 rfl⟩).symm
    | false=>exact (decide_eq_false (fun h=>by have:=hb.2 h.2; cases this)).symm
  rw [← e1]
  skip
  exact Done.mk ⟨_,Drop.pick [0,1,2] _ rfl,rfl,hle,chC2,hC2,rfl⟩
end Go.Proofs.YtegdcjnjnoeinaaGreat
namespace Go.Proofs.YtegdcjnjnoeinaaGreat
open Go.RowKit Go.Sl
set_option maxRecDepth 20000
theorem load_miss {c c':CSt} {v:VSt} {d:DSt} {n:Int} {x:Dat} {i:Nat} (hg:c.got n=none) (hr:v.read d n=(x,0)) (hroom:c.room=(c',some i)) :
    c.load v d n=(⟨c'.slots.set i (some ⟨n,x,0,false,true⟩),c'.hand⟩,x,0):=by
  unfold CSt.load
  rw [hg,hr,hroom]
  simp
theorem load_busy {c c':CSt} {v:VSt} {d:DSt} {n:Int} {x:Dat} (hg:c.got n=none) (hr:v.read d n=(x,0)) (hroom:c.room=(c',none)):c.load v d n=(c',[],130):=by
  unfold CSt.load
  rw [hg,hr,hroom]
  simp
theorem which_eq {c:CSt} {p:Buf→Bool} {z:List Int} (h:((c.held.filter p).map Buf.n).Perm z) (hs:z.Pairwise (·≤·)):c.which p=z:=by
  unfold CSt.which
  exact List.Perm.eq_of_pairwise (le:=fun a b=>a≤b) (fun _ _ _ _ h1 h2=>Int.le_antisymm h1 h2) (sortI_le _) hs ((sortI_perm _).trans h)
section
variable {I:Imm} {bC bV bD:Nat} {c:CSt} {chC:List Blk} (hC:Ck I bC bV c chC) (hl:c.slots.length≤12) {v:VSt} {chV:List Blk} (hV:Vk I bV bD v chV) {d:DSt} {chD:List Blk} (hD:Dk I bD d chD)
include hC hl hV hD
theorem load_ok {ep t0 sq k:Nat} {ls:List (List PImg)} (hw:WV ep t0 sq v d ls k) {n:Int} (hn:18≤n∧n < 64) {c2:CSt} {x:Dat} (hL:c.load v d n=(c2,x,0)) (hl2:c2.slots.length≤12) {z:List Int} (_hz:z.length≤12) (hwh:c2.which (fun _=>true)=z)
    (bH:Nat) {T:TypeId}:Tri Tryz.prog 65 #[.pointer (some ⟨bC,0,none⟩),.int .i64 n,.slice (some ⟨bH,0,none⟩) z.length z.length] I [chC,chV,chD,[(bH,row (ints z) T)]] fun r J S'=>r=.bool true∧I.le J∧∃ chC',Ck J bC bV c2 chC'∧S'=[chC',chV,chD,[]]:=by
  have _h12:=hl
  refine Tri.fix 3 rfl fun I2 hI2 hm=>?_
  have hH:Rds I2 (some ⟨bH,0,none⟩) z.length (ints z):=⟨by simp [ints],.inr ⟨bH,0,_,_,_,rfl,hm _ (List.mem_singleton.2 rfl),by rw [List.drop_zero,List.take_of_length_le (by simp [ints])]⟩⟩
  have hr:=hw.read (n:=n) (by omega)
  have hfew:∀ g ∈ v.fresh,g.2.length≤1000000:=fun g hg=>by have:=hw.fresh_len g hg; omega
  have hcur:(v.cur d n).length≤1000000:=by
    unfold VSt.cur
    cases h:v.fresh.lookup n with
    | some b=>have:=hw.fresh_len _ (lookup_mem h); dsimp only at this ⊢; omega
    | none =>
      have:n.toNat < d.now.length:=by rw [hw.e.len]; omega
      have:=hw.e.dwf.now (d.now.getD n.toNat []) (by rw [List.getD_eq_getElem?_getD,List.getElem?_eq_getElem this]; exact List.getElem_mem _)
      dsimp only; omega
  have hT:=law12_load (hC.mono hI2) (hV.mono hI2) (hD.mono hI2) hfew n (fun _=>⟨by omega,by omega,by rw [hr]; exact hcur⟩) (by rw [hL]; exact hl2) (some ⟨bH,0,none⟩) z.length z.length z hH
  rw [hL] at hT
  dsimp only at hT
  rw [decide_eq_true ⟨rfl,hwh⟩] at hT
  refine Tri.frame hT [0,1,2] rfl rfl ?_
  rintro r J A' hJ ⟨rfl,hle,chC',hC',rfl⟩
  exact ⟨Nat.le_refl _,rfl,Imm.le_trans hI2 hle,chC',hC',rfl⟩
end
@[reducible] def bf (n:Int) (x:Dat) (p:Int) (dd m:Bool):Option Buf:=some ⟨n,x,p,dd,m⟩
set_option maxHeartbeats 4000000 in
theorem awake12 (I:Imm) (S:St):Tri Tryz.prog 72 #[] I S fun v _ _=>v=.bool true:=by
  refine Tri.free (Q:=fun v _ _=>v=.bool true) ?_ (fun v J _ _ h=>h)
  refine Tri.of (args:=[]) tabOk Tryz.func72 rfl (by kernel_rfl) (by kernel_rfl) ?_
  refine Tri.frameX (law12_fresh I 2 (by omega)) [] rfl rfl ?_
  rintro r J1 A' hJ1 ⟨bD,bV,bC,rfl,chC,chV,chD,rfl,hC,hV,hD⟩
  have hrd:∀ n:Int,18≤n∧n < 64→v0.read dV n=(noughts,0):=fun n hn=>by rw [v0_wv.read (by omega),v0_cur (by omega)]
  obtain ⟨N,hN⟩:∃ N,N=noughts:=⟨_,rfl⟩
  rw [← hN] at hrd
  skip
  have hle0:J1.le J1:=Imm.le_refl _
  have L1:CSt.load (newC (Int.toNat 2)) v0 dV 30=(⟨[bf 30 N 0 false true,none],0⟩,N,0):=load_miss (c':=⟨[none,none],0⟩) (i:=0) (by kernel_rfl) (hrd 30 (by omega)) (by kernel_rfl)
  conv=>whnf
  intro bH1
  refine Tri.frame (load_ok hC (by show 2≤12; decide) (hV.mono hle0) (hD.mono hle0) v0_wv (n:=30) (by omega) L1 (by show 2≤12; decide) (z:=[30]) (by decide) (which_eq (by show [30].Perm [30]; decide) (by decide)) bH1) [0,1,2,3] rfl rfl ?_
  rintro r J A' hJ ⟨rfl,hle,chC1,hC1,rfl⟩
  have hle1:=Imm.le_trans hle0 hle
  clear hle hJ
  refine ⟨Nat.le_refl _,?_⟩
  skip
  have L2:CSt.load ⟨[bf 30 N 0 false true,none],0⟩ v0 dV 31=(⟨[bf 30 N 0 false true,bf 31 N 0 false true],0⟩,N,0):=load_miss (c':=⟨[bf 30 N 0 false true,none],0⟩) (i:=1) (by kernel_rfl) (hrd 31 (by omega)) (by kernel_rfl)
  conv=>whnf
  intro bH2
  refine Tri.frame (load_ok hC1 (by show 2≤12; decide) (hV.mono hle1) (hD.mono hle1) v0_wv (n:=31) (by omega) L2 (by show 2≤12; decide) (z:=[30,31]) (by decide) (which_eq (by show [30,31].Perm [30,31]; decide) (by decide)) bH2) [0,1,2,4] rfl rfl ?_
  rintro r J A' hJ ⟨rfl,hle,chC2,hC2,rfl⟩
  have hle2:=Imm.le_trans hle1 hle
  clear hle hJ
  refine ⟨Nat.le_refl _,?_⟩
  skip
  have L3:CSt.load ⟨[bf 30 N 0 false true,bf 31 N 0 false true],0⟩ v0 dV 32=(⟨[bf 32 N 0 false true,bf 31 N 0 false false],1⟩,N,0):=load_miss (c':=⟨[none,bf 31 N 0 false false],1⟩) (i:=0) (by kernel_rfl) (hrd 32 (by omega)) (by kernel_rfl)
  conv=>whnf
  intro bH3
  refine Tri.frame (load_ok hC2 (by show 2≤12; decide) (hV.mono hle2) (hD.mono hle2) v0_wv (n:=32) (by omega) L3 (by show 2≤12; decide) (z:=[31,32]) (by decide) (which_eq (by show [32,31].Perm [31,32]; decide) (by decide)) bH3) [0,1,2,5] rfl rfl ?_
  rintro r J A' hJ ⟨rfl,hle,chC3,hC3,rfl⟩
  have hle3:=Imm.le_trans hle2 hle
  clear hle hJ
  refine ⟨Nat.le_refl _,?_⟩
  skip
  refine Tri.frame1 0 rfl (ck_Pin hC3 31) ?_
  rw [show CSt.pin ⟨[bf 32 N 0 false true,bf 31 N 0 false false],1⟩ 31=(⟨[bf 32 N 0 false true,bf 31 N 1 false false],1⟩,0) from by kernel_rfl]
  rintro r J4 A' hJ4 ⟨rfl,chC4,hC4,rfl⟩
  refine ⟨_,rfl,?_⟩
  have hle4:=Imm.le_trans hle3 hJ4
  repeat (first | refine CmpD.yes rfl ?_)
  have L5:CSt.load ⟨[bf 32 N 0 false true,bf 31 N 1 false false],1⟩ v0 dV 33=(⟨[bf 33 N 0 false true,bf 31 N 1 false false],1⟩,N,0):=load_miss (c':=⟨[none,bf 31 N 1 false false],1⟩) (i:=0) (by kernel_rfl) (hrd 33 (by omega)) (by kernel_rfl)
  conv=>whnf
  intro bH5
  refine Tri.frame (load_ok hC4 (by show 2≤12; decide) (hV.mono hle4) (hD.mono hle4) v0_wv (n:=33) (by omega) L5 (by show 2≤12; decide) (z:=[31,33]) (by decide) (which_eq (by show [33,31].Perm [31,33]; decide) (by decide)) bH5) [0,1,2,6] rfl rfl ?_
  rintro r J A' hJ ⟨rfl,hle,chC5,hC5,rfl⟩
  have hle5:=Imm.le_trans hle4 hle
  clear hle hJ
  refine ⟨Nat.le_refl _,?_⟩
  skip
  refine Tri.free (made 1 4096 (by omega) _) ?_
  rintro r J6 _ hJ6 ⟨aM,rfl,hM⟩
  obtain ⟨M,hMe⟩:∃ M,M=madeL 1 4096:=⟨_,rfl⟩
  have hMl:M.length=4096:=by rw [hMe]; exact madeL_length _ _
  rw [← hMe] at hM
  skip
  refine Tri.frame1 0 rfl (ck_Put (hC5.mono hJ6) 33 aM 4096 4096 M hM) ?_
  have P6:CSt.putD ⟨[bf 33 N 0 false true,bf 31 N 1 false false],1⟩ 33 M=(⟨[bf 33 M 0 true true,bf 31 N 1 false false],1⟩,0):=by
    show (if M.length≠4096 then _ else _)=_
    rw [if_neg (by omega)]; kernel_rfl
  rw [P6]
  rintro r J7 A' hJ7 ⟨rfl,chC7,hC7,rfl⟩
  refine ⟨_,rfl,?_⟩
  have hle7:=Imm.le_trans hle5 (Imm.le_trans hJ6 hJ7)
  repeat (first | refine CmpD.yes rfl ?_)
  have L8:CSt.load ⟨[bf 33 M 0 true true,bf 31 N 1 false false],1⟩ v0 dV 34=(⟨[bf 33 M 0 true true,bf 31 N 1 false false],1⟩,[],130):=load_busy (c':=⟨[bf 33 M 0 true true,bf 31 N 1 false false],1⟩) (by kernel_rfl) (hrd 34 (by omega)) (by kernel_rfl)
  refine Tri.frame (ck_Load hC7 (hV.mono hle7) (hD.mono hle7) (by intro g hg; simp [v0] at hg) 34 (fun _=>⟨by omega,by omega,by rw [hrd 34 (by omega),hN,noughts_length]; omega⟩)) [0,1,2] rfl rfl ?_
  rw [L8]
  rintro r J8 A' hJ8 ⟨a8,cap8,chB8,chC8,rfl,_,_,hC8,rfl⟩
  refine ⟨by simp,?_⟩
  have hle8:=Imm.le_trans hle7 hJ8
  skip
  obtain ⟨v9,d9,t9,s9,l9,hcm,w9,_,hcur9⟩:=v0_wv.commit (l:=[(33,M)]) (of_home64 (by intro g hg; simp at hg; subst hg; dsimp only; omega)) ⟨by omega,by omega,by decide,by decide,by show 1≤1; decide,by show 1≤32; decide,by intro g hg; simp at hg; subst hg; dsimp only; omega,by simp⟩ (by show 1+1≤16; decide)
  refine Tri.frame (ck_Commit hC8 (by show 2≤12; decide) (by show [(33:Int),31].Nodup; decide) (hV.mono hle8) v0_wf rfl (by show (0:Int)≤0∧(0:Int)≤1; omega) (by show 0≤1000; omega) (by show 0≤_; omega) (hD.mono hle8) ((dz_few _ _ 24).mono (by omega))) [0,1,2] rfl rfl ?_
  have C9:CSt.commit ⟨[bf 33 M 0 true true,bf 31 N 1 false false],1⟩ v0 dV=(⟨[bf 33 M 0 false true,bf 31 N 1 false false],1⟩,v9,d9,1,0):=by
    have hd:CSt.dirtyL ⟨[bf 33 M 0 true true,bf 31 N 1 false false],1⟩=[⟨33,M,0,true,true⟩]:=List.mergeSort_singleton _
    unfold CSt.commit
    rw [hd]
    simp only [List.map_cons,List.map_nil]
    rw [hcm]
    simp
    rfl
  rw [C9]
  dsimp only
  rintro r J9 A' hJ9 ⟨rfl,hle9',chC9,chV9,chD9,hC9,hV9,hD9,rfl⟩
  refine ⟨by simp,?_⟩
  have hrd9:∀ n:Int,n=34→v9.read d9 n=(N,0):=by
    rintro n rfl
    rw [w9.read (by omega),hcur9 34 (by omega) (by omega),v0_cur (by omega),hN]; rfl
  have hle9:=Imm.le_refl J9
  repeat (first | refine CmpD.yes rfl ?_)
  have L10:CSt.load ⟨[bf 33 M 0 false true,bf 31 N 1 false false],1⟩ v9 d9 34=(⟨[bf 34 N 0 false true,bf 31 N 1 false false],1⟩,N,0):=load_miss (c':=⟨[none,bf 31 N 1 false false],1⟩) (i:=0) (by kernel_rfl) (hrd9 34 rfl) (by kernel_rfl)
  conv=>whnf
  intro bH10
  refine Tri.frame (load_ok hC9 (by show 2≤12; decide) (hV9.mono hle9) (hD9.mono hle9) w9 (n:=34) (by omega) L10 (by show 2≤12; decide) (z:=[31,34]) (by decide) (which_eq (by show [34,31].Perm [31,34]; decide) (by decide)) bH10) [0,1,2,8] rfl rfl ?_
  rintro r J A' hJ ⟨rfl,hle,chC10,hC10,rfl⟩
  have hle10:=Imm.le_trans hle9 hle
  clear hle hJ
  refine ⟨Nat.le_refl _,?_⟩
  skip
  refine Tri.frame1 0 rfl (ck_Unpin hC10 30) ?_
  rw [show CSt.unpin ⟨[bf 34 N 0 false true,bf 31 N 1 false false],1⟩ 30=(⟨[bf 34 N 0 false true,bf 31 N 1 false false],1⟩,2) from by kernel_rfl]
  rintro r J11 A' hJ11 ⟨rfl,chC11,hC11,rfl⟩
  refine ⟨_,rfl,?_⟩
  repeat (first | refine CmpD.yes rfl ?_)
  exact Done.mk rfl
end Go.Proofs.YtegdcjnjnoeinaaGreat
namespace Go.Proofs.YtegdcjnjnoeinaaGreat
open Go.RowKit Go.Sl
set_option maxRecDepth 20000
theorem held_at {c:CSt} {i:Nat} {o:Option Buf} (h:c.slots[i]?=some o):∃ A B,c.held=A++o.toList++B∧∀ (x:Option Buf) (hd:Nat),(⟨c.slots.set i x,hd⟩:CSt).held=A++x.toList++B:=by
  obtain ⟨h1,h2⟩:=split_at h
  refine ⟨(c.slots.take i).filterMap id,(c.slots.drop (i+1)).filterMap id,?_,fun x hd=>?_⟩
  · unfold CSt.held
    conv=>lhs; rw [h1]
    rw [List.filterMap_append,List.append_assoc]
    congr 1
    cases o <;> rfl
  · unfold CSt.held
    dsimp only
    rw [h2,List.filterMap_append,List.append_assoc]
    congr 1
    cases x <;> rfl
theorem held_mem {c:CSt} {b:Buf}:b ∈ c.held↔some b ∈ c.slots:=by simp [CSt.held]
theorem cgot_some {c:CSt} {n:Int} {i:Nat} {b:Buf} (h:c.got n=some (i,b)):c.slots[i]?=some (some b)∧b.n=n∧b ∈ c.held:=by
  unfold CSt.got CSt.find at h
  cases hf:c.slots.findIdx? (isN n) with
  | none=>rw [hf] at h; cases h
  | some k =>
    rw [hf] at h
    rw [List.findIdx?_eq_some_iff_getElem] at hf
    obtain ⟨h1,h2,_⟩:=hf
    have hk:c.slots[k]?=some c.slots[k]:=List.getElem?_eq_getElem h1
    dsimp only at h
    rw [hk] at h
    cases hx:c.slots[k] with
    | none=>rw [hx] at h2; simp [isN] at h2
    | some y =>
      rw [hx] at h h2 hk
      simp only [Option.some.injEq,Prod.mk.injEq] at h
      obtain ⟨rfl,rfl⟩:=h
      exact ⟨hk,by simpa [isN] using h2,held_mem.2 (List.mem_of_getElem? hk)⟩
theorem cgot_none {c:CSt} {n:Int}:c.got n=none↔n ∉ c.held.map Buf.n:=by
  constructor
  · intro h hm
    obtain ⟨b,hb,hn⟩:=List.mem_map.1 hm
    unfold CSt.got CSt.find at h
    cases hf:c.slots.findIdx? (isN n) with
    | none =>
      rw [List.findIdx?_eq_none_iff] at hf
      have:=hf _ (held_mem.1 hb)
      simp [isN,hn] at this
    | some k =>
      rw [hf] at h
      rw [List.findIdx?_eq_some_iff_getElem] at hf
      obtain ⟨h1,h2,_⟩:=hf
      have hk:c.slots[k]?=some c.slots[k]:=List.getElem?_eq_getElem h1
      dsimp only at h
      rw [hk] at h
      cases hx:c.slots[k] with
      | none=>rw [hx] at h2; simp [isN] at h2
      | some y=>rw [hx] at h; cases h
  · intro h
    cases hg:c.got n with
    | none=>rfl
    | some p =>
      obtain ⟨i,b⟩:=p
      obtain ⟨_,h1,h2⟩:=cgot_some hg
      exact absurd (List.mem_map.2 ⟨b,h2,h1⟩) h
section
variable {room:Nat} {c:CSt} {puts:Int→Dat} {pins:Int→Int} {cur:Int→Dat}
end
end Go.Proofs.YtegdcjnjnoeinaaGreat
namespace Go.Proofs.YtegdcjnjnoeinaaGreat
open Go.RowKit Go.Sl
set_option maxRecDepth 20000
theorem which_len {c:CSt} {p:Buf→Bool}:(c.which p).length≤c.slots.length:=by
  unfold CSt.which
  rw [(sortI_perm _).length_eq,List.length_map]
  have h1:=List.length_filter_le p c.held
  have h2:c.held.length≤c.slots.length:=List.length_filterMap_le ..
  omega
theorem clean_held (c:CSt):c.clean.held=c.held.map fun b=>{ b with dirty:=false }:=by
  unfold CSt.clean CSt.held
  dsimp only
  rw [List.filterMap_map,List.map_filterMap]
  congr 1
theorem dirtyL_len (c:CSt):c.dirtyL.length≤c.slots.length:=by
  rw [(dirtyL_perm c).length_eq]
  have h1:=List.length_filter_le Buf.dirty c.held
  have h2:c.held.length≤c.slots.length:=List.length_filterMap_le ..
  omega
theorem dirtyL_mem {c:CSt} {b:Buf}:b ∈ c.dirtyL↔b ∈ c.held∧b.dirty=true:=by
  rw [(dirtyL_perm c).mem_iff,List.mem_filter]
end Go.Proofs.YtegdcjnjnoeinaaGreat

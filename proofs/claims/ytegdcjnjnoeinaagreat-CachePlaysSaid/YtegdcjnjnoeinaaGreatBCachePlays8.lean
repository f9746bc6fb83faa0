/- Texts of this claim laid together: Pj12, Pj13, MarkB, Pj14, Pj15, KeptW, Cr1, Cr2, Cr3, Cr4, Cr5, Cr6, Cr7, Kp1, Kp2, Kp3, Tw1, Kept1, VolumeMounts, Tw2, Kept2, Pj16, Pj17, Fm1, OpenB, OpenO, Marks12, CacheNone, VolumeNone, CacheNumbers, Pj18. -/
import Derived.Test.YtegdcjnjnoeinaaGreatBCachePlays7
import Derived.Test.YtegdcjnjnoeinaaGreatBCachePlays3
import Derived.Test.YtegdcjnjnoeinaaGreatBCachePlays2
import Derived.Test.YtegdcjnjnoeinaaGreatBCachePlays6
import Derived.Test.YtegdcjnjnoeinaaGreatBCachePlays5
import Derived.Test.YtegdcjnjnoeinaaGreatBCachePlays4
import Derived.Lib.SmallJoins
import Derived.Test.YtegdcjnjnoeinaaGreatBCachePlays1
namespace Go.Proofs.YtegdcjnjnoeinaaGreat
open Go.RowKit Go.Sl
set_option maxRecDepth 20000
def gotP (c:CSt) (p:Buf→Bool) (n:Int):Bool:=match c.got n with
  | some (_,b)=>p b
  | none=>false
def upW (c:CSt) (p:Buf→Bool) (n:Nat):List Int:=((List.range n).map fun i:Nat=>(i:Int)).filter (gotP c p)
theorem upW_succ (c:CSt) (p:Buf→Bool) (n:Nat):upW c p (n+1)=upW c p n++(if gotP c p n=true then [(n:Int)] else []):=by
  unfold upW
  rw [List.range_succ,List.map_append,List.filter_append]
  congr 1
  by_cases h:gotP c p n=true
  · simp [h]
  · simp [h]
theorem upW_hit {c:CSt} {p:Buf→Bool} {n:Nat} {i:Nat} {b:Buf} (hg:c.got (n:Int)=some (i,b)) (hp:p b=true):upW c p (n+1)=upW c p n++[(n:Int)]:=by
  rw [upW_succ,if_pos (by unfold gotP; rw [hg]; exact hp)]
theorem upW_miss {c:CSt} {p:Buf→Bool} {n:Nat} {i:Nat} {b:Buf} (hg:c.got (n:Int)=some (i,b)) (hp:p b=false):upW c p (n+1)=upW c p n:=by
  rw [upW_succ,if_neg (by unfold gotP; rw [hg]; show ¬ p b=true; rw [hp]; simp),List.append_nil]
theorem upW_none {c:CSt} {p:Buf→Bool} {n:Nat} (hg:c.got (n:Int)=none):upW c p (n+1)=upW c p n:=by
  rw [upW_succ,if_neg (by unfold gotP; rw [hg]; simp),List.append_nil]
theorem upW_len (c:CSt) (p:Buf→Bool) (n:Nat):(upW c p n).length≤n:=by
  unfold upW
  refine Nat.le_trans (List.length_filter_le ..) ?_
  simp
theorem upW_sorted (c:CSt) (p:Buf→Bool) (n:Nat):(upW c p n).Pairwise fun a b=>a < b:=by
  unfold upW
  refine List.Pairwise.filter _ ?_
  rw [List.pairwise_map]
  exact List.pairwise_lt_range.imp (by intro a b h; omega)
theorem upW_which {c:CSt} {p:Buf→Bool} {n:Nat} (hnd:(c.held.map Buf.n).Nodup) (hr:∀ b ∈ c.held,0≤b.n∧b.n < n):upW c p n=c.which p:=by
  unfold CSt.which
  refine (sortI_of ?_ ((upW_sorted c p n).imp (by intro a b h; omega))).symm
  have hsub:((c.held.filter p).map Buf.n).Nodup:=hnd.sublist (List.filter_sublist.map _)
  refine (List.perm_ext_iff_of_nodup hsub ((upW_sorted c p n).imp (by intro a b h; omega))).2 ?_
  intro x
  unfold upW
  rw [List.mem_filter]
  constructor
  · intro hx
    obtain ⟨b,hb,rfl⟩:=List.mem_map.1 hx
    obtain ⟨hb1,hb2⟩:=List.mem_filter.1 hb
    have h1:=hr b hb1
    refine ⟨List.mem_map.2 ⟨b.n.toNat,List.mem_range.2 (by omega),by omega⟩,?_⟩
    unfold gotP
    cases hg:c.got b.n with
    | none=>exact absurd (List.mem_map_of_mem hb1) (cgot_none.1 hg)
    | some y =>
      obtain ⟨i,b'⟩:=y
      obtain ⟨_,h2,h3⟩:=cgot_some hg
      have:b'=b:=nodup_inj Buf.n hnd h3 hb1 h2
      subst this
      exact hb2
  · rintro ⟨_,hx⟩
    unfold gotP at hx
    cases hg:c.got x with
    | none=>rw [hg] at hx; cases hx
    | some y =>
      obtain ⟨i,b⟩:=y
      rw [hg] at hx
      obtain ⟨_,h2,h3⟩:=cgot_some hg
      exact List.mem_map.2 ⟨b,List.mem_filter.2 ⟨h3,hx⟩,h2⟩
def wP (w:Int):Buf→Bool:=fun b=>if w=0 then true else if w=1 then b.dirty else decide (0 < b.pins)
set_option maxHeartbeats 8000000 in
theorem r12_Which {I:Imm} {val:Value} {m:VC} {c:CSt} (h:RCv I val m c) (w:Int) (hw:w=0∨w=1∨w=2) {p:Buf→Bool} (hp:p=wP w):Tri Tryz.prog 77 #[val,.int .i64 w] I [] fun r J S'=>I=J∧∃ a cap ch,r=.slice a (upW c p 512).length cap∧OwnC ch 1 a (upW c p 512).length cap (ints (upW c p 512))∧S'=[ch]:=by
  have h0:=h
  obtain ⟨aS,cap,xs,rfl,hR,ho,hok,hh,hl⟩:=h
  refine Tri.lay (S2:=[[]]) (by simp) ?_
  refine Tri.drop ?_ (fun _ _ _ _ h=>h)
  refine Tri.of (args:=[.agg (cV m aS xs.length cap c.hand).toArray,.int .i64 w]) tabOk Tryz.func77 rfl (by kernel_rfl) (by kernel_rfl) ?_
  conv=>whnf
  intro b2
  refine CodeF.loopD [1,2,5,6] (fun vs J S'=>∃ (k:Nat) (aO:Option Addr) (capO:Nat) (chO:List Blk),k≤512∧OwnC chO 1 aO (upW c p k).length capO (ints (upW c p k))∧I=J ∧
      vs=[.int .i64 w,.pointer (some ⟨b2,0,none⟩),.slice aO (upW c p k).length capO,.int .i64 k]∧S'=[chO,[(b2,row (cV m aS xs.length cap c.hand) 116)]])
    (fun vs _ _=>match vs with | [_,_,_,.int _ k]=>((512:Int) - k).toNat | _=>0) ?_ ?_
  · exact ⟨_,Drop.refl _,0,none,0,[],by omega,OwnC.nil _ _,rfl,rfl,rfl⟩
  rintro vs gE J S' hJ ⟨k,aO,capO,chO,hk,hO,rfl,rfl,rfl⟩
  have hul:=upW_len c p k
  refine CmpD.split (fun (c1:(k:Int) < 512)=>?_) (fun (c1:¬ (k:Int) < 512)=>?_)
  rotate_left
  · obtain rfl:k=512:=by omega
    exact Done.mk ⟨_,Drop.pick [0] _ rfl,rfl,aO,capO,chO,rfl,hO,rfl⟩
  have hmu:((512:Int) - ((k+1:Nat):Int)).toNat < ((512:Int) - (k:Int)).toNat:=by omega
  repeat (first | refine LoadD.own 1 rfl _ rfl rfl ?_)
  refine Tri.free (r12_find m aS cap xs c.hand hR hok (by omega) (k:Int)) ?_
  rintro r _ _ hJ2 ⟨rfl,rfl⟩
  rw [ho]
  skip
  cases hfi:c.slots.findIdx? (isN (k:Int)) with
  | none =>
    have hg:=got_of_none hfi
    refine CmpD.no (by show ¬ (0:Int)≤-1; omega) ?_
    refine ToD.to (((k+1:Nat)):Int) (by rw [wrap_i64 (by omega) (by omega)]; omega) ?_
    exact ⟨_,Drop.refl _,⟨k+1,aO,capO,chO,by omega,by rw [upW_none hg]; exact hO,rfl,by rw [upW_none hg]; rfl,rfl⟩,hmu⟩
  | some i =>
    obtain ⟨b,hb,hbn,hg⟩:=got_of_some hfi
    obtain ⟨x,hx,hxo,hil⟩:=rb_some ho hb
    have hxc:=RB.cells_some hxo
    rcases hR.mem with q0 | ⟨bS,oS,cS,TS,fS,rfl,hIS,hcS⟩
    · omega
    refine CmpD.yes (by show 0≤(i:Int); omega) ?_
    rcases hw with rfl | rfl | rfl
    · refine CmpD.yes rfl ?_
      conv=>whnf
      intro b48
      skip
      refine appendD tabOk rfl rfl rfl rfl rfl rfl rfl 0 rfl hO (SrcOk.slice (n:=1) (news:=[.int .i64 (k:Int)]) tabOk rfl ((OwnC.whole (len:=1) (size:=1) rfl).slC 2 rfl) (by intro v hv; simp at hv; subst hv; rfl)) rfl (by show ((upW c p k).length+1) * 8≤_; omega) (by omega) ?_
      intro aM capM chM hM
      refine ToD.to (((k+1:Nat)):Int) (by rw [wrap_i64 (by omega) (by omega)]; omega) ?_
      refine ⟨_,Drop.pick [0,1] _ rfl,⟨k+1,aM,capM,chM,by omega,?_,rfl,?_,rfl⟩,hmu⟩
      · rw [upW_hit hg (by rw [hp]; rfl),List.length_append,ints,List.map_append]; exact hM
      · rw [upW_hit hg (by rw [hp]; rfl),List.length_append]; rfl
    · refine CmpD.no (by decide) ?_
      refine CmpD.yes rfl ?_
      repeat (first | refine LoadD.own 1 rfl _ rfl rfl ?_)
      refine Chk.mk (by show 0≤(i:Int)∧(i:Int) < xs.length; omega) ?_
      refine LoadD.imm hIS [.bool b.dirty] (by have e:=rcell_take hcS hx 3 1 (by omega); rw [hxc] at e; exact e) rfl ?_
      cases hbd:b.dirty with
      | true =>
        conv=>whnf
        intro b48
        skip
        refine appendD tabOk rfl rfl rfl rfl rfl rfl rfl 0 rfl hO (SrcOk.slice (n:=1) (news:=[.int .i64 (k:Int)]) tabOk rfl ((OwnC.whole (len:=1) (size:=1) rfl).slC 2 rfl) (by intro v hv; simp at hv; subst hv; rfl)) rfl (by show ((upW c p k).length+1) * 8≤_; omega) (by omega) ?_
        intro aM capM chM hM
        refine ToD.to (((k+1:Nat)):Int) (by rw [wrap_i64 (by omega) (by omega)]; omega) ?_
        refine ⟨_,Drop.pick [0,1] _ rfl,⟨k+1,aM,capM,chM,by omega,?_,rfl,?_,rfl⟩,hmu⟩
        · rw [upW_hit hg (by rw [hp]; exact hbd),List.length_append,ints,List.map_append]; exact hM
        · rw [upW_hit hg (by rw [hp]; exact hbd),List.length_append]; rfl
      | false =>
        repeat (first | refine CmpD.no (by decide) ?_)
        refine ToD.to (((k+1:Nat)):Int) (by rw [wrap_i64 (by omega) (by omega)]; omega) ?_
        exact ⟨_,Drop.refl _,⟨k+1,aO,capO,chO,by omega,by rw [upW_miss hg (by rw [hp]; exact hbd)]; exact hO,rfl,by rw [upW_miss hg (by rw [hp]; exact hbd)]; rfl,rfl⟩,hmu⟩
    · refine CmpD.no (by decide) ?_
      refine CmpD.no (by decide) ?_
      refine CmpD.yes rfl ?_
      repeat (first | refine LoadD.own 1 rfl _ rfl rfl ?_)
      refine Chk.mk (by show 0≤(i:Int)∧(i:Int) < xs.length; omega) ?_
      refine LoadD.imm hIS [.int .i64 b.pins] (by have e:=rcell_take hcS hx 2 1 (by omega); rw [hxc] at e; exact e) rfl ?_
      refine CmpD.split (fun (c2:0 < b.pins)=>?_) (fun (c2:¬ 0 < b.pins)=>?_)
      · skip
        conv=>whnf
        intro b48
        skip
        refine appendD tabOk rfl rfl rfl rfl rfl rfl rfl 0 rfl hO (SrcOk.slice (n:=1) (news:=[.int .i64 (k:Int)]) tabOk rfl ((OwnC.whole (len:=1) (size:=1) rfl).slC 2 rfl) (by intro v hv; simp at hv; subst hv; rfl)) rfl (by show ((upW c p k).length+1) * 8≤_; omega) (by omega) ?_
        intro aM capM chM hM
        refine ToD.to (((k+1:Nat)):Int) (by rw [wrap_i64 (by omega) (by omega)]; omega) ?_
        refine ⟨_,Drop.pick [0,1] _ rfl,⟨k+1,aM,capM,chM,by omega,?_,rfl,?_,rfl⟩,hmu⟩
        · rw [upW_hit hg (by rw [hp]; exact decide_eq_true c2),List.length_append,ints,List.map_append]; exact hM
        · rw [upW_hit hg (by rw [hp]; exact decide_eq_true c2),List.length_append]; rfl
      · skip
        refine ToD.to (((k+1:Nat)):Int) (by rw [wrap_i64 (by omega) (by omega)]; omega) ?_
        exact ⟨_,Drop.refl _,⟨k+1,aO,capO,chO,by omega,by rw [upW_miss hg (by rw [hp]; exact decide_eq_false c2)]; exact hO,rfl,by rw [upW_miss hg (by rw [hp]; exact decide_eq_false c2)]; rfl,rfl⟩,hmu⟩
end Go.Proofs.YtegdcjnjnoeinaaGreat
namespace Go.Proofs.YtegdcjnjnoeinaaGreat
open Go.RowKit Go.Sl
set_option maxRecDepth 20000
theorem dirtyL_nums (c:CSt):c.dirtyL.map Buf.n=c.which Buf.dirty:=by
  unfold CSt.which
  refine (sortI_of ((dirtyL_perm c).symm.map Buf.n) ?_).symm
  rw [List.pairwise_map]
  exact dirtyL_le c
theorem got_held {c:CSt} (hnd:(c.held.map Buf.n).Nodup) {b:Buf} (hb:b ∈ c.held):∃ i,c.got b.n=some (i,b):=by
  cases hg:c.got b.n with
  | none=>exact absurd (List.mem_map_of_mem hb) (cgot_none.1 hg)
  | some y =>
    obtain ⟨i,b'⟩:=y
    obtain ⟨_,h2,h3⟩:=cgot_some hg
    have:b'=b:=nodup_inj Buf.n hnd h3 hb h2
    subst this
    exact ⟨i,rfl⟩
def cleanRB (x:RB):RB:=⟨x.a,x.cap,x.o.map fun b=>{ b with dirty:=false }⟩
def cl (xs:List RB) (k:Nat):List RB:=(xs.take k).map cleanRB++xs.drop k
theorem cl_length (xs:List RB) (k:Nat):(cl xs k).length=xs.length:=by
  unfold cl
  rw [List.length_append,List.length_map,List.length_take,List.length_drop]; omega
theorem cl_at {xs:List RB} {k:Nat} (hk:k < xs.length):(cl xs k)[k]?=some xs[k]∧(cl xs k).set k (cleanRB xs[k])=cl xs (k+1):=by
  have hl:((xs.take k).map cleanRB).length=k:=by rw [List.length_map,List.length_take]; omega
  unfold cl
  refine ⟨?_,?_⟩
  · rw [List.getElem?_append_right (by omega),hl,Nat.sub_self,List.getElem?_drop,Nat.add_zero,List.getElem?_eq_getElem hk]
  · rw [List.set_append_right _ _ (by omega),hl,Nat.sub_self,List.drop_eq_getElem_cons hk,List.set_cons_zero,List.take_add_one,List.getElem?_eq_getElem hk,List.map_append]
    simp
theorem cl_all (xs:List RB):cl xs xs.length=xs.map cleanRB:=by
  unfold cl
  rw [List.take_length,List.drop_length,List.append_nil]
theorem clean_cells (x:RB):splice x.cells 3 [.bool false]=(cleanRB x).cells:=by
  unfold RB.cells cleanRB
  cases x.o <;> rfl
theorem clean_slots (xs:List RB) (hand:Nat):(xs.map cleanRB).map RB.o=(CSt.clean ⟨xs.map RB.o,hand⟩).slots:=by
  unfold CSt.clean
  rw [List.map_map,List.map_map]; rfl
set_option maxHeartbeats 8000000 in
theorem r12_Commit {I:Imm} {val:Value} {m:VC} {c:CSt} (h:RCv I val m c) {v:VSt} {d:DSt} {q:Nat} (hV:RVk I (.agg m.l.toArray) v d q) (hv:VOk v q) (hq:q≤50000) (hf:d.Few 600000) (hnd:(c.held.map Buf.n).Nodup) :
    Tri Tryz.prog 145 #[val] I [] fun r J _=>∃ v' m',r=.tuple #[v',.int .i64 (c.commit v d).2.2.2.1,.int .i64 (c.commit v d).2.2.2.2]∧RCv J v' m' (c.commit v d).1∧RVk J (.agg m'.l.toArray) (c.commit v d).2.1 (c.commit v d).2.2.1 (q+c.dirtyL.length):=by
  have h0:=h
  have hWh:=r12_Which h 1 (.inr (.inl rfl)) (p:=Buf.dirty) (by funext b; unfold wP; rfl)
  obtain ⟨slots,hand⟩:=c
  obtain ⟨aS,cap,xs,rfl,hR,ho,hok,hh,hl⟩:=h
  dsimp only at ho hh
  have hVq:RVk I (.agg m.l.toArray) v d (q+(CSt.dirtyL ⟨slots,hand⟩).length):=by
    obtain ⟨s,w,sz,fr,first,gs,h1,h2,h3,h4,h5,h6,h7,h8,h9,h10⟩:=hV.ex
    exact ⟨s,w,sz,fr,first,gs,h1,h2,h3,h4,h5,h6,h7,h8,h9,by omega⟩
  have hheld:∀ b ∈ CSt.held ⟨slots,hand⟩,∃ x ∈ xs,x.o=some b:=by
    intro b hb
    have hb2:=held_mem.1 hb
    have hb2:some b ∈ slots:=hb2
    rw [← ho] at hb2
    obtain ⟨x,hx,hxo⟩:=List.mem_map.1 hb2
    exact ⟨x,hx,hxo⟩
  have hrng:∀ b ∈ CSt.held ⟨slots,hand⟩,0≤b.n∧b.n < (512:Nat):=by
    intro b hb
    obtain ⟨x,hx,hxo⟩:=hheld b hb
    have:=hok x hx b hxo
    omega
  rw [upW_which hnd hrng,← dirtyL_nums] at hWh
  have hdl:=dirtyL_len (⟨slots,hand⟩:CSt)
  have hdm:=fun b=>dirtyL_mem (c:=(⟨slots,hand⟩:CSt)) (b:=b)
  have hsl:slots.length=xs.length:=by rw [← ho,List.length_map]
  dsimp only at hdl
  unfold CSt.commit
  obtain ⟨dl,hdle⟩:∃ dl,dl=CSt.dirtyL ⟨slots,hand⟩:=⟨_,rfl⟩
  rw [← hdle] at hWh hVq hdl hdm ⊢
  rw [List.length_map] at hWh
  refine Tri.ofF (args:=[.agg (cV m aS xs.length cap hand).toArray]) tabOk Tryz.func145 rfl (by kernel_rfl) (by kernel_rfl) ?_
  refine CodeF.stepD ?_
  conv=>whnf
  intro b1
  conv=>whnf
  intro b2
  refine CodeF.stepD ?_
  repeat (first | refine LoadD.own 0 rfl _ rfl rfl ?_)
  refine Tri.frameX hWh [] rfl rfl ?_
  rintro r _ A' hJ ⟨rfl,aW,capW,chW,rfl,hW,rfl⟩
  skip
  refine CodeF.fixD 2 rfl fun J1 hJ1 hm1=>?_
  have hWr:=Rds.of_own hW hm1
  have hVJ:=hV.mono hJ1
  have hCm:=fun (J:Imm) (hJ:J1.le J) (aI:Option Addr) (capI:Nat) (is:List Img)=>r11_Commit (hVJ.mono hJ) hv hq hf aI capI is
  obtain ⟨B2,hB2⟩:∃ B2:List Blk,B2=[(b2,row (cV ⟨⟨none,0,0⟩,⟨none,0,0⟩,⟨none,0,0⟩,⟨none,0,0⟩,0,false,0,0,⟨0,0,0,0,0,0,0⟩,0,0,0,0,0,0,0,false,⟨0,0,0,0,0,0,0⟩,0,false⟩ none 0 0 0) 116)]:=⟨_,rfl⟩
  refine CodeF.stepD ?_
  refine CmpD.split (fun (c1:(dl.length:Int)=0)=>?_) (fun (c1:¬ (dl.length:Int)=0)=>?_)
  · rw [if_pos (by apply List.length_eq_zero_iff.1; omega)]
    repeat (first | refine LoadD.own 0 rfl _ rfl rfl ?_ | refine LoadD.own 1 rfl _ rfl rfl ?_ | refine StoreD.st 1 rfl rfl rfl ?_)
    exact Done.mk ⟨_,m,rfl,h0.mono hJ1,hVq.mono hJ1⟩
  rw [if_neg (by intro hn; rw [hn] at c1; simp at c1)]
  refine CodeF.stepD ?_
  refine CodeF.join [1,2,6] (fun vs J S'=>∃ (aI:Option Addr) (capI:Nat) (chI:List Blk) (is:List Img),is.length=dl.length∧OwnC chI 2 aI is.length capI (imgCells is)∧is.map Img.pr=dl.map (fun b=>(b.n,b.data))∧(∀ g ∈ is,ImgOk J g∧g.len≤g.cap)∧J1=J ∧
      vs=[.pointer (some ⟨b1,0,none⟩),.pointer (some ⟨b2,0,none⟩),.slice aI dl.length capI]∧S'=[[(b1,row (cV m aS xs.length cap hand) 116)],B2,chI]) ?_ ?_
  · refine CodeF.den ?_
    refine CodeF.loopD [1,2,5,6,7] (fun vs J S'=>∃ (k:Nat) (aI:Option Addr) (capI:Nat) (chI:List Blk) (is:List Img),k≤dl.length∧is.length=k∧OwnC chI 2 aI k capI (imgCells is)∧is.map Img.pr=(dl.take k).map (fun b=>(b.n,b.data))∧(∀ g ∈ is,ImgOk J g∧g.len≤g.cap)∧J1=J ∧
        vs=[.pointer (some ⟨b1,0,none⟩),.pointer (some ⟨b2,0,none⟩),.slice aW dl.length capW,.slice aI k capI,.int .i64 k]∧S'=[[(b1,row (cV m aS xs.length cap hand) 116)],B2,chI])
      (fun vs _ _=>match vs with | [_,_,_,_,.int _ k]=>((dl.length:Int) - k).toNat | _=>0) ?_ ?_
    · exact ⟨_,by rw [hB2]; exact Drop.refl _,0,none,0,[],[],by omega,rfl,OwnC.nil _ _,by simp,by simp,rfl,rfl,rfl⟩
    rintro vs gE J S' hJ2 ⟨k,aI,capI,chI,is,hk,hisl,hO,hpr,hiok,rfl,rfl,rfl⟩
    refine CmpD.split (fun (c2:(k:Int) < dl.length)=>?_) (fun (c2:¬ (k:Int) < dl.length)=>?_)
    rotate_left
    · obtain rfl:k=dl.length:=by omega
      rw [List.take_length] at hpr
      exact ⟨_,Drop.refl _,aI,capI,chI,is,hisl,by rw [hisl]; exact hO,hpr,hiok,rfl,rfl,rfl⟩
    have hkl:k < dl.length:=by omega
    have hbm:=(hdm dl[k]).1 (List.getElem_mem hkl)
    obtain ⟨i,hg⟩:=got_held hnd hbm.1
    have hnk:(ints (dl.map Buf.n))[k]?=some (.int .i64 dl[k].n):=by rw [ints,List.getElem?_map,List.getElem?_map,List.getElem?_eq_getElem hkl]; rfl
    have htk:dl.take (k+1)=dl.take k++[dl[k]]:=by rw [List.take_add_one,List.getElem?_eq_getElem hkl]; rfl
    generalize dl[k]=b at *
    have hfi:slots.findIdx? (isN b.n)=some i:=by
      cases hf2:slots.findIdx? (isN b.n) with
      | none=>rw [got_of_none (c:=⟨slots,hand⟩) hf2] at hg; cases hg
      | some j =>
        obtain ⟨b',h1,h2,h3⟩:=got_of_some (c:=⟨slots,hand⟩) hf2
        rw [hg] at h3
        cases h3; rfl
    obtain ⟨hb1,hb2,_⟩:=cgot_some hg
    obtain ⟨x,hx,hxo,hil⟩:=rb_some ho hb1
    have hxk:=hok x (List.mem_of_getElem? hx) b hxo
    have hxc:=RB.cells_some hxo
    rcases hR.mem with q0 | ⟨bS,oS,cS,TS,fS,hSa,hIS,hcS⟩
    · omega
    subst hSa
    rcases hWr.mem with q0 | ⟨bW,oW,cW,TW,fW,hWa,hIW,hcW⟩
    · omega
    subst hWa
    refine CodeF.sched [[],[],[],[1,2],[1,2,3],[],[5],[],[],[],[8,9],[8,9,10],[7,8,9,10,11],[5,6,7,8,9,10,11,12],[5,6,7,8,9,10,11,12,13],[5,6,7,8,9,10,11,12,13,14],[1,2,3,4,5,6,7,8,9,10,11,12,13,14,15],[1,2,3,4,5,6,7,8,9,10,11,12,13,14,15,16],[0,1,2,3,4,5,6,7,8,9,10,11,12,13,14,15,16,17],[0,1,2,3,4,5,6,7,8,9,10,11,12,13,14,15,16,17,18]] [0,1,2,3,4,5,6,7,8,9,10,11,12,13,14,15,16,17,18,19] (by kernel_rfl) ?_
    refine Chk.mk (by omega) ?_
    refine LoadP.imm [.int .i64 b.n] ⟨cW,TW,fW,.imm hIW,take_get hcW hnk,rfl⟩ ?_
    repeat (first | refine LoadP.at 0 rfl _ rfl rfl ?_)
    refine Chk.mk (by omega) ?_
    refine LoadP.imm [.int .i64 b.n] ⟨cW,TW,fW,.imm hIW,take_get hcW hnk,rfl⟩ ?_
    skip
    refine Tri.free (r12_find m _ cap xs hand (hR.mono hJ1) (fun x hx=>(hok x hx).mono hJ1) (by omega) b.n) ?_
    rintro r _ _ hJ3 ⟨rfl,rfl⟩
    rw [ho,hfi]
    repeat (first | refine Chk.mk ⟨rfl,trivial⟩ ?_)
    refine Chk.mk (by show 0≤(i:Int)∧(i:Int) < xs.length; omega) ?_
    refine LoadP.imm [.slice x.a b.data.length x.cap] ⟨cS,TS,fS,.imm (hJ1 _ _ hIS),by have e:=rcell_take hcS hx 1 1 (by omega); rw [hxc] at e; exact e,rfl⟩ ?_
    skip
    conv=>whnf
    intro b41
    skip
    refine appendD tabOk rfl rfl rfl rfl rfl rfl rfl 2 rfl hO (SrcOk.slice (n:=1) (news:=imgCells [⟨b.n,x.a,b.data.length,x.cap,b.data⟩]) tabOk rfl ((OwnC.whole (len:=1) (size:=2) rfl).slC 3 rfl) (by intro v hv; simp [imgCells] at hv; rcases hv with rfl | rfl <;> rfl)) rfl (by show (k+1) * 32≤_; omega) (by omega) ?_
    intro aM capM chM hM
    skip
    refine ToD.to (((k+1:Nat)):Int) (by rw [wrap_i64 (by omega) (by omega)]; omega) ?_
    refine ⟨_,Drop.pick [0,1,2] _ rfl,⟨k+1,aM,capM,chM,is++[⟨b.n,x.a,b.data.length,x.cap,b.data⟩],by omega,by rw [List.length_append,hisl]; rfl,by rw [imgCells_snoc]; exact hM,?_,?_,rfl,rfl,rfl⟩,?_⟩
    · rw [List.map_append,hpr,htk,List.map_append]; rfl
    · intro g hg
      rcases List.mem_append.1 hg with hg | hg
      · exact hiok g hg
      · simp only [List.mem_singleton] at hg
        subst hg
        exact ⟨⟨by show In64 b.n; unfold In64; omega,hxk.1.mono hJ1⟩,hxk.2.2.2.2.2.1 hbm.2⟩
    · show ((dl.length:Int) - ((k+1:Nat):Int)).toNat < ((dl.length:Int) - (k:Int)).toNat; omega
  rintro vs gE J S' hJ2 ⟨aI,capI,chI,is,hisl,hO,hpr,hiok,rfl,rfl,rfl⟩
  refine CodeF.fixD 2 rfl fun J2 hJ2 hm2=>?_
  have hi2:ImgsOk J2 aI is:=⟨Rds.of_ownS hO hm2,fun g hg=>((hiok g hg).1).mono hJ2⟩
  have hC2:=hCm J2 hJ2 aI capI is hi2 (fun g hg=>(hiok g hg).2) (by omega)
  rw [hpr,hisl] at hC2
  refine CodeF.stepD ?_
  repeat (first | refine LoadD.own 0 rfl _ rfl rfl ?_)
  refine Tri.free hC2 ?_
  generalize v.commit d (dl.map fun b=>(b.n,b.data))=vc at *
  obtain ⟨v3,d3,n3,e3⟩:=vc
  dsimp only
  rintro r J3 _ hJ3 ⟨v',rfl,hRV⟩
  obtain ⟨s3,w3,z3,f3,first3,gs3,rfl,hP3⟩:=hRV.parts
  obtain ⟨m3,hm3⟩:∃ m3:VC,m3=⟨s3,w3,z3,f3,d3.count,d3.down,gv d3.arm,gv d3.fault,v3.j.lay,v3.j.s,v3.j.t,v3.j.u,v3.j.h,v3.j.epoch,first3,v3.j.synced,v3.j.broken,v3.j.lay,v3.slot,v3.broken⟩:=⟨_,rfl⟩
  have hml:vC (jC s3 w3 d3.count d3.down (gv d3.arm) (gv d3.fault) v3.j.lay v3.j.s v3.j.t v3.j.u v3.j.h v3.j.epoch first3 z3 v3.j.synced v3.j.broken) v3.j.lay v3.slot f3 v3.broken=m3.l:=by rw [hm3]
  rw [hml] at hRV ⊢
  clear hml hm3 hP3
  conv=>whnf
  intro b8
  repeat (first | refine StoreD.st 3 rfl rfl rfl ?_)
  refine CodeF.stepD ?_
  repeat (first | refine LoadD.own 3 rfl _ rfl rfl ?_ | refine StoreD.st 0 rfl rfl rfl ?_)
  refine CodeF.stepD ?_
  have hle3:=Imm.le_trans hJ1 (Imm.le_trans hJ2 hJ3)
  by_cases he:e3≠0
  · refine CmpD.no he ?_
    rw [if_pos he,hB2]
    repeat (first | refine LoadD.own 0 rfl _ rfl rfl ?_ | refine LoadD.own 1 rfl _ rfl rfl ?_ | refine StoreD.st 1 rfl rfl rfl ?_)
    exact Done.mk ⟨_,m3,rfl,⟨aS,cap,xs,rfl,hR.mono hle3,ho,fun x hx=>(hok x hx).mono hle3,hh,hl⟩,hRV⟩
  obtain rfl:e3=0:=by omega
  rw [if_neg he]
  repeat (first | refine CmpD.yes rfl ?_)
  refine CodeF.stepD ?_
  repeat (first | refine LoadD.own 0 rfl _ rfl rfl ?_)
  refine Tri.frameX (r12_copied m3 aS cap xs hand (hR.mono hle3) (by omega)) [] rfl rfl ?_
  rintro r _ A' hJ4 ⟨rfl,a2,cap2,ch,rfl,hO2,rfl⟩
  obtain ⟨bX,pre,post,TX,rfl,rfl,hpost,hle2⟩:=own_open hO2 (by omega)
  repeat (first | refine StoreD.st 0 rfl rfl rfl ?_)
  refine CodeF.join [1,2,9] (fun vs J S'=>J3=J∧vs=[.pointer (some ⟨b1,0,none⟩),.pointer (some ⟨b2,0,none⟩),.int .i64 n3] ∧
      S'=[[(b1,row (cV m3 (some ⟨bX,pre.length,none⟩) xs.length cap2 hand) 116)],B2,[(bX,row (pre++rcells (xs.map cleanRB)++post) TX)]]) ?_ ?_
  · refine CodeF.den ?_
    refine CodeF.loopD [1,2,9,11] (fun vs J S'=>∃ k:Nat,k≤xs.length∧J3=J∧vs=[.pointer (some ⟨b1,0,none⟩),.pointer (some ⟨b2,0,none⟩),.int .i64 n3,.int .i64 k] ∧
        S'=[[(b1,row (cV m3 (some ⟨bX,pre.length,none⟩) xs.length cap2 hand) 116)],B2,[(bX,row (pre++rcells (cl xs k)++post) TX)]])
      (fun vs _ _=>match vs with | [_,_,_,.int _ k]=>((xs.length:Int) - k).toNat | _=>0) ?_ ?_
    · exact ⟨_,Drop.pick [0,1,4] _ rfl,0,by omega,rfl,rfl,rfl⟩
    rintro vs gE J S' hJ4 ⟨k,hk,rfl,rfl,rfl⟩
    repeat (first | refine LoadD.own 0 rfl _ rfl rfl ?_)
    refine CmpD.split (fun (c2:(k:Int) < xs.length)=>?_) (fun (c2:¬ (k:Int) < xs.length)=>?_)
    · obtain ⟨hk1,hk2⟩:=cl_at (xs:=xs) (k:=k) (by omega)
      repeat (first | refine LoadD.own 0 rfl _ rfl rfl ?_)
      refine Chk.mk (by show 0≤(k:Int)∧(k:Int) < xs.length; omega) ?_
      refine StoreD.to 2 rfl _ (splice_rb hk1 3 [.bool false] (by simp) (clean_cells _)) (by simp only [List.length_append,rcells_length,cl_length]; show pre.length+k * 5+3+1≤_; omega) (.inr (.inr (Nat.le_refl _))) _ rfl ?_
      rw [hk2]
      refine ToD.to (((k+1:Nat)):Int) (by rw [wrap_i64 (by omega) (by omega)]; omega) ?_
      refine ⟨_,Drop.refl _,⟨k+1,by omega,rfl,rfl,rfl⟩,?_⟩
      show ((xs.length:Int) - ((k+1:Nat):Int)).toNat < ((xs.length:Int) - (k:Int)).toNat; omega
    · obtain rfl:k=xs.length:=by omega
      rw [cl_all]
      exact ⟨_,Drop.refl _,rfl,rfl,rfl⟩
  rintro vs gE J S' hJ4 ⟨rfl,rfl,rfl⟩
  refine CodeF.fixD 2 rfl fun J5 hJ5 hm5=>?_
  refine CodeF.den ?_
  rw [hB2]
  repeat (first | refine LoadD.own 0 rfl _ rfl rfl ?_ | refine LoadD.own 1 rfl _ rfl rfl ?_ | refine StoreD.st 1 rfl rfl rfl ?_)
  have hR5:=own_rds hm5
  rw [List.length_map] at hR5
  refine Done.mk ⟨_,m3,rfl,⟨some ⟨bX,pre.length,none⟩,cap2,xs.map cleanRB,by rw [List.length_map]; rfl,by rw [List.length_map]; exact hR5,?_,?_,by rw [List.length_map]; exact hh,by rw [List.length_map]; exact hl⟩,hRV.mono hJ5⟩
  · rw [clean_slots xs hand,ho]
  · intro y hy b hb
    obtain ⟨x,hx,rfl⟩:=List.mem_map.1 hy
    unfold cleanRB at hb ⊢
    cases hxo:x.o with
    | none=>rw [hxo] at hb; cases hb
    | some b0 =>
      rw [hxo] at hb
      cases hb
      obtain ⟨q1,q2,q3,q4,q5,q6,q7⟩:=hok x hx b0 hxo
      exact ⟨q1.mono (Imm.le_trans hle3 hJ5),q2,q3,q4,q5,fun h=>absurd h (by simp),q7⟩
end Go.Proofs.YtegdcjnjnoeinaaGreat
namespace Go.Proofs.YtegdcjnjnoeinaaGreat
open Go.RowKit Go.Sl
set_option maxRecDepth 20000
def mkB (k i:Nat):UInt8:=UInt8.ofNat ((1000003 * (k+7)+i) * 11400714819323198485 % 18446744073709551616 / 72057594037927936)
theorem mark_byte (k i:Nat) (hk:k≤1000000) (hi:i≤1000000) (I:Imm):Tri Tryz.prog 87 #[.int .i64 k,.int .i64 i] I [] fun v J _=>v=byte (mkB k i)∧I=J:=by
  refine Tri.of (args:=[.int .i64 k,.int .i64 i]) tabOk Tryz.func87 rfl (by kernel_rfl) (by kernel_rfl) ?_
  refine ToD.to ((k+7:Nat):Int) (by rw [wrap_i64 (by omega) (by omega)]; omega) ?_
  refine ToD.to ((1000003 * (k+7):Nat):Int) (by rw [wrap_i64 (by omega) (by omega)]; omega) ?_
  refine ToD.to ((1000003 * (k+7)+i:Nat):Int) (by rw [wrap_i64 (by omega) (by omega)]; omega) ?_
  refine ToD.to ((1000003 * (k+7)+i:Nat):Int) (wrap_u64 _ (by omega)) ?_
  refine ToD.to (((1000003 * (k+7)+i) * 11400714819323198485 % 18446744073709551616:Nat):Int) (by simp [IntKind.wrap,IntKind.signed,IntKind.bits]) ?_
  refine Chk.mk (by decide) ?_
  obtain ⟨m,hm⟩:∃ m,m=(1000003 * (k+7)+i) * 11400714819323198485 % 18446744073709551616:=⟨_,rfl⟩
  have hml:m < 18446744073709551616:=by rw [hm]; exact Nat.mod_lt _ (by decide)
  rw [← hm]
  refine ToD.to ((m / 72057594037927936:Nat):Int) (shr_nat m 56 _ rfl (by omega)) ?_
  refine ToD.to ((m / 72057594037927936:Nat):Int) (wrap_u rfl (by omega) (by show ((m / 72057594037927936:Nat):Int) < 2 ^ 8; omega)) ?_
  refine Done.mk ⟨?_,rfl⟩
  show Value.int .u8 _=byte _
  unfold byte mkB
  rw [← hm,UInt8.toNat_ofNat',Nat.mod_eq_of_lt (by omega)]
end Go.Proofs.YtegdcjnjnoeinaaGreat
namespace Go.Proofs.YtegdcjnjnoeinaaGreat
open Go.RowKit Go.Sl
set_option maxRecDepth 20000
theorem slC_first {I:Imm} {S:St} {a:Option Addr} {n:Nat} {vs:List Value} (h:SlC I S a n vs) {m:Nat} (hm:m≤n):SlC I S a m (vs.take m):=by
  refine ⟨by rw [List.length_take,h.len]; omega,?_⟩
  rcases h.mem with h0 | ⟨b,off,ha,hc⟩
  · left; omega
  · right
    have:=hc.part (i:=0) (m:=m) (by omega)
    exact ⟨b,off,ha,by simpa using this⟩
def tail3:Dat:=[77,78,79]
theorem slAddr_zero (a:Option Addr) (cap:Nat):slAddr a 0 cap Tryz.t5.size=a:=by
  unfold slAddr
  split
  · rfl
  · cases a with
    | none=>rfl
    | some x=>simp [Addr.add]
theorem lent {I:Imm} (a:Option Addr) (n cap:Nat) (l:Dat) (hR:Rds I a n (bts l)) (hn:n≤1000000) :
    Tri Tryz.prog 140 #[.slice a n cap] I [] fun r J S'=>I=J∧∃ a' cap' ch,r=.slice a' n cap'∧OwnB ch a' (n+3) cap' (l++tail3)∧S'=[ch]:=by
  refine Tri.drop ?_ (fun _ _ _ _ h=>h)
  refine Tri.of (args:=[.slice a n cap]) tabOk Tryz.func140 rfl (by kernel_rfl) (by kernel_rfl) ?_
  refine Tri.frameX (copy_own I a n cap l hR (by omega)) [] rfl rfl ?_
  rintro r J A' hJ ⟨aC,capC,chC,rfl,hC,rfl,rfl⟩
  conv=>whnf
  intro b6
  skip
  refine appendD tabOk rfl rfl rfl rfl rfl rfl rfl 0 rfl hC (SrcOk.slice (n:=3) (news:=bts tail3) tabOk rfl ((OwnC.whole (len:=3) (size:=1) rfl).slC 1 rfl) (bts_plain _)) rfl (by show (n+3) * 1≤_; omega) (by omega) ?_
  intro aM capM chM hM
  have hMle:=hM.le
  refine sliceD tabOk rfl rfl rfl rfl 0 n capM rfl ⟨_,rfl⟩ rfl (.inl rfl) (by omega) ?_
  rw [slAddr_zero]
  refine Done.mk ⟨[chM],Drop.pick [0] _ rfl,rfl,aM,capM,chM,?_,?_,rfl⟩
  · rfl
  · show OwnC chM 1 aM (n+3) capM (bts (l++tail3))
    rw [bts_append]; exact hM
theorem kept {I:Imm} {ch:List Blk} {a:Option Addr} {n cap:Nat} {l:Dat} (hO:OwnB ch a (n+3) cap (l++tail3)) (hll:l.length=n) (hn:n≤1000000) (a2:Option Addr) (cap2:Nat) (h2:Rds I a2 n (bts l)) :
    Tri Tryz.prog 142 #[.slice a n cap,.slice a2 n cap2] I [ch] fun r J S'=>I=J∧r=.bool true∧S'=[ch]:=by
  have hle:=hO.le
  have h1:∀ (S:St),SlC I ([ch]++S) a n (bts l):=by
    intro S
    have h3:=hO.slC1 (I:=I) (S:=[ch]++S) 0 rfl
    have h4:=slC_first h3 (m:=n) (by omega)
    have e:(bts (l++tail3)).take n=bts l:=by rw [bts_append,List.take_append_of_le_length (by rw [bts_length]; omega),List.take_of_length_le (by rw [bts_length]; omega)]
    rw [e] at h4
    exact h4
  have hcell:∀ (j:Nat) (v:UInt8),tail3[j]?=some v→(bts (l++tail3))[n+j]?=some (.int .u8 v.toNat):=by
    intro j v hj
    rw [bts,List.getElem?_map,List.getElem?_append_right (by omega),hll,show n+j - n=j by omega,hj]; rfl
  refine Tri.of (args:=[.slice a n cap,.slice a2 n cap2]) tabOk Tryz.func142 rfl (by kernel_rfl) (by kernel_rfl) ?_
  refine ToD.to ((n+3:Nat):Int) (by rw [wrap_i64 (by omega) (by omega)]; omega) ?_
  refine sliceD tabOk rfl rfl rfl rfl 0 (n+3) cap rfl ⟨_,rfl⟩ rfl (.inl rfl) (by omega) ?_
  rw [slAddr_zero]
  refine Tri.mono (same_bytes (h1 []) h2.slC) ?_
  rintro r _ _ hJ ⟨rfl,rfl,rfl⟩
  rw [decide_eq_true rfl]
  rcases hO.at' with q0 | ⟨bX,pre,post,TX,rfl,rfl,hpost⟩
  · omega
  have hat:∀ (j:Nat) (v:UInt8),tail3[j]?=some v→((pre++bts (l++tail3)++post).drop (pre.length+(n+j))).take 1=[.int .u8 v.toNat]:=fun j v hj=>own_at (hcell j v hj)
  skip
  refine Chk.mk (by show 0≤(n:Int)∧(n:Int) < ((n+3:Nat):Int); omega) ?_
  refine LoadD.own 0 rfl [.int .u8 77] (hat 0 77 rfl) rfl ?_
  repeat (first | refine CmpD.yes rfl ?_)
  refine ToD.to ((n+1:Nat):Int) (by rw [wrap_i64 (by omega) (by omega)]; omega) ?_
  refine Chk.mk (by show 0≤((n+1:Nat):Int)∧((n+1:Nat):Int) < ((n+3:Nat):Int); omega) ?_
  refine LoadD.own 0 rfl [.int .u8 78] (hat 1 78 rfl) rfl ?_
  repeat (first | refine CmpD.yes rfl ?_)
  refine ToD.to ((n+2:Nat):Int) (by rw [wrap_i64 (by omega) (by omega)]; omega) ?_
  refine Chk.mk (by show 0≤((n+2:Nat):Int)∧((n+2:Nat):Int) < ((n+3:Nat):Int); omega) ?_
  refine LoadD.own 0 rfl [.int .u8 79] (hat 2 79 rfl) rfl ?_
  repeat (first | refine CmpD.yes rfl ?_)
  exact Done.mk ⟨rfl,rfl,rfl⟩
theorem over {I:Imm} {ch:List Blk} {a:Option Addr} {n cap:Nat} {l:Dat} (hO:OwnB ch a (n+3) cap l) (hn:n≤900000) :
    Tri Tryz.prog 143 #[.slice a n cap] I [ch] fun _ J S'=>I=J∧S'=[]:=by
  have hle:=hO.le
  refine Tri.drop (Q:=fun _ J _=>I=J) ?_ (fun v J S' _ h=>⟨[],⟨S'.flatten,by simp⟩,h,rfl⟩)
  refine Tri.of (args:=[.slice a n cap]) tabOk Tryz.func143 rfl (by kernel_rfl) (by kernel_rfl) ?_
  refine ToD.to ((n+3:Nat):Int) (by rw [wrap_i64 (by omega) (by omega)]; omega) ?_
  refine sliceD tabOk rfl rfl rfl rfl 0 (n+3) cap rfl ⟨_,rfl⟩ rfl (.inl rfl) (by omega) ?_
  rw [slAddr_zero]
  rcases hO.at' with q0 | ⟨bX,pre,post,TX,rfl,rfl,hpost⟩
  · omega
  have hll:l.length=n+3:=by have:=hO.n; rw [bts_length] at this; omega
  refine CodeF.loopD [2,3] (fun vs J S'=>∃ (i:Nat) (l':Dat),i≤n+3∧l'.length=n+3∧I=J∧vs=[.slice (some ⟨bX,pre.length,none⟩) (n+3) cap,.int .i64 i]∧S'=[[(bX,row (pre++bts l'++post) TX)]])
    (fun vs _ _=>match vs with | [_,.int _ i]=>((n+3:Int) - i).toNat | _=>0) ?_ ?_
  · exact ⟨_,Drop.refl _,0,l,by omega,hll,rfl,rfl,rfl⟩
  rintro vs gE J S' hJ ⟨i,l',hi,hl',rfl,rfl,rfl⟩
  refine CmpD.split (fun (c1:(i:Int) < ((n+3:Nat):Int))=>?_) (fun (c1:¬ (i:Int) < ((n+3:Nat):Int))=>?_)
  · refine Tri.free (mark_byte 9 i (by omega) (by omega) I) ?_
    rintro r _ _ hJ2 ⟨rfl,rfl⟩
    refine Chk.mk (by omega) ?_
    have hset5:splice (pre++bts l'++post) (pre.length+i) [byte (mkB 9 i)]=pre++bts (l'.set i (mkB 9 i))++post:=by
      rw [splice_mid _ _ _ _ _ (by simp [bts]; omega)]
      simp only [bts,List.map_set]
      rw [List.set_eq_take_append_cons_drop,if_pos (by simp; omega)]
      simp [byte]
    refine StoreD.to 0 rfl _ hset5 (by simp only [List.length_append,bts_length,hl']; show pre.length+i+1≤_; omega) (.inr (.inr (Nat.le_refl _))) _ rfl ?_
    refine ToD.to (((i+1:Nat)):Int) (by rw [wrap_i64 (by omega) (by omega)]; omega) ?_
    refine ⟨_,Drop.refl _,⟨i+1,l'.set i (mkB 9 i),by omega,by rw [List.length_set]; exact hl',rfl,rfl,rfl⟩,?_⟩
    show ((n+3:Int) - ((i+1:Nat):Int)).toNat < ((n+3:Int) - (i:Int)).toNat; omega
  · exact Done.mk rfl
section
variable {I:Imm} {bC bV:Nat} {c:CSt} {ch:List Blk}
theorem ck_PutS (h:Ck I bC bV c ch) (n:Int) (aL:Option Addr) (lL capL:Nat) (l:Dat) {chL:List Blk} (hS:∀ (S:St) (k:Nat) (J:Imm),S[k]?=some chL→SlC J S aL lL (bts l)) (hll:l.length=lL):Tri Tryz.prog 63 #[.pointer (some ⟨bC,0,none⟩),.int .i64 n,.slice aL lL capL] I [ch,chL] fun r J S'=>r=.int .i64 (c.putD n l).2∧∃ ch',Ck J bC bV (c.putD n l).1 ch'∧S'=[ch',chL]:=by
  obtain ⟨slots,hand⟩:=c
  obtain ⟨bS,cs,rfl,rfl,hok,hl1,hl2,hh⟩:=h
  dsimp only at hh ⊢
  refine Tri.lay (ck_lay bC bV bS hand cs [chL]) ?_
  refine Tri.drop ?_ (fun _ _ _ _ h=>h)
  refine Tri.of (args:=[.pointer (some ⟨bC,0,none⟩),.int .i64 n,.slice aL lL capL]) tabOk Tryz.func63 rfl (by kernel_rfl) (by kernel_rfl) ?_
  refine Tri.mono (c_held I bC bV bS hand cs (by omega) [chL] n) ?_
  unfold CSt.putD
  rintro v J _ hJ ⟨hle,rfl,(⟨hg,rfl⟩ | ⟨i,m,h1,h2,hg,rfl⟩)⟩
  · rw [hg]
    repeat (first | refine CmpD.no (by decide) ?_)
    exact Done.mk ⟨_,ck_drop bC bV bS hand cs [chL] [],rfl,_,⟨bS,cs,rfl,rfl,hok.mono hle,hl1,hl2,hh⟩,rfl⟩
  rw [hg]
  have hbok:=(hok.mono hle) m (List.mem_of_getElem? h1)
  have hlt:=(List.getElem?_eq_some_iff.1 h1).1
  rw [hll]
  dsimp only
  repeat (first | refine CmpD.yes rfl ?_)
  refine CmpD.split (fun (c1:(lL:Int)=4096)=>?_) (fun (c1:¬ (lL:Int)=4096)=>?_)
  rotate_left
  · rw [if_pos (by omega)]
    skip
    exact Done.mk ⟨_,ck_drop bC bV bS hand cs [chL] [],rfl,_,⟨bS,cs,rfl,rfl,hok.mono hle,hl1,hl2,hh⟩,rfl⟩
  · rw [if_neg (by omega)]
    have h4:lL=4096:=by omega
    skip
    refine Tri.fixed (clone_bytes J _ aL lL capL (bts l) (by rw [Nat.mul_one]; exact hS _ 3 J rfl) (bts_plain l) (by omega)) ?_
    rintro r _ A' hJ2 ⟨a2,cap2,chB,rfl,hB,rfl,rfl⟩
    refine ⟨4,chB,rfl,fun J3 hJ3 hm=>?_⟩
    have hB3:=Rds.of_own hB hm
    obtain ⟨m',hm'⟩:∃ m':BufM,m'=⟨m.blk,a2,cap2,⟨m.b.n,l,m.b.pins,true,true⟩⟩:=⟨_,rfl⟩
    have hblk:m'.blk=m.blk:=by rw [hm']
    refine StoreD.buf 2 rfl h1 ⟨m.blk,a2,cap2,⟨m.b.n,l,m.b.pins,m.b.dirty,m.b.mark⟩⟩ rfl (by show _=[Value.int .i64 m.b.n,.slice a2 l.length cap2,.int .i64 m.b.pins,.bool m.b.dirty,.bool m.b.mark]; rw [hll]; rfl) rfl ?_
    skip
    refine StoreD.buf (m:=⟨m.blk,a2,cap2,⟨m.b.n,l,m.b.pins,m.b.dirty,m.b.mark⟩⟩) 2 rfl (i:=i) (List.getElem?_set_self hlt) ⟨m.blk,a2,cap2,⟨m.b.n,l,m.b.pins,true,m.b.mark⟩⟩ rfl rfl rfl ?_
    skip
    refine StoreD.buf (m:=⟨m.blk,a2,cap2,⟨m.b.n,l,m.b.pins,true,m.b.mark⟩⟩) 2 rfl (i:=i) (List.getElem?_set_self (by rw [List.length_set]; exact hlt)) ⟨m.blk,a2,cap2,⟨m.b.n,l,m.b.pins,true,true⟩⟩ rfl rfl rfl ?_
    skip
    rw [← hm']
    have hset:sChunk bS (cs.set i (some m'))=sChunk bS cs:=sChunk_same h1 hblk
    have hln:(cs.set i (some m')).length=cs.length:=List.length_set
    have hok3:=(hok.mono (Imm.le_trans hle hJ3)).set i (x:=some m') (fun x hx=>by cases hx; rw [hm']; exact ⟨by show Rds J3 a2 l.length (bts l); rw [hll]; exact hB3,by show l.length≤_; omega,hbok.n,hbok.pins⟩)
    refine Done.mk ⟨[cChunk bC bV bS (cs.set i (some m')).length hand++(sChunk bS (cs.set i (some m'))++bufs (cs.set i (some m'))),chL],⟨[],?_⟩,rfl,_,⟨bS,_,rfl,by rw [slotsOf_set,hm']; rfl,hok3,by rw [hln]; exact hl1,by rw [hln]; exact hl2,by rw [hln]; exact hh⟩,rfl⟩
    rw [hset,hln]
    show (cChunk bC bV bS cs.length hand++(sChunk bS cs++(bufs (((cs.set i _).set i _).set i (some m'))++(chL++([]++[]))))).Perm _
    rw [List.set_set,List.set_set]
    simp
end
end Go.Proofs.YtegdcjnjnoeinaaGreat
namespace Go.Proofs.YtegdcjnjnoeinaaGreat
open Go.RowKit Go.Sl
set_option maxRecDepth 20000
set_option maxHeartbeats 4000000 in
theorem r12_New {I:Imm} (m:VC) (n:Nat) (hn:1≤n∧n≤64) :
    Tri Tryz.prog 75 #[.agg m.l.toArray,.int .i64 n] I [] fun r J _=>∃ v',r=.tuple #[v',.int .i64 0]∧RCv J v' m (newC n):=by
  refine Tri.ofF (args:=[.agg m.l.toArray,.int .i64 n]) tabOk Tryz.func75 rfl (by kernel_rfl) (by kernel_rfl) ?_
  refine CodeF.stepD ?_
  conv=>whnf
  intro b2
  conv=>whnf
  intro b4
  refine CodeF.stepD ?_
  refine CmpD.no (by omega) ?_
  refine CmpD.no (by omega) ?_
  skip
  refine CodeF.stepD ?_
  repeat (first | refine LoadD.own 0 rfl _ rfl rfl ?_)
  conv=>whnf
  intro b6
  repeat (first | refine StoreD.st 2 rfl rfl rfl ?_)
  obtain ⟨B2,hB2⟩:∃ B2:List Blk,B2=[(b2,row m.l 87)]:=⟨_,rfl⟩
  obtain ⟨B4,hB4⟩:∃ B4:List Blk,B4=[(b4,row (cV ⟨⟨none,0,0⟩,⟨none,0,0⟩,⟨none,0,0⟩,⟨none,0,0⟩,0,false,0,0,⟨0,0,0,0,0,0,0⟩,0,0,0,0,0,0,0,false,⟨0,0,0,0,0,0,0⟩,0,false⟩ none 0 0 0) 116)]:=⟨_,rfl⟩
  obtain ⟨z,hz⟩:∃ z:RB,z=⟨none,0,none⟩:=⟨_,rfl⟩
  have hzc:z.cells=[.int .i64 (-1),.slice none 0 0,.int .i64 0,.bool false,.bool false]:=by rw [hz]; rfl
  refine CodeF.dropD (Drop.and (Drop.refl _)) ?_
  refine CodeF.join [4,6] (fun vs J S'=>∃ (aS:Option Addr) (capS:Nat) (chS:List Blk),OwnC chS 5 aS n capS (rcells (List.replicate n z))∧I=J∧vs=[.pointer (some ⟨b4,0,none⟩),.pointer (some ⟨b6,0,none⟩)] ∧
      S'=[B2,B4,[(b6,row (cV m aS n capS 0) 116)],chS]) ?_ ?_
  · refine CodeF.den ?_
    refine CodeF.loopD [1,4,6,7] (fun vs J S'=>∃ (k:Nat) (aS:Option Addr) (capS:Nat) (chS:List Blk),k≤n∧OwnC chS 5 aS k capS (rcells (List.replicate k z))∧I=J ∧
        vs=[.int .i64 n,.pointer (some ⟨b4,0,none⟩),.pointer (some ⟨b6,0,none⟩),.int .i64 k]∧S'=[B2,B4,[(b6,row (cV m aS k capS 0) 116)],chS])
      (fun vs _ _=>match vs with | [_,_,_,.int _ k]=>((n:Int) - k).toNat | _=>0) ?_ ?_
    · exact ⟨_,by rw [hB2,hB4]; exact Drop.refl _,0,none,0,[],by omega,OwnC.nil _ _,rfl,rfl,rfl⟩
    rintro vs gE J S' hJ ⟨k,aS,capS,chS,hk,hO,rfl,rfl,rfl⟩
    refine CmpD.split (fun (c1:(k:Int) < n)=>?_) (fun (c1:¬ (k:Int) < n)=>?_)
    · repeat (first | refine LoadD.own 2 rfl _ rfl rfl ?_)
      conv=>whnf
      intro b25
      skip
      refine appendD tabOk rfl rfl rfl rfl rfl rfl rfl 3 rfl hO (SrcOk.slice (n:=1) (news:=z.cells) tabOk rfl (by rw [hzc]; exact (OwnC.whole (len:=1) (size:=5) rfl).slC 4 rfl) (by have:=rcells_plain [z]; simpa [rcells] using this)) rfl (by show (k+1) * 48≤_; omega) (by omega) ?_
      intro aM capM chM hM
      repeat (first | refine StoreD.st 2 rfl rfl rfl ?_)
      refine ToD.to (((k+1:Nat)):Int) (by rw [wrap_i64 (by omega) (by omega)]; omega) ?_
      refine ⟨_,Drop.pick [0,1,2,3] _ rfl,⟨k+1,aM,capM,chM,by omega,?_,rfl,rfl,rfl⟩,?_⟩
      · rw [List.replicate_succ',rcells_append]
        show OwnC chM 5 aM (k+1) capM (rcells (List.replicate k z)++(z.cells++[]))
        rw [List.append_nil]; exact hM
      · show ((n:Int) - ((k+1:Nat):Int)).toNat < ((n:Int) - (k:Int)).toNat; omega
    · obtain rfl:k=n:=by omega
      exact ⟨_,Drop.refl _,aS,capS,chS,hO,rfl,rfl,rfl⟩
  rintro vs gE J S' hJ ⟨aS,capS,chS,hO,rfl,rfl,rfl⟩
  refine CodeF.fixD 3 rfl fun J2 hJ2 hm2=>?_
  refine CodeF.den ?_
  rw [hB4]
  repeat (first | refine LoadD.own 1 rfl _ rfl rfl ?_ | refine LoadD.own 2 rfl _ rfl rfl ?_ | refine StoreD.st 1 rfl rfl rfl ?_)
  have hR:=Rds.of_ownS hO hm2
  refine Done.mk ⟨_,rfl,⟨aS,capS,List.replicate n z,by rw [List.length_replicate]; rfl,by rw [List.length_replicate]; exact hR,by rw [hz,List.map_replicate]; rfl,?_,by rw [List.length_replicate]; show 0 < n; omega,by rw [List.length_replicate]; omega⟩⟩
  intro x hx b hb
  rw [List.eq_of_mem_replicate hx,hz] at hb
  cases hb
def CNd (c:CSt) (room:Nat):Prop:=(c.held.map Buf.n).Nodup∧c.hand < room∧c.slots.length=room
theorem CNd.upd {c:CSt} {room:Nat} (h:CNd c room) {i:Nat} {b b':Buf} (hi:c.slots[i]?=some (some b)) (hn:b'.n=b.n):CNd (c.put i b') room:=by
  obtain ⟨A,B,e1,e2⟩:=held_at hi
  refine ⟨?_,h.2.1,by show (c.slots.set i _).length=room; rw [List.length_set]; exact h.2.2⟩
  show ((⟨c.slots.set i (some b'),c.hand⟩:CSt).held.map Buf.n).Nodup
  have h1:=h.1
  rw [e2 (some b') c.hand]
  rw [e1] at h1
  simpa [hn] using h1
theorem CNd.empty {c:CSt} {room:Nat} (h:CNd c room) {i:Nat} {o:Option Buf} (hi:c.slots[i]?=some o) {hd:Nat} (hh:hd < room):CNd ⟨c.slots.set i none,hd⟩ room:=by
  obtain ⟨A,B,e1,e2⟩:=held_at hi
  refine ⟨?_,hh,by show (c.slots.set i _).length=room; rw [List.length_set]; exact h.2.2⟩
  have h1:=h.1
  rw [e2 none hd]
  rw [e1] at h1
  refine h1.sublist (List.Sublist.map _ ?_)
  exact List.Sublist.append (List.Sublist.append_left (List.nil_sublist _) _) (List.Sublist.refl _)
theorem CNd.set {c:CSt} {room:Nat} (h:CNd c room) {i:Nat} {b':Buf} (hi:c.slots[i]?=some none) (hn:b'.n ∉ c.held.map Buf.n):CNd ⟨c.slots.set i (some b'),c.hand⟩ room:=by
  obtain ⟨A,B,e1,e2⟩:=held_at hi
  refine ⟨?_,h.2.1,by show (c.slots.set i _).length=room; rw [List.length_set]; exact h.2.2⟩
  have h1:=h.1
  rw [e2 (some b') c.hand]
  rw [e1] at h1 hn
  have hp:(A++(some b').toList++B).Perm (b' :: (A++(none:Option Buf).toList++B)):=by
    simp only [Option.toList,List.append_nil]
    rw [List.append_assoc]
    exact List.perm_middle
  exact (hp.map Buf.n).nodup_iff.2 (by rw [List.map_cons,List.nodup_cons]; exact ⟨hn,h1⟩)
theorem roomK_keep {room:Nat} (hr:1≤room):∀ (f:Nat) (c:CSt),CNd c room→CNd (roomK f c).1 room∧∀ n,n ∈ (roomK f c).1.held.map Buf.n→n ∈ c.held.map Buf.n
  | 0,c,h=>⟨h,fun _ h=>h⟩
  | f+1,c,h=>by
    unfold roomK
    split
    · rename_i b hb
      have hm:(c.hand+1) % c.slots.length < room:=by rw [h.2.2]; exact Nat.mod_lt _ (by omega)
      split
      · exact roomK_keep hr f _ ⟨h.1,hm,h.2.2⟩
      split
      · have hu:CNd ⟨c.slots.set c.hand (some { b with mark:=false }),(c.hand+1) % c.slots.length⟩ room:=by
          have h2:=h.upd (b':={ b with mark:=false }) hb rfl
          exact ⟨h2.1,hm,h2.2.2⟩
        obtain ⟨k1,k2⟩:=roomK_keep hr f _ hu
        refine ⟨k1,fun n hn=>?_⟩
        have h3:=k2 n hn
        obtain ⟨A,B,e1,e2⟩:=held_at hb
        rw [e2] at h3
        rw [e1]
        simpa using h3
      · refine ⟨h.empty hb hm,fun n hn=>?_⟩
        obtain ⟨A,B,e1,e2⟩:=held_at hb
        rw [e2] at hn
        rw [e1]
        simp only [List.map_append,List.mem_append] at hn ⊢
        rcases hn with (hn | hn) | hn
        · exact .inl (.inl hn)
        · cases hn
        · exact .inr hn
    · exact ⟨h,fun _ h=>h⟩
theorem room_keep {c:CSt} {room:Nat} (h:CNd c room) (hr:1≤room):CNd c.room.1 room∧∀ n,n ∈ c.room.1.held.map Buf.n→n ∈ c.held.map Buf.n:=by
  unfold CSt.room
  split
  · exact ⟨h,fun _ h=>h⟩
  · exact roomK_keep hr _ c h
theorem CNd.pin {c:CSt} {room:Nat} (h:CNd c room) (n:Int):CNd (c.pin n).1 room:=by
  unfold CSt.pin
  cases hg:c.got n with
  | none=>exact h
  | some y =>
    obtain ⟨i,b⟩:=y
    obtain ⟨h1,_⟩:=cgot_some hg
    dsimp only
    split
    · exact h
    · exact h.upd h1 rfl
theorem CNd.unpin {c:CSt} {room:Nat} (h:CNd c room) (n:Int):CNd (c.unpin n).1 room:=by
  unfold CSt.unpin
  cases hg:c.got n with
  | none=>exact h
  | some y =>
    obtain ⟨i,b⟩:=y
    obtain ⟨h1,_⟩:=cgot_some hg
    dsimp only
    split
    · exact h
    · exact h.upd h1 rfl
theorem CNd.putD {c:CSt} {room:Nat} (h:CNd c room) (n:Int) (l:Dat):CNd (c.putD n l).1 room:=by
  unfold CSt.putD
  cases hg:c.got n with
  | none=>exact h
  | some y =>
    obtain ⟨i,b⟩:=y
    obtain ⟨h1,_⟩:=cgot_some hg
    dsimp only
    split
    · exact h
    · exact h.upd h1 rfl
theorem CNd.drop {c:CSt} {room:Nat} (h:CNd c room) (n:Int):CNd (c.drop n).1 room:=by
  unfold CSt.drop
  cases hg:c.got n with
  | none=>exact h
  | some y =>
    obtain ⟨i,b⟩:=y
    obtain ⟨h1,_⟩:=cgot_some hg
    dsimp only
    split
    · exact h
    · exact h.empty h1 h.2.1
theorem CNd.load {c:CSt} {room:Nat} (h:CNd c room) (hr:1≤room) (v:VSt) (d:DSt) (n:Int):CNd (c.load v d n).1 room:=by
  unfold CSt.load
  cases hg:c.got n with
  | some y =>
    obtain ⟨i,b⟩:=y
    obtain ⟨h1,_⟩:=cgot_some hg
    exact h.upd h1 rfl
  | none =>
    dsimp only
    split
    · exact h
    obtain ⟨k1,k2⟩:=room_keep h hr
    have hs:=fun i=>room_some c (by rw [h.2.2]; exact h.2.1) (i:=i)
    cases hri:c.room.2 with
    | none=>exact k1
    | some i =>
      obtain ⟨_,h2⟩:=hs i hri
      exact CNd.set k1 h2 (fun hm=>cgot_none.1 hg (k2 n hm))
theorem CNd.clean {c:CSt} {room:Nat} (h:CNd c room):CNd c.clean room:=by
  refine ⟨?_,h.2.1,by show (c.slots.map _).length=room; rw [List.length_map]; exact h.2.2⟩
  rw [clean_held,List.map_map]
  exact h.1
theorem CNd.commit {c:CSt} {room:Nat} (h:CNd c room) (v:VSt) (d:DSt):CNd (c.commit v d).1 room:=by
  unfold CSt.commit
  split
  · exact h
  split
  · exact h
  · exact h.clean
theorem newC_nd {n:Nat} (hn:1≤n):CNd (newC n) n:=by
  refine ⟨?_,hn,by show (List.replicate n none).length=n; rw [List.length_replicate]⟩
  have:(newC n).held=[]:=by
    unfold CSt.held newC
    rw [List.filterMap_eq_nil_iff]
    intro x hx
    rw [List.eq_of_mem_replicate hx]; rfl
  rw [this]
  exact List.Pairwise.nil
theorem read_ok {v:VSt} {k:Nat} (h:VOk v k) {d:DSt} (hw:d.Wf) (hl:d.now.length=64) (n:Int) (he:(v.read d n).2=0):0≤n∧n < 64∧(v.read d n).1.length=4096:=by
  unfold VSt.read at he ⊢
  split at he
  · cases he
  rename_i hb
  rw [if_neg hb]
  cases hx:v.fresh.lookup n with
  | some b =>
    have hm:=mem_of_lookup hx
    have h1:=h.ho _ hm
    have h2:=h.len _ hm
    dsimp only at h1 h2 ⊢
    exact ⟨by omega,h1.2,h2⟩
  | none =>
    rw [hx] at he
    dsimp only at he ⊢
    unfold DSt.read at he ⊢
    split at he
    · rename_i hne
      exact absurd he hne
    rename_i hz
    have hz:wrongE d.now.length n=0:=by simpa using hz
    have hr:0≤n∧n < 64:=by
      unfold wrongE at hz
      rw [if_neg (by omega)] at hz
      split at hz
      · cases hz
      · omega
    rw [if_neg (by rw [hz]; simp)]
    split at he
    · cases he
    rename_i hd
    rw [if_neg hd]
    exact ⟨hr.1,hr.2,get_data_len hw (by omega)⟩
end Go.Proofs.YtegdcjnjnoeinaaGreat
namespace Go.Proofs.YtegdcjnjnoeinaaGreat
open Go.RowKit Go.Sl
set_option maxRecDepth 20000
end Go.Proofs.YtegdcjnjnoeinaaGreat
namespace Go.Proofs.YtegdcjnjnoeinaaGreat
open Go.RowKit Go.Sl
set_option maxRecDepth 20000
end Go.Proofs.YtegdcjnjnoeinaaGreat
namespace Go.Proofs.YtegdcjnjnoeinaaGreat
open Go.RowKit Go.Sl
set_option maxRecDepth 20000
end Go.Proofs.YtegdcjnjnoeinaaGreat
namespace Go.Proofs.YtegdcjnjnoeinaaGreat
open Go.RowKit Go.Sl
set_option maxRecDepth 20000
section
variable {ep t0 sq:Nat} {ls:List (List PImg)} {vw:Int→Dat}
end
end Go.Proofs.YtegdcjnjnoeinaaGreat
namespace Go.Proofs.YtegdcjnjnoeinaaGreat
open Go.RowKit Go.Sl
set_option maxRecDepth 20000
section
variable {B C:List Dat} {ep t0 sq:Nat} {ls:List (List PImg)} {vw:Int→Dat}
end
end Go.Proofs.YtegdcjnjnoeinaaGreat
namespace Go.Proofs.YtegdcjnjnoeinaaGreat
open Go.RowKit Go.Sl
set_option maxRecDepth 20000
section
variable {ep t0 sq m:Nat} {safe:List Dat} {writes:List (Int × Dat)} {ls:List (List PImg)}
end
end Go.Proofs.YtegdcjnjnoeinaaGreat
namespace Go.Proofs.YtegdcjnjnoeinaaGreat
open Go.RowKit Go.Sl
set_option maxRecDepth 20000
section
variable {ep t0 sq m k:Nat} {v:VSt} {d:DSt} {ls:List (List PImg)}
end
end Go.Proofs.YtegdcjnjnoeinaaGreat
namespace Go.Proofs.YtegdcjnjnoeinaaGreat
open Go.RowKit Go.Sl
set_option maxRecDepth 20000
section
variable {ep t0 sq m k:Nat} {v:VSt} {d:DSt} {ls:List (List PImg)} {vw:Int→Dat}
end
end Go.Proofs.YtegdcjnjnoeinaaGreat
namespace Go.Proofs.YtegdcjnjnoeinaaGreat
open Go.RowKit Go.Sl
set_option maxRecDepth 20000
section
variable {ep t0 sq m k:Nat} {v:VSt} {d:DSt} {ls:List (List PImg)} {j:JSt}
end
end Go.Proofs.YtegdcjnjnoeinaaGreat
namespace Go.Proofs.YtegdcjnjnoeinaaGreat
open Go.RowKit Go.Sl
set_option maxRecDepth 20000
section
variable {ep t0 sq m k:Nat} {v:VSt} {d:DSt} {ls:List (List PImg)}
end
end Go.Proofs.YtegdcjnjnoeinaaGreat
namespace Go.Proofs.YtegdcjnjnoeinaaGreat
open Go.RowKit Go.Sl
set_option maxRecDepth 20000
section
variable {ep t0 sq m k:Nat} {v:VSt} {d:DSt} {ls:List (List PImg)} {states:List (List Dat)} {b sure:Nat}
end
end Go.Proofs.YtegdcjnjnoeinaaGreat
namespace Go.Proofs.YtegdcjnjnoeinaaGreat
open Go.RowKit Go.Sl
set_option maxRecDepth 20000
end Go.Proofs.YtegdcjnjnoeinaaGreat
namespace Go.Proofs.YtegdcjnjnoeinaaGreat
open Go.RowKit Go.Sl
set_option maxRecDepth 20000
end Go.Proofs.YtegdcjnjnoeinaaGreat
namespace Go.Proofs.YtegdcjnjnoeinaaGreat
open Go.RowKit Go.Sl
set_option maxRecDepth 20000
end Go.Proofs.YtegdcjnjnoeinaaGreat
namespace Go.Proofs.YtegdcjnjnoeinaaGreat
open Go.RowKit Go.Sl
set_option maxRecDepth 20000
end Go.Proofs.YtegdcjnjnoeinaaGreat
namespace Go.Proofs.YtegdcjnjnoeinaaGreat
open Go.RowKit Go.Sl
set_option maxRecDepth 20000
theorem wrAll_few (f:Nat→Int):∀ (bs:List Dat) (i:Nat) (d:DSt) (k:Nat),d.Few k→(wrAll f bs i d).1.Few (k+bs.length)
  | [],_,_,_,h=>h
  | b :: bs,i,d,k,h=>by
    rw [wrAll]
    split
    · exact (h.write _ _).mono (by simp)
    · exact (wrAll_few f bs (i+1) _ _ (h.write _ _)).mono (by simp; omega)
theorem append_few (j:JSt) {d:DSt} {k:Nat} (h:d.Few k) (l:List PImg) (hd:Bool):(j.appendB d l hd).2.1.Few (k+(l.length+1)):=by
  have h0:d.Few (k+(l.length+1)):=h.mono (by omega)
  unfold JSt.appendB
  split
  · exact h0
  unfold JSt.append
  split
  · exact h0
  split
  · exact h0
  have key:∀ p:(Int × Int × Int × Int × Int) × Int,(match p with
      | ((s,t,u,h,e),at_)=>if e≠0 then (j,d,0,e) else
        match wrAll (fun i=>j.lay.l+(at_+i) % s) (putP j.epoch.toNat j.next.toNat l) 0 d with
        | (d',e')=>if e'≠0 then ({ j with s:=s,t:=t,u:=u,h:=h,broken:=true },d',0,e') else
          ({ j with s:=s,t:=t,u:=u,h:=h,groups:=j.groups++[(j.next,(l.length+1:Int))],next:=j.next+1 },d',j.next,0):JSt × DSt × Int × Int).2.1.Few (k+(l.length+1)):=by
    rintro ⟨⟨s,t,u,h',e⟩,at_⟩
    dsimp only
    have:=wrAll_few (fun i=>j.lay.l+(at_+i) % s) (putP j.epoch.toNat j.next.toNat l) 0 d k h
    rw [putP_length] at this
    split
    · exact h0
    · split <;> exact this
  exact key _
theorem app_few (v:VSt) {d:DSt} {k:Nat} (h:d.Few k) (l:List PImg):(v.app d l).2.1.Few (k+(l.length+1)):=by
  unfold VSt.app
  split <;> exact append_few v.j h l false
section
variable {epm sqm K:Nat} {states:List (List Dat)} {sure:Nat} {v:VSt} {d:DSt}
structure Calls (v:VSt):Prop where
  wf:v.j.Wf
  ep:v.epoch=v.j.epoch
  slot:0≤v.slot∧v.slot≤1
  fresh:v.fresh.length≤16
  groups:v.j.groups.length≤800000
end
end Go.Proofs.YtegdcjnjnoeinaaGreat
namespace Go.Proofs.YtegdcjnjnoeinaaGreat
open Go.RowKit Go.Sl
set_option maxRecDepth 20000
theorem RVk.cells {I:Imm} {m:VC} {v:VSt} {d:DSt} {q:Nat} (h:RVk I (.agg m.l.toArray) v d q):∃ gs,RVp I m.s m.w m.sz m.fr m.first gs v d q ∧
    m=⟨m.s,m.w,m.sz,m.fr,d.count,d.down,gv d.arm,gv d.fault,v.j.lay,v.j.s,v.j.t,v.j.u,v.j.h,v.j.epoch,m.first,v.j.synced,v.j.broken,v.j.lay,v.slot,v.broken⟩:=by
  obtain ⟨s,w,sz,fr,first,gs,he,hP⟩:=h.parts
  refine ⟨gs,?_⟩
  have he:=congrArg Array.toList (Value.agg.inj he)
  dsimp only at he
  obtain ⟨⟨s1,s2,s3⟩,⟨w1,w2,w3⟩,⟨z1,z2,z3⟩,⟨f1,f2,f3⟩,mc,md,ma,mf,⟨x1,x2,x3,x4,x5,x6,x7⟩,js,jt,ju,jh,je,fi,jy,jb,⟨y1,y2,y3,y4,y5,y6,y7⟩,sl,br⟩:=m
  obtain ⟨s4,s5,s6⟩:=s
  obtain ⟨w4,w5,w6⟩:=w
  obtain ⟨z4,z5,z6⟩:=sz
  obtain ⟨f4,f5,f6⟩:=fr
  obtain ⟨⟨⟨p1,p2,p3,p4,p5,p6,p7⟩,q1,q2,q3,q4,q5,q6,q7,q8,q9⟩,r1,r2,r3,r4⟩:=v
  simp only [VC.l,vC,jC,rC,Hd.v,Lay.vals,List.cons_append,List.nil_append,List.cons.injEq,Value.int.injEq,Value.slice.injEq,Value.bool.injEq,true_and,and_true] at he
  obtain ⟨⟨rfl,rfl,rfl⟩,⟨rfl,rfl,rfl⟩,rfl,rfl,rfl,rfl,rfl,rfl,rfl,rfl,rfl,rfl,rfl,rfl,rfl,rfl,rfl,rfl,rfl,⟨rfl,rfl,rfl⟩,rfl,rfl,rfl,rfl,rfl,rfl,rfl,rfl,rfl,rfl,⟨rfl,rfl,rfl⟩,rfl⟩:=he
  exact ⟨hP,rfl⟩
theorem wrAll_len (f:Nat→Int):∀ (bs:List Dat) (i:Nat) (d:DSt),(wrAll f bs i d).1.now.length=d.now.length
  | [],_,_=>rfl
  | b :: bs,i,d=>by
    rw [wrAll]
    split
    · exact DSt.write_len ..
    · rw [wrAll_len f bs]; exact DSt.write_len ..
theorem append_len (j:JSt) (d:DSt) (l:List PImg) (hd:Bool):(j.appendB d l hd).2.1.now.length=d.now.length:=by
  unfold JSt.appendB
  split
  · rfl
  unfold JSt.append
  split
  · rfl
  split
  · rfl
  generalize putS j.s j.t j.u j.h (l.length+1) (if hd=true then l.length+1 else 0)=x
  obtain ⟨⟨s,t,u,h,e⟩,a⟩:=x
  dsimp only
  split
  · rfl
  have h1:=wrAll_len (fun i=>j.lay.l+(a+i) % s) (putP j.epoch.toNat j.next.toNat l) 0 d
  generalize wrAll (fun i=>j.lay.l+(a+i) % s) (putP j.epoch.toNat j.next.toNat l) 0 d=y at *
  obtain ⟨d',e'⟩:=y
  dsimp only at *
  split <;> exact h1
theorem jflush_len (j:JSt) (d:DSt):(j.flush d).2.1.now.length=d.now.length:=by
  unfold JSt.flush
  split
  · rfl
  split <;> exact DSt.flush_len d
theorem ckpt_len (v:VSt) (d:DSt):(v.ckpt d).2.1.now.length=d.now.length:=by
  have h:(v.ckS d).2.2.now.length=d.now.length:=by
    unfold VSt.ckS
    split
    · exact jflush_len ..
    split
    · rw [← jflush_len v.j d]; exact doP_len ..
    · rw [← jflush_len v.j d]; exact doP_len ..
  unfold VSt.ckpt
  split
  · rfl
  split <;> exact h
theorem app_len (v:VSt) (d:DSt) (l:List PImg):(v.app d l).2.1.now.length=d.now.length:=by
  unfold VSt.app
  split <;> exact append_len ..
theorem commit_len (v:VSt) (d:DSt) (l:List PImg):(v.commit d l).2.1.now.length=d.now.length:=by
  unfold VSt.commit
  split
  · rfl
  split
  · rfl
  split
  · rfl
  split
  · rfl
  split
  · split
    · exact ckpt_len ..
    · rw [app_len]; exact ckpt_len ..
  · exact app_len ..
theorem commit_few2 {v:VSt} {d:DSt} {k:Nat} (h:d.Few k) (l:List PImg):(v.commit d l).2.1.Few (k+v.fresh.length+l.length+2):=by
  have hc:(v.ckpt d).2.1.Few (k+v.fresh.length+1):=by
    have h1:=ckS_few (v:=v) h
    unfold VSt.ckpt
    split
    · exact h.mono (by omega)
    split <;> exact h1
  unfold VSt.commit
  split
  · exact h.mono (by omega)
  split
  · exact h.mono (by omega)
  split
  · exact h.mono (by omega)
  split
  · exact h.mono (by omega)
  split
  · split
    · exact hc.mono (by omega)
    · exact (app_few _ hc l).mono (by omega)
  · exact (app_few _ h l).mono (by omega)
structure PW (J:Imm) (bD bV bC room:Nat) (c:CSt) (v:VSt) (d:DSt) (val:Value) (m:VC) (k:Nat) (chC chV chD:List Blk):Prop where
  ck:Ck J bC bV c chC
  vk:Vk J bV bD v chV
  dk:Dk J bD d chD
  rc:RCv J val m c
  rv:RVk J (.agg m.l.toArray) v d (7 * k)
  vo:VOk v (7 * k)
  nd:CNd c room
  few:d.Few (24+500 * k)
  len:d.now.length=64
theorem PW.mono {I J:Imm} {bD bV bC room:Nat} {c:CSt} {v:VSt} {d:DSt} {val:Value} {m:VC} {k:Nat} {chC chV chD:List Blk} (h:PW I bD bV bC room c v d val m k chC chV chD) (hJ:I.le J):PW J bD bV bC room c v d val m k chC chV chD :=
  ⟨h.ck.mono hJ,h.vk.mono hJ,h.dk.mono hJ,h.rc.mono hJ,h.rv.mono hJ,h.vo,h.nd,h.few,h.len⟩
theorem RVk.grow {I:Imm} {val:Value} {v:VSt} {d:DSt} {k n:Nat} (h:RVk I val v d k) (hn:k≤n):RVk I val v d n:=by
  obtain ⟨s,w,sz,fr,first,gs,h1,h2,h3,h4,h5,h6,h7,h8,h9,h10⟩:=h.ex
  exact ⟨s,w,sz,fr,first,gs,h1,h2,h3,h4,h5,h6,h7,h8,h9,by omega⟩
theorem PW.step {I:Imm} {bD bV bC room:Nat} {c:CSt} {v:VSt} {d:DSt} {val:Value} {m:VC} {k:Nat} {chC chV chD:List Blk} (h:PW I bD bV bC room c v d val m k chC chV chD):PW I bD bV bC room c v d val m (k+1) chC chV chD :=
  ⟨h.ck,h.vk,h.dk,h.rc,h.rv.grow (by omega),h.vo.mono (by omega),h.nd,h.few.mono (by omega),h.len⟩
end Go.Proofs.YtegdcjnjnoeinaaGreat
namespace Go.Proofs.YtegdcjnjnoeinaaGreat
open Go.RowKit Go.Sl
set_option maxRecDepth 20000
set_option maxHeartbeats 16000000 in
theorem law12_does {I:Imm} {bD bV bC room:Nat} {c:CSt} {v:VSt} {d:DSt} {val:Value} {m:VC} {k:Nat} {chC chV chD:List Blk} (h:PW I bD bV bC room c v d val m k chC chV chD) (hroom:1≤room∧room≤6) (hk:k≤50) (kind n b size:Int) (hb:In64 b) :
    Tri Tryz.prog 76 #[.pointer (some ⟨bD,0,none⟩),.pointer (some ⟨bC,0,none⟩),val,.agg #[.int .i64 kind,.int .i64 n,.int .i64 b,.int .i64 size]] I [chC,chV,chD] fun r J S'=>∃ val' m' c' v' d' chC' chV' chD',r=.tuple #[val',.bool true]∧PW J bD bV bC room c' v' d' val' m' (k+1) chC' chV' chD'∧S'=[chC',chV',chD']:=by
  have hw:=h.rv
  have hs12:c.slots.length≤12:=by rw [h.nd.2.2]; omega
  have hfresh:∀ g ∈ v.fresh,g.2.length≤1000000:=fun g hg=>by have:=h.vo.len g hg; omega
  have hdwf:d.Wf:=h.dk.wf
  have hro:=fun n=>read_ok h.vo hdwf h.len n
  have hlay:v.j.lay.b=d.now.length:=by rw [h.vo.lay,h.len]; rfl
  have hho:∀ g ∈ v.fresh,0≤g.1∧g.1 < d.now.length:=fun g hg=>by have:=h.vo.ho g hg; have:=h.len; omega
  obtain ⟨aS,cap,xs,rfl,hq1,hq2,hq3,hq4,hq5⟩:=id h.rc
  refine Tri.drop ?_ (fun _ _ _ _ h=>h)
  refine Tri.of (args:=[.pointer (some ⟨bD,0,none⟩),.pointer (some ⟨bC,0,none⟩),.agg (cV m aS xs.length cap c.hand).toArray,.agg #[.int .i64 kind,.int .i64 n,.int .i64 b,.int .i64 size]]) tabOk Tryz.func76 rfl (by kernel_rfl) (by kernel_rfl) ?_
  conv=>whnf
  intro b6
  conv=>whnf
  intro b7
  conv=>whnf
  intro b8
  repeat (first | refine LoadD.own 3 rfl _ rfl rfl ?_)
  conv=>whnf
  intro b12
  repeat (first | refine LoadD.own 4 rfl _ rfl rfl ?_ | refine StoreD.st 6 rfl rfl rfl ?_)
  refine CmpD.split (fun (k1:kind=1)=>?_) (fun (k1:¬ kind=1)=>?_)
  · repeat (first | refine LoadD.own 4 rfl _ rfl rfl ?_)
    refine Tri.frame (ck_Load h.ck h.vk h.dk hfresh n (fun he=>by have:=hro n he; omega)) [0,1,2] rfl rfl ?_
    rintro r J1 A' hJ1 ⟨a1,cap1,chB,chC1,rfl,hB,_,hC1,rfl⟩
    refine ⟨by simp,?_⟩
    repeat (first | refine LoadD.own 3 rfl _ rfl rfl ?_ | refine LoadD.own 4 rfl _ rfl rfl ?_)
    have hL:=r12_Load (h.rc.mono hJ1) (h.rv.mono hJ1) (by omega) (h.few.mono (by omega)) hlay hho n (fun he=>by have:=hro n he; omega)
    refine Tri.free hL ?_
    have hnd:=h.nd.load hroom.1 v d n
    generalize c.load v d n=ld at *
    obtain ⟨c2,dat,e⟩:=ld
    dsimp only at hC1 hB hnd ⊢
    rintro r J2 _ hJ2 ⟨v',a2,cap2,rfl,hD2,hR2⟩
    obtain ⟨aS2,cap3,xs2,rfl,_,_,_,_,_⟩:=id hR2
    skip
    conv=>whnf
    intro b15
    repeat (first | refine StoreD.st 8 rfl rfl rfl ?_)
    refine CodeF.sched [[],[],[],[1,2],[1,2,3],[1,2,3,4],[1,2,3,4],[1,2,3,4,5,6],[1,2,3,4,5,6,7],[0,1,2,3,4,5,6,7],[0,1,2,3,4,5,6,7,8,9]] [0,1,2,3,4,5,6,7,8,9,10] (by kernel_rfl) ?_
    repeat (first | refine LoadP.at 8 rfl _ rfl rfl ?_ | refine CmpD.yes rfl ?_)
    refine Tri.mono (same_bytes (hB.slC1 7 rfl) hD2.slC) ?_
    rintro r _ _ hJ3 ⟨rfl,rfl,rfl⟩
    rw [decide_eq_true rfl]
    repeat (first | refine LoadD.own 5 rfl _ rfl rfl ?_ | refine StoreD.st 5 rfl rfl rfl ?_ | refine Chk.mk ⟨rfl,trivial⟩ ?_)
    have hle:=Imm.le_trans hJ1 hJ2
    exact Done.mk ⟨[chC1,chV,chD],Drop.pick [0,1,2] _ rfl,_,m,c2,v,d,chC1,chV,chD,rfl,⟨hC1.mono hJ2,h.vk.mono hle,h.dk.mono hle,hR2,(h.rv.mono hle).grow (by omega),h.vo.mono (by omega),hnd,h.few.mono (by omega),h.len⟩,rfl⟩
  refine CmpD.split (fun (k2:kind=2)=>?_) (fun (k2:¬ kind=2)=>?_)
  · repeat (first | refine LoadD.own 4 rfl _ rfl rfl ?_)
    refine Tri.frame1 0 rfl (ck_Pin h.ck n) ?_
    have hnd:=h.nd.pin n
    have hL:=fun (J:Imm) (hJ:I.le J)=>r12_Pin (h.rc.mono hJ) n
    generalize c.pin n=ld at *
    obtain ⟨c2,e⟩:=ld
    dsimp only at hL hnd ⊢
    rintro r J1 A' hJ1 ⟨rfl,chC1,hC1,rfl⟩
    refine ⟨_,rfl,?_⟩
    repeat (first | refine LoadD.own 3 rfl _ rfl rfl ?_ | refine LoadD.own 4 rfl _ rfl rfl ?_)
    refine Tri.free (hL J1 hJ1) ?_
    rintro r J2 _ hJ2 ⟨v',rfl,hR2⟩
    obtain ⟨aS2,cap3,xs2,rfl,_,_,_,_,_⟩:=id hR2
    repeat (first | refine LoadD.own 5 rfl _ rfl rfl ?_ | refine LoadD.own 6 rfl _ rfl rfl ?_ | refine StoreD.st 5 rfl rfl rfl ?_ | refine StoreD.st 6 rfl rfl rfl ?_ | refine CmpD.yes rfl ?_)
    have hle:=Imm.le_trans hJ1 hJ2
    exact Done.mk ⟨[chC1,chV,chD],Drop.pick [0,1,2] _ rfl,_,m,c2,v,d,chC1,chV,chD,rfl,⟨hC1.mono hJ2,h.vk.mono hle,h.dk.mono hle,hR2,(h.rv.mono hle).grow (by omega),h.vo.mono (by omega),hnd,h.few.mono (by omega),h.len⟩,rfl⟩
  refine CmpD.split (fun (k3:kind=3)=>?_) (fun (k3:¬ kind=3)=>?_)
  · repeat (first | refine LoadD.own 4 rfl _ rfl rfl ?_)
    refine Tri.frame1 0 rfl (ck_Unpin h.ck n) ?_
    have hnd:=h.nd.unpin n
    have hL:=fun (J:Imm) (hJ:I.le J)=>r12_Unpin (h.rc.mono hJ) n
    generalize c.unpin n=ld at *
    obtain ⟨c2,e⟩:=ld
    dsimp only at hL hnd ⊢
    rintro r J1 A' hJ1 ⟨rfl,chC1,hC1,rfl⟩
    refine ⟨_,rfl,?_⟩
    repeat (first | refine LoadD.own 3 rfl _ rfl rfl ?_ | refine LoadD.own 4 rfl _ rfl rfl ?_)
    refine Tri.free (hL J1 hJ1) ?_
    rintro r J2 _ hJ2 ⟨v',rfl,hR2⟩
    obtain ⟨aS2,cap3,xs2,rfl,_,_,_,_,_⟩:=id hR2
    repeat (first | refine LoadD.own 5 rfl _ rfl rfl ?_ | refine LoadD.own 6 rfl _ rfl rfl ?_ | refine StoreD.st 5 rfl rfl rfl ?_ | refine StoreD.st 6 rfl rfl rfl ?_ | refine CmpD.yes rfl ?_)
    have hle:=Imm.le_trans hJ1 hJ2
    exact Done.mk ⟨[chC1,chV,chD],Drop.pick [0,1,2] _ rfl,_,m,c2,v,d,chC1,chV,chD,rfl,⟨hC1.mono hJ2,h.vk.mono hle,h.dk.mono hle,hR2,(h.rv.mono hle).grow (by omega),h.vo.mono (by omega),hnd,h.few.mono (by omega),h.len⟩,rfl⟩
  refine CmpD.split (fun (k4:kind=4)=>?_) (fun (k4:¬ kind=4)=>?_)
  · repeat (first | refine LoadD.own 4 rfl _ rfl rfl ?_)
    obtain ⟨z,hz⟩:∃ z,IntKind.i64.wrap (4096+size)=z:=⟨_,rfl⟩
    refine ToD.to z hz ?_
    refine ToD.to (if 5000 < z then 5000 else z) rfl ?_
    obtain ⟨K,hK⟩:∃ K:Nat,(if (if 5000 < z then 5000 else z) < 0 then 0 else (if 5000 < z then 5000 else z))=(K:Int):=⟨(if (if 5000 < z then 5000 else z) < 0 then 0 else (if 5000 < z then 5000 else z)).toNat,by split <;> omega⟩
    have hK5:K≤5000:=by
      have:(if 5000 < z then 5000 else z)≤5000:=by split <;> omega
      split at hK <;> omega
    refine ToD.to (K:Int) hK ?_
    refine Tri.free (made b K (by omega) I) ?_
    rintro r J0 _ hJ0 ⟨aM,rfl,hM⟩
    skip
    have hml:(madeL b K).length=K:=madeL_length _ _
    generalize madeL b K=l at *
    refine Tri.frameX (lent aM K K l hM (by omega)) [] rfl rfl ?_
    rintro r _ A' hJ1 ⟨rfl,aL,capL,chL,rfl,hO,rfl⟩
    repeat (first | refine LoadD.own 4 rfl _ rfl rfl ?_)
    have hSl:∀ (S:St) (k:Nat) (J:Imm),S[k]?=some chL→SlC J S aL K (bts l):=by
      intro S k J hk
      have h4:=slC_first (hO.slC1 (I:=J) k hk) (m:=K) (by omega)
      have e:(bts (l++tail3)).take K=bts l:=by rw [bts_append,List.take_append_of_le_length (by rw [bts_length]; omega),List.take_of_length_le (by rw [bts_length]; omega)]
      rw [e] at h4
      exact h4
    refine Tri.frame (ck_PutS (h.ck.mono hJ0) n aL K capL l hSl hml) [0,7] rfl rfl ?_
    have hnd:=h.nd.putD n l
    have hL:=fun (J:Imm) (hJ:J0.le J)=>r12_Put ((h.rc.mono hJ0).mono hJ) n aM K K l (hM.mono hJ) (by omega)
    generalize c.putD n l=ld at *
    obtain ⟨c2,e⟩:=ld
    dsimp only at hL hnd ⊢
    rintro r J1 A' hJ1 ⟨rfl,chC1,hC1,rfl⟩
    refine ⟨Nat.le_refl _,?_⟩
    repeat (first | refine LoadD.own 3 rfl _ rfl rfl ?_ | refine LoadD.own 4 rfl _ rfl rfl ?_)
    refine Tri.free (hL J1 hJ1) ?_
    rintro r J2 _ hJ2 ⟨v',rfl,hR2⟩
    obtain ⟨aS2,cap3,xs2,rfl,_,_,_,_,_⟩:=id hR2
    repeat (first | refine StoreD.st 6 rfl rfl rfl ?_)
    refine Tri.frame1 7 rfl (kept (I:=J2) hO hml (by omega) aM K (hM.mono (Imm.le_trans hJ1 hJ2))) ?_
    rintro r _ A' hJ3 ⟨rfl,rfl,rfl⟩
    refine ⟨_,rfl,?_⟩
    skip
    refine Tri.frameX (over (I:=J2) hO (by omega)) [7] rfl rfl ?_
    rintro r _ A' hJ4 ⟨rfl,rfl⟩
    repeat (first | refine LoadD.own 5 rfl _ rfl rfl ?_ | refine LoadD.own 6 rfl _ rfl rfl ?_ | refine StoreD.st 5 rfl rfl rfl ?_ | refine CmpD.yes rfl ?_)
    have hle:=Imm.le_trans hJ0 (Imm.le_trans hJ1 hJ2)
    exact Done.mk ⟨[chC1,chV,chD],Drop.pick [0,1,2] _ rfl,_,m,c2,v,d,chC1,chV,chD,rfl,⟨hC1.mono hJ2,h.vk.mono hle,h.dk.mono hle,hR2,(h.rv.mono hle).grow (by omega),h.vo.mono (by omega),hnd,h.few.mono (by omega),h.len⟩,rfl⟩
  refine CmpD.split (fun (k5:kind=5)=>?_) (fun (k5:¬ kind=5)=>?_)
  · repeat (first | refine LoadD.own 4 rfl _ rfl rfl ?_)
    refine Tri.frame1 0 rfl (ck_Drop h.ck n) ?_
    have hnd:=h.nd.drop n
    have hL:=fun (J:Imm) (hJ:I.le J)=>r12_Drop (h.rc.mono hJ) n
    generalize c.drop n=ld at *
    obtain ⟨c2,e⟩:=ld
    dsimp only at hL hnd ⊢
    rintro r J1 A' hJ1 ⟨rfl,chC1,hC1,rfl⟩
    refine ⟨_,rfl,?_⟩
    repeat (first | refine LoadD.own 3 rfl _ rfl rfl ?_ | refine LoadD.own 4 rfl _ rfl rfl ?_)
    refine Tri.free (hL J1 hJ1) ?_
    rintro r J2 _ hJ2 ⟨v',rfl,hR2⟩
    obtain ⟨aS2,cap3,xs2,rfl,_,_,_,_,_⟩:=id hR2
    repeat (first | refine LoadD.own 5 rfl _ rfl rfl ?_ | refine LoadD.own 6 rfl _ rfl rfl ?_ | refine StoreD.st 5 rfl rfl rfl ?_ | refine StoreD.st 6 rfl rfl rfl ?_ | refine CmpD.yes rfl ?_)
    have hle:=Imm.le_trans hJ1 hJ2
    exact Done.mk ⟨[chC1,chV,chD],Drop.pick [0,1,2] _ rfl,_,m,c2,v,d,chC1,chV,chD,rfl,⟨hC1.mono hJ2,h.vk.mono hle,h.dk.mono hle,hR2,(h.rv.mono hle).grow (by omega),h.vo.mono (by omega),hnd,h.few.mono (by omega),h.len⟩,rfl⟩
  refine CmpD.split (fun (k6:kind=6)=>?_) (fun (k6:¬ kind=6)=>?_)
  · skip
    have hfr:=h.vo.fresh
    have hgr:=h.vo.groups
    refine Tri.frame (ck_Commit h.ck hs12 h.nd.1 h.vk h.vo.wf h.vo.ep h.vo.slot (by omega) (by omega) h.dk (h.few.mono (by omega))) [0,1,2] rfl rfl ?_
    have hnd:=h.nd.commit v d
    have hL:=fun (J:Imm) (hJ:I.le J)=>r12_Commit (h.rc.mono hJ) (h.rv.mono hJ) h.vo (by omega) (h.few.mono (by omega)) h.nd.1
    have hdl:=dirtyL_len c
    have hvo:=h.vo.commit (by omega) d (c.dirtyL.map fun b=>(b.n,b.data))
    have hfw:=commit_few2 (v:=v) h.few (c.dirtyL.map fun b=>(b.n,b.data))
    have hln:=commit_len v d (c.dirtyL.map fun b=>(b.n,b.data))
    rw [List.length_map] at hvo hfw
    have hcs:((c.commit v d).2.1=v∧(c.commit v d).2.2.1=d)∨((c.commit v d).2.1=(v.commit d (c.dirtyL.map fun b=>(b.n,b.data))).1∧(c.commit v d).2.2.1=(v.commit d (c.dirtyL.map fun b=>(b.n,b.data))).2.1):=by
      unfold CSt.commit
      split
      · exact .inl ⟨rfl,rfl⟩
      split <;> exact .inr ⟨rfl,rfl⟩
    have hrm:=h.nd.2.2
    have hall:VOk (c.commit v d).2.1 (7 * (k+1))∧(c.commit v d).2.2.1.Few (24+500 * (k+1))∧(c.commit v d).2.2.1.now.length=64:=by
      rcases hcs with ⟨e1,e2⟩ | ⟨e1,e2⟩
      · rw [e1,e2]; exact ⟨h.vo.mono (by omega),h.few.mono (by omega),h.len⟩
      · rw [e1,e2]; exact ⟨hvo.mono (by omega),hfw.mono (by omega),hln.trans h.len⟩
    clear hcs hvo hfw hln
    generalize c.commit v d=ld at *
    obtain ⟨c2,v2,d2,n2,e2⟩:=ld
    dsimp only at hL hnd hall ⊢
    rintro r J1 A' hJ1 ⟨rfl,_,chC1,chV1,chD1,hC1,hV1,hD1,rfl⟩
    refine ⟨Nat.le_refl _,?_⟩
    repeat (first | refine LoadD.own 3 rfl _ rfl rfl ?_)
    refine Tri.free (hL J1 hJ1) ?_
    rintro r J2 _ hJ2 ⟨v',m2,rfl,hR2,hRV2⟩
    obtain ⟨aS2,cap3,xs2,rfl,_,_,_,_,_⟩:=id hR2
    skip
    conv=>whnf
    intro b23
    repeat (first | refine LoadD.own 5 rfl _ rfl rfl ?_ | refine LoadD.own 7 rfl _ rfl rfl ?_ | refine StoreD.st 5 rfl rfl rfl ?_ | refine StoreD.st 7 rfl rfl rfl ?_ | refine CmpD.yes rfl ?_)
    exact Done.mk ⟨[chC1,chV1,chD1],Drop.pick [0,1,2] _ rfl,_,m2,c2,v2,d2,chC1,chV1,chD1,rfl,⟨hC1.mono hJ2,hV1.mono hJ2,hD1.mono hJ2,hR2,hRV2.grow (by omega),hall.1,hnd,hall.2.1,hall.2.2⟩,rfl⟩
  refine CmpD.split (fun (k7:kind=7)=>?_) (fun (k7:¬ kind=7)=>?_)
  · repeat (first | refine LoadD.own 4 rfl _ rfl rfl ?_)
    obtain ⟨gs,hP,hm⟩:=h.rv.cells
    have hdk:=hP.dk
    refine Tri.frame1 2 rfl (dk_Arm h.dk b hb) ?_
    have hL:=fun (J:Imm) (hJ:I.le J)=>r4_Armed (hdk.mono hJ) b hb
    have har:(d.armed b).1.Few (24+500 * (k+1))∧(d.armed b).1.now.length=64:=by
      unfold DSt.armed
      split
      · exact ⟨h.few.mono (by omega),h.len⟩
      · obtain ⟨q1,q2,q3⟩:=h.few
        exact ⟨⟨by show d.writes.length≤_; omega,q2,by show d.count≤_; omega⟩,h.len⟩
    generalize d.armed b=da at *
    obtain ⟨d2,e2⟩:=da
    dsimp only at hL har ⊢
    rintro r J1 A' hJ1 ⟨rfl,chD1,hD1,rfl⟩
    refine ⟨_,rfl,?_⟩
    repeat (first | refine LoadD.own 3 rfl _ rfl rfl ?_ | refine LoadD.own 4 rfl _ rfl rfl ?_)
    have hL1:=hL J1 hJ1
    rw [hm] at *
    dsimp only at hL1 hP
    refine Tri.free hL1 ?_
    rintro r J2 _ hJ2 ⟨v',rfl,hR2⟩
    obtain ⟨⟨sa2,sl2,sc2⟩,⟨wa2,wl2,wc2⟩,rfl,_⟩:=hR2.cells
    repeat (first | refine LoadD.own 5 rfl _ rfl rfl ?_ | refine LoadD.own 6 rfl _ rfl rfl ?_ | refine StoreD.st 5 rfl rfl rfl ?_ | refine StoreD.st 6 rfl rfl rfl ?_ | refine CmpD.yes rfl ?_)
    have hle:=Imm.le_trans hJ1 hJ2
    have hP2:RVp J2 ⟨sa2,sl2,sc2⟩ ⟨wa2,wl2,wc2⟩ m.sz m.fr m.first gs v d2 (7 * k):=⟨hR2,hP.z.mono hle,hP.zc,hP.num,hP.f1,hP.g.mono hle,hP.fl,hP.last,hP.gk⟩
    exact Done.mk ⟨[chC,chV,chD1],Drop.pick [0,1,2] _ rfl,_,⟨⟨sa2,sl2,sc2⟩,⟨wa2,wl2,wc2⟩,m.sz,m.fr,d2.count,d2.down,gv d2.arm,gv d2.fault,v.j.lay,v.j.s,v.j.t,v.j.u,v.j.h,v.j.epoch,m.first,v.j.synced,v.j.broken,v.j.lay,v.slot,v.broken⟩,c,v,d2,chC,chV,chD1,rfl,
      ⟨h.ck.mono hle,h.vk.mono hle,hD1.mono hJ2,⟨aS,cap,xs,rfl,hq1.mono hle,hq2,fun x hx=>(hq3 x hx).mono hle,hq4,hq5⟩,hP2.rvk.grow (by omega),h.vo.mono (by omega),h.nd,har.1,har.2⟩,rfl⟩
  repeat (first | refine LoadD.own 5 rfl _ rfl rfl ?_ | refine LoadD.own 6 rfl _ rfl rfl ?_ | refine StoreD.st 5 rfl rfl rfl ?_ | refine CmpD.yes rfl ?_)
  exact Done.mk ⟨[chC,chV,chD],Drop.pick [0,1,2] _ rfl,_,m,c,v,d,chC,chV,chD,rfl,h.step,rfl⟩
end Go.Proofs.YtegdcjnjnoeinaaGreat
namespace Go.Proofs.YtegdcjnjnoeinaaGreat
open Go.RowKit Go.Sl
set_option maxRecDepth 20000
set_option maxHeartbeats 4000000 in
theorem r11_Format {I:Imm} {v:Value} {d:DSt} (hR:RDk I v d) (hf:d.Few 500000):Tri Tryz.prog 56 #[v] I [] fun r J _=>∃ v',r=.tuple #[v',.int .i64 (formatP d).2]∧RDk J v' (formatP d).1:=by
  have hrg:=hR.wf.range
  obtain ⟨⟨sa,sl,sc⟩,⟨wa,wl,wc⟩,rfl,hsl⟩:=hR.cells
  dsimp only at hsl
  subst hsl
  refine Tri.of (args:=[rV ⟨sa,d.now.length,sc⟩ ⟨wa,wl,wc⟩ d.count d.down (gv d.arm) (gv d.fault)]) tabOk Tryz.func56 rfl (by kernel_rfl) (by kernel_rfl) ?_
  conv=>whnf
  intro b1
  conv=>whnf
  intro b2
  repeat (first | refine LoadD.own 0 rfl _ rfl rfl ?_)
  refine Tri.free (ref_Of d.now.length I) ?_
  rintro r _ _ hJ ⟨rfl,rfl⟩
  unfold formatP
  by_cases hsm:d.now.length < 64
  · rw [if_pos hsm,layA,if_pos (by omega)]
    conv=>whnf
    intro b4
    repeat (first | refine LoadD.own 0 rfl _ rfl rfl ?_ | refine LoadD.own 1 rfl _ rfl rfl ?_ | refine StoreD.st 1 rfl rfl rfl ?_ | refine StoreD.st 2 rfl rfl rfl ?_ | refine CmpD.no (by decide) ?_)
    exact Done.mk ⟨_,rfl,hR⟩
  rw [if_neg hsm,layA,if_neg (by omega)]
  conv=>whnf
  intro b4
  repeat (first | refine StoreD.st 2 rfl rfl rfl ?_ | refine CmpD.yes rfl ?_)
  have hlr:=layL_range (n:=(d.now.length:Int)) (by omega)
  have hd0:(0:Int)≤(layOf d.now.length).d:=by show (0:Int)≤3+layL d.now.length+(d.now.length:Int) / 16; omega
  obtain ⟨e,he⟩:∃ e:Nat,(layOf d.now.length).d=e:=⟨(layOf d.now.length).d.toNat,by omega⟩
  have he2:1≤e∧e≤1000:=by
    have:(layOf d.now.length).d=3+layL d.now.length+(d.now.length:Int) / 16:=rfl
    omega
  obtain ⟨B2,hB2⟩:∃ B2:List Blk,B2=[(b2,row (rC ⟨none,0,0⟩ ⟨none,0,0⟩ 0 false 0 0) 76)]:=⟨_,rfl⟩
  obtain ⟨B4,hB4⟩:∃ B4:List Blk,B4=[(b4,row (layOf d.now.length).vals 45)]:=⟨_,rfl⟩
  have hB4':B4=[(b4,row [.int .i64 (layOf d.now.length).b,.int .i64 (layOf d.now.length).l,.int .i64 (layOf d.now.length).lb,.int .i64 (layOf d.now.length).bi,.int .i64 (layOf d.now.length).i,.int .i64 (layOf d.now.length).ib,.int .i64 (e:Int)] 45)]:=by rw [hB4,← he]
  unfold fmtS
  rw [he,Int.toNat_natCast]
  refine CodeF.loopD [1,2,4,6] (fun vs J' S'=>∃ (k:Nat) (d2:DSt) (s w:Hd),1≤k∧k≤e∧blankP (e - 1) 1 d=blankP (e - k) k d2∧d2.Few (500000+k)∧RDk J' (rV s w d2.count d2.down (gv d2.arm) (gv d2.fault)) d2∧I.le J' ∧
      vs=[.pointer (some ⟨b1,0,none⟩),.pointer (some ⟨b2,0,none⟩),.pointer (some ⟨b4,0,none⟩),.int .i64 k]∧S'=[[(b1,row (rC s w d2.count d2.down (gv d2.arm) (gv d2.fault)) 76)],B2,B4])
    (fun vs _ _=>match vs with | [_,_,_,.int _ k]=>((e:Int) - k).toNat | _=>0) ?_ ?_
  · exact ⟨_,by subst hB2 hB4; exact Drop.refl _,1,d,⟨sa,d.now.length,sc⟩,⟨wa,wl,wc⟩,by omega,by omega,rfl,hf.mono (by omega),hR,Imm.le_refl _,rfl,rfl⟩
  clear hR
  rintro vs gE J S' hJ ⟨k,d2,⟨sa2,sl2,sc2⟩,⟨wa2,wl2,wc2⟩,hk1,hk,hbl,hf2,hR,hle,rfl,rfl⟩
  rw [hB4']
  repeat (first | refine LoadD.own 2 rfl _ rfl rfl ?_)
  refine CmpD.split (fun (c1:(k:Int) < e)=>?_) (fun (c1:¬ (k:Int) < e)=>?_)
  · rw [show e - k=(e - (k+1))+1 by omega,blankP] at hbl
    refine CodeF.sched [[],[],[],[0,1,2],[0,1,2,3],[0,1,2,3,4],[0,1,2,3,4],[0,1,2,3,4,5],[0,1,2,3,4,5,6,7]] [0,1,2,3,4,5,6,7,8] (by kernel_rfl) ?_
    repeat (first | refine LoadP.at 0 rfl _ rfl rfl ?_)
    refine makeH tabOk rfl rfl rfl 4096 4096 rfl rfl (Nat.le_refl _) (by show 1 * 4096≤_; decide) (by decide) (by show 4096 * 1≤_; decide) rfl (by decide) ?_
    intro bN NB hNB
    repeat (first | refine Chk.mk ⟨rfl,trivial⟩ ?_)
    refine Tri.fix 3 (ch:=NB) rfl fun I3 hI3 hm=>?_
    have hN:Rds I3 (some ⟨bN,0,none⟩) 4096 (bts noughts):=by
      rw [noughts_bts]
      exact Rds.of_own (cap:=4096) (by rw [hNB]; show OwnC [(bN,row (rows 4096 [Value.int .u8 0]) _)] 1 _ _ _ _; exact OwnC.whole (by rw [rows_length]; rfl)) hm
    refine Tri.free (r4_Write (hR.mono hI3) (hf2.mono (by omega)) k (some ⟨bN,0,none⟩) 4096 4096 noughts hN (by omega) (by unfold In64; omega)) ?_
    have hf3:=hf2.write (k:Int) noughts
    generalize d2.write (k:Int) noughts=dw at *
    obtain ⟨d3,e3⟩:=dw
    dsimp only at hbl hf3 ⊢
    rintro r J3 _ hJ3 ⟨v',rfl,hR3⟩
    obtain ⟨⟨sa3,sl3,sc3⟩,⟨wa3,wl3,wc3⟩,rfl,_⟩:=hR3.cells
    rw [hB2]
    repeat (first | refine StoreD.st 0 rfl rfl rfl ?_)
    by_cases hz:e3≠0
    · rw [if_pos hz] at hbl
      refine CmpD.no hz ?_
      repeat (first | refine LoadD.own 0 rfl _ rfl rfl ?_ | refine LoadD.own 1 rfl _ rfl rfl ?_ | refine StoreD.st 1 rfl rfl rfl ?_)
      rw [hbl,if_pos hz]
      exact Done.mk ⟨_,rfl,hR3⟩
    · rw [if_neg hz] at hbl
      obtain rfl:e3=0:=by omega
      repeat (first | refine CmpD.yes rfl ?_)
      refine ToD.to (((k+1:Nat)):Int) (by rw [wrap_i64 (by omega) (by omega)]; omega) ?_
      rw [← hB2,← hB4']
      refine ⟨_,Drop.pick [0,1,2] _ rfl,⟨k+1,d3,⟨sa3,sl3,sc3⟩,⟨wa3,wl3,wc3⟩,by omega,by omega,hbl,hf3.mono (by omega),hR3,Imm.le_trans hle (Imm.le_trans hI3 hJ3),rfl,rfl⟩,?_⟩
      show ((e:Int) - ((k+1:Nat):Int)).toNat < ((e:Int) - (k:Int)).toNat; omega
  obtain rfl:k=e:=by omega
  rw [Nat.sub_self] at hbl
  rw [hbl,show blankP 0 k d2=(d2,0) from rfl]
  dsimp only
  rw [if_neg (by simp)]
  rw [hB2]
  repeat (first | refine LoadD.own 0 rfl _ rfl rfl ?_)
  refine Tri.free (r4_Flush hR (hf2.mono (by omega))) ?_
  have hf3:=hf2.flush
  generalize d2.flush=fl at hf3 ⊢
  obtain ⟨d3,e3⟩:=fl
  dsimp only at hf3 ⊢
  rintro r J3 _ hJ3 ⟨v',rfl,hR3⟩
  obtain ⟨⟨sa3,sl3,sc3⟩,⟨wa3,wl3,wc3⟩,rfl,_⟩:=hR3.cells
  repeat (first | refine StoreD.st 0 rfl rfl rfl ?_)
  by_cases hz:e3≠0
  · refine CmpD.no hz ?_
    repeat (first | refine LoadD.own 0 rfl _ rfl rfl ?_ | refine LoadD.own 1 rfl _ rfl rfl ?_ | refine StoreD.st 1 rfl rfl rfl ?_)
    rw [if_pos hz]
    exact Done.mk ⟨_,rfl,hR3⟩
  obtain rfl:e3=0:=by omega
  rw [if_neg hz]
  repeat (first | refine LoadD.own 2 rfl _ rfl rfl ?_ | refine CmpD.yes rfl ?_)
  have hRs:RightS ⟨d.now.length,1,1,0⟩:=⟨by show (64:Int)≤d.now.length; omega,by show (d.now.length:Int)≤512; omega,by show (1:Int)≤1; decide,by show (1:Int)≤8388608; decide,by show (1:Int)≤1; decide,by show (1:Int)≤549755813888; decide,by show (0:Int)≤0; decide,by show (0:Int)≤511; decide⟩
  obtain ⟨sp,hsp⟩:∃ sp:Sup,sp=⟨d.now.length,1,1,0⟩:=⟨_,rfl⟩
  have hPut:=ref_PutF sp J3
  rw [← hsp] at hRs
  have hspv:sp.v=(⟨d.now.length,1,1,0⟩:Sup).v:=by rw [hsp]
  rw [hspv] at hPut
  rw [← hsp]
  refine Tri.free hPut ?_
  rintro r J4 _ hJ4 (⟨h,_⟩ | ⟨_,aS,capS,rfl,hSup⟩)
  · exact absurd hRs h
  repeat (first | refine LoadD.own 0 rfl _ rfl rfl ?_)
  refine Tri.free (r4_Write (hR3.mono hJ4) (hf3.mono (by omega)) 0 aS 4096 capS (supL sp) hSup (by omega) (by unfold In64; omega)) ?_
  have hf4:=hf3.write (0:Int) (supL sp)
  generalize d3.write (0:Int) (supL sp)=wr at hf4 ⊢
  obtain ⟨d4,e4⟩:=wr
  dsimp only at hf4 ⊢
  rintro r J5 _ hJ5 ⟨v',rfl,hR4⟩
  obtain ⟨⟨sa4,sl4,sc4⟩,⟨wa4,wl4,wc4⟩,rfl,_⟩:=hR4.cells
  repeat (first | refine StoreD.st 0 rfl rfl rfl ?_)
  by_cases hz:e4≠0
  · refine CmpD.no hz ?_
    repeat (first | refine LoadD.own 0 rfl _ rfl rfl ?_ | refine LoadD.own 1 rfl _ rfl rfl ?_ | refine StoreD.st 1 rfl rfl rfl ?_)
    rw [if_pos hz]
    exact Done.mk ⟨_,rfl,hR4⟩
  obtain rfl:e4=0:=by omega
  rw [if_neg hz]
  repeat (first | refine LoadD.own 0 rfl _ rfl rfl ?_ | refine CmpD.yes rfl ?_)
  refine Tri.free (r4_Flush hR4 (hf4.mono (by omega))) ?_
  generalize d4.flush=fl
  obtain ⟨d5,e5⟩:=fl
  dsimp only
  rintro r J6 _ hJ6 ⟨v',rfl,hR5⟩
  obtain ⟨⟨sa5,sl5,sc5⟩,⟨wa5,wl5,wc5⟩,rfl,_⟩:=hR5.cells
  repeat (first | refine LoadD.own 1 rfl _ rfl rfl ?_ | refine StoreD.st 1 rfl rfl rfl ?_)
  exact Done.mk ⟨_,rfl,hR5⟩
end Go.Proofs.YtegdcjnjnoeinaaGreat
namespace Go.Proofs.YtegdcjnjnoeinaaGreat
open Go.RowKit Go.Sl
set_option maxRecDepth 20000
end Go.Proofs.YtegdcjnjnoeinaaGreat
namespace Go.Proofs.YtegdcjnjnoeinaaGreat
open Go.RowKit Go.Sl
set_option maxRecDepth 20000
structure OpV where
  k:Int
  n:Int
  b:Int
  s:Int
def OpV.cells (c:OpV):List Value:=[.int .i64 c.k,.int .i64 c.n,.int .i64 c.b,.int .i64 c.s]
def opCells (l:List OpV):List Value:=l.flatMap OpV.cells
def OpOk (c:OpV):Prop:=In64 c.k∧In64 c.n∧In64 c.b∧In64 c.s
theorem opCells_at {l:List OpV} {i:Nat} (h:i < l.length):((opCells l).drop (i * 4)).take 4=l[i].cells:=by
  induction l generalizing i with
  | nil=>simp at h
  | cons g l ih =>
    have e:opCells (g :: l)=g.cells++opCells l:=by simp [opCells]
    cases i with
    | zero=>rw [e]; rfl
    | succ i =>
      have:=ih (i:=i) (by simpa using h)
      rw [e,show (i+1) * 4=g.cells.length+i * 4 by simp [OpV.cells]; omega,← List.drop_drop,List.drop_left]
      simpa using this
theorem open_ops {H:Type} {enc:TypeId × Value→H} {W:World} {held:Bool} {fuel:Nat} {c0:Value} {x:DataW H × List MemPlace} (h:DataW.trod enc Tryz.prog W 0 (fun _=>true) held fuel 113 [c0]=some x) :
    ∃ (a:Option Addr) (len cap:Nat) (l:List OpV),c0=.slice a len cap∧l.length=len∧Rds (base W) a (len * 4) (opCells l)∧∀ c ∈ l,OpOk c:=by
  obtain ⟨a,len,cap,vs,D,rfl,_,_,hel,hR,_⟩:=open_elems Tryz.underlying113 (k:=4) (by kernel_rfl) (by omega) h
  have:Inhabited OpV:=⟨⟨0,0,0,0⟩⟩
  obtain ⟨z,hz⟩:=Go.Deep.choose_lt (α:=OpV) (n:=len) (p:=fun i c=>vs i=c.cells∧OpOk c) (fun i hi=>by
    obtain ⟨hl,n,Pl,ht⟩:=hel i hi
    match hv:vs i,hl with
    | [v0,v1,v2,v3],_ =>
    rw [hv] at ht
    obtain ⟨y0,y1,y2,y3,n2,_,_,t0,t1,t2,t3⟩:=Go.Joins.trod_struct4 Tryz.underlying122 ht
    have t0:DataW.trod enc Tryz.prog W 0 (fun _=>true) held n2 3 (([v0,v1,v2,v3].drop 0).take (Tryz.prog.cellsOf 3))=some y0:=t0
    have t1:DataW.trod enc Tryz.prog W 0 (fun _=>true) held n2 3 (([v0,v1,v2,v3].drop 1).take (Tryz.prog.cellsOf 3))=some y1:=t1
    have t2:DataW.trod enc Tryz.prog W 0 (fun _=>true) held n2 3 (([v0,v1,v2,v3].drop 2).take (Tryz.prog.cellsOf 3))=some y2:=t2
    have t3:DataW.trod enc Tryz.prog W 0 (fun _=>true) held n2 3 (([v0,v1,v2,v3].drop 3).take (Tryz.prog.cellsOf 3))=some y3:=t3
    rw [show Tryz.prog.cellsOf 3=1 from by kernel_rfl] at t0 t1 t2 t3
    obtain ⟨m0,h0,_,hw0⟩:=DataW.trod_int Tryz.underlying3 t0
    obtain ⟨m1,h1,_,hw1⟩:=DataW.trod_int Tryz.underlying3 t1
    obtain ⟨m2,h2,_,hw2⟩:=DataW.trod_int Tryz.underlying3 t2
    obtain ⟨m3,h3,_,hw3⟩:=DataW.trod_int Tryz.underlying3 t3
    simp only [List.drop_zero,List.drop_succ_cons,List.take_succ_cons,List.take_zero,List.cons.injEq,and_true] at h0 h1 h2 h3
    subst h0 h1 h2 h3
    exact ⟨⟨m0,m1,m2,m3⟩,rfl,int_of_wf hw0,int_of_wf hw1,int_of_wf hw2,int_of_wf hw3⟩)
  refine ⟨a,len,cap,(List.range len).map z,rfl,by simp,?_,?_⟩
  · have e:(List.range len).flatMap vs=opCells ((List.range len).map z):=by
      rw [Go.Deep.flatMap_congr_range (fun i hi=>(hz i hi).1)]
      unfold opCells
      rw [List.flatMap_map]
    rw [← e]; exact hR
  · intro y hy
    obtain ⟨i,hi,rfl⟩:=List.mem_map.1 hy
    exact (hz i (List.mem_range.1 hi)).2
end Go.Proofs.YtegdcjnjnoeinaaGreat
namespace Go.Proofs.YtegdcjnjnoeinaaGreat
open Go.RowKit Go.Sl
set_option maxRecDepth 20000
end Go.Proofs.YtegdcjnjnoeinaaGreat
namespace Go.Proofs.YtegdcjnjnoeinaaGreat
open Go.RowKit Go.Sl
set_option maxRecDepth 20000
end Go.Proofs.YtegdcjnjnoeinaaGreat
namespace Go.Proofs.YtegdcjnjnoeinaaGreat
open Go.RowKit Go.Sl
set_option maxRecDepth 20000
end Go.Proofs.YtegdcjnjnoeinaaGreat
namespace Go.Proofs.YtegdcjnjnoeinaaGreat
open Go.RowKit Go.Sl
set_option maxRecDepth 20000
theorem same_own {I:Imm} {ch:List Blk} {a a2:Option Addr} {n n2 cap cap2:Nat} {z z2:List Int} (hO:OwnC ch 1 a n cap (ints z)) (h2:Rds I a2 n2 (ints z2)) (hn:n≤1000000) :
    Tri Tryz.prog 67 #[.slice a n cap,.slice a2 n2 cap2] I [ch] fun r J S'=>r=.bool (decide (z=z2))∧I=J∧S'=[ch]:=by
  refine Tri.mono (same_ints ch I a a2 n n2 cap cap2 z z2 (hO.slC1 0 rfl) h2.slC (by omega)) ?_
  rintro r J S' hJ ⟨b,rfl,hb,rfl,rfl⟩
  refine ⟨?_,rfl,rfl⟩
  cases b with
  | true=>rw [decide_eq_true (hb.1 rfl)]
  | false=>rw [decide_eq_false (fun h=>by have:=hb.2 h; cases this)]
end Go.Proofs.YtegdcjnjnoeinaaGreat
namespace Go.Proofs.YtegdcjnjnoeinaaGreat
open Go.RowKit Go.Sl
set_option maxRecDepth 20000
theorem upW_nd {c:CSt} {room:Nat} (h:CNd c room) {J:Imm} {val:Value} {m:VC} (hr:RCv J val m c) (p:Buf→Bool):upW c p 512=c.which p:=by
  refine upW_which h.1 ?_
  obtain ⟨aS,cap,xs,_,_,ho,hok,_,_⟩:=hr
  intro b hb
  have hb2:=held_mem.1 hb
  rw [← ho] at hb2
  obtain ⟨x,hx,hxo⟩:=List.mem_map.1 hb2
  have:=hok x hx b hxo
  omega
set_option maxHeartbeats 16000000 in
theorem cachePlays_walk {I:Imm} (room0:Int) (hroom:In64 room0) (aZ:Option Addr) (nZ capZ:Nat) (ops:List OpV) (hlen:ops.length=nZ) (hZ:Rds I aZ (nZ * 4) (opCells ops)) (hops:∀ o ∈ ops,OpOk o) :
    Tri Tryz.prog 13 #[.int .i64 room0,.slice aZ nZ capZ] I [] fun v _ _=>v=.bool true:=by
  have hp1:=pickS_range (n:=room0) (m:=6) (by decide)
  refine Tri.of (args:=[.int .i64 room0,.slice aZ nZ capZ]) tabOk Tryz.func13 rfl (by kernel_rfl) (by kernel_rfl) ?_
  refine Tri.free (low_Pick room0 6 I hroom (by unfold In64; omega)) ?_
  rintro v _ _ hJ ⟨rfl,rfl⟩
  obtain ⟨room,hrm⟩:∃ room:Nat,1+pickS room0 6=room:=⟨(1+pickS room0 6).toNat,by omega⟩
  refine ToD.to (room:Int) (by show IntKind.i64.wrap (1+pickS room0 6)=_; rw [wrap_i64 (by omega) (by omega)]; exact hrm) ?_
  refine Tri.frameX (law12_fresh I room (by omega)) [] rfl rfl ?_
  rintro r J1 A' hJ1 ⟨bD,bV,bC,rfl,chC,chV,chD,rfl,hC,hV,hD⟩
  rw [Int.toNat_natCast] at hC
  skip
  refine Tri.free (r4_New J1 64 (by omega)) ?_
  rintro r J2 _ hJ2 ⟨v',rfl,hR⟩
  have hFm:=fun (J:Imm) (hJ:J2.le J)=>r11_Format (hR.mono hJ) ((DSt.of_few _).mono (by omega))
  obtain ⟨⟨sa,sl,sc⟩,⟨wa,wl,wc⟩,rfl,_⟩:=hR.cells
  rw [format_new] at hFm
  generalize DSt.of (List.replicate 64 noughts)=dn at *
  conv=>whnf
  intro b9
  repeat (first | refine LoadD.own 3 rfl _ rfl rfl ?_ | refine StoreD.st 3 rfl rfl rfl ?_ | refine CmpD.yes rfl ?_)
  refine Tri.free (hFm J2 (Imm.le_refl _)) ?_
  dsimp only
  rintro r J3 _ hJ3 ⟨v',rfl,hR3⟩
  have hMo:=r11_Mount hR3 ((dz_few _ _ 23).mono (by omega))
  obtain ⟨⟨sa3,sl3,sc3⟩,⟨wa3,wl3,wc3⟩,rfl,_⟩:=hR3.cells
  rw [show mountP (dz (supL ⟨64,1,1,0⟩) noughts 23)=(dV,0,some v0) from mount_first] at hMo
  repeat (first | refine LoadD.own 3 rfl _ rfl rfl ?_ | refine StoreD.st 3 rfl rfl rfl ?_)
  refine Tri.free hMo ?_
  rintro r J4 _ hJ4 ⟨⟨sa4,sl4,sc4⟩,⟨wa4,wl4,wc4⟩,hR4,(⟨h0,_⟩ | ⟨_,vm,hvm,rfl⟩)⟩
  · exact absurd rfl h0
  cases hvm
  dsimp only at hR4
  clear hFm hMo hR hR3
  conv=>whnf
  intro b11
  repeat (first | refine LoadD.own 4 rfl _ rfl rfl ?_ | refine StoreD.st 4 rfl rfl rfl ?_ | refine CmpD.yes rfl ?_)
  obtain ⟨m0,hm0⟩:∃ m0:VC,m0=⟨⟨sa4,sl4,sc4⟩,⟨wa4,wl4,wc4⟩,⟨none,0,0⟩,⟨none,0,0⟩,dV.count,dV.down,gv dV.arm,gv dV.fault,v0.j.lay,v0.j.s,v0.j.t,v0.j.u,v0.j.h,v0.j.epoch,v0.j.next,v0.j.synced,v0.j.broken,v0.j.lay,v0.slot,v0.broken⟩:=⟨_,rfl⟩
  have hP0:RVp J4 ⟨sa4,sl4,sc4⟩ ⟨wa4,wl4,wc4⟩ ⟨none,0,0⟩ ⟨none,0,0⟩ v0.j.next [] v0 dV 0:=⟨hR4,⟨rfl,.inl rfl⟩,Nat.le_refl _,rfl,by decide,⟨⟨rfl,.inl rfl⟩,by simp⟩,rfl,rfl,Nat.le_refl _⟩
  have hV0:RVk J4 (.agg m0.l.toArray) v0 dV 0:=by rw [hm0]; exact hP0.rvk
  have hNew:=r12_New (I:=J4) m0 room (by omega)
  rw [hm0] at hNew
  refine Tri.free hNew ?_
  rintro r J5 _ hJ5 ⟨v',rfl,hRC⟩
  rw [← hm0] at hRC
  obtain ⟨aS0,cap0,xs0,rfl,_,_,_,_,_⟩:=id hRC
  conv=>whnf
  intro b12
  repeat (first | refine StoreD.st 5 rfl rfl rfl ?_)
  have hle5:=Imm.le_trans hJ2 (Imm.le_trans hJ3 (Imm.le_trans hJ4 hJ5))
  have hIle:=Imm.le_trans hJ1 hle5
  have hPW0:PW J5 bD bV bC room (newC room) v0 dV (.agg (cV m0 aS0 xs0.length cap0 (newC room).hand).toArray) m0 0 chC chV chD:=⟨hC.mono hle5,hV.mono hle5,hD.mono hle5,hRC,hV0.mono hJ5,v0_ok,newC_nd (by omega),dz_few _ _ 24,zL_length _ _⟩
  refine CodeF.loopD [1,5,6,7,12,14] (fun vs J' S'=>∃ (i:Nat) (c:CSt) (v:VSt) (d:DSt) (m:VC) (aS:Option Addr) (len cap:Nat) (hand:Int) (chC chV chD:List Blk),i≤nZ∧i≤50∧PW J' bD bV bC room c v d (.agg (cV m aS len cap hand).toArray) m i chC chV chD∧I.le J' ∧
      vs=[.slice aZ nZ capZ,.pointer (some ⟨bD,0,none⟩),.pointer (some ⟨bV,0,none⟩),.pointer (some ⟨bC,0,none⟩),.pointer (some ⟨b12,0,none⟩),.int .i64 i] ∧
      S'=[chC,chV,chD,[(b12,row (cV m aS len cap hand) 116)]])
    (fun vs _ _=>match vs with | [_,_,_,_,_,.int _ i]=>((nZ:Int) - i).toNat | _=>0) ?_ ?_
  · refine ⟨_,?_,0,newC room,v0,dV,m0,aS0,xs0.length,cap0,(newC room).hand,chC,chV,chD,by omega,by omega,hPW0,hIle,rfl,rfl⟩
    exact Drop.pick [0,1,2,5] _ (by rw [hm0]; rfl)
  clear hPW0 hRC hNew hV0 hP0 hC hV hD hR4
  rintro vs gE J S' hJ' ⟨i,c,v,d,m,aS,len,cap,hand,chC,chV,chD,hi,hi50,hPW,hle,rfl,rfl⟩
  refine CmpD.split (fun (c1:(i:Int) < nZ)=>?_) (fun (c1:¬ (i:Int) < nZ)=>?_)
  rotate_left
  · skip
    refine Tri.mono (awake12 J _) ?_
    rintro r J8 S8 hJ8 rfl
    exact Done.mk rfl
  refine CmpD.split (fun (c2:(i:Int) < 50)=>?_) (fun (c2:¬ (i:Int) < 50)=>?_)
  rotate_left
  · skip
    refine Tri.mono (awake12 J _) ?_
    rintro r J8 S8 hJ8 rfl
    exact Done.mk rfl
  have hil:i < ops.length:=by omega
  have hoi:=hops _ (List.getElem_mem hil)
  rcases hZ.mem with q0 | ⟨bZ,oZ,cZ,TZ,fZ,rfl,hIZ,hcZ⟩
  · omega
  have hcell:(cZ.drop (oZ+i * 4)).take 4=ops[i].cells:=by rw [take_part hcZ (by omega),opCells_at hil]
  generalize ops[i]=o at *
  obtain ⟨ok,on,ob,os⟩:=o
  refine CodeF.sched [[],[],[],[],[],[3,4],[3,4,5],[0,1,2,3,4,5,6],[0,1,2,3,4,5,6,7],[0,1,2,3,4,5,6,7,8],[0,1,2,3,4,5,6,7,8],[0,1,2,3,4,5,6,7,8,9],[0,1,2,3,4,5,6,7,8,9,10,11]] [0,1,2,3,4,5,6,7,8,9,10,11,12] (by kernel_rfl) ?_
  repeat (first | refine LoadP.at 3 rfl _ rfl rfl ?_)
  refine Chk.mk (by omega) ?_
  refine LoadP.imm [.int .i64 ok,.int .i64 on,.int .i64 ob,.int .i64 os] ⟨cZ,TZ,fZ,.imm (hle _ _ hIZ),hcell,rfl⟩ ?_
  skip
  refine Tri.frame (law12_does hPW (by omega) (by omega) ok on ob os hoi.2.2.1) [0,1,2] rfl rfl ?_
  rintro r J6 A' hJ6 ⟨val2,m2,c2_,v2,d2,chC2,chV2,chD2,rfl,hPW2,rfl⟩
  refine ⟨Nat.le_refl _,?_⟩
  obtain ⟨aS2,cap2,xs2,rfl,_,_,_,_,_⟩:=id hPW2.rc
  repeat (first | refine StoreD.st 3 rfl rfl rfl ?_)
  have hs12:c2_.slots.length≤12:=by rw [hPW2.nd.2.2]; omega
  have hwl:∀ {p:Buf→Bool},(c2_.which p).length≤1000000:=fun {p}=>by have:=which_len (c:=c2_) (p:=p); omega
  clear hPW
  have hle2:=Imm.le_trans hle hJ6
  refine CodeF.sched [[],[0],[0,1],[0,1,2],[0,1,2,3],[0,1,2],[0,1,2,3,4,5],[0,1,2,3,4,5,6],[0,1,2,3,4,5,6,7],[0,1,2,3,4,5,6,7,8],[0,1,2,3,4,5,6,7,8,9],[0,1,2,3,4,5,6,7,8,9,10],[0,1,2,3,4,5,6,7,8,9,10,11],[0,1,2,3,4,5,6,7,8,9,10],[0,1,2,3,4,5,6,7,8,9,10,11,12,13],[0,1,2,3,4,5,6,7,8,9,10,11,12,13,14],[0,1,2,3,4,5,6,7,8,9,10,11,12,13,14,15],[0,1,2,3,4,5,6,7,8,9,10,11,12,13,14,15,16],[0,1,2,3,4,5,6,7,8,9,10,11,12,13,14,15,16,17],[0,1,2,3,4,5,6,7,8,9,10,11,12,13,14,15,16,17,18],[0,1,2,3,4,5,6,7,8,9,10,11,12,13,14,15,16,17,18,19],[0,1,2,3,4,5,6,7,8,9,10,11,12,13,14,15,16,17,18],[0,1,2,3,4,5,6,7,8,9,10,11,12,13,14,15,16,17,18,19,20,21],[0,1,2,3,4,5,6,7,8,9,10,11,12,13,14,15,16,17,18,19,20,21,22],[0,1,2,3,4,5,6,7,8,9,10,11,12,13,14,15,16,17,18,19,20,21,22,23],[0,1,2,3,4,5,6,7,8,9,10,11,12,13,14,15,16,17,18,19,20,21,22,23,24],[0,1,2,3,4,5,6,7,8,9,10,11,12,13,14,15,16,17,18,19,20,21,22,23,24,25],[0,1,2,3,4,5,6,7,8,9,10,11,12,13,14,15,16,17,18,19,20,21,22,23,24,25,26],[0,1,2,3,4,5,6,7,8,9,10,11,12,13,14,15,16,17,18,19,20,21,22,23,24,25,26,27],[0,1,2,3,4,5,6,7,8,9,10,11,12,13,14,15,16,17,18,19,20,21,22,23,24,25,26],[0,1,2,3,4,5,6,7,8,9,10,11,12,13,14,15,16,17,18,19,20,21,22,23,24,25,26,29],[0,1,2,3,4,5,6,7,8,9,10,11,12,13,14,15,16,17,18,19,20,21,22,23,24,25,26,29,30],[0,1,2,3,4,5,6,7,8,9,10,11,12,13,14,15,16,17,18,19,20,21,22,23,24,25,26,27,28,29,30,31],[0,1,2,3,4,5,6,7,8,9,10,11,12,13,14,15,16,17,18,19,20,21,22,23,24,25,26,27,28,29,30,31,32],[0,1,2,3,4,5,6,7,8,9,10,11,12,13,14,15,16,17,18,19,20,21,22,23,24,25,26,27,28,29,30,31,32,33],[0,1,2,3,4,5,6,7,8,9,10,11,12,13,14,15,16,17,18,19,20,21,22,23,24,25,26,27,28,29,30,31,32,33,34],[0,1,2,3,4,5,6,7,8,9,10,11,12,13,14,15,16,17,18,19,20,21,22,23,24,25,26,27,28,29,30,31,32,33,34,35],[0,1,2,3,4,5,6,7,8,9,10,11,12,13,14,15,16,17,18,19,20,21,22,23,24,25,26,27,28,29,30,31,32,33,34,35,36],[0,1,2,3,4,5,6,7,8,9,10,11,12,13,14,15,16,17,18,19,20,21,22,23,24,25,26,27,28,29,30,31,32,33,34,35],[0,1,2,3,4,5,6,7,8,9,10,11,12,13,14,15,16,17,18,19,20,21,22,23,24,25,26,27,28,29,30,31,32,33,34,35,38],[0,1,2,3,4,5,6,7,8,9,10,11,12,13,14,15,16,17,18,19,20,21,22,23,24,25,26,27,28,29,30,31,32,33,34,35,38,39],[0,1,2,3,4,5,6,7,8,9,10,11,12,13,14,15,16,17,18,19,20,21,22,23,24,25,26,27,28,29,30,31,32,33,34,35,36,37,38,39,40],[0,1,2,3,4,5,6,7,8,9,10,11,12,13,14,15,16,17,18,19,20,21,22,23,24,25,26,27,28,29,30,31,32,33,34,35,36,37,38,39,40,41]] [0,1,2,3,5,4,6,7,8,9,10,11,13,12,14,15,16,17,18,19,21,20,22,23,24,25,26,27,29,30,31,28,32,33,34,35,36,38,39,40,37,41,42] (by kernel_rfl) ?_
  repeat (first | refine LoadP.at 3 rfl _ rfl rfl ?_)
  refine Tri.frame (ck_Held hPW2.ck hs12) [0] rfl rfl ?_
  rintro r _ A' hJ8 ⟨rfl,aH,capH,chH,rfl,hH,rfl⟩
  refine ⟨by simp,?_⟩
  repeat (first | refine Chk.mk ⟨rfl,trivial⟩ ?_)
  have hW:=r12_Which hPW2.rc 0 (by decide) (p:=fun _=>true) (by funext b; rfl)
  rw [upW_nd hPW2.nd hPW2.rc] at hW
  refine Tri.frameX hW [] rfl rfl ?_
  rintro r _ A' hJ9 ⟨rfl,aK,capK,chK,rfl,hK,rfl⟩
  skip
  refine Tri.fix 5 (ch:=chK) rfl fun J20 hJ20 hm20=>?_
  have hPW2:=hPW2.mono hJ20
  refine Tri.frame1 4 rfl (same_own hH (Rds.of_own hK hm20) hwl) ?_
  rintro r _ A' hJ10 ⟨rfl,rfl,rfl⟩
  refine ⟨_,rfl,?_⟩
  rw [decide_eq_true rfl]
  repeat (first | refine LoadP.at 3 rfl _ rfl rfl ?_)
  refine Tri.frame (ck_Dirty hPW2.ck hs12) [0] rfl rfl ?_
  rintro r _ A' hJ8 ⟨rfl,aH,capH,chH,rfl,hH,rfl⟩
  refine ⟨by simp,?_⟩
  repeat (first | refine Chk.mk ⟨rfl,trivial⟩ ?_)
  have hW:=r12_Which hPW2.rc 1 (by decide) (p:=Buf.dirty) (by funext b; rfl)
  rw [upW_nd hPW2.nd hPW2.rc] at hW
  refine Tri.frameX hW [] rfl rfl ?_
  rintro r _ A' hJ9 ⟨rfl,aK,capK,chK,rfl,hK,rfl⟩
  skip
  refine Tri.fix 7 (ch:=chK) rfl fun J21 hJ21 hm21=>?_
  have hPW2:=hPW2.mono hJ21
  refine Tri.frame1 6 rfl (same_own hH (Rds.of_own hK hm21) hwl) ?_
  rintro r _ A' hJ10 ⟨rfl,rfl,rfl⟩
  refine ⟨_,rfl,?_⟩
  rw [decide_eq_true rfl]
  repeat (first | refine LoadP.at 3 rfl _ rfl rfl ?_)
  refine Tri.frame (ck_Pinned hPW2.ck hs12) [0] rfl rfl ?_
  rintro r _ A' hJ8 ⟨rfl,aH,capH,chH,rfl,hH,rfl⟩
  refine ⟨by simp,?_⟩
  repeat (first | refine Chk.mk ⟨rfl,trivial⟩ ?_)
  have hW:=r12_Which hPW2.rc 2 (by decide) (p:=fun b=>decide (0 < b.pins)) (by funext b; rfl)
  rw [upW_nd hPW2.nd hPW2.rc] at hW
  refine Tri.frameX hW [] rfl rfl ?_
  rintro r _ A' hJ9 ⟨rfl,aK,capK,chK,rfl,hK,rfl⟩
  skip
  refine Tri.fix 9 (ch:=chK) rfl fun J22 hJ22 hm22=>?_
  have hPW2:=hPW2.mono hJ22
  refine Tri.frame1 8 rfl (same_own hH (Rds.of_own hK hm22) hwl) ?_
  rintro r _ A' hJ10 ⟨rfl,rfl,rfl⟩
  refine ⟨_,rfl,?_⟩
  rw [decide_eq_true rfl]
  repeat (first | refine LoadP.at 3 rfl _ rfl rfl ?_)
  obtain ⟨gs,hP,hm⟩:=hPW2.rv.cells
  have hnum:=hP.num.len
  have hzl:m2.sz.len=v2.j.groups.length:=by have:=hP.z.len; simpa [ints] using this.symm
  have hnx:=hPW2.vo.wf.next
  have hf1:=hP.f1
  have hbr:m2.br=v2.broken:=congrArg VC.br hm
  rw [← hzl] at hnum
  refine Tri.frame1 1 rfl (vk_Next hPW2.vk) ?_
  rintro r _ A' hJ11 ⟨rfl,rfl,rfl⟩
  refine ⟨_,rfl,?_⟩
  repeat (first | refine Chk.mk ⟨rfl,trivial⟩ ?_)
  refine Tri.free (r8_NextC m2.s m2.w m2.sz m2.count m2.down m2.arm m2.fault m2.x m2.js m2.jt m2.ju m2.jh m2.je m2.first m2.jy m2.jb (by omega) J22) ?_
  rw [hnum]
  rintro r _ _ hJ12 ⟨rfl,rfl⟩
  repeat (first | refine LoadP.at 3 rfl _ rfl rfl ?_ | refine CmpD.yes rfl ?_)
  refine Tri.frame1 1 rfl (vk_Broken hPW2.vk) ?_
  rintro r _ A' hJ13 ⟨rfl,rfl,rfl⟩
  refine ⟨_,rfl,?_⟩
  repeat (first | refine Chk.mk ⟨rfl,trivial⟩ ?_)
  rw [hbr]
  cases hbb:v2.broken
  · skip
    have hm2:m2={ m2 with br:=false }:=by rw [← hbr.trans hbb]
    have hPW3:PW J22 bD bV bC room c2_ v2 d2 (.agg (cV { m2 with br:=false } aS2 xs2.length cap2 c2_.hand).toArray) { m2 with br:=false } (i+1) chC2 chV2 chD2:=by rw [← hm2]; exact hPW2
    refine ToD.to (((i+1:Nat)):Int) (by rw [wrap_i64 (by omega) (by omega)]; omega) ?_
    refine ⟨_,Drop.pick [0,1,2,3] _ rfl,⟨i+1,c2_,v2,d2,{ m2 with br:=false },aS2,xs2.length,cap2,c2_.hand,chC2,chV2,chD2,by omega,by omega,hPW3,Imm.le_trans hle2 (Imm.le_trans hJ20 (Imm.le_trans hJ21 hJ22)),rfl,rfl⟩,?_⟩
    show ((nZ:Int) - ((i+1:Nat):Int)).toNat < ((nZ:Int) - (i:Int)).toNat; omega
  · skip
    have hm2:m2={ m2 with br:=true }:=by rw [← hbr.trans hbb]
    have hPW3:PW J22 bD bV bC room c2_ v2 d2 (.agg (cV { m2 with br:=true } aS2 xs2.length cap2 c2_.hand).toArray) { m2 with br:=true } (i+1) chC2 chV2 chD2:=by rw [← hm2]; exact hPW2
    refine ToD.to (((i+1:Nat)):Int) (by rw [wrap_i64 (by omega) (by omega)]; omega) ?_
    refine ⟨_,Drop.pick [0,1,2,3] _ rfl,⟨i+1,c2_,v2,d2,{ m2 with br:=true },aS2,xs2.length,cap2,c2_.hand,chC2,chV2,chD2,by omega,by omega,hPW3,Imm.le_trans hle2 (Imm.le_trans hJ20 (Imm.le_trans hJ21 hJ22)),rfl,rfl⟩,?_⟩
    show ((nZ:Int) - ((i+1:Nat):Int)).toNat < ((nZ:Int) - (i:Int)).toNat; omega
end Go.Proofs.YtegdcjnjnoeinaaGreat

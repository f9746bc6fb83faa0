/- Texts of this claim laid together: ScanA, VolP, Vol, Vol2, Awake08, Awk08, LowPick, Img9, JNum, Wi, ScanP, WhP, WhL, Mount, Ckpt, Rf10c, Rf4c, Rf4d, Rf4e, Rf4f, Rf4g, Rf4h, Rf10d, Ref03b, Ref03c, Rf10a, Image, JournalNumbers, ReplayNumbers, ReplayTells, R6a, R6b, R6g, R6c, R6d, R6e. -/
import Derived.Test.YtegdcjnjnoeinaaGreatBCachePlays4
import Derived.Test.YtegdcjnjnoeinaaGreatBCachePlays3
import Derived.Test.YtegdcjnjnoeinaaGreatBCachePlays2
import Derived.Test.YtegdcjnjnoeinaaGreatBCachePlays1
namespace Go.Proofs.YtegdcjnjnoeinaaGreat
open Go.RowKit Go.Sl
set_option maxRecDepth 20000
def ScanOk (n:Nat) (x:Lay) (s:Sup):Prop:=64≤n∧x=layOf n∧s.blocks=n∧0≤s.tail∧s.tail < layL n∧1≤s.epoch∧s.epoch≤8388608∧1≤s.seq∧s.seq≤549755813888
noncomputable def scanL (d:DSt) (s:Sup):List G3:=scanK (rbP d 2 (layL (d.now.length:Int)).toNat) s.epoch ((layL (d.now.length:Int)).toNat+1) s.tail.toNat s.seq (layL (d.now.length:Int)).toNat
def placeP (lb tail:Nat) (l:List G3):Nat:=(tail+(l.map fun g=>g.2.2.length+1).sum) % lb
structure GrpsOk (J:Imm) (gl:List Grp) (l:List G3):Prop where
  each:∀ g ∈ gl,ImgsOk J g.a g.gs
  g3:gl.map Grp.g3=l.map up3
theorem GrpsOk.mono {I J:Imm} {gl:List Grp} {l:List G3} (h:GrpsOk I gl l) (hJ:I.le J):GrpsOk J gl l:=⟨fun g hg=>(h.each g hg).mono hJ,h.g3⟩
theorem GrpsOk.len {J:Imm} {gl:List Grp} {l:List G3} (h:GrpsOk J gl l):gl.length=l.length:=by have:=congrArg List.length h.g3; simpa using this
theorem grpCells_snoc (l:List Grp) (g:Grp):grpCells (l++[g])=grpCells l++[.int .i64 g.e,.int .i64 g.s,.slice g.a g.gs.length g.cap]:=by simp [grpCells]
theorem scan_bound {rb:Nat→Dat} {ep:Int}:∀ (f at_:Nat) (seq:Int) (room:Nat),(scanK rb ep f at_ seq room).length≤room∧((scanK rb ep f at_ seq room).map fun g=>g.2.2.length+1).sum≤room
  | 0,_,_,_=>by simp [scanK]
  | f+1,at_,seq,room=>by
    rw [scanK]
    cases hg:grpP rb at_ room with
    | none=>simp
    | some p =>
      obtain ⟨e,s,l⟩:=p
      dsimp only
      split
      · have h1:=grpP_room hg
        obtain ⟨h2,h3⟩:=scan_bound f (at_+(l.length+1)) (seq+1) (room - (l.length+1)) (rb:=rb) (ep:=ep)
        simp only [List.length_cons,List.map_cons,List.sum_cons]
        omega
      · simp
theorem ring_groups (bR:Nat) (s:Sup) (I:Imm):Tri Tryz.prog 169 #[.pointer (some ⟨bR,0,none⟩),s.v] I [] fun v J S'=>∃ bS bP,v=.func (.func 198) #[] #[.pointer (some ⟨bS,0,none⟩),.pointer (some ⟨bP,0,none⟩)]∧I=J∧S'=[[(bP,row [.pointer (some ⟨bR,0,none⟩)] 224)],sBoxS bS s]:=by
  refine Tri.of (args:=[.pointer (some ⟨bR,0,none⟩),s.v]) tabOk Tryz.func169 rfl (by kernel_rfl) (by kernel_rfl) ?_
  conv=>whnf
  intro bP
  conv=>whnf
  intro bS
  exact Done.mk ⟨bS,bP,rfl,rfl,rfl⟩
theorem placeP_snoc (lb tail:Nat) (l:List G3) (g:G3):placeP lb tail (l++[g])=(tail+(l.map fun g=>g.2.2.length+1).sum+(g.2.2.length+1)) % lb:=by
  unfold placeP
  rw [List.map_append,List.sum_append]
  simp [Nat.add_assoc]
set_option maxHeartbeats 8000000 in
theorem scan_Groups {I:Imm} {bD:Nat} {d:DSt} {chD:List Blk} (hD:Dk I bD d chD) (x:Lay) (s:Sup) :
    Tri Tryz.prog 107 #[.pointer (some ⟨bD,0,none⟩),x.v,s.v] I [chD] fun v J S'=>S'=[chD] ∧
      ((¬ ScanOk d.now.length x s∧v=.tuple #[.slice none 0 0,.int .i64 0,.int .i64 2]) ∨
       (ScanOk d.now.length x s∧d.down=true∧v=.tuple #[.slice none 0 0,.int .i64 0,.int .i64 6]) ∨
       (ScanOk d.now.length x s∧d.down=false∧∃ aO capO gl,v=.tuple #[.slice aO gl.length capO,.int .i64 (placeP (layL d.now.length).toNat s.tail.toNat (scanL d s):Nat),.int .i64 0]∧Rds J aO (gl.length * 3) (grpCells gl)∧GrpsOk J gl (scanL d s))):=by
  have hr:=hD.wf.range
  refine Tri.drop (Tri.fixed (Q:=fun v J S'=>∃ chO,S'=[chD,chO] ∧
      ((¬ ScanOk d.now.length x s∧v=.tuple #[.slice none 0 0,.int .i64 0,.int .i64 2]) ∨
       (ScanOk d.now.length x s∧d.down=true∧v=.tuple #[.slice none 0 0,.int .i64 0,.int .i64 6]) ∨
       (ScanOk d.now.length x s∧d.down=false∧∃ aO capO gl,v=.tuple #[.slice aO gl.length capO,.int .i64 (placeP (layL d.now.length).toNat s.tail.toNat (scanL d s):Nat),.int .i64 0]∧OwnC chO 3 aO gl.length capO (grpCells gl)∧GrpsOk J gl (scanL d s)))) ?_
    (K:=fun v J S'=>S'=[chD,[]] ∧
      ((¬ ScanOk d.now.length x s∧v=.tuple #[.slice none 0 0,.int .i64 0,.int .i64 2]) ∨
       (ScanOk d.now.length x s∧d.down=true∧v=.tuple #[.slice none 0 0,.int .i64 0,.int .i64 6]) ∨
       (ScanOk d.now.length x s∧d.down=false∧∃ aO capO gl,v=.tuple #[.slice aO gl.length capO,.int .i64 (placeP (layL d.now.length).toNat s.tail.toNat (scanL d s):Nat),.int .i64 0]∧Rds J aO (gl.length * 3) (grpCells gl)∧GrpsOk J gl (scanL d s)))) ?_) ?_
  rotate_left
  · rintro v J S' hJ ⟨chO,rfl,h⟩
    refine ⟨1,chO,rfl,fun J' hJ' hm=>⟨rfl,?_⟩⟩
    rcases h with h | h | ⟨h1,h2,aO,capO,gl,rfl,hO,hg⟩
    · exact .inl h
    · exact .inr (.inl h)
    · exact .inr (.inr ⟨h1,h2,aO,capO,gl,rfl,Rds.of_ownS hO hm,hg.mono hJ'⟩)
  · rintro v J S' hJ ⟨rfl,h⟩
    exact ⟨[chD],Drop.pick [0] _ rfl,rfl,h⟩
  refine Tri.drop ?_ (fun _ _ _ _ h=>h)
  obtain ⟨s1,s2,s3,s4⟩:=s
  refine Tri.of (args:=[.pointer (some ⟨bD,0,none⟩),x.v,(⟨s1,s2,s3,s4⟩:Sup).v]) tabOk Tryz.func107 rfl (by kernel_rfl) (by kernel_rfl) ?_
  conv=>whnf
  intro b4
  conv=>whnf
  intro b5
  refine Tri.frame1 0 rfl (dk_Size hD) ?_
  rintro v J S' hJ ⟨rfl,rfl,rfl⟩
  refine ⟨_,rfl,?_⟩
  refine CmpD.no (by omega) ?_
  skip
  refine Tri.frame1 0 rfl (dk_Size hD) ?_
  rintro v J S' hJ ⟨rfl,rfl,rfl⟩
  refine ⟨_,rfl,?_⟩
  skip
  obtain ⟨n,hn⟩:∃ n,n=d.now.length:=⟨_,rfl⟩
  rw [← hn] at hr ⊢
  refine Tri.free (layout_Of n I) ?_
  rintro v J _ hJ ⟨rfl,rfl⟩
  have badS:∀ (J:Imm) (S:St),Drop S [chD]→¬ ScanOk n x ⟨s1,s2,s3,s4⟩→∃ S'',Drop S S''∧∃ chO,S''=[chD,chO] ∧
      ((¬ ScanOk n x ⟨s1,s2,s3,s4⟩∧Value.tuple #[.slice none 0 0,.int .i64 0,.int .i64 2]=.tuple #[.slice none 0 0,.int .i64 0,.int .i64 2]) ∨
       (ScanOk n x ⟨s1,s2,s3,s4⟩∧d.down=true∧Value.tuple #[.slice none 0 0,.int .i64 0,.int .i64 2]=.tuple #[.slice none 0 0,.int .i64 0,.int .i64 6]) ∨
       (ScanOk n x ⟨s1,s2,s3,s4⟩∧d.down=false∧∃ aO capO gl,Value.tuple #[.slice none 0 0,.int .i64 0,.int .i64 2]=.tuple #[.slice aO gl.length capO,.int .i64 (placeP (layL n).toNat s4.toNat (scanL d ⟨s1,s2,s3,s4⟩):Nat),.int .i64 0]∧OwnC chO 3 aO gl.length capO (grpCells gl)∧GrpsOk J gl (scanL d ⟨s1,s2,s3,s4⟩))) :=
    fun J S hd hno=>⟨[chD,[]],hd.and,[],rfl,.inl ⟨hno,rfl⟩⟩
  by_cases hb:(n:Int) < 64∨512 < (n:Int)
  · rw [layA,if_pos hb]
    conv=>whnf
    intro b9
    repeat (first | refine StoreD.st 3 rfl rfl rfl ?_)
    refine CodeF.sched [[],[0],[0,1],[0,1,2],[0,1,2],[0,1,2,3,4],[0,1,2,3,4,5],[0,1,2,3,4,5,6],[0,1,2,3,4,5,6,7],[0,1,2,3,4,5,6,7,8],[0,1,2,3,4,5,6,7],[0,1,2,3,4,5,6,7,10],[0,1,2,3,4,5,6,7,8,9,10,11],[0,1,2,3,4,5,6,7,8,9,10,11,12],[0,1,2,3,4,5,6,7,8,9,10,11,12,13],[0,1,2,3,4,5,6,7,8,9,10,11,12,13,14],[0,1,2,3,4,5,6,7,8,9,10,11,12,13,14,15],[0,1,2,3,4,5,6,7,8,9,10,11,12,13,14,15,16],[0,1,2,3,4,5,6,7,8,9,10,11,12,13,14,15,16,17],[0,1,2,3,4,5,6,7,8,9,10,11,12,13,14,15,16,17,18],[0,1,2,3,4,5,6,7,8,9,10,11,12,13,14,15,16,17,18,19],[0,1,2,3,4,5,6,7,8,9,10,11,12,13,14,15,16,17,18,19,20],[0,1,2,3,4,5,6,7,8,9,10,11,12,13,14,15,16,17,18,19],[0,1,2,3,4,5,6,7,8,9,10,11,12,13,14,15,16,17,18,19,22],[0,1,2,3,4,5,6,7,8,9,10,11,12,13,14,15,16,17,18,19,20,21,22,23],[0,1,2,3,4,5,6,7,8,9,10,11,12,13,14,15,16,17,18,19,20,21,22,23,24],[0,1,2,3,4,5,6,7,8,9,10,11,12,13,14,15,16,17,18,19,20,21,22,23,24,25],[0,1,2,3,4,5,6,7,8,9,10,11,12,13,14,15,16,17,18,19,20,21,22,23,24,25,26],[0,1,2,3,4,5,6,7,8,9,10,11,12,13,14,15,16,17,18,19,20,21,22,23,24,25,26,27],[0,1,2,3,4,5,6,7,8,9,10,11,12,13,14,15,16,17,18,19,20,21,22,23,24,25,26,27,28],[0,1,2,3,4,5,6,7,8,9,10,11,12,13,14,15,16,17,18,19,20,21,22,23,24,25,26,27,28,29],[0,1,2,3,4,5,6,7,8,9,10,11,12,13,14,15,16,17,18,19,20,21,22,23,24,25,26,27,28,29,30],[0,1,2,3,4,5,6,7,8,9,10,11,12,13,14,15,16,17,18,19,20,21,22,23,24,25,26,27,28,29,30,31],[0,1,2,3,4,5,6,7,8,9,10,11,12,13,14,15,16,17,18,19,20,21,22,23,24,25,26,27,28,29,30,31,32],[0,1,2,3,4,5,6,7,8,9,10,11,12,13,14,15,16,17,18,19,20,21,22,23,24,25,26,27,28,29,30,31,32,33],[0,1,2,3,4,5,6,7,8,9,10,11,12,13,14,15,16,17,18,19,20,21,22,23,24,25,26,27,28,29,30,31,32,33,34],[0,1,2,3,4,5,6,7,8,9,10,11,12,13,14,15,16,17,18,19,20,21,22,23,24,25,26,27,28,29,30,31,32,33,34,35],[0,1,2,3,4,5,6,7,8,9,10,11,12,13,14,15,16,17,18,19,20,21,22,23,24,25,26,27,28,29,30,31,32,33,34,35,36],[0,1,2,3,4,5,6,7,8,9,10,11,12,13,14,15,16,17,18,19,20,21,22,23,24,25,26,27,28,29,30,31,32,33,34,35,36,37],[0,1,2,3,4,5,6,7,8,9,10,11,12,13,14,15,16,17,18,19,20,21,22,23,24,25,26,27,28,29,30,31,32,33,34,35,36,37,38],[0,1,2,3,4,5,6,7,8,9,10,11,12,13,14,15,16,17,18,19,20,21,22,23,24,25,26,27,28,29,30,31,32,33,34,35,36,37,38,39],[0,1,2,3,4,5,6,7,8,9,10,11,12,13,14,15,16,17,18,19,20,21,22,23,24,25,26,27,28,29,30,31,32,33,34,35,36,37,38,39,40],[0,1,2,3,4,5,6,7,8,9,10,11,12,13,14,15,16,17,18,19,20,21,22,23,24,25,26,27,28,29,30,31,32,33,34,35,36,37,38,39,40,41],[0,1,2,3,4,5,6,7,8,9,10,11,12,13,14,15,16,17,18,19,20,21,22,23,24,25,26,27,28,29,30,31,32,33,34,35,36,37,38,39,40,41,42],[0,1,2,3,4,5,6,7,8,9,10,11,12,13,14,15,16,17,18,19,20,21,22,23,24,25,26,27,28,29,30,31,32,33,34,35,36,37,38,39,40,41,42,43],[0,1,2,3,4,5,6,7,8,9,10,11,12,13,14,15,16,17,18,19,20,21,22,23,24,25,26,27,28,29,30,31,32,33,34,35,36,37,38,39,40,41,42,43,44]] [0,1,2,3,4,5,6,7,8,9,10,11,12,13,14,15,16,17,18,19,20,21,22,23,24,25,26,27,28,29,30,31,32,33,34,35,36,37,38,39,40,41,42,43,44,45] (by kernel_rfl) ?_
    repeat (first | refine CmpD.no (by decide) ?_)
    exact Done.mk (badS _ _ (Drop.pick [0] _ rfl) (fun h=>by have:=h.1; omega))
  rw [layA,if_neg hb]
  have hL:=layL_range (n:=(n:Int)) (by omega)
  conv=>whnf
  intro b9
  repeat (first | refine StoreD.st 3 rfl rfl rfl ?_)
  refine CodeF.sched [[],[0],[0,1],[0,1,2],[0,1,2],[0,1,2,3,4],[0,1,2,3,4,5],[0,1,2,3,4,5,6],[0,1,2,3,4,5,6,7],[0,1,2,3,4,5,6,7,8],[0,1,2,3,4,5,6,7],[0,1,2,3,4,5,6,7,10],[0,1,2,3,4,5,6,7,8,9,10,11],[0,1,2,3,4,5,6,7,8,9,10,11,12],[0,1,2,3,4,5,6,7,8,9,10,11,12,13],[0,1,2,3,4,5,6,7,8,9,10,11,12,13,14],[0,1,2,3,4,5,6,7,8,9,10,11,12,13,14,15],[0,1,2,3,4,5,6,7,8,9,10,11,12,13,14,15,16],[0,1,2,3,4,5,6,7,8,9,10,11,12,13,14,15,16,17],[0,1,2,3,4,5,6,7,8,9,10,11,12,13,14,15,16,17,18],[0,1,2,3,4,5,6,7,8,9,10,11,12,13,14,15,16,17,18,19],[0,1,2,3,4,5,6,7,8,9,10,11,12,13,14,15,16,17,18,19,20],[0,1,2,3,4,5,6,7,8,9,10,11,12,13,14,15,16,17,18,19],[0,1,2,3,4,5,6,7,8,9,10,11,12,13,14,15,16,17,18,19,22],[0,1,2,3,4,5,6,7,8,9,10,11,12,13,14,15,16,17,18,19,20,21,22,23],[0,1,2,3,4,5,6,7,8,9,10,11,12,13,14,15,16,17,18,19,20,21,22,23,24],[0,1,2,3,4,5,6,7,8,9,10,11,12,13,14,15,16,17,18,19,20,21,22,23,24,25],[0,1,2,3,4,5,6,7,8,9,10,11,12,13,14,15,16,17,18,19,20,21,22,23,24,25,26],[0,1,2,3,4,5,6,7,8,9,10,11,12,13,14,15,16,17,18,19,20,21,22,23,24,25,26,27],[0,1,2,3,4,5,6,7,8,9,10,11,12,13,14,15,16,17,18,19,20,21,22,23,24,25,26,27,28],[0,1,2,3,4,5,6,7,8,9,10,11,12,13,14,15,16,17,18,19,20,21,22,23,24,25,26,27,28,29],[0,1,2,3,4,5,6,7,8,9,10,11,12,13,14,15,16,17,18,19,20,21,22,23,24,25,26,27,28,29,30],[0,1,2,3,4,5,6,7,8,9,10,11,12,13,14,15,16,17,18,19,20,21,22,23,24,25,26,27,28,29,30,31],[0,1,2,3,4,5,6,7,8,9,10,11,12,13,14,15,16,17,18,19,20,21,22,23,24,25,26,27,28,29,30,31,32],[0,1,2,3,4,5,6,7,8,9,10,11,12,13,14,15,16,17,18,19,20,21,22,23,24,25,26,27,28,29,30,31,32,33],[0,1,2,3,4,5,6,7,8,9,10,11,12,13,14,15,16,17,18,19,20,21,22,23,24,25,26,27,28,29,30,31,32,33,34],[0,1,2,3,4,5,6,7,8,9,10,11,12,13,14,15,16,17,18,19,20,21,22,23,24,25,26,27,28,29,30,31,32,33,34,35],[0,1,2,3,4,5,6,7,8,9,10,11,12,13,14,15,16,17,18,19,20,21,22,23,24,25,26,27,28,29,30,31,32,33,34,35,36],[0,1,2,3,4,5,6,7,8,9,10,11,12,13,14,15,16,17,18,19,20,21,22,23,24,25,26,27,28,29,30,31,32,33,34,35,36,37],[0,1,2,3,4,5,6,7,8,9,10,11,12,13,14,15,16,17,18,19,20,21,22,23,24,25,26,27,28,29,30,31,32,33,34,35,36,37,38],[0,1,2,3,4,5,6,7,8,9,10,11,12,13,14,15,16,17,18,19,20,21,22,23,24,25,26,27,28,29,30,31,32,33,34,35,36,37,38,39],[0,1,2,3,4,5,6,7,8,9,10,11,12,13,14,15,16,17,18,19,20,21,22,23,24,25,26,27,28,29,30,31,32,33,34,35,36,37,38,39,40],[0,1,2,3,4,5,6,7,8,9,10,11,12,13,14,15,16,17,18,19,20,21,22,23,24,25,26,27,28,29,30,31,32,33,34,35,36,37,38,39,40,41],[0,1,2,3,4,5,6,7,8,9,10,11,12,13,14,15,16,17,18,19,20,21,22,23,24,25,26,27,28,29,30,31,32,33,34,35,36,37,38,39,40,41,42],[0,1,2,3,4,5,6,7,8,9,10,11,12,13,14,15,16,17,18,19,20,21,22,23,24,25,26,27,28,29,30,31,32,33,34,35,36,37,38,39,40,41,42,43],[0,1,2,3,4,5,6,7,8,9,10,11,12,13,14,15,16,17,18,19,20,21,22,23,24,25,26,27,28,29,30,31,32,33,34,35,36,37,38,39,40,41,42,43,44]] [0,1,2,3,4,5,6,7,8,9,10,11,12,13,14,15,16,17,18,19,20,21,22,23,24,25,26,27,28,29,30,31,32,33,34,35,36,37,38,39,40,41,42,43,44,45] (by kernel_rfl) ?_
  repeat (first | refine LoadP.at 1 rfl _ rfl rfl ?_ | refine LoadP.at 3 rfl _ rfl rfl ?_ | refine CmpD.yes rfl ?_)
  refine lay_cmp (layOf n) x rfl (.inr rfl) rfl rfl ?_
  refine CmpD.split (fun c1=>?_) (fun c1=>?_)
  rotate_left
  · skip
    refine Done.mk (badS _ _ (Drop.pick [0] _ rfl) (fun h=>c1 ?_))
    rw [← h.2.1]
  have hx:x=layOf n:=by
    simp only [List.cons.injEq,and_true] at c1
    obtain ⟨q1,q2,q3,q4,q5,q6,q7⟩:=c1
    obtain ⟨x1,x2,x3,x4,x5,x6,x7⟩:=x
    dsimp only at q1 q2 q3 q4 q5 q6 q7 ⊢
    rw [Lay.mk.injEq]
    exact ⟨q1.symm,q2.symm,q3.symm,q4.symm,q5.symm,q6.symm,q7.symm⟩
  have hxl:x.lb=layL n:=by rw [hx]; rfl
  repeat (first | refine LoadP.at 2 rfl _ rfl rfl ?_)
  refine Tri.frame1 0 rfl (dk_Size hD) ?_
  rintro v J S' hJ ⟨rfl,rfl,rfl⟩
  refine ⟨_,rfl,?_⟩
  rw [← hn]
  repeat (first | refine Chk.mk ⟨rfl,trivial⟩ ?_)
  refine CmpD.split (fun (c2:s1=(n:Int))=>?_) (fun (c2:¬ (s1=(n:Int)))=>?_)
  rotate_left
  · skip
    exact Done.mk (badS _ _ (Drop.pick [0] _ rfl) (fun h=>c2 h.2.2.1))
  repeat (first | refine LoadP.at 2 rfl _ rfl rfl ?_)
  refine CmpD.split (fun (c3:s4 < 0)=>?_) (fun (c3:¬ (s4 < 0))=>?_)
  · skip
    exact Done.mk (badS _ _ (Drop.pick [0] _ rfl) (fun h=>by have:0≤s4:=h.2.2.2.1; omega))
  repeat (first | refine LoadP.at 1 rfl _ rfl rfl ?_ | refine LoadP.at 2 rfl _ rfl rfl ?_)
  refine CmpD.split (fun (c4:x.lb≤s4)=>?_) (fun (c4:¬ (x.lb≤s4))=>?_)
  · skip
    exact Done.mk (badS _ _ (Drop.pick [0] _ rfl) (fun h=>by have:s4 < layL n:=h.2.2.2.2.1; omega))
  repeat (first | refine LoadP.at 2 rfl _ rfl rfl ?_)
  refine CmpD.split (fun (c5:s2 < 1)=>?_) (fun (c5:¬ (s2 < 1))=>?_)
  · skip
    exact Done.mk (badS _ _ (Drop.pick [0] _ rfl) (fun h=>by have:1≤s2:=h.2.2.2.2.2.1; omega))
  repeat (first | refine LoadP.at 2 rfl _ rfl rfl ?_)
  refine CmpD.split (fun (c6:(8388608:Int) < s2)=>?_) (fun (c6:¬ ((8388608:Int) < s2))=>?_)
  · skip
    exact Done.mk (badS _ _ (Drop.pick [0] _ rfl) (fun h=>by have:s2≤8388608:=h.2.2.2.2.2.2.1; omega))
  repeat (first | refine LoadP.at 2 rfl _ rfl rfl ?_)
  refine CmpD.split (fun (c7:s3 < 1)=>?_) (fun (c7:¬ (s3 < 1))=>?_)
  · skip
    exact Done.mk (badS _ _ (Drop.pick [0] _ rfl) (fun h=>by have:1≤s3:=h.2.2.2.2.2.2.2.1; omega))
  repeat (first | refine LoadP.at 2 rfl _ rfl rfl ?_)
  refine CmpD.split (fun (c8:(549755813888:Int) < s3)=>?_) (fun (c8:¬ ((549755813888:Int) < s3))=>?_)
  · skip
    exact Done.mk (badS _ _ (Drop.pick [0] _ rfl) (fun h=>by have:s3≤549755813888:=h.2.2.2.2.2.2.2.2; omega))
  have hok:ScanOk n x ⟨s1,s2,s3,s4⟩:=⟨by omega,hx,c2,by show 0≤s4; omega,by show s4 < _; omega,by show 1≤s2; omega,by show s2≤_; omega,by show 1≤s3; omega,by show s3≤_; omega⟩
  clear badS
  repeat (first | refine LoadD.own 1 rfl _ rfl rfl ?_)
  conv=>whnf
  intro bR
  skip
  conv=>whnf
  intro b12
  repeat (first | refine LoadD.own 2 rfl _ rfl rfl ?_)
  conv=>whnf
  intro b13
  repeat (first | refine LoadD.own 2 rfl _ rfl rfl ?_ | refine StoreD.st 6 rfl rfl rfl ?_)
  refine Tri.frame (ring_groups bR ⟨s1,s2,s3,s4⟩ I) [] rfl rfl ?_
  rintro v J A' hJ ⟨bS,bP,rfl,rfl,rfl⟩
  refine ⟨by simp,?_⟩
  obtain ⟨tail,rfl⟩:∃ t:Nat,s4=t:=⟨s4.toNat,by omega⟩
  obtain ⟨lb,hlb⟩:∃ lb:Nat,layL n=lb:=⟨(layL n).toNat,by omega⟩
  have hxlb:x.lb=lb:=by rw [hxl,hlb]
  have hxl2:x.l=(2:Nat):=by rw [hx]; rfl
  have hfit:2+lb≤d.now.length:=by rw [← hn]; unfold layL at hlb; split at hlb <;> omega
  cases hdn:d.down with
  | true =>
    refine CodeF.rangeJ rfl [[(b12,row [.slice none 0 0] 162)],[(b13,row [.int .i64 tail] 3)]] (scIt bS bP bR bD ⟨s1,s2,s3,tail⟩ x 0 chD) (Drop.pick [5,6,8,7,4,0] _ rfl) (scan_down hD hdn x 2 lb hxl2 hxlb (by omega) hfit ⟨s1,s2,s3,tail⟩ tail rfl)
      (fun _ _ _ _ h=>h.elim) (fun _ _ S'=>S'=[[(b12,row [.slice none 0 0] 162)],[(b13,row [.int .i64 tail] 3)]]) (fun _ _ _ _ _ h=>h) (fun _ _ _=>False) rfl ?round ?done ?stop
    case round=>rintro _ _ _ _ _ _ h; exact h.elim
    case stop=>rintro _ _ _ _ _ h; exact h.elim
    case done =>
      rintro _ J S' R hJ rfl rfl
      repeat (first | refine LoadD.own 4 rfl _ rfl rfl ?_ | refine CmpD.no (by decide) ?_)
      refine CodeF.sched [[],[0],[0,1],[0,1,2],[],[4],[0,1,2,3,4,5]] [0,1,2,3,4,5,6] (by kernel_rfl) ?_
      repeat (first | refine LoadP.at 4 rfl _ rfl rfl ?_)
      exact Done.mk ⟨[chD,[]],Drop.and (Drop.pick [5] _ rfl),[],rfl,.inr (.inl ⟨hok,rfl,rfl⟩)⟩
  | false =>
    have hsc:scanL d ⟨s1,s2,s3,tail⟩=scanK (rbP d 2 lb) s2 (lb+1) tail s3 lb:=by
      unfold scanL
      rw [← hn,hlb]; rfl
    have hlbn:(layL n).toNat=lb:=by rw [hlb]; rfl
    obtain ⟨L,hLe⟩:∃ L,L=scanL d ⟨s1,s2,s3,tail⟩:=⟨_,rfl⟩
    have hbd:=scan_bound (rb:=rbP d 2 lb) (ep:=s2) (lb+1) tail s3 lb
    rw [← hsc,← hLe] at hbd
    refine CodeF.rangeJ rfl [[(b12,row [.slice none 0 0] 162)],[(b13,row [.int .i64 tail] 3)],[]] (scIt bS bP bR bD ⟨s1,s2,s3,tail⟩ x 0 chD) ((Drop.pick [5,6,8,7,4,0] _ rfl).trans (Drop.flat (by simp [St.at]; exact ⟨rfl,rfl⟩))) (scan_up hD hdn x 2 lb hxl2 hxlb (by omega) hfit ⟨s1,s2,s3,tail⟩ tail rfl (by omega) ⟨by show 1≤s3; omega,by show s3≤_; omega⟩)
      (fun _ _ _ _ ⟨_,_,_,_,_,_,_,_,_,_,h,_⟩=>by rw [h]; rfl)
      (fun a J' S'=>∃ (aO:Option Addr) (capO:Nat) (chO:List Blk) (gl:List Grp) (acc:List G3),S'=[[(b12,row [.slice aO gl.length capO] 162)],[(b13,row [.int .i64 (placeP lb tail acc:Nat)] 3)],chO]∧OwnC chO 3 aO gl.length capO (grpCells gl)∧GrpsOk J' gl acc∧acc++scanK (rbP d 2 lb) s2 a.f a.at' a.seq a.room=L∧a.at'=tail+(acc.map fun g=>g.2.2.length+1).sum)
      (fun a J1 J2 S' hJ ⟨aO,capO,chO,gl,acc,h1,h2,h3,h4⟩=>⟨aO,capO,chO,gl,acc,h1,h2,h3.mono hJ,h4⟩) (fun _ _ _=>False)
      ⟨none,0,[],[],[],by rw [show placeP lb tail []=tail from by unfold placeP; exact Nat.mod_eq_of_lt (by simp; omega)]; rfl,OwnC.nil _ _,⟨by simp,rfl⟩,by rw [hLe,hsc]; rfl,by simp⟩ ?round ?done ?stop
    case stop=>rintro _ _ _ _ _ h; exact h.elim
    case round =>
      rintro ⟨f,at_,seq,room⟩ xs ⟨f',at',seq',room'⟩ J' S' hJ' ⟨e,sn,li,aI,capI,gs,hf,hg,he,hs,rfl,hgs,hgp,hat,hsq,hrm⟩ ⟨aO,capO,chO,gl,acc,rfl,hO,hok2,hacc,hatl⟩
      dsimp only at hf hg hs hat hsq hrm hacc hatl
      subst hf hat hsq hrm
      rw [scanK,hg] at hacc
      dsimp only at hacc
      rw [if_pos ⟨he,hs⟩] at hacc
      have hgl2:=hok2.len
      have hll:L.length=acc.length+((scanK (rbP d 2 lb) s2 f' (at_+(li.length+1)) (seq+1) (room - (li.length+1))).length+1):=by rw [← hacc,List.length_append,List.length_cons]
      conv=>whnf
      intro b15
      repeat (first | refine LoadD.own 0 rfl _ rfl rfl ?_ | refine LoadD.own 3 rfl _ rfl rfl ?_ | refine StoreD.st 3 rfl rfl rfl ?_)
      conv=>whnf
      intro bN
      refine appendD tabOk rfl rfl rfl rfl rfl rfl rfl 2 rfl hO (SrcOk.slice (n:=1) (news:=grpCells [⟨e,sn,aI,capI,gs⟩]) tabOk rfl ((OwnC.whole (len:=1) (size:=3) rfl).slC 4 rfl) (by intro v hv; simp [grpCells] at hv; rcases hv with rfl | rfl | rfl <;> rfl)) rfl (by show (gl.length+1) * 40≤_; omega) (by omega) ?_
      intro a2 cap2 ch2 hO2
      repeat (first | refine StoreD.st 0 rfl rfl rfl ?_ | refine StoreD.st 1 rfl rfl rfl ?_)
      have hll3:(gl++[⟨e,sn,aI,capI,gs⟩]:List Grp).length=gl.length+1:=by simp
      refine ⟨[[(b12,row [.slice a2 (gl.length+1) cap2] 162)],[(b13,row [.int .i64 ((at_+(li.length+1)) % lb:Nat)] 3)],ch2],Drop.pick [0,1,2] _ rfl,a2,cap2,ch2,gl++[⟨e,sn,aI,capI,gs⟩],acc++[(e,sn,li)],?_,?_,⟨?_,?_⟩,?_,?_⟩
      · rw [hll3,placeP_snoc,← hatl]
      · rw [hll3,grpCells_snoc]; exact hO2
      · intro g hg
        rcases List.mem_append.1 hg with hg | hg
        · exact hok2.each g hg
        · simp only [List.mem_singleton] at hg
          subst hg
          exact hgs
      · rw [List.map_append,List.map_append,hok2.g3,List.map_singleton,List.map_singleton]
        show _++[((e:Int),(sn:Int),gs.map Img.pr)]=_
        rw [hgp]; rfl
      · rw [List.append_assoc]; exact hacc
      · show at_+(li.length+1)=_
        rw [List.map_append,List.sum_append,hatl]
        simp [Nat.add_assoc]
    case done =>
      rintro ⟨f,at_,seq,room⟩ J' S' R hJ' ⟨hfin,rfl⟩ ⟨aO,capO,chO,gl,acc,rfl,hO,hok2,hacc,hatl⟩
      rw [hfin,List.append_nil] at hacc
      subst hacc
      repeat (first | refine LoadD.own 5 rfl _ rfl rfl ?_ | refine CmpD.yes rfl ?_)
      refine CodeF.sched [[],[],[0],[0,1,2],[0,1,2,3]] [0,1,2,3,4] (by kernel_rfl) ?_
      repeat (first | refine LoadP.at 0 rfl _ rfl rfl ?_ | refine LoadP.at 1 rfl _ rfl rfl ?_)
      refine Done.mk ⟨[chD,chO],Drop.pick [6,2] _ rfl,chO,rfl,.inr (.inr ⟨hok,rfl,aO,capO,gl,?_,hO,?_⟩)⟩
      · rw [hlbn,← hLe]; rfl
      · rw [← hLe]; exact hok2
end Go.Proofs.YtegdcjnjnoeinaaGreat
namespace Go.Proofs.YtegdcjnjnoeinaaGreat
open Go.RowKit Go.Sl
set_option maxRecDepth 20000
def foundP (d:DSt):Sup × Int × Int :=
  if d.down=true then (Sup.zero,0,6) else
  if (chooseP (getS (d.now.getD 0 [])) (getS (d.now.getD 1 []))).2.2=false∨(chooseP (getS (d.now.getD 0 [])) (getS (d.now.getD 1 []))).1.blocks≠d.now.length ∨
    layL d.now.length≤(chooseP (getS (d.now.getD 0 [])) (getS (d.now.getD 1 []))).1.tail∨8388608≤(chooseP (getS (d.now.getD 0 [])) (getS (d.now.getD 1 []))).1.epoch then (Sup.zero,0,90) else
  ((chooseP (getS (d.now.getD 0 [])) (getS (d.now.getD 1 []))).1,(chooseP (getS (d.now.getD 0 [])) (getS (d.now.getD 1 []))).2.1,0)
structure VSt where
  j:JSt
  epoch:Int
  slot:Int
  fresh:List PImg
  broken:Bool
def allG (gs:List G3):List PImg:=gs.flatMap fun g=>g.2.2
noncomputable def mountL (n:Nat) (d:DSt) (s:Sup) (slot:Int) (gs:List G3):DSt × Int × Option VSt :=
  if ¬ HomeOk (layOf n) (allG gs)∨549755813888 - (gs.length:Int) < s.seq then (d,90,none) else
  if (doP d (homeP (allG gs)) ⟨s.blocks,s.epoch+1,s.seq+gs.length,placeP (layL n).toNat s.tail.toNat gs⟩ (1 - slot)).2≠0 then
    ((doP d (homeP (allG gs)) ⟨s.blocks,s.epoch+1,s.seq+gs.length,placeP (layL n).toNat s.tail.toNat gs⟩ (1 - slot)).1,(doP d (homeP (allG gs)) ⟨s.blocks,s.epoch+1,s.seq+gs.length,placeP (layL n).toNat s.tail.toNat gs⟩ (1 - slot)).2,none) else
  ((doP d (homeP (allG gs)) ⟨s.blocks,s.epoch+1,s.seq+gs.length,placeP (layL n).toNat s.tail.toNat gs⟩ (1 - slot)).1,0,some ⟨openJ n (s.epoch+1) (s.seq+gs.length) (placeP (layL n).toNat s.tail.toNat gs),s.epoch+1,slot,[],false⟩)
noncomputable def mountP (d:DSt):DSt × Int × Option VSt :=
  if d.now.length < 64 then (d,90,none) else
  if (foundP d).2.2≠0 then (d,(foundP d).2.2,none) else
  mountL d.now.length d (foundP d).1 (foundP d).2.1 (scanL d (foundP d).1)
def VSt.read (v:VSt) (d:DSt) (n:Int):Dat × Int:=if v.broken=true then ([],4) else match v.fresh.lookup n with
  | some b=>(b,0)
  | none=>d.read n
def sortP (l:List PImg):List PImg:=(sortI (l.map Prod.fst)).map fun n=>(n,(l.lookup n).getD [])
def VSt.sup (v:VSt):Sup:=⟨v.j.lay.b,v.epoch,v.j.next,(v.j.t+v.j.u) % v.j.s⟩
def VSt.ckS (v:VSt) (d:DSt):Int × JSt × DSt :=
  if (v.j.flush d).2.2≠0 then ((v.j.flush d).2.2,(v.j.flush d).1,(v.j.flush d).2.1) else
  if (doP (v.j.flush d).2.1 (sortP v.fresh) v.sup v.slot).2≠0 then ((doP (v.j.flush d).2.1 (sortP v.fresh) v.sup v.slot).2,(v.j.flush d).1,(doP (v.j.flush d).2.1 (sortP v.fresh) v.sup v.slot).1) else
  (((v.j.flush d).1.release (v.j.flush d).1.synced).2,((v.j.flush d).1.release (v.j.flush d).1.synced).1,(doP (v.j.flush d).2.1 (sortP v.fresh) v.sup v.slot).1)
def VSt.ckpt (v:VSt) (d:DSt):VSt × DSt × Int :=
  if v.broken=true then (v,d,4) else
  if (v.ckS d).1≠0 then ({ v with j:=(v.ckS d).2.1,broken:=true },(v.ckS d).2.2,(v.ckS d).1) else
  ({ v with j:=(v.ckS d).2.1,slot:=1 - v.slot,fresh:=[] },(v.ckS d).2.2,0)
def VSt.fits (v:VSt) (k:Int):Bool:=decide (0 < blocksN k∧blocksN k≤v.j.lay.lb)
def VSt.app (v:VSt) (d:DSt) (l:List PImg):VSt × DSt × Int × Int :=
  if (v.j.appendB d l false).2.2.2≠0 then ({ v with j:=(v.j.appendB d l false).1,broken:=true },(v.j.appendB d l false).2.1,0,(v.j.appendB d l false).2.2.2) else
  ({ v with j:=(v.j.appendB d l false).1,fresh:=l.foldl pput v.fresh },(v.j.appendB d l false).2.1,(v.j.appendB d l false).2.2.1,0)
def VSt.commit (v:VSt) (d:DSt) (l:List PImg):VSt × DSt × Int × Int :=
  if v.broken=true then (v,d,0,4) else
  if ¬ HomeOk v.j.lay l then (v,d,0,70) else
  if ¬ RightP v.epoch v.j.next l then (v,d,0,80) else
  if v.fits l.length=false then (v,d,0,232) else
  if v.j.s - v.j.u - v.j.h < blocksN l.length then
    (if (v.ckpt d).2.2≠0 then ((v.ckpt d).1,(v.ckpt d).2.1,0,(v.ckpt d).2.2) else (v.ckpt d).1.app (v.ckpt d).2.1 l)
  else v.app d l
end Go.Proofs.YtegdcjnjnoeinaaGreat
namespace Go.Proofs.YtegdcjnjnoeinaaGreat
open Go.RowKit Go.Sl
set_option maxRecDepth 20000
@[reducible] def vCells (bD bJ bM:Nat) (x:Lay) (ep sl:Int) (br:Bool):List Value:=.pointer (some ⟨bD,0,none⟩) :: x.vals++[.pointer (some ⟨bJ,0,none⟩),.int .i64 ep,.int .i64 sl,.map (some bM),.bool br]
@[reducible] def vChunk (bV bD bJ bM:Nat) (x:Lay) (ep sl:Int) (br:Bool):List Blk:=[(bV,row (vCells bD bJ bM x ep sl br) 49)]
section
variable (bV bD bJ bM:Nat) (x:Lay) (ep sl:Int) (br:Bool) (I:Imm)
theorem v_none (S:St) (k:Nat) (hk:S[k]?=some (vChunk bV bD bJ bM x ep sl br)):Tri Tryz.prog 97 #[.pointer (some ⟨bV,0,none⟩)] I S fun v J S'=>v=.bool false∧I=J∧S'=S:=by
  obtain ⟨l1,l2,l3,l4,l5,l6,l7⟩:=x
  refine Tri.of (args:=[.pointer (some ⟨bV,0,none⟩)]) tabOk Tryz.func97 rfl (by kernel_rfl) (by kernel_rfl) ?_
  refine LoadD.own k hk [.pointer (some ⟨bD,0,none⟩)] rfl rfl ?_
  exact Done.mk ⟨rfl,rfl,rfl⟩
def wrongV (b:Bool):Int:=match b with
  | true=>4
  | false=>0
theorem v_wrong (S:St) (k:Nat) (hk:S[k]?=some (vChunk bV bD bJ bM x ep sl br)):Tri Tryz.prog 78 #[.pointer (some ⟨bV,0,none⟩)] I S fun v J S'=>v=.int .i64 (wrongV br)∧I=J∧S'=S:=by
  have h0:=v_none bV bD bJ bM x ep sl br I S k hk
  obtain ⟨l1,l2,l3,l4,l5,l6,l7⟩:=x
  refine Tri.of (args:=[.pointer (some ⟨bV,0,none⟩)]) tabOk Tryz.func78 rfl (by kernel_rfl) (by kernel_rfl) ?_
  refine Tri.mono h0 ?_
  rintro v _ _ hJ ⟨rfl,rfl,rfl⟩
  refine LoadD.own k hk [.bool br] rfl rfl ?_
  cases br <;> exact Done.mk ⟨rfl,rfl,rfl⟩
theorem v_did (e:Int):Tri Tryz.prog 85 #[.pointer (some ⟨bV,0,none⟩),.int .i64 e] I [vChunk bV bD bJ bM x ep sl br] fun v J S'=>v=.int .i64 e∧I=J∧S'=[vChunk bV bD bJ bM x ep sl (br || decide (e≠0))]:=by
  obtain ⟨l1,l2,l3,l4,l5,l6,l7⟩:=x
  refine Tri.of (args:=[.pointer (some ⟨bV,0,none⟩),.int .i64 e]) tabOk Tryz.func85 rfl (by kernel_rfl) (by kernel_rfl) ?_
  refine LoadD.own 0 rfl [.bool br] rfl rfl ?_
  cases br
  · refine CmpD.split (fun c=>?_) (fun c=>?_)
    · refine StoreD.st 0 rfl rfl rfl ?_
      refine Done.mk ⟨rfl,rfl,?_⟩
      rw [decide_eq_false (by simpa using c)]; rfl
    · refine StoreD.st 0 rfl rfl rfl ?_
      refine Done.mk ⟨rfl,rfl,?_⟩
      rw [decide_eq_true (by simpa using c)]; rfl
  · refine StoreD.st 0 rfl rfl rfl ?_
    exact Done.mk ⟨rfl,rfl,rfl⟩
end
def Vk (J:Imm) (bV bD:Nat) (v:VSt) (ch:List Blk):Prop:=∃ (bJ bM:Nat) (ob:Obj) (chJ:List Blk) (gs:List Img),
  ch=vChunk bV bD bJ bM v.j.lay v.epoch v.slot v.broken++((bM,ob) :: chJ)∧Jk bJ bD v.j chJ∧MapR ob (gs.map hdr)∧(∀ g ∈ gs,ImgOk J g)∧gs.map Img.pr=v.fresh
theorem Vk.mono {I J:Imm} {bV bD:Nat} {v:VSt} {ch:List Blk} (h:Vk I bV bD v ch) (hJ:I.le J):Vk J bV bD v ch:=by
  obtain ⟨bJ,bM,ob,chJ,gs,h1,h2,h3,h4,h5⟩:=h
  exact ⟨bJ,bM,ob,chJ,gs,h1,h2,h3,fun g hg=>(h4 g hg).mono hJ,h5⟩
theorem vk_lay (bV bD bJ bM:Nat) (x:Lay) (ep sl:Int) (br:Bool) (ob:Obj) (chJ:List Blk):[vChunk bV bD bJ bM x ep sl br++((bM,ob) :: chJ)].flatten=[vChunk bV bD bJ bM x ep sl br,[(bM,ob)],chJ].flatten:=by simp
theorem vk_lay2 (bV bD bJ bM:Nat) (x:Lay) (ep sl:Int) (br:Bool) (ob:Obj) (chJ chD:List Blk):[vChunk bV bD bJ bM x ep sl br++((bM,ob) :: chJ),chD].flatten=[vChunk bV bD bJ bM x ep sl br,[(bM,ob)],chJ,chD].flatten:=by simp
theorem vk_Next {bV bD:Nat} {v:VSt} {ch:List Blk} {I:Imm} (h:Vk I bV bD v ch):Tri Tryz.prog 25 #[.pointer (some ⟨bV,0,none⟩)] I [ch] fun r J S'=>r=.int .i64 v.j.next∧I=J∧S'=[ch]:=by
  obtain ⟨bJ,bM,ob,chJ,gs,rfl,hj,hM,hg,hp⟩:=h
  refine Tri.lay (S2:=[vChunk bV bD bJ bM v.j.lay v.epoch v.slot v.broken,[(bM,ob)],chJ]) (vk_lay ..) ?_
  refine Tri.drop ?_ (fun _ _ _ _ h=>h)
  refine Tri.of (args:=[.pointer (some ⟨bV,0,none⟩)]) tabOk Tryz.func25 rfl (by kernel_rfl) (by kernel_rfl) ?_
  refine Tri.nf (v_none bV bD bJ bM _ _ _ _ I _ 0 rfl) ?_
  rintro r _ _ hJ ⟨rfl,rfl,rfl⟩
  repeat (first | refine LoadD.own 0 rfl _ rfl rfl ?_)
  refine Tri.frame1 2 rfl (jk_Next hj I) ?_
  rintro r _ A' hJ ⟨rfl,rfl,rfl⟩
  refine ⟨_,rfl,?_⟩
  exact Done.mk ⟨_,Drop.flat (vk_lay ..).symm,rfl,rfl,rfl⟩
theorem vk_Broken {bV bD:Nat} {v:VSt} {ch:List Blk} {I:Imm} (h:Vk I bV bD v ch):Tri Tryz.prog 28 #[.pointer (some ⟨bV,0,none⟩)] I [ch] fun r J S'=>r=.bool v.broken∧I=J∧S'=[ch]:=by
  obtain ⟨bJ,bM,ob,chJ,gs,rfl,hj,hM,hg,hp⟩:=h
  refine Tri.lay (S2:=[vChunk bV bD bJ bM v.j.lay v.epoch v.slot v.broken,[(bM,ob)],chJ]) (vk_lay ..) ?_
  refine Tri.drop ?_ (fun _ _ _ _ h=>h)
  refine Tri.of (args:=[.pointer (some ⟨bV,0,none⟩)]) tabOk Tryz.func28 rfl (by kernel_rfl) (by kernel_rfl) ?_
  refine Tri.nf (v_none bV bD bJ bM _ _ _ _ I _ 0 rfl) ?_
  rintro r _ _ hJ ⟨rfl,rfl,rfl⟩
  repeat (first | refine LoadD.own 0 rfl _ rfl rfl ?_)
  exact Done.mk ⟨_,Drop.flat (vk_lay ..).symm,rfl,rfl,rfl⟩
end Go.Proofs.YtegdcjnjnoeinaaGreat
namespace Go.Proofs.YtegdcjnjnoeinaaGreat
open Go.RowKit Go.Sl
set_option maxRecDepth 20000
theorem mget_hdr (gs:List Img) (n:Int):mget (gs.map hdr) n=none∧(gs.map Img.pr).lookup n=none∨∃ g ∈ gs,mget (gs.map hdr) n=some (.slice g.a g.len g.cap)∧(gs.map Img.pr).lookup n=some g.data:=by
  induction gs with
  | nil=>exact .inl ⟨rfl,rfl⟩
  | cons g gs ih =>
    show (mget ((g.blk,_) :: gs.map hdr) n=none∧List.lookup n ((g.blk,g.data) :: gs.map Img.pr)=none)∨∃ g' ∈ g :: gs,mget ((g.blk,_) :: gs.map hdr) n=_∧List.lookup n ((g.blk,g.data) :: gs.map Img.pr)=_
    unfold mget
    rw [List.lookup_cons,List.lookup_cons]
    cases h:(n == g.blk) with
    | true=>exact .inr ⟨g,by simp,rfl,rfl⟩
    | false =>
      rcases ih with ⟨h1,h2⟩ | ⟨g',hg',h1,h2⟩
      · exact .inl ⟨h1,h2⟩
      · exact .inr ⟨g',by simp [hg'],h1,h2⟩
theorem vk_Read {bV bD:Nat} {v:VSt} {ch:List Blk} {I:Imm} (h:Vk I bV bD v ch) {d:DSt} {chD:List Blk} (hD:Dk I bD d chD) (hfew:∀ g ∈ v.fresh,g.2.length≤1000000) (n:Int) :
    Tri Tryz.prog 17 #[.pointer (some ⟨bV,0,none⟩),.int .i64 n] I [ch,chD] fun r J S'=>∃ a cap chB,r=.tuple #[.slice a (v.read d n).1.length cap,.int .i64 (v.read d n).2]∧OwnB chB a (v.read d n).1.length cap (v.read d n).1∧I=J∧S'=[ch,chD,chB]:=by
  obtain ⟨bJ,bM,ob,chJ,gs,rfl,hj,hM,hg,hp⟩:=h
  refine Tri.lay (S2:=[vChunk bV bD bJ bM v.j.lay v.epoch v.slot v.broken,[(bM,ob)],chJ,chD]) (vk_lay2 ..) ?_
  refine Tri.drop ?_ (fun _ _ _ _ h=>h)
  refine Tri.of (args:=[.pointer (some ⟨bV,0,none⟩),.int .i64 n]) tabOk Tryz.func17 rfl (by kernel_rfl) (by kernel_rfl) ?_
  refine Tri.nf (v_wrong bV bD bJ bM _ _ _ _ I _ 0 rfl) ?_
  rintro r _ _ hJ ⟨rfl,rfl,rfl⟩
  have back:∀ (x:List Blk),Drop [vChunk bV bD bJ bM v.j.lay v.epoch v.slot v.broken,[(bM,ob)],chJ,chD,x] [vChunk bV bD bJ bM v.j.lay v.epoch v.slot v.broken++((bM,ob) :: chJ),chD,x]:=fun x=>Drop.flat (by simp)
  unfold VSt.read
  cases hb:v.broken
  · repeat (first | refine LoadD.own 0 rfl _ rfl rfl ?_ | refine CmpD.yes rfl ?_)
    refine lookupD tabOk rfl rfl rfl rfl rfl rfl 1 rfl hM ?_
    rw [if_neg (by simp)]
    rcases mget_hdr gs n with ⟨h1,h2⟩ | ⟨g,hgm,h1,h2⟩
    · rw [h1]
      rw [hp] at h2
      rw [h2]
      repeat (first | refine LoadD.own 0 rfl _ rfl rfl ?_)
      refine Tri.frame (dk_Read hD n) [3] rfl rfl ?_
      rintro r _ A' hJ ⟨a,cap,chB,rfl,hB,rfl,rfl⟩
      refine ⟨by simp,?_⟩
      rw [hb] at back
      exact Done.mk ⟨_,back chB,a,cap,chB,rfl,hB,rfl,rfl⟩
    · rw [h1]
      rw [hp] at h2
      rw [h2]
      have hr:=(hg g hgm).2
      have hl:g.data.length=g.len:=by have:=hr.len; rwa [bts_length] at this
      have hle:g.data.length≤1000000:=hfew g.pr (by rw [← hp]; exact List.mem_map_of_mem hgm)
      skip
      refine Tri.frameX (clone_bytes I [] g.a g.len g.cap (bts g.data) (by rw [Nat.mul_one]; exact hr.slC) (bts_plain g.data) (by omega)) [] rfl rfl ?_
      rintro r _ A' hJ ⟨a,cap,chB,rfl,hB,rfl,rfl⟩
      rw [hb] at back
      refine Done.mk ⟨_,back chB,a,cap,chB,?_,?_,rfl,rfl⟩
      · rw [← hl]; rfl
      · show OwnB chB a g.data.length cap g.data; rw [hl]; exact hB
  · repeat (first | refine CmpD.no (by decide) ?_)
    rw [if_pos rfl]
    rw [hb] at back
    exact Done.mk ⟨_,(Drop.and (Drop.refl _)).trans (back []),none,0,[],rfl,OwnC.nil _ _,rfl,rfl⟩
theorem flush_lay (j:JSt) (d:DSt):(j.flush d).1.lay=j.lay:=by
  unfold JSt.flush
  split
  · rfl
  · split <;> rfl
def Steps (P:Program):List Value→Imm→St→(Value→Imm→St→Prop)→Prop
  | [],I,S,K=>K (.int .i64 0) I S
  | f :: fs,I,S,K=>∃ (g:FuncId) (b c:List Value),f=.func (.func g) b.toArray c.toArray∧Tri P g (b++c).toArray I S fun v J S'=>∃ e:Int,v=.int .i64 e∧(e≠0→K v J S')∧(e=0→Steps P fs J S' K)
theorem forceL_of {l:List Value} {K:List Value→Prop} (h:K l):forceL l K:=by rw [forceL_eq]; exact h
theorem Tri.cast {P:Program} {f:FuncId} {args args':Array Value} {I:Imm} {S:St} {Q:Value→Imm→St→Prop} (e:args=args') (h:Tri P f args I S Q):Tri P f args' I S Q:=by subst e; exact h
theorem vol_first {I:Imm} {S:St} {K:Value→Imm→St→Prop} (a:Option Addr) (n cap:Nat) (fs:List Value) (hn:n≤1000) (hl:Rds I a n fs) (h:Steps Tryz.prog fs I S K):Tri Tryz.prog 91 #[.slice a n cap] I S K:=by
  have hfl:=hl.len
  refine Tri.of (args:=[.slice a n cap]) tabOk Tryz.func91 rfl (by kernel_rfl) (by kernel_rfl) ?_
  refine CodeF.loopD [6,7,8] (fun vs J' S'=>∃ (i:Nat),i≤n∧Steps Tryz.prog (fs.drop i) J' S' K∧I.le J'∧vs=[.slice a n cap,.int .i64 n,.int .i64 i])
    (fun vs _ _=>match vs with | [_,_,.int _ i]=>((n:Int) - i).toNat | _=>0) ?_ ?_
  · exact ⟨_,Drop.refl _,0,by omega,h,I.le_refl,rfl⟩
  rintro vs gE J' S' hJ' ⟨i,hi,hs,hle,rfl⟩
  refine CmpD.split (fun (c1:(i:Int) < n)=>?_) (fun (c1:¬ (i:Int) < n)=>?_)
  · rcases hl.mem with q0 | ⟨bL,oL,cL,TL,fL,rfl,hIL,hcL⟩
    · omega
    rw [List.drop_eq_getElem_cons (by omega)] at hs
    obtain ⟨g,b,c,hf,ht⟩:=hs
    have hcell:fs[i]?=some (.func (.func g) b.toArray c.toArray):=by rw [List.getElem?_eq_getElem (by omega),hf]
    refine Chk.mk (by omega) ?_
    refine LoadD.imm (hle _ _ hIL) [.func (.func g) b.toArray c.toArray] (take_get hcL hcell) rfl ?_
    refine forceL_of ?_
    refine Tri.cast (args:=(b++c).toArray) (by simp) (ht.mono ?_)
    rintro v J2 S2 hJ2 ⟨e,rfl,h1,h2⟩
    refine CmpD.split (fun c2=>?_) (fun c2=>?_)
    · refine ToD.to (((i+1:Nat)):Int) (by rw [wrap_i64 (by omega) (by omega)]; omega) ?_
      refine ⟨_,Drop.refl _,⟨i+1,by omega,h2 c2,Imm.le_trans hle hJ2,rfl⟩,?_⟩
      show ((n:Int) - ((i+1:Nat):Int)).toNat < ((n:Int) - (i:Int)).toNat; omega
    · exact Done.mk (h1 c2)
  · obtain rfl:i=n:=by omega
    rw [List.drop_of_length_le (by omega)] at hs
    exact Done.mk hs
end Go.Proofs.YtegdcjnjnoeinaaGreat
namespace Go.Proofs.YtegdcjnjnoeinaaGreat
open Go.RowKit Go.Sl
set_option maxRecDepth 20000
theorem JSt.Wf.append {j:JSt} (hj:j.Wf) {d:DSt} {l:List PImg} {held:Bool} (h8:j.groups.length≤999999):(j.appendB d l held).1.Wf:=by
  have hr:=hj.ring
  unfold JSt.appendB JSt.append
  split
  · exact hj
  split
  · exact hj
  rename_i hR
  have hR:RightP j.epoch j.next l:=Decidable.of_not_not hR
  split
  · exact hj
  generalize hp:putS j.s j.t j.u j.h (l.length+1) (if held then l.length+1 else 0)=q
  obtain ⟨⟨s,t,u,h,e⟩,at_⟩:=q
  dsimp only
  split
  · exact hj
  rename_i he
  have he:e=0:=Decidable.of_not_not he
  obtain ⟨e1,e2,h3,_,_⟩:=putS_mid hr hp he
  have hn:=hj.next
  have hs:=hj.synced
  have hl:=hR.2.2.2.2.2.1
  have hs2:=hR.2.2.2.1
  generalize wrAll (fun i=>j.lay.l+(at_+i) % s) (putP j.epoch.toNat j.next.toNat l) 0 d=q
  obtain ⟨d',e'⟩:=q
  dsimp only
  split
  · exact ⟨hj.log,h3,hj.epoch,hj.next,hj.synced,hj.few,hj.groups⟩
  · refine ⟨hj.log,h3,hj.epoch,?_,?_,?_,?_⟩
    · show 1≤j.next+1∧j.next+1≤_; omega
    · show 0≤j.synced∧j.synced < j.next+1; omega
    · show (j.groups++[_]).length≤_; simp; omega
    · intro g hg
      rcases List.mem_append.1 hg with hg | hg
      · exact hj.groups g hg
      · simp only [List.mem_singleton] at hg
        subst hg
        unfold In64; dsimp only; omega
theorem JSt.Wf.flush {j:JSt} (hj:j.Wf) (d:DSt):(j.flush d).1.Wf:=by
  have hn:=hj.next
  unfold JSt.flush
  split
  · exact hj
  split
  · exact ⟨hj.log,hj.ring,hj.epoch,hj.next,hj.synced,hj.few,hj.groups⟩
  · refine ⟨hj.log,hj.ring,hj.epoch,hj.next,?_,hj.few,hj.groups⟩
    show 0≤j.next - 1∧j.next - 1 < j.next; omega
theorem relAll_mid (seq:Int):∀ (gs:List (Int × Int)) (s t u h:Int) (gs':List (Int × Int)) (s' t' u' h' e:Int),Ok s t u h→relAll seq gs s t u h=(gs',(s',t',u',h',e))→Ok s' t' u' h'∧∃ k,gs'=gs.drop k
  | [],s,t,u,h,_,_,_,_,_,_,hr,he=>by
    rw [relAll] at he
    simp only [Prod.mk.injEq] at he
    obtain ⟨rfl,rfl,rfl,rfl,rfl,rfl⟩:=he
    exact ⟨hr,0,rfl⟩
  | g :: gs,s,t,u,h,gs',s',t',u',h',e,hr,he=>by
    rw [relAll] at he
    split at he
    · generalize hd:dropS s t u h g.2=q at he
      obtain ⟨s1,t1,u1,h1,e1⟩:=q
      dsimp only at he
      split at he
      · rename_i h0
        obtain ⟨h2,k,hk⟩:=relAll_mid seq gs s1 t1 u1 h1 gs' s' t' u' h' e (dropS_mid hr hd h0) he
        exact ⟨h2,k+1,hk⟩
      · simp only [Prod.mk.injEq] at he
        obtain ⟨rfl,rfl,rfl,rfl,rfl,rfl⟩:=he
        exact ⟨hr,0,rfl⟩
    · simp only [Prod.mk.injEq] at he
      obtain ⟨rfl,rfl,rfl,rfl,rfl,rfl⟩:=he
      exact ⟨hr,0,rfl⟩
theorem JSt.Wf.release {j:JSt} (hj:j.Wf) (seq:Int):(j.release seq).1.Wf:=by
  unfold JSt.release
  split
  · exact hj
  split
  · exact hj
  generalize hq:relAll seq j.groups j.s j.t j.u j.h=q
  obtain ⟨gs,s,t,u,h,e⟩:=q
  obtain ⟨h1,k,rfl⟩:=relAll_mid seq _ _ _ _ _ _ _ _ _ _ _ hj.ring hq
  exact ⟨hj.log,h1,hj.epoch,hj.next,hj.synced,by show (j.groups.drop k).length≤_; rw [List.length_drop]; have:=hj.few; omega,fun g hg=>hj.groups g (List.mem_of_mem_drop hg)⟩
theorem JSt.append_next {j:JSt} (hj:j.Wf) (h8:j.groups.length≤999999) {d:DSt} {l:List PImg} {held:Bool} (hb:j.broken=false) (hR:RightP j.epoch j.next l) (hs:(l.length:Int)+1≤j.s) (hd:d.Calm) (hlen:j.s+2≤d.now.length)
    {t u h at_:Int} (hp:putS j.s j.t j.u j.h (l.length+1) (if held then l.length+1 else 0)=((j.s,t,u,h,0),at_)) :
    ∃ j',j.appendB d l held=(j',wrD (fun i=>2+(at_+i) % j.s) (putP j.epoch.toNat j.next.toNat l) 0 d,j.next,0)∧j'.lay=j.lay∧j'.s=j.s∧j'.t=t∧j'.u=u∧j'.h=h∧j'.epoch=j.epoch∧j'.next=j.next+1∧j'.synced=j.synced∧j'.groups=j.groups++[(j.next,(l.length+1:Int))]∧j'.broken=false∧j'.Wf:=by
  have e:=JSt.append_calm hb hR hs hj.log hd hlen hp
  have w:=hj.append (d:=d) (l:=l) (held:=held) h8
  rw [e] at w
  exact ⟨_,e,rfl,rfl,rfl,rfl,rfl,rfl,rfl,rfl,rfl,hb,w⟩
theorem JSt.flush_next {j:JSt} (hj:j.Wf) {d:DSt} (hb:j.broken=false) (hd:d.Calm) :
    ∃ j',j.flush d=(j',{ d with safe:=d.now,writes:=[] },0)∧j'.lay=j.lay∧j'.s=j.s∧j'.t=j.t∧j'.u=j.u∧j'.h=j.h∧j'.epoch=j.epoch∧j'.next=j.next∧j'.synced=j.next - 1∧j'.groups=j.groups∧j'.broken=false∧j'.Wf:=by
  have e:j.flush d=({ j with synced:=j.next - 1 },{ d with safe:=d.now,writes:=[] },0):=by
    unfold JSt.flush DSt.flush
    rw [if_neg (by rw [hb]; simp),DSt.stop_calm hd]
    simp
  have w:=hj.flush d
  rw [e] at w
  exact ⟨_,e,rfl,rfl,rfl,rfl,rfl,rfl,rfl,rfl,rfl,hb,w⟩
theorem JSt.release_next {j:JSt} (hj:j.Wf) {seq:Int} (hb:j.broken=false) (hs:¬ j.synced < seq) {gs:List (Int × Int)} {s t u h e:Int} (hr:relAll seq j.groups j.s j.t j.u j.h=(gs,(s,t,u,h,e))) :
    ∃ j',j.release seq=(j',e)∧j'.lay=j.lay∧j'.s=s∧j'.t=t∧j'.u=u∧j'.h=h∧j'.epoch=j.epoch∧j'.next=j.next∧j'.synced=j.synced∧j'.groups=gs∧j'.broken=false∧j'.Wf:=by
  have e':j.release seq=({ j with s:=s,t:=t,u:=u,h:=h,groups:=gs },e):=by
    unfold JSt.release
    rw [if_neg (by rw [hb]; simp),if_neg hs,hr]
  have w:=hj.release seq
  rw [e'] at w
  exact ⟨_,e',rfl,rfl,rfl,rfl,rfl,rfl,rfl,rfl,rfl,hb,w⟩
end Go.Proofs.YtegdcjnjnoeinaaGreat
namespace Go.Proofs.YtegdcjnjnoeinaaGreat
open Go.RowKit Go.Sl
set_option maxRecDepth 20000
end Go.Proofs.YtegdcjnjnoeinaaGreat
namespace Go.Proofs.YtegdcjnjnoeinaaGreat
open Go.RowKit Go.Sl
def pickS (n m:Int):Int:=if m≤0 then 0 else n % m
theorem pickS_range {n m:Int} (h:0 < m):0≤pickS n m∧pickS n m < m:=by
  unfold pickS
  rw [if_neg (by omega)]
  exact ⟨Int.emod_nonneg _ (by omega),Int.emod_lt_of_pos _ h⟩
theorem emod_of_tmod (n m:Int) (hm:0 < m):n % m=if n.tmod m < 0 then n.tmod m+m else n.tmod m:=by
  have h1:n=m * n.tdiv m+n.tmod m:=(Int.mul_tdiv_add_tmod n m).symm
  have h2:=Int.tmod_lt_of_pos n hm
  have h3:-m < n.tmod m:=by
    have h4:=Int.tmod_lt_of_pos (-n) hm
    rw [Int.neg_tmod] at h4; omega
  split
  · have e:n=(n.tmod m+m)+m * (n.tdiv m - 1):=by
      conv=>lhs; rw [h1]
      rw [Int.mul_sub]; omega
    conv=>lhs; rw [e]
    rw [Int.add_mul_emod_self_left,Int.emod_eq_of_lt (by omega) (by omega)]
  · have e:n=n.tmod m+m * n.tdiv m:=by omega
    conv=>lhs; rw [e]
    rw [Int.add_mul_emod_self_left,Int.emod_eq_of_lt (by omega) (by omega)]
theorem low_Pick (n m:Int) (I:Imm) (_hn:In64 n) (hm:In64 m):Tri Tryz.prog 32 #[.int .i64 n,.int .i64 m] I [] fun v J _=>v=.int .i64 (pickS n m)∧I=J:=by
  unfold In64 at *
  refine Tri.of (args:=[.int .i64 n,.int .i64 m]) tabOk Tryz.func32 rfl (by kernel_rfl) (by kernel_rfl) ?_
  refine CmpD.split (fun c=>?_) (fun c=>?_)
  · refine Done.mk ⟨?_,rfl⟩
    rw [pickS,if_pos c]; rfl
  have h2:=Int.tmod_lt_of_pos n (show 0 < m by omega)
  have h3:-m < n.tmod m:=by
    have h4:=Int.tmod_lt_of_pos (-n) (show 0 < m by omega)
    rw [Int.neg_tmod] at h4; omega
  have e:=emod_of_tmod n m (by omega)
  refine Chk.mk (by omega) ?_
  refine ToD.to (n.tmod m) rfl ?_
  refine CmpD.split (fun c2=>?_) (fun c2=>?_)
  · refine ToD.i64 (by omega) (by omega) ?_
    refine Done.mk ⟨?_,rfl⟩
    rw [pickS,if_neg c,e,if_pos c2]; rfl
  · refine Done.mk ⟨?_,rfl⟩
    rw [pickS,if_neg c,e,if_neg c2]; rfl
end Go.Proofs.YtegdcjnjnoeinaaGreat
namespace Go.Proofs.YtegdcjnjnoeinaaGreat
open Go.RowKit Go.Sl
set_option maxRecDepth 20000
def im9 (n:Nat) (seed:Int):List PImg:=(List.range n).map fun (i:Nat)=>(30+(i:Int),madeL (IntKind.i64.wrap (seed+(i:Int))) 4096)
structure Ims where
  a:Option Addr
  cap:Nat
  gs:List Img
@[reducible] def Ims.cell (m:Ims):Value:=.slice m.a m.gs.length m.cap
end Go.Proofs.YtegdcjnjnoeinaaGreat
namespace Go.Proofs.YtegdcjnjnoeinaaGreat
open Go.RowKit Go.Sl
set_option maxRecDepth 20000
end Go.Proofs.YtegdcjnjnoeinaaGreat
namespace Go.Proofs.YtegdcjnjnoeinaaGreat
open Go.RowKit Go.Sl
set_option maxRecDepth 20000
theorem put_get {d:DSt} {p:Nat} {n:Nat} {b:Dat} (h:n≠p):(d.put (n:Int) b).now[p]?=d.now[p]?:=by
  show (d.now.set _ _)[p]?=_
  rw [Int.toNat_natCast,List.getElem?_set_ne h]
theorem put_hit {d:DSt} {p:Nat} {b:Dat} (h:p < d.now.length):(d.put (p:Int) b).now[p]?=some b:=by
  show (d.now.set _ _)[p]?=_
  rw [Int.toNat_natCast,List.getElem?_set_self h]
theorem wrD_miss (f:Nat→Nat) (p:Nat):∀ (bs:List Dat) (i:Nat) (d:DSt),(∀ k,k < bs.length→f (i+k)≠p)→(wrD (fun k=>(f k:Int)) bs i d).now[p]?=d.now[p]?
  | [],_,_,_=>rfl
  | b :: bs,i,d,h=>by
    rw [wrD,wrD_miss f p bs (i+1) _ (fun k hk=>by have:=h (k+1) (by simp; omega); rwa [show i+(k+1)=i+1+k by omega] at this)]
    exact put_get (h 0 (by simp))
theorem wrD_hit (f:Nat→Nat) (p:Nat):∀ (bs:List Dat) (i:Nat) (d:DSt) (k:Nat),(hk:k < bs.length)→f (i+k)=p→(∀ k',k < k'→k' < bs.length→f (i+k')≠p)→p < d.now.length→(wrD (fun k=>(f k:Int)) bs i d).now[p]?=some bs[k]
  | [],_,_,k,hk,_,_,_=>by simp at hk
  | b :: bs,i,d,0,_,hf,hno,hp=>by
    rw [wrD,wrD_miss f p bs (i+1) _ (fun k' hk'=>by have:=hno (k'+1) (by omega) (by simp; omega); rwa [show i+(k'+1)=i+1+k' by omega] at this)]
    have hf:f i=p:=hf
    show (d.put (f i:Int) b).now[p]?=_
    rw [hf,put_hit hp]; rfl
  | b :: bs,i,d,k+1,hk,hf,hno,hp=>by
    rw [wrD]
    have:=wrD_hit f p bs (i+1) (d.put (f i:Int) b) k (by simpa using hk) (by rw [show i+1+k=i+(k+1) by omega]; exact hf) (fun k' h1 h2=>by have:=hno (k'+1) (by omega) (by simp; omega); rwa [show i+(k'+1)=i+1+k' by omega] at this) (by rw [DSt.put_len]; exact hp)
    simpa using this
def usedP (l:List (List PImg)):Nat:=(l.map fun g=>g.length+1).sum
def ringB (ep:Nat):Nat→List (List PImg)→List Dat
  | _,[]=>[]
  | sq,g :: l=>putP ep sq g++ringB ep (sq+1) l
theorem ringB_length (ep:Nat):∀ (l:List (List PImg)) (sq:Nat),(ringB ep sq l).length=usedP l
  | [],_=>rfl
  | g :: l,sq=>by rw [ringB,List.length_append,putP_length,ringB_length ep l]; simp [usedP]
theorem ringB_snoc (ep:Nat):∀ (l:List (List PImg)) (sq:Nat) (g:List PImg),ringB ep sq (l++[g])=ringB ep sq l++putP ep (sq+l.length) g
  | [],sq,g=>by simp [ringB]
  | x :: l,sq,g=>by
    rw [List.cons_append,ringB,ringB_snoc ep l,ringB,List.append_assoc,List.length_cons,show sq+1+l.length=sq+(l.length+1) by omega]
theorem usedP_snoc (l:List (List PImg)) (g:List PImg):usedP (l++[g])=usedP l+(g.length+1):=by simp [usedP]
theorem usedP_ge (l:List (List PImg)):l.length≤usedP l:=by
  unfold usedP
  induction l with
  | nil=>simp
  | cons g l ih=>simp; omega
theorem DSt.Wf.put {d:DSt} (h:d.Wf) (hc:d.Calm) {n:Int} {b:Dat} (hn:0≤n∧n < d.now.length) (hb:b.length=4096):(d.put n b).Wf:=by
  have:=h.write n b
  rwa [DSt.write_calm hc hn hb] at this
theorem wrD_wf (f:Nat→Int):∀ (bs:List Dat) (i:Nat) (d:DSt),d.Wf→d.Calm→(∀ b ∈ bs,b.length=4096)→(∀ k,0≤f k∧f k < d.now.length)→(wrD f bs i d).Wf
  | [],_,_,h,_,_,_=>h
  | b :: bs,i,d,h,hc,hb,hf=>wrD_wf f bs (i+1) _ (h.put hc (hf i) (hb b (by simp))) (hc.put _ _) (fun x hx=>hb x (by simp [hx])) (by rw [DSt.put_len]; exact hf)
end Go.Proofs.YtegdcjnjnoeinaaGreat
namespace Go.Proofs.YtegdcjnjnoeinaaGreat
open Go.RowKit Go.Sl
set_option maxRecDepth 20000
theorem scan_stop {rb:Nat→Dat} {ep:Int} {f at_ room:Nat} {seq:Int} (h:∀ e s l,grpP rb at_ room=some (e,s,l)→¬ ((e:Int)=ep∧(s:Int)=seq)):scanK rb ep f at_ seq room=[]:=by
  cases f with
  | zero=>rfl
  | succ f =>
    rw [scanK]
    cases hg:grpP rb at_ room with
    | none=>rfl
    | some p =>
      obtain ⟨e,s,l⟩:=p
      dsimp only
      rw [if_neg (h e s l hg)]
theorem hd_noughts:hdP noughts=none:=by
  have h0:(numV noughts 0 8).1=0:=by
    unfold numV noughts
    rw [if_neg (by rw [List.length_replicate]; omega)]
    simp [nb]
  unfold hdP hbE
  rw [h0,if_neg (fun h=>by have:=h.1.1; simp at this)]
theorem grpP_none {rb:Nat→Dat} {at_ room:Nat} (h:hdP (rb at_)=none):grpP rb at_ room=none:=by unfold grpP; rw [h]
theorem layL64:layL (64:Int)=16:=by decide
end Go.Proofs.YtegdcjnjnoeinaaGreat
namespace Go.Proofs.YtegdcjnjnoeinaaGreat
open Go.RowKit Go.Sl
set_option maxRecDepth 20000
def grL:Nat→List (List PImg)→List (Int × Int)
  | _,[]=>[]
  | sq,l :: ls=>((sq:Int),((l.length:Int)+1)) :: grL (sq+1) ls
theorem grL_length:∀ (ls:List (List PImg)) (sq:Nat),(grL sq ls).length=ls.length
  | [],_=>rfl
  | _ :: ls,sq=>by rw [grL,List.length_cons,grL_length ls,List.length_cons]
theorem grL_snoc:∀ (ls:List (List PImg)) (sq:Nat) (l:List PImg),grL sq (ls++[l])=grL sq ls++[(((sq+ls.length:Nat):Int),((l.length:Int)+1))]
  | [],sq,l=>rfl
  | x :: ls,sq,l=>by
    rw [List.cons_append,grL,grL_snoc ls,grL,List.length_cons,show sq+1+ls.length=sq+(ls.length+1) by omega]; rfl
theorem rel_gr:∀ (m:Nat) (ls:List (List PImg)) (sq t0:Nat) (u h:Int),m < ls.length→(usedP ls:Int)=u→Ok 16 ((t0 % 16:Nat):Int) u h →
    relAll ((sq+m:Nat):Int) (grL sq ls) 16 ((t0 % 16:Nat):Int) u h=(grL (sq+(m+1)) (ls.drop (m+1)),(16,(((t0+usedP (ls.take (m+1))) % 16:Nat):Int),((usedP (ls.drop (m+1)):Nat):Int),h,0))
  | m,[],_,_,_,_,hm,_,_=>by simp at hm
  | m,l :: ls,sq,t0,u,h,hm,hu,hr=>by
    have hul:usedP (l :: ls)=(l.length+1)+usedP ls:=by simp [usedP]
    have hr2:=hr
    unfold Ok at hr2
    rw [grL,relAll,if_pos (by show ((sq:Nat):Int)≤_; omega)]
    have hd:dropS 16 ((t0 % 16:Nat):Int) u h ((l.length:Int)+1)=(16,(((t0+(l.length+1)) % 16:Nat):Int),((usedP ls:Nat):Int),h,0):=by
      unfold dropS
      rw [if_neg (by rintro (h | h | h); exact h hr; omega; omega)]
      congr 1
      congr 1
      · omega
      · congr 1; omega
    dsimp only
    rw [hd]
    dsimp only
    rw [if_pos rfl]
    cases m with
    | zero =>
      rw [show (l :: ls).take (0+1)=[l] by rfl,show (l :: ls).drop (0+1)=ls by rfl,show usedP [l]=l.length+1 by simp [usedP]]
      cases ls with
      | nil=>rfl
      | cons x ls =>
        rw [grL,relAll,if_neg (by show ¬ (((sq+1:Nat):Int)≤((sq+0:Nat):Int)); omega)]
    | succ m =>
      have ih:=rel_gr m ls (sq+1) (t0+(l.length+1)) ((usedP ls:Nat):Int) h (by simpa using hm) rfl (by unfold Ok; omega)
      rw [show sq+(m+1)=sq+1+m by omega,ih]
      rw [show (l :: ls).take (m+1+1)=l :: ls.take (m+1) by rfl,show (l :: ls).drop (m+1+1)=ls.drop (m+1) by rfl,show usedP (l :: ls.take (m+1))=(l.length+1)+usedP (ls.take (m+1)) by simp [usedP],Nat.add_assoc t0]
      rw [show sq+1+(m+1)=sq+1+m+1 by omega,show sq+(m+1+1)=sq+1+m+1 by omega]
end Go.Proofs.YtegdcjnjnoeinaaGreat
namespace Go.Proofs.YtegdcjnjnoeinaaGreat
open Go.RowKit Go.Sl
set_option maxRecDepth 20000
theorem dk_ReadK {I:Imm} {bD:Nat} {st:DSt} {ch:List Blk} (h:Dk I bD st ch) (hdn:st.down=false) (k:Nat) (hk:k < st.now.length) :
    Tri Tryz.prog 39 #[.pointer (some ⟨bD,0,none⟩),.int .i64 k] I [ch] fun v J S'=>∃ bk:Bk,v=.tuple #[bk.cell,.int .i64 0]∧bk.data=st.now.getD k []∧BkOk J bk∧4096≤bk.cap∧Dk J bD st ch∧S'=[ch]:=by
  have hb4:(st.now.getD k []).length=4096:=by
    rw [List.getD_eq_getElem?_getD,List.getElem?_eq_getElem hk]
    exact h.wf.now _ (List.getElem_mem _)
  have hr:=dk_Read h (k:Int)
  rw [read_up h.wf hdn hk] at hr
  refine Tri.drop (Tri.fixed hr (K:=fun v J S'=>∃ bk:Bk,v=.tuple #[bk.cell,.int .i64 0]∧bk.data=st.now.getD k []∧BkOk J bk∧4096≤bk.cap∧Dk J bD st ch∧S'=[ch,[]]) ?_) ?_
  · rintro v J S' hJ ⟨a,cap,chB,rfl,hB,rfl,rfl⟩
    dsimp only at hB ⊢
    rw [hb4] at hB
    refine ⟨1,chB,rfl,fun J' hJ' hm=>⟨⟨a,cap,st.now.getD k []⟩,by rw [hb4],rfl,Rds.of_own hB hm,hB.le,h.mono hJ',rfl⟩⟩
  · rintro v J S' hJ ⟨bk,h1,h2,h3,h4,h5,rfl⟩
    exact ⟨[ch],Drop.pick [0] _ rfl,bk,h1,h2,h3,h4,h5,rfl⟩
end Go.Proofs.YtegdcjnjnoeinaaGreat
namespace Go.Proofs.YtegdcjnjnoeinaaGreat
open Go.RowKit Go.Sl
set_option maxRecDepth 20000
theorem dk_ReadDown {I:Imm} {bD:Nat} {st:DSt} {ch:List Blk} (h:Dk I bD st ch) (hdn:st.down=true) (k:Nat) (hk:k < st.now.length) :
    Tri Tryz.prog 39 #[.pointer (some ⟨bD,0,none⟩),.int .i64 k] I [ch] fun v J S'=>∃ a cap,v=.tuple #[.slice a 0 cap,.int .i64 6]∧I=J∧S'=[ch]:=by
  have hr:=dk_Read h (k:Int)
  rw [read_down h.wf hdn hk] at hr
  refine Tri.drop hr ?_
  rintro v J S' hJ ⟨a,cap,chB,rfl,hB,rfl,rfl⟩
  exact ⟨[ch],Drop.pick [0] _ rfl,a,cap,rfl,rfl,rfl⟩
theorem get_data_len {d:DSt} (h:d.Wf) {k:Nat} (hk:k < d.now.length):(d.now.getD k []).length=4096:=by
  rw [List.getD_eq_getElem?_getD,List.getElem?_eq_getElem hk]
  exact h.now _ (List.getElem_mem _)
theorem v_found {I:Imm} {bD:Nat} {d:DSt} {chD:List Blk} (hD:Dk I bD d chD) (hlen:64≤d.now.length) :
    Tri Tryz.prog 106 #[.pointer (some ⟨bD,0,none⟩),(layOf d.now.length).v] I [chD] fun r J S'=>r=.tuple #[(foundP d).1.v,.int .i64 (foundP d).2.1,.int .i64 (foundP d).2.2]∧Dk J bD d chD∧S'=[chD]:=by
  have hr:=hD.wf.range
  refine Tri.drop ?_ (fun _ _ _ _ h=>h)
  refine Tri.of (args:=[.pointer (some ⟨bD,0,none⟩),(layOf d.now.length).v]) tabOk Tryz.func106 rfl (by kernel_rfl) (by kernel_rfl) ?_
  conv=>whnf
  intro b3
  conv=>whnf
  intro b4
  unfold foundP
  by_cases hdn:d.down=true
  · rw [if_pos hdn]
    refine Tri.frame1 0 rfl (dk_ReadDown hD hdn 0 (by omega)) ?_
    rintro r _ A' hJ ⟨a,cap,rfl,rfl,rfl⟩
    refine ⟨_,rfl,?_⟩
    repeat (first | refine LoadD.own 2 rfl _ rfl rfl ?_ | refine StoreD.st 2 rfl rfl rfl ?_ | refine CmpD.no (by decide) ?_)
    exact Done.mk ⟨_,Drop.pick [0] _ rfl,rfl,hD,rfl⟩
  rw [if_neg hdn]
  have hdn:d.down=false:=by simpa using hdn
  refine Tri.frame1 0 rfl (dk_ReadK hD hdn 0 (by omega)) ?_
  rintro r J1 A' hJ1 ⟨bk0,rfl,hd0,hk0,hc0,hD1,rfl⟩
  refine ⟨_,rfl,?_⟩
  repeat (first | refine CmpD.yes rfl ?_)
  refine Tri.frame1 0 rfl (dk_ReadK hD1 hdn 1 (by omega)) ?_
  rintro r J2 A' hJ2 ⟨bk1,rfl,hd1,hk1,hc1,hD2,rfl⟩
  refine ⟨_,rfl,?_⟩
  repeat (first | refine CmpD.yes rfl ?_)
  refine Tri.free (replay_Choose (hk0.mono hJ2) hk1 (by omega) (by omega)) ?_
  rintro r _ _ hJ3 ⟨rfl,rfl⟩
  rw [hd0,hd1]
  generalize chooseP (getS (d.now.getD 0 [])) (getS (d.now.getD 1 []))=cp
  obtain ⟨⟨s1,s2,s3,s4⟩,slot,ok⟩:=cp
  dsimp only
  conv=>whnf
  intro b10
  repeat (first | refine StoreD.st 3 rfl rfl rfl ?_)
  refine CodeF.sched [[],[0],[0,1],[0,1,2],[0,1,2,3],[0,1,2],[0,1,2,5],[0,1,2,3,4,5,6],[0,1,2,3,4,5,6,7],[0,1,2,3,4,5,6,7,8],[0,1,2,3,4,5,6,7,8,9],[0,1,2,3,4,5,6,7,8,9,10],[0,1,2,3,4,5,6,7,8,9],[0,1,2,3,4,5,6,7,8,9,12],[0,1,2,3,4,5,6,7,8,9,10,11,12,13],[0,1,2,3,4,5,6,7,8,9,10,11,12,13,14],[0,1,2,3,4,5,6,7,8,9,10,11,12,13,14,15],[0,1,2,3,4,5,6,7,8,9,10,11,12,13,14,15,16],[0,1,2,3,4,5,6,7,8,9,10,11,12,13,14,15,16,17],[0,1,2,3,4,5,6,7,8,9,10,11,12,13,14,15,16,17,18],[0,1,2,3,4,5,6,7,8,9,10,11,12,13,14,15,16,17,18,19]] [0,1,2,3,4,5,6,7,8,9,10,11,12,13,14,15,16,17,18,19,20] (by kernel_rfl) ?_
  have hl7:(layOf (d.now.length:Int)).lb=layL d.now.length:=rfl
  cases ok
  · rw [if_pos (.inl rfl)]
    repeat (first | refine LoadD.own 2 rfl _ rfl rfl ?_ | refine StoreD.st 2 rfl rfl rfl ?_)
    exact Done.mk ⟨_,Drop.pick [0] _ rfl,rfl,hD2,rfl⟩
  repeat (first | refine LoadP.at 3 rfl _ rfl rfl ?_)
  refine Tri.frame1 0 rfl (dk_Size hD2) ?_
  rintro r _ A' hJ4 ⟨rfl,rfl,rfl⟩
  refine ⟨_,rfl,?_⟩
  repeat (first | refine Chk.mk ⟨rfl,trivial⟩ ?_)
  refine CmpD.split (fun (c1:s1=(d.now.length:Int))=>?_) (fun (c1:¬ s1=(d.now.length:Int))=>?_)
  rotate_left
  · rw [if_pos (.inr (.inl c1))]
    repeat (first | refine LoadD.own 2 rfl _ rfl rfl ?_ | refine StoreD.st 2 rfl rfl rfl ?_)
    exact Done.mk ⟨_,Drop.pick [0] _ rfl,rfl,hD2,rfl⟩
  repeat (first | refine LoadP.at 1 rfl _ rfl rfl ?_ | refine LoadP.at 3 rfl _ rfl rfl ?_)
  refine CmpD.split (fun (c2:layL d.now.length≤s4)=>?_) (fun (c2:¬ layL d.now.length≤s4)=>?_)
  · rw [if_pos (.inr (.inr (.inl c2)))]
    repeat (first | refine LoadD.own 2 rfl _ rfl rfl ?_ | refine StoreD.st 2 rfl rfl rfl ?_)
    exact Done.mk ⟨_,Drop.pick [0] _ rfl,rfl,hD2,rfl⟩
  repeat (first | refine LoadP.at 3 rfl _ rfl rfl ?_)
  refine CmpD.split (fun (c3:8388608≤s2)=>?_) (fun (c3:¬ 8388608≤s2)=>?_)
  · rw [if_pos (.inr (.inr (.inr c3)))]
    repeat (first | refine LoadD.own 2 rfl _ rfl rfl ?_ | refine StoreD.st 2 rfl rfl rfl ?_)
    exact Done.mk ⟨_,Drop.pick [0] _ rfl,rfl,hD2,rfl⟩
  rw [if_neg (by rintro (h | h | h | h); exact Bool.noConfusion h; exact h c1; exact c2 h; exact c3 h)]
  repeat (first | refine LoadD.own 2 rfl _ rfl rfl ?_ | refine LoadD.own 3 rfl _ rfl rfl ?_ | refine StoreD.st 2 rfl rfl rfl ?_)
  exact Done.mk ⟨_,Drop.pick [0] _ rfl,rfl,hD2,rfl⟩
end Go.Proofs.YtegdcjnjnoeinaaGreat
namespace Go.Proofs.YtegdcjnjnoeinaaGreat
open Go.RowKit Go.Sl
set_option maxRecDepth 20000
theorem rel_lay (j:JSt) (q:Int):(j.release q).1.lay=j.lay:=by
  unfold JSt.release
  split
  · rfl
  · split <;> rfl
theorem ckS_lay (v:VSt) (d:DSt):(v.ckS d).2.1.lay=v.j.lay:=by
  unfold VSt.ckS
  split
  · exact flush_lay _ _
  · split
    · exact flush_lay _ _
    · show (JSt.release _ _).1.lay=_
      rw [rel_lay,flush_lay]
theorem jflush_few {j:JSt} {d:DSt} {k:Nat} (h:d.Few k):(j.flush d).2.1.Few k:=by
  unfold JSt.flush
  split
  · exact h
  · split <;> exact h.flush
theorem ck1 {I:Imm} {bV bD bJ bM b1 b4 b8:Nat} {x:Lay} {ep sl:Int} {br:Bool} {d:DSt} {chD:List Blk} (hD:Dk I bD d chD) (hf:d.Few 800000) (aI:Option Addr) (capI:Nat) (outs:List Img) (hi:ImgsOk I aI outs) (hol:outs.length≤1000) (s:Sup) :
    Tri Tryz.prog 92 #[.pointer (some ⟨b1,0,none⟩),.pointer (some ⟨b4,0,none⟩),.pointer (some ⟨b8,0,none⟩)] I [vChunk bV bD bJ bM x ep sl br,pBox b1 (.pointer (some ⟨bV,0,none⟩)) 23,pBox b4 (.slice aI outs.length capI) 26,[(b8,row [.int .i64 s.blocks,.int .i64 s.epoch,.int .i64 s.seq,.int .i64 s.tail] 143)],chD]
      fun r J S'=>r=.int .i64 (doP d (outs.map Img.pr) s sl).2∧∃ chD',Dk J bD (doP d (outs.map Img.pr) s sl).1 chD'∧S'=[vChunk bV bD bJ bM x ep sl br,pBox b1 (.pointer (some ⟨bV,0,none⟩)) 23,pBox b4 (.slice aI outs.length capI) 26,[(b8,row [.int .i64 s.blocks,.int .i64 s.epoch,.int .i64 s.seq,.int .i64 s.tail] 143)],chD']:=by
  obtain ⟨l1,l2,l3,l4,l5,l6,l7⟩:=x
  refine Tri.of (args:=[.pointer (some ⟨b1,0,none⟩),.pointer (some ⟨b4,0,none⟩),.pointer (some ⟨b8,0,none⟩)]) tabOk Tryz.func92 rfl (by kernel_rfl) (by kernel_rfl) ?_
  refine CodeF.sched [[],[0],[0,1],[0,1,2],[],[],[],[6],[6,7],[6,7,8],[0,1,2,3,4,5,6,7,8,9],[0,1,2,3,4,5,6,7,8,9,10]] [0,1,2,3,4,5,6,7,8,9,10,11] (by kernel_rfl) ?_
  repeat (first | refine LoadP.at 0 rfl _ rfl rfl ?_ | refine LoadP.at 1 rfl _ rfl rfl ?_ | refine LoadP.at 2 rfl _ rfl rfl ?_ | refine LoadP.at 3 rfl _ rfl rfl ?_)
  refine Tri.frame1 4 rfl (dk_Do hD 800000 hf aI capI outs hi (by omega) s sl) ?_
  rintro r J A' hJ ⟨rfl,chD2,hD2,rfl⟩
  refine ⟨_,rfl,?_⟩
  exact Done.mk ⟨rfl,chD2,hD2,rfl⟩
theorem ck2 {I:Imm} {bV bD bJ bM b1:Nat} {x:Lay} {ep sl:Int} {br:Bool} {j:JSt} {chJ:List Blk} (hj:Jk bJ bD j chJ) (hw:j.Wf) :
    Tri Tryz.prog 94 #[.pointer (some ⟨b1,0,none⟩)] I [vChunk bV bD bJ bM x ep sl br,pBox b1 (.pointer (some ⟨bV,0,none⟩)) 23,chJ]
      fun r J S'=>I=J∧r=.int .i64 (j.release j.synced).2∧∃ chJ',Jk bJ bD (j.release j.synced).1 chJ'∧S'=[vChunk bV bD bJ bM x ep sl br,pBox b1 (.pointer (some ⟨bV,0,none⟩)) 23,chJ']:=by
  obtain ⟨l1,l2,l3,l4,l5,l6,l7⟩:=x
  refine Tri.of (args:=[.pointer (some ⟨b1,0,none⟩)]) tabOk Tryz.func94 rfl (by kernel_rfl) (by kernel_rfl) ?_
  refine CodeF.sched [[],[0],[0,1],[0,1,2],[],[4],[4,5],[4,5,6],[4,5,6,7],[0,1,2,3,4,5,6,7,8],[0,1,2,3,4,5,6,7,8,9]] [0,1,2,3,4,5,6,7,8,9,10] (by kernel_rfl) ?_
  repeat (first | refine LoadP.at 0 rfl _ rfl rfl ?_ | refine LoadP.at 1 rfl _ rfl rfl ?_)
  refine Tri.frame1 2 rfl (jk_Synced hj I) ?_
  rintro r _ A' hJ ⟨rfl,rfl,rfl⟩
  refine ⟨_,rfl,?_⟩
  repeat (first | refine Chk.mk ⟨rfl,rfl,trivial⟩ ?_)
  refine Tri.frame1 2 rfl (jk_Release hj hw j.synced I) ?_
  rintro r _ A' hJ ⟨rfl,rfl,chJ2,hj2,rfl⟩
  refine ⟨_,rfl,?_⟩
  skip
  exact Done.mk ⟨rfl,rfl,chJ2,hj2,rfl⟩
set_option maxHeartbeats 8000000 in
theorem vk_Checkpoint {bV bD:Nat} {v:VSt} {ch:List Blk} {I:Imm} (h:Vk I bV bD v ch) (hw:v.j.Wf) (hsl:0≤v.slot∧v.slot≤1) (hfr:v.fresh.length≤1000) {d:DSt} {chD:List Blk} (hD:Dk I bD d chD) (hf:d.Few 800000) :
    Tri Tryz.prog 24 #[.pointer (some ⟨bV,0,none⟩)] I [ch,chD] fun r J S'=>r=.int .i64 (v.ckpt d).2.2∧∃ ch' chD',Vk J bV bD (v.ckpt d).1 ch'∧Dk J bD (v.ckpt d).2.1 chD'∧S'=[ch',chD']:=by
  have h0:=h
  obtain ⟨bJ,bM,ob,chJ,gs,rfl,hj,hM,hg,hp⟩:=h
  have hgl:gs.length≤1000:=by rw [← hp,List.length_map] at hfr; exact hfr
  refine Tri.lay (S2:=[vChunk bV bD bJ bM v.j.lay v.epoch v.slot v.broken,[(bM,ob)],chJ,chD]) (vk_lay2 ..) ?_
  refine Tri.drop ?_ (fun _ _ _ _ h=>h)
  refine Tri.of (args:=[.pointer (some ⟨bV,0,none⟩)]) tabOk Tryz.func24 rfl (by kernel_rfl) (by kernel_rfl) ?_
  conv=>whnf
  intro b1
  repeat (first | refine LoadD.own 4 rfl _ rfl rfl ?_)
  refine Tri.nf (v_wrong bV bD bJ bM _ _ _ _ I _ 0 rfl) ?_
  rintro r _ _ hJ ⟨rfl,rfl,rfl⟩
  cases hb:v.broken
  rotate_left
  · repeat (first | refine CmpD.no (by decide) ?_)
    unfold VSt.ckpt
    rw [if_pos hb]
    exact Done.mk ⟨_,(Drop.pick [0,1,2,3] _ rfl).trans (Drop.flat (by simp [St.at,hb])),rfl,_,chD,h0,hD,rfl⟩
  repeat (first | refine CmpD.yes rfl ?_)
  conv=>whnf
  intro b4
  repeat (first | refine LoadD.own 0 rfl _ rfl rfl ?_ | refine LoadD.own 4 rfl _ rfl rfl ?_)
  refine Tri.nf (keys_of bM I _) ?_
  rintro r _ S' hJ2 ⟨bk,rfl,rfl,rfl⟩
  refine Tri.frameX (sorted_keys bk bM ob (gs.map hdr) hM (by rw [List.length_map]; omega) I) [6,1] rfl rfl ?_
  rintro r JK A' hJK ⟨aK,capK,chK,rfl,hK,hleK,rfl⟩
  rw [List.length_map] at hK ⊢
  have hkl:(keysOf (gs.map hdr)).length=gs.length:=by rw [keysOf_length,List.length_map]
  have hkm:∀ n ∈ keysOf (gs.map hdr),n ∈ gs.map Img.blk:=by
    intro n hn
    unfold keysOf at hn
    have:=(sortI_perm _).mem_iff.1 hn
    rw [List.map_map] at this; exact this
  have hkf:keysOf (gs.map hdr)=sortI (v.fresh.map Prod.fst):=by
    unfold keysOf
    rw [← hp,List.map_map,List.map_map]; rfl
  obtain ⟨KS,hKS⟩:∃ KS,KS=keysOf (gs.map hdr):=⟨_,rfl⟩
  rw [← hKS] at hK hkl hkm hkf
  obtain ⟨n,hn⟩:∃ n,n=gs.length:=⟨_,rfl⟩
  rw [← hn] at hK hkl hgl ⊢
  have hg:=fun g hgm=>(hg g hgm).mono hJK
  have hD:=hD.mono hJK
  refine CodeF.loopD [1,4,20,21,22] (fun vs J' S'=>∃ (k:Nat) (aI:Option Addr) (capI:Nat) (chI:List Blk) (outs:List Img),k≤n∧outs.length=k∧OwnC chI 2 aI k capI (imgCells outs)∧(∀ g ∈ outs,ImgOk JK g)∧outs.map Img.pr=(KS.take k).map (fun n=>(n,(v.fresh.lookup n).getD [])) ∧
      vs=[.pointer (some ⟨b1,0,none⟩),.pointer (some ⟨b4,0,none⟩),.slice aK n capK,.int .i64 n,.int .i64 k]∧JK=J'∧S'=[vChunk bV bD bJ bM v.j.lay v.epoch v.slot false,chJ,chD,pBox b1 (.pointer (some ⟨bV,0,none⟩)) 23,pBox b4 (.slice aI k capI) 26,[(bM,ob)],chK,chI])
    (fun vs _ _=>match vs with | [_,_,_,_,.int _ k]=>((n:Int) - k).toNat | _=>0) ?_ ?_
  · exact ⟨_,Drop.and (Drop.pick [0,2,3,4,5,7,8] _ rfl),0,none,0,[],[],by omega,rfl,OwnC.nil _ _,by simp,rfl,rfl,rfl,rfl⟩
  rintro vs gE J' S' hJ' ⟨k,aI,capI,chI,outs,hk,hol,hO,hoI,hpr,rfl,rfl,rfl⟩
  refine CmpD.split (fun (c3:(k:Int) < n)=>?_) (fun (c3:¬ (k:Int) < n)=>?_)
  · have hkK:k < KS.length:=by omega
    have htk:KS.take (k+1)=KS.take k++[KS[k]]:=by rw [List.take_add_one,List.getElem?_eq_getElem hkK]; rfl
    obtain ⟨g,hgm,hgb,hget,hlk⟩:=lookup_both gs KS[k] (hkm _ (List.getElem_mem hkK))
    rw [hp] at hlk
    have hgR:=hg g hgm
    have hcell:(ints KS)[k]?=some (.int .i64 KS[k]):=ints_get (List.getElem?_eq_getElem hkK)
    generalize hnk:KS[k]=m at *
    rcases hK.at' with q0 | ⟨bK,pre,post,TK,rfl,rfl,hpost⟩
    · have:=hK.le; omega
    refine Chk.mk (by omega) ?_
    refine LoadD.own 6 rfl [.int .i64 m] (take_get (own_take pre (ints KS) post) hcell) rfl ?_
    refine CodeF.sched [[],[],[],[2],[2,3],[2,3,4],[],[2,3,4,5,6],[1,2,3,4,5,6,7],[1,2,3,4,5,6,7,8],[0,1,2,3,4,5,6,7,8,9],[0,1,2,3,4,5,6,7,8,9,10]] [0,1,2,3,4,5,6,7,8,9,10,11] (by kernel_rfl) ?_
    repeat (first | refine LoadP.at 0 rfl _ rfl rfl ?_ | refine LoadP.at 3 rfl _ rfl rfl ?_ | refine LoadP.at 4 rfl _ rfl rfl ?_)
    refine lookupD tabOk rfl rfl rfl rfl rfl rfl 5 rfl hM ?_
    rw [hget]
    repeat (first | refine Chk.mk ⟨rfl,trivial⟩ ?_)
    conv=>whnf
    intro bN
    repeat (first | refine Chk.mk ⟨rfl,trivial⟩ ?_)
    refine appendD tabOk rfl rfl rfl rfl rfl rfl rfl 7 rfl hO (SrcOk.slice (n:=1) (news:=imgCells [⟨m,g.a,g.len,g.cap,g.data⟩]) tabOk rfl ((OwnC.whole (len:=1) (size:=2) rfl).slC 8 rfl) (by intro v hv; simp [imgCells] at hv; rcases hv with rfl | rfl <;> rfl)) rfl (by show (k+1) * 32≤_; omega) (by omega) ?_
    intro a2 cap2 ch2 hO2
    repeat (first | refine StoreD.st 4 rfl rfl rfl ?_)
    refine ToD.i64 (by omega) (by omega) ?_
    refine ⟨_,Drop.pick [0,1,2,3,4,5,6,7] _ rfl,⟨k+1,a2,cap2,ch2,outs++[⟨m,g.a,g.len,g.cap,g.data⟩],by omega,by simp [hol],by rw [imgCells_snoc]; exact hO2,?_,?_,rfl,rfl,rfl⟩,?_⟩
    · intro y hy
      rcases List.mem_append.1 hy with hy | hy
      · exact hoI y hy
      · simp only [List.mem_singleton] at hy
        subst hy
        rw [← hgb]
        exact hgR
    · rw [htk,List.map_append,List.map_append,hpr]
      simp [hlk]
    · show ((n:Int) - ((k:Int)+1)).toNat < ((n:Int) - (k:Int)).toNat; omega
  obtain rfl:k=n:=by omega
  rw [List.take_of_length_le (by omega),hkf] at hpr
  have hpr:outs.map Img.pr=sortP v.fresh:=hpr
  repeat (first | refine LoadD.own 0 rfl _ rfl rfl ?_ | refine LoadD.own 3 rfl _ rfl rfl ?_)
  have hring:=hw.ring
  unfold Ok at hring
  refine Tri.frame1 1 rfl (jk_Ring hj JK) ?_
  rintro r _ A' hJ3 ⟨rfl,rfl,rfl⟩
  refine ⟨_,rfl,?_⟩
  conv=>whnf
  intro b7
  refine StoreD.st 8 rfl rfl rfl ?_
  refine CodeF.cutD [1,4,8] (fun vs J' S'=>∃ b8,JK=J'∧vs=[.pointer (some ⟨b1,0,none⟩),.pointer (some ⟨b4,0,none⟩),.pointer (some ⟨b8,0,none⟩)] ∧
      S'=[vChunk bV bD bJ bM v.j.lay v.epoch v.slot false,chJ,chD,pBox b1 (.pointer (some ⟨bV,0,none⟩)) 23,pBox b4 (.slice aI k capI) 26,[(bM,ob)],chI,[(b8,row [.int .i64 v.sup.blocks,.int .i64 v.sup.epoch,.int .i64 v.sup.seq,.int .i64 v.sup.tail] 143)]]) ?_ ?_
  · refine CodeF.schedT [[],[0],[0,1],[0,1,2],[0,1,2,3],[],[5],[5,6],[5,6,7],[],[9],[9,10],[9,10,11],[9,10,11,12],[],[14],[],[16],[14,15,16,17],[],[19],[14,15,16,17,18,19,20],[0,1,2,3,4,5,6,7,8,9,10,11,12,13,14,15,16,17,18,19,20,21],[],[0,1,2,3,4,5,6,7,8,9,10,11,12,13,14,15,16,17,18,19,20,21,22,23]] (.rd 0 (.rd 1 (.rd 2 (.rd 3 (.rd 4 (.rd 5 (.rd 6 (.rd 7 (.rd 8 (.rd 9 (.rd 10 (.rd 11 (.rd 12 (.rd 14 (.rd 15 (.rd 16 (.rd 17 (.rd 18 (.rd 19 (.rd 20 (.rd 21 (.alt (.ef 13 (.rd 22 (.ef 23 (.ef 24 .nil)))) (.ef 23 (.ef 13 (.rd 22 (.ef 24 .nil)))))))))))))))))))))))))) (by kernel_rfl) ?_
    repeat (first | refine LoadP.at 0 rfl _ rfl rfl ?_ | refine LoadP.at 3 rfl _ rfl rfl ?_ | refine LoadP.at 8 rfl _ rfl rfl ?_)
    refine ToD.to (v.j.t+v.j.u) (wrap_i64 (by omega) (by omega)) ?_
    repeat (first | refine LoadP.at 8 rfl _ rfl rfl ?_)
    refine Chk.mk (by show v.j.s≠0; omega) ?_
    refine ToD.to ((v.j.t+v.j.u) % v.j.s) (Int.tmod_eq_emod_of_nonneg (by omega)) ?_
    have fin:∀ b8,∃ S0,Drop [vChunk bV bD bJ bM v.j.lay v.epoch v.slot false,chJ,chD,pBox b1 (.pointer (some ⟨bV,0,none⟩)) 23,pBox b4 (.slice aI k capI) 26,[(bM,ob)],chK,chI,[(b7,row [.int .i64 v.j.s,.int .i64 v.j.t,.int .i64 v.j.u,.int .i64 v.j.h] 83)],[(b8,row [.int .i64 v.j.lay.b,.int .i64 v.epoch,.int .i64 v.j.next,.int .i64 ((v.j.t+v.j.u) % v.j.s)] 143)]] S0∧∃ b,JK=JK∧[Value.pointer (some ⟨b1,0,none⟩),.pointer (some ⟨b4,0,none⟩),.pointer (some ⟨b8,0,none⟩)]=[.pointer (some ⟨b1,0,none⟩),.pointer (some ⟨b4,0,none⟩),.pointer (some ⟨b,0,none⟩)] ∧
        S0=[vChunk bV bD bJ bM v.j.lay v.epoch v.slot false,chJ,chD,pBox b1 (.pointer (some ⟨bV,0,none⟩)) 23,pBox b4 (.slice aI k capI) 26,[(bM,ob)],chI,[(b,row [.int .i64 v.sup.blocks,.int .i64 v.sup.epoch,.int .i64 v.sup.seq,.int .i64 v.sup.tail] 143)]] :=
      fun b8=>⟨_,Drop.pick [0,1,2,3,4,5,7,9] _ rfl,b8,rfl,rfl,rfl⟩
    refine And.intro ?_ ?_
    · skip
      refine Tri.frame1 1 rfl (jk_Next hj JK) ?_
      rintro r _ A' hJ4 ⟨rfl,rfl,rfl⟩
      refine ⟨_,rfl,?_⟩
      repeat (first | refine Chk.mk ⟨rfl,rfl,rfl,rfl,rfl,rfl,rfl,trivial⟩ ?_)
      conv=>whnf
      intro b8
      repeat (first | refine StoreD.st 9 rfl rfl rfl ?_ | refine Chk.mk ⟨rfl,rfl,rfl,rfl,rfl,rfl,rfl,rfl,rfl,trivial⟩ ?_)
      exact fin b8
    · skip
      conv=>whnf
      intro b8
      repeat (first | refine Chk.mk ⟨rfl,rfl,rfl,rfl,rfl,rfl,rfl,rfl,rfl,trivial⟩ ?_)
      refine Tri.frame1 1 rfl (jk_Next hj JK) ?_
      rintro r _ A' hJ4 ⟨rfl,rfl,rfl⟩
      refine ⟨_,rfl,?_⟩
      repeat (first | refine StoreD.st 9 rfl rfl rfl ?_ | refine Chk.mk ⟨rfl,rfl,rfl,rfl,rfl,rfl,rfl,trivial⟩ ?_)
      exact fin b8
  rintro vs gE2 J2 S2 hJ2 ⟨b8,rfl,rfl,rfl⟩
  repeat (first | refine LoadD.own 0 rfl _ rfl rfl ?_ | refine LoadD.own 3 rfl _ rfl rfl ?_)
  conv=>whnf
  intro bS
  refine Tri.fix 6 (ch:=chI) rfl fun I5 hI5 hIm=>?_
  refine Tri.fix 8 rfl fun I6 hI6 hSm=>?_
  have hfs:Rds I6 (some ⟨bS,0,none⟩) 3 [.func (.func 88) #[.pointer (some ⟨bJ,0,none⟩)] #[],.func (.func 92) #[] #[.pointer (some ⟨b1,0,none⟩),.pointer (some ⟨b4,0,none⟩),.pointer (some ⟨b8,0,none⟩)],.func (.func 94) #[] #[.pointer (some ⟨b1,0,none⟩)]] :=
    ⟨rfl,.inr ⟨bS,0,_,_,_,rfl,hSm _ (List.mem_singleton.2 rfl),rfl⟩⟩
  have hI56:=Imm.le_trans hI5 hI6
  have himg:ImgsOk I6 aI outs:=⟨by rw [hol]; exact (Rds.of_ownS hO hIm).mono hI6,fun g hgm=>(hoI g hgm).mono hI56⟩
  have hD:=hD.mono hI56
  have hg:=fun g hgm=>(hg g hgm).mono hI56
  refine (vol_first (K:=fun r J S'=>∃ chJ2 chD2,r=.int .i64 (v.ckS d).1∧Jk bJ bD (v.ckS d).2.1 chJ2∧Dk J bD (v.ckS d).2.2 chD2∧S'=[vChunk bV bD bJ bM v.j.lay v.epoch v.slot false,chJ2,chD2,pBox b1 (.pointer (some ⟨bV,0,none⟩)) 23,pBox b4 (.slice aI k capI) 26,[(bM,ob)],[],[(b8,row [.int .i64 v.sup.blocks,.int .i64 v.sup.epoch,.int .i64 v.sup.seq,.int .i64 v.sup.tail] 143)],[]]) (some ⟨bS,0,none⟩) 3 3 _ (by omega) hfs ?_).mono ?_
  · refine ⟨_,[.pointer (some ⟨bJ,0,none⟩)],[],rfl,?_⟩
    refine Tri.frame (jk_Flush hj hw hD) [1,2] rfl rfl ?_
    have hfl:=jflush_few (j:=v.j) hf
    have hjw:=hw.flush d
    unfold VSt.ckS
    rintro r J3 A' hJ3 ⟨rfl,chJ2,chD2,hj2,hD2,rfl⟩
    refine ⟨Nat.le_refl _,?_⟩
    refine ⟨_,rfl,fun he=>?_,fun he=>?_⟩
    · rw [if_pos he]
      exact ⟨chJ2,chD2,rfl,hj2,hD2,rfl⟩
    rw [if_neg (by simpa using he)]
    refine ⟨_,[],[.pointer (some ⟨b1,0,none⟩),.pointer (some ⟨b4,0,none⟩),.pointer (some ⟨b8,0,none⟩)],rfl,?_⟩
    rw [← hol]
    refine Tri.frame (ck1 hD2 hfl aI capI outs (himg.mono hJ3) (by omega) v.sup) [0,3,4,7,2] rfl rfl ?_
    rw [hpr]
    rintro r J4 A' hJ4 ⟨rfl,chD3,hD3,rfl⟩
    refine ⟨Nat.le_refl _,?_⟩
    refine ⟨_,rfl,fun he2=>?_,fun he2=>?_⟩
    · rw [if_pos he2]
      exact ⟨chJ2,chD3,rfl,hj2,hD3,rfl⟩
    rw [if_neg (by simpa using he2)]
    refine ⟨_,[],[.pointer (some ⟨b1,0,none⟩)],rfl,?_⟩
    refine Tri.frame (ck2 hj2 hjw) [0,3,1] rfl rfl ?_
    rintro r _ A' hJ5 ⟨rfl,rfl,chJ3,hj3,rfl⟩
    refine ⟨Nat.le_refl _,?_⟩
    refine ⟨_,rfl,fun he3=>?_,fun he3=>?_⟩
    · exact ⟨chJ3,chD3,rfl,hj3,hD3,rfl⟩
    · refine ⟨chJ3,chD3,?_,hj3,hD3,rfl⟩
      show Value.int .i64 0=.int .i64 _
      rw [he3]
  rintro r J7 S7 hJ7 ⟨chJ2,chD2,rfl,hj2,hD2,rfl⟩
  have hlay:=ckS_lay v d
  have hg7:=fun g hgm=>(hg g hgm).mono hJ7
  repeat (first | refine LoadD.own 3 rfl _ rfl rfl ?_)
  refine Tri.frame1 0 rfl (v_did bV bD bJ bM v.j.lay v.epoch v.slot false J7 (v.ckS d).1) ?_
  rintro r _ A' hJ8 ⟨rfl,rfl,rfl⟩
  refine ⟨_,rfl,?_⟩
  unfold VSt.ckpt
  rw [if_neg (by rw [hb]; simp)]
  refine CmpD.split (fun c4=>?_) (fun c4=>?_)
  · have c4:(v.ckS d).1=0:=c4
    rw [if_neg (by rw [c4]; simp)]
    refine CodeF.sched [[],[],[1],[1,2],[1,2,3],[1,2,3,4],[0,1,2,3,4,5],[0,1,2,3,4,5,6],[0,1,2,3,4,5,6,7]] [0,1,2,3,4,5,6,7,8] (by kernel_rfl) ?_
    repeat (first | refine LoadP.at 0 rfl _ rfl rfl ?_ | refine LoadP.at 3 rfl _ rfl rfl ?_)
    refine ToD.to (1 - v.slot) (wrap_i64 (by omega) (by omega)) ?_
    repeat (first | refine LoadD.own 0 rfl _ rfl rfl ?_ | refine LoadD.own 3 rfl _ rfl rfl ?_ | refine StoreD.st 0 rfl rfl rfl ?_)
    refine clearMapD tabOk rfl rfl rfl rfl rfl rfl 5 rfl hM ?_
    intro ob' hM'
    refine Done.mk ⟨[vChunk bV bD bJ bM v.j.lay v.epoch (1 - v.slot) v.broken++((bM,ob') :: chJ2),chD2],(Drop.pick [0,5,1,2] _ rfl).trans (Drop.flat ?_),rfl,_,chD2,⟨bJ,bM,ob',chJ2,[],by rw [hlay],hj2,hM',by simp,rfl⟩,hD2,rfl⟩
    rw [hb,c4]
    simp [St.at]
    rfl
  · have c4:(v.ckS d).1≠0:=c4
    rw [if_pos c4]
    skip
    refine Done.mk ⟨[vChunk bV bD bJ bM v.j.lay v.epoch v.slot true++((bM,ob) :: chJ2),chD2],(Drop.pick [0,5,1,2] _ rfl).trans (Drop.flat ?_),rfl,_,chD2,⟨bJ,bM,ob,chJ2,gs,by rw [hlay],hj2,hM,hg7,hp⟩,hD2,rfl⟩
    rw [decide_eq_true c4]
    simp [St.at]
end Go.Proofs.YtegdcjnjnoeinaaGreat
namespace Go.Proofs.YtegdcjnjnoeinaaGreat
open Go.RowKit Go.Sl
set_option maxRecDepth 20000
set_option maxHeartbeats 4000000 in
theorem r10_Home {I:Imm} {aG:Option Addr} {capG:Nat} {l:List Grp} (hG:GrpsR I [] aG l) (hl:l.length≤1000000) (hall:(allI l).length≤1000000) (hfew:∀ g ∈ allI l,g.len≤100000000) (x:Lay) :
    Tri Tryz.prog 118 #[x.v,.slice aG l.length capG] I [] fun v J _ =>
      ((¬ LayOk x∧v=.tuple #[.slice none 0 0,.int .i64 2]) ∨
       (LayOk x∧¬ HomeOk x (allP l)∧v=.tuple #[.slice none 0 0,.int .i64 90]) ∨
       (LayOk x∧HomeOk x (allP l)∧∃ (aO:Option Addr) (capO:Nat) (outs:List Img),v=.tuple #[.slice aO outs.length capO,.int .i64 0]∧ImgsOk J aO outs∧outs.map Img.pr=homeP (allP l))):=by
  refine Tri.fixed (Q:=fun v J S'=>∃ chO,S'=[chO] ∧
      ((¬ LayOk x∧v=.tuple #[.slice none 0 0,.int .i64 2]) ∨
       (LayOk x∧¬ HomeOk x (allP l)∧v=.tuple #[.slice none 0 0,.int .i64 90]) ∨
       (LayOk x∧HomeOk x (allP l)∧∃ (aO:Option Addr) (capO:Nat) (outs:List Img),v=.tuple #[.slice aO outs.length capO,.int .i64 0]∧OwnC chO 2 aO outs.length capO (imgCells outs)∧(∀ g ∈ outs,ImgOk J g)∧outs.map Img.pr=homeP (allP l)))) ?_ ?_
  rotate_left
  · rintro v J S' hJ ⟨chO,rfl,h⟩
    refine ⟨0,chO,rfl,fun J' hJ' hm=>?_⟩
    rcases h with ⟨h1,rfl⟩ | ⟨h1,h2,rfl⟩ | ⟨h1,h2,aO,capO,outs,rfl,hO,hok,hpr⟩
    · exact .inl ⟨h1,rfl⟩
    · exact .inr (.inl ⟨h1,h2,rfl⟩)
    · exact .inr (.inr ⟨h1,h2,aO,capO,outs,rfl,⟨Rds.of_ownS hO hm,fun g hg=>(hok g hg).mono hJ'⟩,hpr⟩)
  refine Tri.lay (S2:=[[]]) (by simp) ?_
  refine Tri.drop ?_ (fun _ _ _ _ h=>h)
  have hsl:=hG.sl.rds
  refine Tri.of (args:=[x.v,.slice aG l.length capG]) tabOk Tryz.func118 rfl (by kernel_rfl) (by kernel_rfl) ?_
  conv=>whnf
  intro b2
  repeat (first | refine LoadD.own 1 rfl _ rfl rfl ?_)
  refine Tri.free (r5_Right x I) ?_
  rintro v J _ hJ ⟨rfl,br,rfl,hbr⟩
  cases br
  · skip
    exact Done.mk ⟨[[]],Drop.pick [0] _ rfl,[],rfl,.inl ⟨fun h=>by simpa using hbr.2 h,rfl⟩⟩
  have hX:=hbr.1 rfl
  have hXb:(64≤x.b∧x.b≤512)∧x.bi=2+layL x.b:=by
    refine ⟨⟨hX.1,hX.2.1⟩,?_⟩
    have hq:=hX.2.2
    have hxb:((x.b.toNat:Nat):Int)=x.b:=by have:=hX.1; omega
    have hq2:=congrArg Lay.bi hq
    rw [hq2]; show 2+layL ((x.b.toNat:Nat):Int)=_; rw [hxb]
  have hL:=layL_range hXb.1
  skip
  refine CodeF.loopD [1,2,6,7] (fun vs J' S'=>∃ (i:Nat) (aA:Option Addr) (capA:Nat) (chA:List Blk),i≤l.length∧OwnC chA 2 aA (allI (l.take i)).length capA (imgCells (allI (l.take i)))∧vs=[.slice aG l.length capG,.pointer (some ⟨b2,0,none⟩),.slice aA (allI (l.take i)).length capA,.int .i64 i]∧I=J'∧S'=[chA,layBox b2 x])
    (fun vs _ _=>match vs with | [_,_,_,.int _ i]=>((l.length:Int) - i).toNat | _=>0) ?_ ?_
  · exact ⟨_,Drop.pick [0,1] _ rfl,0,none,0,[],by omega,OwnC.nil 2 none,rfl,rfl,rfl⟩
  rintro vs gE J' S' hJ' ⟨i,aA,capA,chA,hi,hA,rfl,rfl,rfl⟩
  have hpl:∀ gs:List Img,∀ u ∈ imgCells gs,Plain u=true:=by
    intro gs u hu
    unfold imgCells at hu
    obtain ⟨g,_,h⟩:=List.mem_flatMap.1 hu
    simp only [List.mem_cons,List.not_mem_nil,or_false] at h
    rcases h with rfl | rfl <;> rfl
  refine CmpD.split (fun c1=>?_) (fun c1=>?_)
  · have hlt:i < l.length:=by omega
    have hg:=hG.each _ (List.getElem_mem hlt)
    have htk:=allI_take l i hlt
    have hlen:(allI (l.take (i+1))).length≤(allI l).length:=by
      have e:allI l=allI (l.take (i+1))++allI (l.drop (i+1)):=by unfold allI; rw [← List.flatMap_append,List.take_append_drop]
      rw [e,List.length_append]; omega
    rcases hsl.mem with q0 | ⟨bg,off,cg,Tg,fg,rfl,hIg,hcg⟩
    · omega
    have hcell:=take_part hcg (i:=i * 3) (m:=3) (by omega)
    rw [grpCells_at hlt] at hcell
    have hcell2:(cg.drop (off+i * 3+2)).take 1=[.slice l[i].a l[i].gs.length l[i].cap]:=take_part hcell (i:=2) (m:=1) (by omega)
    generalize hgi:l[i]=gi at *
    rw [htk,List.length_append] at hlen
    refine Chk.mk (by omega) ?_
    refine LoadD.imm hIg [.slice gi.a gi.gs.length gi.cap] hcell2 rfl ?_
    refine appendD tabOk rfl rfl rfl rfl rfl rfl rfl 0 rfl hA (SrcOk.slice (n:=gi.gs.length) (news:=imgCells gi.gs) tabOk rfl (hg.1.sl.rds.slC) (hpl _)) rfl (by show ((allI (l.take i)).length+gi.gs.length) * 32≤_; omega) (by omega) ?_
    intro a2 cap2 ch2 hO2
    refine ToD.i64 (by omega) (by omega) ?_
    refine ⟨_,Drop.pick [0,1] _ rfl,⟨i+1,a2,cap2,ch2,by omega,?_,?_,rfl,rfl⟩,?_⟩
    · rw [htk,List.length_append]; unfold imgCells; rw [List.flatMap_append]; exact hO2
    · rw [htk,List.length_append]; rfl
    · show ((l.length:Int) - ((i:Int)+1)).toNat < ((l.length:Int) - i).toNat; omega
  obtain rfl:i=l.length:=by omega
  rw [List.take_length] at hA ⊢
  obtain ⟨A,hAe⟩:∃ A,A=allI l:=⟨_,rfl⟩
  rw [← hAe] at hA hall hfew ⊢
  have hAp:allP l=A.map Img.pr:=by rw [allP_eq,hAe]
  have hAr:∀ g ∈ A,Rds I g.a g.len (bts g.data):=by
    intro g hg
    rw [hAe] at hg
    unfold allI at hg
    obtain ⟨gr,hgr,hgg⟩:=List.mem_flatMap.1 hg
    exact ((hG.each gr hgr).1.each g hgg).rd.rds
  rw [hAp]
  clear hAe
  refine CodeF.loopD [2,6,8] (fun vs J' S'=>∃ i:Nat,i≤A.length∧HomeOk x ((A.take i).map Img.pr)∧vs=[.pointer (some ⟨b2,0,none⟩),.slice aA A.length capA,.int .i64 i]∧I=J'∧S'=[chA,layBox b2 x])
    (fun vs _ _=>match vs with | [_,_,.int _ i]=>((A.length:Int) - i).toNat | _=>0) ?_ ?_
  · exact ⟨_,Drop.pick [0,1] _ rfl,0,by omega,by intro g hg; simp at hg,rfl,rfl,rfl⟩
  · rintro vs gE2 J2 S2 hJ2 ⟨i,hi2,hok,rfl,rfl,rfl⟩
    refine CmpD.split (fun c2=>?_) (fun c2=>?_)
    · have hlt:i < A.length:=by omega
      have htk:A.take (i+1)=A.take i++[A[i]]:=by rw [List.take_add_one,List.getElem?_eq_getElem hlt]; rfl
      have hmem:A[i] ∈ A:=List.getElem_mem hlt
      have hcell:=imgCells_0 hlt
      obtain ⟨bA,oA,rfl,hcA⟩:=hA.cellsP (I:=I) (S:=[chA,layBox b2 x]) 0 rfl (by omega)
      generalize A[i]=g at *
      refine CodeF.sched [[],[],[0,1],[0,1,2],[0,1,2,3],[],[5],[0,1,2,3,4,5,6],[0,1,2,3,4,5,6,7],[0,1,2,3,4,5,6,7,8],[0,1,2,3,4,5,6,7,8],[0,1,2,3,4,5,6,7,8,9,10],[0,1,2,3,4,5,6,7,8,9,10,11],[0,1,2,3,4,5,6,7,8,9,10,11,12],[0,1,2,3,4,5,6,7,8],[0,1,2,3,4,5,6,7,8,14],[0,1,2,3,4,5,6,7,8,9,10,11,12,13,14,15],[0,1,2,3,4,5,6,7,8,9,10,11,12,13,14,15,16]] [0,1,2,3,4,5,6,7,8,9,10,11,12,13,14,15,16,17] (by kernel_rfl) ?_
      refine Chk.mk (by omega) ?_
      refine LoadP.own 0 _ (hcA.at hcell) ?_
      refine LoadP.at 1 rfl _ rfl rfl ?_
      have bad:¬ (x.bi≤g.blk∧g.blk < x.b)→∃ S'',Drop [chA,layBox b2 x] S''∧∃ chO,S''=[chO] ∧
          ((¬ LayOk x∧Value.tuple #[.slice none 0 0,.int .i64 90]=.tuple #[.slice none 0 0,.int .i64 2]) ∨
           (LayOk x∧¬ HomeOk x (A.map Img.pr)∧Value.tuple #[.slice none 0 0,.int .i64 90]=.tuple #[.slice none 0 0,.int .i64 90]) ∨
           (LayOk x∧HomeOk x (A.map Img.pr)∧∃ (aO:Option Addr) (capO:Nat) (outs:List Img),Value.tuple #[.slice none 0 0,.int .i64 90]=.tuple #[.slice aO outs.length capO,.int .i64 0]∧OwnC chO 2 aO outs.length capO (imgCells outs)∧(∀ g ∈ outs,ImgOk I g)∧outs.map Img.pr=homeP (A.map Img.pr))) :=
        fun h=>⟨[chA],Drop.pick [0] _ rfl,chA,rfl,.inr (.inl ⟨hX,fun h'=>h (h' g.pr (List.mem_map_of_mem hmem)),rfl⟩)⟩
      refine CmpD.split (fun c3=>?_) (fun c3=>?_)
      · skip
        exact Done.mk (bad (by omega))
      refine Chk.mk (by omega) ?_
      refine LoadP.own 0 _ (hcA.at hcell) ?_
      refine LoadP.at 1 rfl _ rfl rfl ?_
      refine CmpD.split (fun c4=>?_) (fun c4=>?_)
      · skip
        exact Done.mk (bad (by omega))
      skip
      refine ToD.i64 (by omega) (by omega) ?_
      refine ⟨_,Drop.pick [0,1] _ rfl,⟨i+1,by omega,?_,rfl,rfl,rfl⟩,?_⟩
      · rw [htk,List.map_append]
        intro q hq
        rcases List.mem_append.1 hq with hq | hq
        · exact hok q hq
        · simp only [List.map_cons,List.map_nil,List.mem_singleton] at hq
          subst hq
          exact ⟨by show x.bi≤g.blk; omega,by show g.blk < x.b; omega⟩
      · show ((A.length:Int) - ((i:Int)+1)).toNat < ((A.length:Int) - i).toNat; omega
    obtain rfl:i=A.length:=by omega
    rw [List.take_length] at hok
    repeat (first | refine LoadD.own 1 rfl _ rfl rfl ?_)
    have hin:∀ g ∈ A,x.bi≤g.blk∧g.blk < x.b:=fun g hg=>hok g.pr (List.mem_map_of_mem hg)
    obtain ⟨hXb1,hXb2⟩:=hXb
    have hbb:x.bi≤x.b:=by rw [hXb2]; unfold layL; split <;> omega
    obtain ⟨P,hP⟩:∃ P,P=A.map Img.pr:=⟨_,rfl⟩
    rw [← hP] at hok ⊢
    have hPl:P.length=A.length:=by rw [hP,List.length_map]
    refine CodeF.loopD [2,6,9,10] (fun vs J' S'=>∃ (k:Nat) (aO:Option Addr) (capO:Nat) (chO:List Blk) (outs:List Img),x.bi+k≤x.b∧outs.length≤k∧OwnC chO 2 aO outs.length capO (imgCells outs)∧(∀ g ∈ outs,ImgOk J' g)∧outs.map Img.pr=homeK x.bi P k∧I.le J' ∧
        vs=[.pointer (some ⟨b2,0,none⟩),.slice aA A.length capA,.slice aO outs.length capO,.int .i64 (x.bi+k)]∧S'=[chA,layBox b2 x,chO])
      (fun vs _ _=>match vs with | [_,_,_,.int _ n]=>(x.b - n).toNat | _=>0) ?_ ?_
    · exact ⟨_,Drop.and (Drop.pick [0,1] _ rfl),0,none,0,[],[],by omega,by simp,OwnC.nil 2 none,by simp,rfl,Imm.le_refl _,congrArg (fun z=>[Value.pointer (some ⟨b2,0,none⟩),.slice aA A.length capA,.slice none 0 0,.int .i64 z]) (by omega:x.bi=x.bi+((0:Nat):Int)),rfl⟩
    rintro vs gE3 J3 S3 hJ3 ⟨k,aO,capO,chO,outs,hk,hol,hO,hoks,hpr,hle,rfl,rfl⟩
    refine LoadD.own 1 rfl _ rfl rfl ?_
    refine CmpD.split (fun c5=>?_) (fun c5=>?_)
    rotate_left
    · have hbk:x.b=x.bi+k:=by omega
      skip
      refine Done.mk ⟨[chO],Drop.pick [2] _ rfl,chO,rfl,.inr (.inr ⟨hX,hok,aO,capO,outs,rfl,hO,hoks,?_⟩)⟩
      rw [hpr]
      exact homeK_homeP _ _ _ (fun g hg=>by have:=hok g hg; omega)
    have hkb:k≤512:=by omega
    skip
    refine ToD.i64 (by omega) (by omega) ?_
    have next:∀ (S4:St) (J4:Imm) (aO2:Option Addr) (capO2:Nat) (chO2:List Blk) (outs2:List Img),Drop S4 [chA,layBox b2 x,chO2]→J3.le J4→outs2.length≤k+1→OwnC chO2 2 aO2 outs2.length capO2 (imgCells outs2)→(∀ g ∈ outs2,ImgOk J4 g)→outs2.map Img.pr=homeK x.bi P (k+1) →
        ToD (IntKind.i64.wrap (x.bi+(k:Int)+1)) fun m=>∃ S0,Drop S4 S0∧(∃ (k:Nat) (aO:Option Addr) (capO:Nat) (chO:List Blk) (outs:List Img),x.bi+k≤x.b∧outs.length≤k∧OwnC chO 2 aO outs.length capO (imgCells outs)∧(∀ g ∈ outs,ImgOk J4 g)∧outs.map Img.pr=homeK x.bi P k∧I.le J4 ∧
          [Value.pointer (some ⟨b2,0,none⟩),.slice aA A.length capA,.slice aO2 outs2.length capO2,.int .i64 m]=[.pointer (some ⟨b2,0,none⟩),.slice aA A.length capA,.slice aO outs.length capO,.int .i64 (x.bi+k)]∧S0=[chA,layBox b2 x,chO])∧(x.b - m).toNat < (x.b - (x.bi+(k:Int))).toNat:=by
      intro S4 J4 aO2 capO2 chO2 outs2 hd hJ4 h1 h2 h3 h4
      refine ToD.i64 (by omega) (by omega) ?_
      refine ⟨_,hd,⟨k+1,aO2,capO2,chO2,outs2,by omega,h1,h2,h3,h4,Imm.le_trans hle hJ4,?_,rfl⟩,by omega⟩
      rw [show x.bi+(k:Int)+1=x.bi+((k+1:Nat):Int) by omega]
    refine CodeF.loopD [2,6,9,10,11] (fun vs J' S'=>∃ j:Nat,j≤A.length∧(∀ i,j≤i→(h:i < A.length)→A[i].blk≠x.bi+k)∧vs=[.pointer (some ⟨b2,0,none⟩),.slice aA A.length capA,.slice aO outs.length capO,.int .i64 (x.bi+k),.int .i64 ((j:Int) - 1)]∧J3=J'∧S'=[chA,layBox b2 x,chO])
      (fun vs _ _=>match vs with | [_,_,_,_,.int _ j]=>(j+1).toNat | _=>0) ?_ ?_
    · exact ⟨_,Drop.pick [0,1,2] _ rfl,A.length,Nat.le_refl _,fun i h1 h2=>by omega,rfl,rfl,rfl⟩
    rintro vs gE4 J4 S4 hJ4 ⟨j,hj,hno,rfl,rfl,rfl⟩
    have lastE:lastD P (x.bi+k)=lastD (P.take j) (x.bi+k):=by
      refine lastD_take P _ j (by omega) ?_
      intro i h1 h2
      have h2':i < A.length:=by omega
      have:=hno i h1 h2'
      have e:P[i]=A[i].pr:=by simp only [hP,List.getElem_map]
      rw [e]; exact this
    refine CmpD.split (fun c6=>?_) (fun c6=>?_)
    rotate_left
    · obtain rfl:j=0:=by omega
      have hnone:lastD P (x.bi+k)=none:=by rw [lastE]; rfl
      exact next _ J3 aO capO chO outs (Drop.refl _) (Imm.le_refl _) (by omega) hO hoks (by rw [homeK,hnone,hpr,List.append_nil])
    have hj1:1≤j:=by omega
    have hlt:j - 1 < A.length:=by omega
    have htk:P.take j=P.take (j - 1)++[A[j - 1].pr]:=by
      have e:P[j - 1]'(by omega)=A[j - 1].pr:=by simp only [hP,List.getElem_map]
      have:P.take (j - 1+1)=P.take (j - 1)++[P[j - 1]'(by omega)]:=by rw [List.take_add_one,List.getElem?_eq_getElem (by omega)]; rfl
      rw [← e,← this,Nat.sub_add_cancel hj1]
    rw [htk,lastD_snoc] at lastE
    have hmem:A[j - 1] ∈ A:=List.getElem_mem hlt
    have hcell0:=imgCells_0 hlt
    have hcell1:=imgCells_1 hlt
    have hno2:A[j - 1].blk≠x.bi+k→∀ i,j - 1≤i→(h:i < A.length)→A[i].blk≠x.bi+k:=by
      intro h i h1 h2
      rcases Nat.lt_or_ge (j - 1) i with h3 | h3
      · exact hno i (by omega) h2
      · obtain rfl:i=j - 1:=by omega
        exact h
    obtain ⟨bA,oA,rfl,hcA⟩:=SlC.split (hA.slC (I:=J3) (S:=[chA,layBox b2 x,chO]) 0 rfl) (by omega)
    generalize A[j - 1]=g at *
    have ej:(((j:Int) - 1)).toNat=j - 1:=by omega
    refine Chk.mk (by omega) ?_
    refine LoadD.mk [.int .i64 g.blk] (by show Cells _ _ _ (oA+(((j:Int) - 1)).toNat * 2) 1 _; rw [ej]; exact hcA.at hcell0) ?_
    refine CmpD.split (fun c7=>?_) (fun c7=>?_)
    rotate_left
    · refine ToD.i64 (by omega) (by omega) ?_
      refine ⟨_,Drop.pick [0,1,2] _ rfl,⟨j - 1,by omega,hno2 c7,?_,rfl,rfl⟩,?_⟩
      · rw [show ((j:Int) - 1 - 1)=(((j - 1:Nat):Int) - 1) by omega]; rfl
      · show ((j:Int) - 1 - 1+1).toNat < ((j:Int) - 1+1).toNat; omega
    have hlast:lastD P (x.bi+k)=some g.data:=by rw [lastE,if_pos c7]
    refine Chk.mk (by omega) ?_
    refine LoadD.mk [.slice g.a g.len g.cap] (by show Cells _ _ _ (oA+(((j:Int) - 1)).toNat * 2+1) 1 _; rw [ej]; exact hcA.at hcell1) ?_
    refine Tri.free (copy_fix J3 g.a g.len g.cap g.data ((hAr g hmem).mono hle) (by have:=hfew g hmem; omega)) ?_
    rintro v J5 _ hJ5 ⟨aC,capC,rfl,hC⟩
    conv=>whnf
    intro b83
    refine appendD tabOk rfl rfl rfl rfl rfl rfl rfl 2 rfl hO (SrcOk.slice (n:=1) (news:=imgCells [⟨x.bi+k,aC,g.len,capC,g.data⟩]) tabOk rfl ((OwnC.whole (len:=1) (size:=2) rfl).slC 3 rfl) (by intro v hv; simp [imgCells] at hv; rcases hv with rfl | rfl <;> rfl)) rfl (by show (outs.length+1) * 32≤_; omega) (by omega) ?_
    intro aM capM chM hM
    have e:(outs++[⟨x.bi+k,aC,g.len,capC,g.data⟩]:List Img).length=outs.length+1:=by simp
    have hn:=fun b=>next [chA,layBox b2 x,chM,b] J5 aM capM chM (outs++[⟨x.bi+k,aC,g.len,capC,g.data⟩]) (Drop.pick [0,1,2] _ rfl) hJ5 (by rw [e]; omega) (by rw [e,imgCells_snoc]; exact hM) (by
      intro y hy
      rcases List.mem_append.1 hy with hy | hy
      · exact (hoks y hy).mono hJ5
      · simp only [List.mem_singleton] at hy
        subst hy
        exact ⟨by show In64 (x.bi+k); unfold In64; omega,hC⟩) (by rw [homeK,hlast,List.map_append,hpr]; rfl)
    simp only [e] at hn
    exact hn _
end Go.Proofs.YtegdcjnjnoeinaaGreat
namespace Go.Proofs.YtegdcjnjnoeinaaGreat
open Go.RowKit Go.Sl
set_option maxRecDepth 20000
theorem stop_r4 (d:DSt) (hA:d.arm.Ok) (hF:d.fault.Ok):opE d.down (gv d.arm) (gv d.fault)=d.stop.2∧(d.down || decide (gv d.arm=0))=d.stop.1.down∧(if d.down then gv d.arm else dec (gv d.arm))=gv d.stop.1.arm∧(if d.down then gv d.fault else dec (gv d.fault))=gv d.stop.1.fault:=by
  obtain ⟨sf,nw,ws,ct,dn,⟨ao,al⟩,⟨fo,fl⟩⟩:=d
  unfold Gate.Ok at hA hF
  dsimp only at hA hF
  unfold DSt.stop opE gv dec Gate.step
  cases dn
  · cases ao <;> cases fo
    · simp
    · have:=hF rfl
      rcases Int.lt_or_le 0 fl with h | h
      · have e:1≤fl:=by omega
        simp [e]; omega
      · obtain rfl:fl=0:=by omega
        simp
    · have:=hA rfl
      rcases Int.lt_or_le 0 al with h | h
      · have e:1≤al:=by omega
        simp [e]; omega
      · obtain rfl:al=0:=by omega
        simp
    · have:=hA rfl
      have:=hF rfl
      rcases Int.lt_or_le 0 al with h | h <;> rcases Int.lt_or_le 0 fl with h' | h'
      · have e:1≤al:=by omega
        have e':1≤fl:=by omega
        simp [e,e']; omega
      · have e:1≤al:=by omega
        obtain rfl:fl=0:=by omega
        simp [e]; omega
      · have e':1≤fl:=by omega
        obtain rfl:al=0:=by omega
        simp [e']; omega
      · obtain rfl:fl=0:=by omega
        obtain rfl:al=0:=by omega
        simp
  · simp
theorem gv_in {g:Gate} (h:g.Ok):In64 (gv g):=by
  unfold gv In64
  unfold Gate.Ok at h
  split
  · rename_i e; have:=h e; omega
  · omega
structure RDk (I:Imm) (v:Value) (d:DSt):Prop where
  wf:d.Wf
  snd:∀ i,i < d.safe.length→d.now[i]?=some (atP (d.safe.getD i []) d.writes i)
  ex:∃ (s w:Hd) (bS:List Bk) (gs:List Img),v=rV s w d.count d.down (gv d.arm) (gv d.fault)∧Rds I s.a s.len (bS.map Bk.cell)∧(∀ b ∈ bS,BkOk I b)∧bS.map Bk.data=d.safe∧ImgsOk I w.a gs∧w.len=gs.length∧gs.map Img.pr=d.writes
theorem RDk.mono {I J:Imm} {v:Value} {d:DSt} (h:RDk I v d) (hJ:I.le J):RDk J v d:=by
  obtain ⟨s,w,bS,gs,e,h1,h2,h3,h4,h5,h6⟩:=h.ex
  exact ⟨h.wf,h.snd,s,w,bS,gs,e,h1.mono hJ,fun b hb=>(h2 b hb).mono hJ,h3,h4.mono hJ,h5,h6⟩
theorem snd_write {d:DSt} (h:d.Wf) (hs:∀ i,i < d.safe.length→d.now[i]?=some (atP (d.safe.getD i []) d.writes i)) (n:Nat) (b:Dat) :
    ∀ i,i < d.safe.length→(d.now.set n b)[i]?=some (atP (d.safe.getD i []) (d.writes++[((n:Int),b)]) i):=by
  intro i hi
  have:=h.len
  rw [atP_snoc]
  dsimp only
  by_cases e:n=i
  · subst e
    rw [if_pos rfl,List.getElem?_set_self (by omega)]
  · rw [if_neg (by omega),List.getElem?_set_ne e]
    exact hs i hi
theorem RDk.stop {I:Imm} {s w:Hd} {d:DSt} {bS:List Bk} {gs:List Img} (h:d.Wf) (hs:∀ i,i < d.safe.length→d.now[i]?=some (atP (d.safe.getD i []) d.writes i)) (h1:Rds I s.a s.len (bS.map Bk.cell)) (h2:∀ b ∈ bS,BkOk I b) (h3:bS.map Bk.data=d.safe) (h4:ImgsOk I w.a gs) (h5:w.len=gs.length) (h6:gs.map Img.pr=d.writes) :
    RDk I (rV s w d.count d.stop.1.down (gv d.stop.1.arm) (gv d.stop.1.fault)) d.stop.1:=by
  obtain ⟨e1,e2,e3,e4⟩:=d.stop_same
  exact ⟨h.stop,by rw [e1,e2,e3]; exact hs,s,w,bS,gs,by rw [e4],h1,h2,by rw [e1]; exact h3,h4,h5,by rw [e3]; exact h6⟩
end Go.Proofs.YtegdcjnjnoeinaaGreat
namespace Go.Proofs.YtegdcjnjnoeinaaGreat
open Go.RowKit Go.Sl
set_option maxRecDepth 20000
set_option maxHeartbeats 1000000 in
theorem r4_Write {I:Imm} {v:Value} {d:DSt} (hD:RDk I v d) (hf:d.Few 1000000) (n:Int) (aB:Option Addr) (len capB:Nat) (data:Dat) (hB:Rds I aB len (bts data)) (hlen:len≤1000000000) (hn:In64 n) :
    Tri Tryz.prog 46 #[v,.int .i64 n,.slice aB len capB] I [] fun r J _=>∃ v',r=.tuple #[v',.int .i64 (d.write n data).2]∧RDk J v' (d.write n data).1:=by
  refine Tri.fixed (Q:=fun r J S'=>∃ v' ch,r=.tuple #[v',.int .i64 (d.write n data).2]∧S'=[ch]∧∀ J',J.le J'→(∀ x ∈ ch,J' x.1=some x.2)→RDk J' v' (d.write n data).1) ?_ ?_
  rotate_left
  · rintro r J S' hJ ⟨v',ch,rfl,rfl,h⟩
    exact ⟨0,ch,rfl,fun J' hJ' hm=>⟨v',rfl,h J' hJ' hm⟩⟩
  have hwf:=hD.wf
  have hsnd:=hD.snd
  have hwr:=hD.wf.write n data
  have hdl:data.length=len:=by have:=hB.len; rwa [bts_length] at this
  obtain ⟨s,w,bS,gs,rfl,hS,hBk,hbd,hW,hwl,hwp⟩:=hD.ex
  obtain ⟨q1,q2,q3,q4⟩:=stop_r4 d hwf.arm hwf.fault
  have hsl:s.len=d.safe.length:=by rw [← hbd,List.length_map]; have:=hS.len; rw [List.length_map] at this; exact this.symm
  have hgl:gs.length=d.writes.length:=by rw [← hwp,List.length_map]
  obtain ⟨f1,f2,f3⟩:=hf
  have hr:=hwf.range
  have hll:=hwf.len
  have hst:=d.stop_same
  refine Tri.lay (S2:=[[]]) (by simp) ?_
  refine Tri.drop ?_ (fun _ _ _ _ h=>h)
  have hop:=r4_operation s w d.count d.down (gv d.arm) (gv d.fault) (gv_in hwf.arm) (gv_in hwf.fault)
  rw [q1,q2,q3,q4] at hop
  obtain ⟨sa,sl,sc⟩:=s
  obtain ⟨wa,wl,wc⟩:=w
  dsimp only at hS hW hwl hsl
  subst hwl
  refine Tri.of (args:=[rV ⟨sa,sl,sc⟩ ⟨wa,gs.length,wc⟩ d.count d.down (gv d.arm) (gv d.fault),.int .i64 n,.slice aB len capB]) tabOk Tryz.func46 rfl (by kernel_rfl) (by kernel_rfl) ?_
  conv=>whnf
  intro b1
  conv=>whnf
  intro b2
  have same:∀ (e:Int) (J:Imm),I.le J→d.write n data=(d,e)→∃ v' ch,Value.tuple #[rV ⟨sa,sl,sc⟩ ⟨wa,gs.length,wc⟩ d.count d.down (gv d.arm) (gv d.fault),.int .i64 e]=.tuple #[v',.int .i64 (d.write n data).2]∧[([]:List Blk)]=[ch]∧∀ J',J.le J'→(∀ x ∈ ch,J' x.1=some x.2)→RDk J' v' (d.write n data).1:=by
    intro e J hJ he
    rw [he]
    exact ⟨_,[],rfl,rfl,fun J' hJ' _=>hD.mono (Imm.le_trans hJ hJ')⟩
  refine CmpD.split (fun c1=>?_) (fun c1=>?_)
  · repeat (first | refine LoadD.own 1 rfl _ rfl rfl ?_ | refine LoadD.own 2 rfl _ rfl rfl ?_ | refine StoreD.st 2 rfl rfl rfl ?_)
    refine Done.mk ⟨[[]],Drop.pick [0] _ rfl,same 70 _ (Imm.le_refl _) ?_⟩
    have hw:wrongE d.now.length n=70:=by unfold wrongE; rw [if_neg (show ¬ d.now.length=0 by omega),if_pos (by omega)]
    unfold DSt.write
    rw [hw]; rfl
  repeat (first | refine LoadD.own 1 rfl _ rfl rfl ?_)
  refine CmpD.split (fun c2=>?_) (fun c2=>?_)
  · repeat (first | refine LoadD.own 1 rfl _ rfl rfl ?_ | refine LoadD.own 2 rfl _ rfl rfl ?_ | refine StoreD.st 2 rfl rfl rfl ?_)
    refine Done.mk ⟨[[]],Drop.pick [0] _ rfl,same 70 _ (Imm.le_refl _) ?_⟩
    have c2':(sl:Int)≤n:=c2
    have hw:wrongE d.now.length n=70:=by unfold wrongE; rw [if_neg (show ¬ d.now.length=0 by omega),if_pos (by omega)]
    unfold DSt.write
    rw [hw]; rfl
  skip
  have c2':¬ (sl:Int)≤n:=c2
  have hw0:wrongE d.now.length n=0:=by unfold wrongE; rw [if_neg (show ¬ d.now.length=0 by omega),if_neg (by omega)]
  refine CmpD.split (fun c3=>?_) (fun c3=>?_)
  rotate_left
  · repeat (first | refine LoadD.own 1 rfl _ rfl rfl ?_ | refine LoadD.own 2 rfl _ rfl rfl ?_ | refine StoreD.st 2 rfl rfl rfl ?_)
    refine Done.mk ⟨[[]],Drop.pick [0] _ rfl,same 2 _ (Imm.le_refl _) ?_⟩
    unfold DSt.write
    rw [hw0,if_neg (by simp),if_pos (by omega)]
  repeat (first | refine LoadD.own 1 rfl _ rfl rfl ?_)
  refine Tri.free (hop _) ?_
  rintro v J0 _ hJ0 ⟨rfl,rfl⟩
  conv=>whnf
  intro b3
  repeat (first | refine StoreD.st 3 rfl rfl rfl ?_)
  refine CmpD.split (fun c4=>?_) (fun c4=>?_)
  rotate_left
  · repeat (first | refine LoadD.own 2 rfl _ rfl rfl ?_ | refine LoadD.own 3 rfl _ rfl rfl ?_ | refine StoreD.st 2 rfl rfl rfl ?_)
    have hd:d.write n data=d.stop:=by unfold DSt.write; rw [hw0,if_neg (by simp),if_neg (by omega),if_pos c4]
    refine Done.mk ⟨[[]],Drop.pick [0] _ rfl,?_⟩
    rw [hd]
    exact ⟨_,[],rfl,rfl,fun J' hJ' _=>(RDk.stop hwf hsnd hS hBk hbd hW rfl hwp).mono hJ'⟩
  repeat (first | refine LoadD.own 1 rfl _ rfl rfl ?_)
  have hplain:∀ u ∈ imgCells gs,Plain u=true:=by
    intro u hu
    unfold imgCells at hu
    obtain ⟨g,_,h⟩:=List.mem_flatMap.1 hu
    simp only [List.mem_cons,List.not_mem_nil,or_false] at h
    rcases h with rfl | rfl <;> rfl
  obtain ⟨k,rfl⟩:∃ k:Nat,n=k:=⟨n.toNat,by omega⟩
  refine appendD tabOk rfl rfl rfl rfl rfl rfl rfl 0 rfl (OwnC.nil 2 none) (SrcOk.slice (n:=gs.length) (news:=imgCells gs) tabOk rfl hW.1.slC hplain) rfl (by show (0+gs.length) * 32≤_; omega) (by omega) ?_
  intro aL capL chL hL
  refine Tri.free (copy_fix _ aB len capB data hB hlen) ?_
  rintro v J1 _ hJ1 ⟨aC,capC,rfl,hC⟩
  conv=>whnf
  intro b43
  skip
  refine appendD tabOk rfl rfl rfl rfl rfl rfl rfl 0 rfl hL (SrcOk.slice (n:=1) (news:=imgCells [⟨k,aC,len,capC,data⟩]) tabOk rfl ((OwnC.whole (len:=1) (size:=2) rfl).slC 4 rfl) (by intro v hv; simp [imgCells] at hv; rcases hv with rfl | rfl <;> rfl)) rfl (by show (0+gs.length+1) * 32≤_; omega) (by omega) ?_
  intro aM capM chM hM
  repeat (first | refine LoadD.own 3 rfl _ rfl rfl ?_ | refine StoreD.st 3 rfl rfl rfl ?_)
  refine ToD.i64 (by omega) (by omega) ?_
  repeat (first | refine LoadD.own 2 rfl _ rfl rfl ?_ | refine LoadD.own 3 rfl _ rfl rfl ?_ | refine StoreD.st 2 rfl rfl rfl ?_ | refine StoreD.st 3 rfl rfl rfl ?_)
  refine Done.mk ⟨[chM],Drop.pick [0] _ rfl,?_⟩
  have hd:d.write k data=({ d.stop.1 with now:=d.now.set k data,writes:=d.writes++[((k:Int),data)],count:=d.count+1 },0):=by
    unfold DSt.write; rw [hw0,if_neg (by simp),if_neg (by omega),if_neg (by omega)]; rfl
  rw [hd] at hwr ⊢
  refine ⟨rV ⟨sa,sl,sc⟩ ⟨aM,0+gs.length+1,capM⟩ (d.count+1) d.stop.1.down (gv d.stop.1.arm) (gv d.stop.1.fault),chM,rfl,rfl,fun J' hJ' hm=>⟨hwr,?_,⟨sa,sl,sc⟩,⟨aM,0+gs.length+1,capM⟩,bS,gs++[⟨k,aC,len,capC,data⟩],rfl,hS.mono (Imm.le_trans hJ1 hJ'),fun b hb=>(hBk b hb).mono (Imm.le_trans hJ1 hJ'),by rw [hst.1]; exact hbd,⟨?_,?_⟩,by simp,by simp [hwp]⟩⟩
  · rw [hst.1]; exact snd_write hwf hsnd k data
  · rw [List.length_append,List.length_singleton]
    rw [imgCells_snoc]
    have:=Rds.of_ownS hM hm
    rw [List.nil_append,Nat.zero_add] at this
    show Rds J' aM _ _
    exact this
  · intro g hg
    rcases List.mem_append.1 hg with hg | hg
    · exact (hW.2 g hg).mono (Imm.le_trans hJ1 hJ')
    · simp only [List.mem_singleton] at hg
      subst hg
      exact ⟨hn,hC.mono hJ'⟩
end Go.Proofs.YtegdcjnjnoeinaaGreat
namespace Go.Proofs.YtegdcjnjnoeinaaGreat
open Go.RowKit Go.Sl
set_option maxRecDepth 20000
set_option maxHeartbeats 1000000 in
theorem r4_Flush {I:Imm} {v:Value} {d:DSt} (hD:RDk I v d) (hf:d.Few 1000000) :
    Tri Tryz.prog 127 #[v] I [] fun r J _=>∃ v',r=.tuple #[v',.int .i64 d.flush.2]∧RDk J v' d.flush.1:=by
  refine Tri.fixed (Q:=fun r J S'=>∃ v' ch,r=.tuple #[v',.int .i64 d.flush.2]∧S'=[ch]∧∀ J',J.le J'→(∀ x ∈ ch,J' x.1=some x.2)→RDk J' v' d.flush.1) ?_ ?_
  rotate_left
  · rintro r J S' hJ ⟨v',ch,rfl,rfl,h⟩
    exact ⟨0,ch,rfl,fun J' hJ' hm=>⟨v',rfl,h J' hJ' hm⟩⟩
  have hwf:=hD.wf
  have hsnd:=hD.snd
  have hwr:=hD.wf.flush
  obtain ⟨s,w,bS,gs,rfl,hS,hBk,hbd,hW,hwl,hwp⟩:=hD.ex
  obtain ⟨q1,q2,q3,q4⟩:=stop_r4 d hwf.arm hwf.fault
  have hsl:s.len=d.safe.length:=by rw [← hbd,List.length_map]; have:=hS.len; rw [List.length_map] at this; exact this.symm
  have hgl:gs.length=d.writes.length:=by rw [← hwp,List.length_map]
  obtain ⟨f1,f2,f3⟩:=hf
  have hr:=hwf.range
  have hll:=hwf.len
  have hst:=d.stop_same
  refine Tri.lay (S2:=[[]]) (by simp) ?_
  refine Tri.drop ?_ (fun _ _ _ _ h=>h)
  have hop:=r4_operation s w d.count d.down (gv d.arm) (gv d.fault) (gv_in hwf.arm) (gv_in hwf.fault)
  rw [q1,q2,q3,q4] at hop
  have hat:=r4_At s w d.count d.down (gv d.arm) (gv d.fault) bS gs
  obtain ⟨sa,sl,sc⟩:=s
  obtain ⟨wa,wl,wc⟩:=w
  dsimp only at hS hW hwl hsl hat
  subst hwl
  refine Tri.of (args:=[rV ⟨sa,sl,sc⟩ ⟨wa,gs.length,wc⟩ d.count d.down (gv d.arm) (gv d.fault)]) tabOk Tryz.func127 rfl (by kernel_rfl) (by kernel_rfl) ?_
  conv=>whnf
  intro b1
  conv=>whnf
  intro b2
  repeat (first | refine LoadD.own 1 rfl _ rfl rfl ?_)
  refine Tri.free (hop _) ?_
  rintro v J0 _ hJ0 ⟨rfl,rfl⟩
  conv=>whnf
  intro b3
  repeat (first | refine StoreD.st 3 rfl rfl rfl ?_)
  refine CmpD.split (fun c4=>?_) (fun c4=>?_)
  rotate_left
  · repeat (first | refine LoadD.own 2 rfl _ rfl rfl ?_ | refine LoadD.own 3 rfl _ rfl rfl ?_ | refine StoreD.st 2 rfl rfl rfl ?_)
    have hd:d.flush=d.stop:=by unfold DSt.flush; rw [if_pos c4]
    refine Done.mk ⟨[[]],Drop.pick [0] _ rfl,?_⟩
    rw [hd]
    exact ⟨_,[],rfl,rfl,fun J' hJ' _=>(RDk.stop hwf hsnd hS hBk hbd hW rfl hwp).mono hJ'⟩
  skip
  have hst2:=hst.2.1
  refine CodeF.loopD [1,2,4,6,7] (fun vs J' S'=>∃ (i:Nat) (a:Option Addr) (cap:Nat) (ch:List Blk) (bks:List Bk),i≤sl∧OwnC ch 1 a i cap (bks.map Bk.cell)∧bks.map Bk.data=d.now.take i∧(∀ b ∈ bks,BkOk I b)∧vs=[.pointer (some ⟨b1,0,none⟩),.pointer (some ⟨b2,0,none⟩),.pointer (some ⟨b3,0,none⟩),.slice a i cap,.int .i64 i]∧I=J' ∧
      S'=[ch,[(b1,row [.slice sa sl sc,.slice wa gs.length wc,.int .i64 d.count,.bool d.down,.int .i64 (gv d.arm),.int .i64 (gv d.fault)] 76)],[(b2,row [.slice none 0 0,.slice none 0 0,.int .i64 0,.bool false,.int .i64 0,.int .i64 0] 76)],[(b3,row [.slice sa sl sc,.slice wa gs.length wc,.int .i64 d.count,.bool d.stop.1.down,.int .i64 (gv d.stop.1.arm),.int .i64 (gv d.stop.1.fault)] 76)]])
    (fun vs _ _=>match vs with | [_,_,_,_,.int _ i]=>((sl:Int) - i).toNat | _=>0) ?_ ?_
  · exact ⟨_,Drop.pick [0,1,2,3] _ rfl,0,none,0,[],[],by omega,OwnC.nil 1 none,by simp,by simp,rfl,rfl,rfl⟩
  rintro vs gE J' S' hJ' ⟨i,a,cap,ch,bks,hi,hO,hdat,hok,rfl,rfl,rfl⟩
  refine LoadD.own 1 rfl _ rfl rfl ?_
  refine CmpD.split (fun c1=>?_) (fun c1=>?_)
  · have hlt:i < sl:=by omega
    have hbi:i < bS.length:=by have:=congrArg List.length hbd; rw [List.length_map] at this; omega
    have hsafe:d.safe.getD i []=bS[i].data:=by rw [← hbd,List.getD_eq_getElem?_getD,List.getElem?_map,List.getElem?_eq_getElem hbi]; rfl
    have hn:d.now[i]?=some (atP bS[i].data d.writes i):=by have:=hsnd i (by omega); rwa [hsafe] at this
    have hln:(atP bS[i].data d.writes i).length=4096:=hwf.now _ (List.mem_of_getElem? hn)
    have hati:=hat I hS (by omega) hW rfl (by omega) i (List.getElem?_eq_getElem hbi) (hBk _ (List.getElem_mem hbi))
    rw [hwp] at hati
    generalize atP bS[i].data d.writes i=dat at *
    repeat (first | refine LoadD.own 1 rfl _ rfl rfl ?_)
    refine Tri.free hati ?_
    rintro v J1 _ hJ1 ⟨rfl,aN,len,capN,rfl,hN⟩
    obtain rfl:len=4096:=by have:=hN.len; rw [bts_length] at this; omega
    conv=>whnf
    intro b4
    skip
    refine appendD tabOk rfl rfl rfl rfl rfl rfl rfl 0 rfl hO (SrcOk.slice (n:=1) (news:=[.slice aN 4096 capN]) tabOk rfl ((OwnC.whole (len:=1) (size:=1) rfl).slC 4 rfl) (by intro v hv; simp only [List.mem_singleton] at hv; subst hv; rfl)) rfl (by show (i+1) * 24≤_; omega) (by omega) ?_
    intro a2 cap2 ch2 hO2
    refine ToD.i64 (by omega) (by omega) ?_
    refine ⟨_,Drop.pick [0,1,2,3] _ rfl,⟨i+1,a2,cap2,ch2,bks++[⟨aN,capN,dat⟩],by omega,by rw [List.map_append]; exact hO2,?_,?_,rfl,rfl,rfl⟩,?_⟩
    · rw [List.map_append,hdat,List.take_add_one,hn]; rfl
    · intro b hb
      rcases List.mem_append.1 hb with hb | hb
      · exact hok b hb
      · simp only [List.mem_singleton] at hb
        subst hb
        exact hN
    · show ((sl:Int) - ((i:Int)+1)).toNat < ((sl:Int) - i).toNat; omega
  · obtain rfl:i=sl:=by omega
    repeat (first | refine LoadD.own 2 rfl _ rfl rfl ?_ | refine LoadD.own 3 rfl _ rfl rfl ?_ | refine StoreD.st 2 rfl rfl rfl ?_ | refine StoreD.st 3 rfl rfl rfl ?_)
    have hd:d.flush=({ d.stop.1 with safe:=d.now,writes:=[] },0):=by unfold DSt.flush; rw [if_neg (by omega)]
    refine Done.mk ⟨[ch],Drop.pick [0] _ rfl,?_⟩
    rw [hd] at hwr ⊢
    have htake:d.now.take i=d.now:=List.take_of_length_le (by omega)
    rw [htake] at hdat
    refine ⟨rV ⟨a,i,cap⟩ ⟨none,0,0⟩ d.count d.stop.1.down (gv d.stop.1.arm) (gv d.stop.1.fault),ch,rfl,rfl,fun J' hJ' hm=>⟨hwr,?_,⟨a,i,cap⟩,⟨none,0,0⟩,bks,[],?_,Rds.of_own hO hm,fun b hb=>(hok b hb).mono hJ',hdat,⟨⟨rfl,.inl rfl⟩,by simp⟩,rfl,rfl⟩⟩
    · intro k hk
      dsimp only at hk ⊢
      rw [hst2]
      show d.now[k]?=some (d.now.getD k [])
      rw [List.getD_eq_getElem?_getD,List.getElem?_eq_getElem hk]; rfl
    · show _=rV _ _ d.stop.1.count _ _ _
      rw [hst.2.2.2]
end Go.Proofs.YtegdcjnjnoeinaaGreat
namespace Go.Proofs.YtegdcjnjnoeinaaGreat
open Go.RowKit Go.Sl
set_option maxRecDepth 20000
theorem r4_Armed {I:Imm} {v:Value} {d:DSt} (hD:RDk I v d) (n:Int) (hn:In64 n) :
    Tri Tryz.prog 54 #[v,.int .i64 n] I [] fun r J _=>∃ v',r=.tuple #[v',.int .i64 (d.armed n).2]∧RDk J v' (d.armed n).1:=by
  have hwf:=hD.wf
  have hsnd:=hD.snd
  obtain ⟨⟨sa,sl,sc⟩,⟨wa,wl,wc⟩,bS,gs,rfl,hS,hBk,hbd,hW,hwl,hwp⟩:=hD.ex
  unfold In64 at hn
  refine Tri.of (args:=[rV ⟨sa,sl,sc⟩ ⟨wa,wl,wc⟩ d.count d.down (gv d.arm) (gv d.fault),.int .i64 n]) tabOk Tryz.func54 rfl (by kernel_rfl) (by kernel_rfl) ?_
  conv=>whnf
  intro b1
  conv=>whnf
  intro b2
  unfold DSt.armed
  refine CmpD.split (fun c1=>?_) (fun c1=>?_)
  · repeat (first | refine LoadD.own 0 rfl _ rfl rfl ?_ | refine LoadD.own 1 rfl _ rfl rfl ?_ | refine StoreD.st 1 rfl rfl rfl ?_)
    rw [if_pos c1]
    exact Done.mk ⟨_,rfl,hD⟩
  · repeat (first | refine LoadD.own 0 rfl _ rfl rfl ?_ | refine LoadD.own 1 rfl _ rfl rfl ?_ | refine StoreD.st 0 rfl rfl rfl ?_ | refine StoreD.st 1 rfl rfl rfl ?_)
    rw [if_neg c1]
    refine Done.mk ⟨_,rfl,⟨⟨hwf.len,hwf.range,hwf.safe,hwf.now,hwf.writes,fun _=>⟨by show 0≤n; omega,by show n≤9223372036854775807; omega⟩,hwf.fault⟩,hsnd,⟨sa,sl,sc⟩,⟨wa,wl,wc⟩,bS,gs,rfl,hS,hBk,hbd,hW,hwl,hwp⟩⟩
end Go.Proofs.YtegdcjnjnoeinaaGreat
namespace Go.Proofs.YtegdcjnjnoeinaaGreat
open Go.RowKit Go.Sl
set_option maxRecDepth 20000
end Go.Proofs.YtegdcjnjnoeinaaGreat
namespace Go.Proofs.YtegdcjnjnoeinaaGreat
open Go.RowKit Go.Sl
set_option maxRecDepth 20000
theorem rdk_fresh {I:Imm} {l:List Dat} {bS:List Bk} {a:Option Addr} {n cap:Nat} (hn:1≤n∧n≤512) (hR:Rds I a n (bS.map Bk.cell)) (hok:∀ b ∈ bS,BkOk I b) (hd:bS.map Bk.data=l) (hl:l.length=n) (h4:∀ b ∈ l,b.length=4096) :
    RDk I (rV ⟨a,n,cap⟩ ⟨none,0,0⟩ 0 false (-1) (-1)) (DSt.of l):=by
  refine ⟨⟨rfl,by show 1≤l.length∧l.length≤512; omega,h4,h4,fun w hw=>(List.not_mem_nil hw).elim,fun h=>(Bool.false_ne_true h).elim,fun h=>(Bool.false_ne_true h).elim⟩,?_,⟨a,n,cap⟩,⟨none,0,0⟩,bS,[],rfl,hR,hok,hd,⟨⟨rfl,.inl rfl⟩,by simp⟩,rfl,rfl⟩
  intro i hi
  show l[i]?=some (l.getD i [])
  have hi:i < l.length:=hi
  rw [List.getD_eq_getElem?_getD,List.getElem?_eq_getElem hi]; rfl
set_option maxHeartbeats 1000000 in
theorem r4_Load {I:Imm} (a:Option Addr) (n cap:Nat) (l:Dat) (hn:1≤n∧n≤512) (h:Rds I a (n * 4096) (bts l)) (hcap:n * 4096≤cap) :
    Tri Tryz.prog 53 #[.slice a (n * 4096:Nat) cap] I [] fun r J _=>∃ v',r=.tuple #[v',.int .i64 0]∧RDk J v' (DSt.of (blocksOf l n)):=by
  refine Tri.fixed (Q:=fun r J S'=>∃ v' ch,r=.tuple #[v',.int .i64 0]∧S'=[ch]∧∀ J',J.le J'→(∀ x ∈ ch,J' x.1=some x.2)→RDk J' v' (DSt.of (blocksOf l n))) ?_ ?_
  rotate_left
  · rintro r J S' hJ ⟨v',ch,rfl,rfl,h⟩
    exact ⟨0,ch,rfl,fun J' hJ' hm=>⟨v',rfl,h J' hJ' hm⟩⟩
  have hll:l.length=n * 4096:=by rw [← bts_length,h.len]
  rcases h.mem with q0 | ⟨b,off,c,T,fr,rfl,hIb,hc⟩
  · omega
  refine Tri.lay (S2:=[[]]) (by simp) ?_
  refine Tri.drop ?_ (fun _ _ _ _ h=>h)
  refine Tri.of (args:=[.slice (some ⟨b,off,none⟩) (n * 4096:Nat) cap]) tabOk Tryz.func53 rfl (by kernel_rfl) (by kernel_rfl) ?_
  conv=>whnf
  intro b2
  conv=>whnf
  intro b4
  repeat (first | refine StoreD.st 2 rfl rfl rfl ?_)
  refine CmpD.no (by omega) ?_
  skip
  refine CmpD.no (by omega) ?_
  skip
  refine Chk.mk (by decide) ?_
  refine ToD.rem (by omega) ?_
  refine CmpD.yes (by omega) ?_
  skip
  refine CodeF.loopD [0,2,4,5] (fun vs J' S'=>∃ (i:Nat) (aS:Option Addr) (capS:Nat) (ch:List Blk) (bks:List Bk),i≤n∧OwnC ch 1 aS i capS (bks.map Bk.cell)∧bks.map Bk.data=blocksOf l i∧(∀ b ∈ bks,BkOk J' b)∧I.le J'∧vs=[.slice (some ⟨b,off,none⟩) (n * 4096:Nat) cap,.pointer (some ⟨b2,0,none⟩),.pointer (some ⟨b4,0,none⟩),.int .i64 (i * 4096:Nat)] ∧
      S'=[ch,[(b2,row [.slice none 0 0,.slice none 0 0,.int .i64 0,.bool false,.int .i64 0,.int .i64 0] 76)],[(b4,row [.slice aS i capS,.slice none 0 0,.int .i64 0,.bool false,.int .i64 (-1),.int .i64 (-1)] 76)]])
    (fun vs _ _=>match vs with | [_,_,_,.int _ i]=>((n * 4096:Nat) - i).toNat | _=>0) ?_ ?_
  · exact ⟨_,Drop.pick [0,1,2] _ rfl,0,none,0,[],[],by omega,OwnC.nil 1 none,by unfold blocksOf; rfl,by simp,Imm.le_refl _,rfl,rfl⟩
  rintro vs gE J' S' hJ' ⟨i,aS,capS,ch,bks,hi,hO,hdat,hok,hle,rfl,rfl⟩
  refine CmpD.split (fun c1=>?_) (fun c1=>?_)
  · have hlt:i < n:=by omega
    refine CodeF.sched [[],[0],[],[],[],[4],[2,3,4,5],[2,3,4,5,6],[2,3,4,5,6,7],[0,1,2,3,4,5,6,7,8],[0,1,2,3,4,5,6,7,8,9],[0,1,2,3,4,5,6,7,8,9,10]] [0,1,2,3,4,5,6,7,8,9,10,11] (by kernel_rfl) ?_
    refine LoadP.at 2 rfl _ rfl rfl ?_
    refine ToD.to ((i * 4096+4096:Nat):Int) (by rw [wrap_i64 (by omega) (by omega)]; omega) ?_
    refine sliceD tabOk rfl rfl rfl rfl (i * 4096) (i * 4096+4096) cap ⟨_,rfl⟩ ⟨_,rfl⟩ rfl (.inl rfl) (by omega) ?_
    repeat (first | refine Chk.mk ⟨rfl,trivial⟩ ?_)
    have hp:=(Rds_part h (i * 4096) 4096 (by omega)).mono hle
    have hx:Value.slice (slAddr (some ⟨b,off,none⟩) (i * 4096) cap 1) (i * 4096+4096 - i * 4096) (cap - i * 4096)=.slice (some ⟨b,off+i * 4096,none⟩) 4096 (cap - i * 4096):=by
      unfold slAddr
      rw [if_neg (by omega),Nat.add_sub_cancel_left]
      simp [add_none]
    have hcall:=copy_fix J' _ 4096 (cap - i * 4096) _ hp (by omega)
    rw [← hx] at hcall
    refine Tri.free hcall ?_
    rintro v J1 _ hJ1 ⟨aC,capC,rfl,hC⟩
    repeat (first | refine Chk.mk ⟨rfl,trivial⟩ ?_)
    conv=>whnf
    intro b36
    repeat (first | refine Chk.mk ⟨rfl,trivial⟩ ?_)
    refine appendD tabOk rfl rfl rfl rfl rfl rfl rfl 0 rfl hO (SrcOk.slice (n:=1) (news:=[.slice aC 4096 capC]) tabOk rfl ((OwnC.whole (len:=1) (size:=1) rfl).slC 3 rfl) (by intro v hv; simp only [List.mem_singleton] at hv; subst hv; rfl)) rfl (by show (i+1) * 24≤_; omega) (by omega) ?_
    intro a2 cap2 ch2 hO2
    repeat (first | refine StoreD.st 2 rfl rfl rfl ?_)
    refine ToD.to ((((i+1) * 4096:Nat)):Int) (by rw [wrap_i64 (by omega) (by omega)]; omega) ?_
    refine ⟨_,Drop.pick [0,1,2] _ rfl,⟨i+1,a2,cap2,ch2,bks++[⟨aC,capC,(l.drop (i * 4096)).take 4096⟩],by omega,by rw [List.map_append]; exact hO2,?_,?_,Imm.le_trans hle hJ1,rfl,rfl⟩,?_⟩
    · rw [List.map_append,hdat,blocksOf_succ]; rfl
    · intro x hx
      rcases List.mem_append.1 hx with hx | hx
      · exact (hok x hx).mono hJ1
      · simp only [List.mem_singleton] at hx
        subst hx
        exact hC
    · show ((n * 4096:Nat) - ((((i+1) * 4096:Nat)):Int)).toNat < ((n * 4096:Nat) - (((i * 4096:Nat)):Int)).toNat
      omega
  · obtain rfl:i=n:=by omega
    repeat (first | refine LoadD.own 1 rfl _ rfl rfl ?_ | refine LoadD.own 2 rfl _ rfl rfl ?_ | refine StoreD.st 1 rfl rfl rfl ?_)
    refine Done.mk ⟨[ch],Drop.pick [0] _ rfl,_,ch,rfl,rfl,fun J2 hJ2 hm=>?_⟩
    refine rdk_fresh hn (Rds.of_own hO hm) (fun x hx=>(hok x hx).mono hJ2) hdat (blocksOf_length l i) ?_
    intro x hx
    unfold blocksOf at hx
    obtain ⟨k,hk,rfl⟩:=List.mem_map.1 hx
    have:=List.mem_range.1 hk
    rw [List.length_take,List.length_drop]
    omega
theorem blocks_noughts (n:Nat):blocksOf (List.replicate (n * 4096) 0) n=List.replicate n noughts:=by
  unfold blocksOf noughts
  apply List.ext_getElem
  · simp
  · intro i hi _
    simp only [List.length_map,List.length_range] at hi
    simp only [List.getElem_map,List.getElem_range,List.drop_replicate,List.take_replicate,List.getElem_replicate]
    congr 1
    omega
theorem r4_New (I:Imm) (n:Nat) (hn:1≤n∧n≤512) :
    Tri Tryz.prog 43 #[.int .i64 n] I [] fun r J _=>∃ v',r=.tuple #[v',.int .i64 0]∧RDk J v' (DSt.of (List.replicate n noughts)):=by
  refine Tri.of (args:=[.int .i64 n]) tabOk Tryz.func43 rfl (by kernel_rfl) (by kernel_rfl) ?_
  conv=>whnf
  intro b2
  refine CmpD.no (by omega) ?_
  skip
  refine CmpD.no (by omega) ?_
  skip
  refine ToD.to ((n * 4096:Nat):Int) (by rw [wrap_i64 (by omega) (by omega)]; omega) ?_
  refine makeD tabOk rfl rfl rfl (n * 4096) (n * 4096) rfl rfl (Nat.le_refl _) (by show 1 * (n * 4096)≤_; omega) (by omega) (by show n * 4096 * 1≤_; omega) rfl (by decide) ?_
  intro bM
  refine Tri.fix 1 rfl fun I' hI' hm=>?_
  have hz:=Rds.of_own (cap:=n * 4096) (len:=n * 4096) (a:=some ⟨bM,0,none⟩) (vs:=bts (List.replicate (n * 4096) 0)) (by show OwnC _ 1 _ _ _ _; rw [show bts (List.replicate (n * 4096) 0)=rows (n * 4096) [Value.int .u8 0] from (zeros_bts _).symm]; exact OwnC.whole (by rw [rows_length]; rfl)) hm
  refine Tri.free (r4_Load _ n (n * 4096) _ hn hz (Nat.le_refl _)) ?_
  rintro v J _ hJ ⟨v',rfl,hD⟩
  obtain ⟨s,w,bS,gs,rfl,hex⟩:=id hD.ex
  repeat (first | refine LoadD.own 0 rfl _ rfl rfl ?_ | refine StoreD.st 0 rfl rfl rfl ?_)
  rw [blocks_noughts] at hD
  exact Done.mk ⟨_,rfl,hD⟩
end Go.Proofs.YtegdcjnjnoeinaaGreat
namespace Go.Proofs.YtegdcjnjnoeinaaGreat
open Go.RowKit Go.Sl
set_option maxRecDepth 20000
theorem ref_PutF (s:Sup) (I:Imm):Tri Tryz.prog 111 #[s.v] I [] fun v J _ =>
    (¬ RightS s∧v=.tuple #[.slice none 0 0,.int .i64 2])∨(RightS s∧∃ a cap,v=.tuple #[.slice a 4096 cap,.int .i64 0]∧Rds J a 4096 (bts (supL s))):=by
  by_cases hR:RightS s
  · refine Tri.fixed (ref_PutSuper s I) ?_
    rintro v J S' hJ ⟨rfl,⟨h,_⟩ | ⟨_,a,cap,ch,rfl,hown,rfl⟩⟩
    · exact absurd hR h
    · exact ⟨0,ch,rfl,fun J' hJ' hm=>.inr ⟨hR,a,cap,rfl,Rds.of_own hown hm⟩⟩
  · refine (ref_PutSuper s I).mono ?_
    rintro v J S' hJ ⟨rfl,⟨_,rfl,rfl⟩ | ⟨h,_⟩⟩
    · exact .inl ⟨hR,rfl⟩
    · exact absurd h hR
@[reducible] def rBox (b:Nat) (s w:Hd) (count:Int) (down:Bool) (arm fault:Int):List Blk:=[(b,row [s.v,w.v,.int .i64 count,.bool down,.int .i64 arm,.int .i64 fault] 76)]
@[reducible] def sBox (b:Nat) (s:Sup):List Blk:=[(b,row [.int .i64 s.blocks,.int .i64 s.epoch,.int .i64 s.seq,.int .i64 s.tail] 143)]
set_option maxHeartbeats 4000000 in
theorem r10_Do {I:Imm} {v:Value} {d:DSt} (hD:RDk I v d) (k:Nat) (hf:d.Few k) (aL:Option Addr) (capL:Nat) (gs:List Img) (hi:ImgsOk I aL gs) (hk:k+gs.length≤900000) (s:Sup) (slot:Int) (hslot:In64 slot) :
    Tri Tryz.prog 119 #[v,.slice aL gs.length capL,s.v,.int .i64 slot] I [] fun r J _=>∃ v',r=.tuple #[v',.int .i64 (doP d (gs.map Img.pr) s slot).2]∧RDk J v' (doP d (gs.map Img.pr) s slot).1:=by
  have hr:=hD.wf.range
  have hll:=hD.wf.len
  obtain ⟨⟨sa,sl,sc⟩,⟨wa,wl,wc⟩,bS,gW,rfl,hS,hBk,hbd,hex⟩:=id hD.ex
  dsimp only at hS
  have hsl:sl=d.safe.length:=by rw [← hbd,List.length_map]; have:=hS.len; rw [List.length_map] at this; exact this.symm
  refine Tri.of (args:=[rV ⟨sa,sl,sc⟩ ⟨wa,wl,wc⟩ d.count d.down (gv d.arm) (gv d.fault),.slice aL gs.length capL,s.v,.int .i64 slot]) tabOk Tryz.func119 rfl (by kernel_rfl) (by kernel_rfl) ?_
  conv=>whnf
  intro b4
  conv=>whnf
  intro b6
  conv=>whnf
  intro b8
  repeat (first | refine LoadD.own 1 rfl _ rfl rfl ?_)
  unfold doP
  refine Tri.free (ref_PutF s I) ?_
  rintro v J _ hJ (⟨hR,rfl⟩ | ⟨hR,aB,capB,rfl,hB⟩)
  · repeat (first | refine LoadD.own 0 rfl _ rfl rfl ?_ | refine LoadD.own 2 rfl _ rfl rfl ?_ | refine StoreD.st 2 rfl rfl rfl ?_ | refine CmpD.no (by decide) ?_)
    rw [if_pos (.inl hR)]
    exact Done.mk ⟨_,rfl,hD.mono hJ⟩
  have hDJ:=hD.mono hJ
  have hiJ:=hi.mono hJ
  repeat (first | refine CmpD.yes rfl ?_)
  by_cases hs01:slot=0∨slot=1
  rotate_left
  · refine CmpD.no (fun h=>hs01 (.inl h)) ?_
    skip
    refine CmpD.no (fun h=>hs01 (.inr h)) ?_
    repeat (first | refine LoadD.own 0 rfl _ rfl rfl ?_ | refine LoadD.own 2 rfl _ rfl rfl ?_ | refine StoreD.st 2 rfl rfl rfl ?_)
    rw [if_pos (by by_cases h:slot < 0; exact .inr (.inl h); exact .inr (.inr (.inl (by omega))))]
    exact Done.mk ⟨_,rfl,hDJ⟩
  rcases hs01 with h01 | h01
  all_goals
    repeat (first | refine CmpD.yes (by omega) ?_ | refine CmpD.no (by omega) ?_)
    refine CodeF.loopD [1,3,4,8,10,12] (fun vs J' S'=>∃ i:Nat,i≤gs.length∧DoOk d ((gs.take i).map Img.pr)∧(∀ g ∈ gs.take i,g.len=4096)∧vs=[.slice aL gs.length capL,.int .i64 slot,.pointer (some ⟨b4,0,none⟩),.pointer (some ⟨b8,0,none⟩),.slice aB 4096 capB,.int .i64 i]∧J=J' ∧
        S'=[rBox b4 ⟨sa,sl,sc⟩ ⟨wa,wl,wc⟩ d.count d.down (gv d.arm) (gv d.fault),rBox b8 ⟨none,0,0⟩ ⟨none,0,0⟩ 0 false 0 0])
      (fun vs _ _=>match vs with | [_,_,_,_,_,.int _ i]=>((gs.length:Int) - i).toNat | _=>0) ?_ ?_
    · exact ⟨_,Drop.pick [0,2] _ rfl,0,by omega,by intro g hg; simp at hg,by simp,rfl,rfl,rfl⟩
    rintro vs gE J' S' hJ' ⟨i,hil,hok,hlen,rfl,rfl,rfl⟩
    refine CmpD.split (fun c3=>?_) (fun c3=>?_)
    · have hlt:i < gs.length:=by omega
      rcases hiJ.1.mem with q0 | ⟨bA,oA,cA,TA,fA,rfl,hIA,hcA⟩
      · omega
      have hpair:=take_part hcA (i:=i * 2) (m:=2) (by omega)
      rw [imgCells_at hlt] at hpair
      have htk:gs.take (i+1)=gs.take i++[gs[i]]:=by rw [List.take_add_one,List.getElem?_eq_getElem hlt]; rfl
      have hmem:gs[i] ∈ gs:=List.getElem_mem hlt
      have hdl:=hiJ.len hmem
      have no:¬ (2≤gs[i].blk∧gs[i].blk < d.now.length∧gs[i].len=4096)→¬ DoOk d (gs.map Img.pr):=by
        intro h h'
        have:=h' gs[i].pr (List.mem_map_of_mem hmem)
        exact h ⟨this.1,this.2.1,by rw [← hdl]; exact this.2.2⟩
      generalize gs[i]=g at *
      refine CodeF.sched [[],[],[0,1],[0,1,2],[0,1,2,3],[0,1,2,3,4],[0,1,2,3,4,5],[0,1,2,3,4,5,6],[0,1,2,3,4,5,6],[0,1,2,3,4,5,6,7,8],[0,1,2,3,4,5,6,7,8,9],[0,1,2,3,4,5,6,7,8,9,10],[0,1,2,3,4,5,6],[0,1,2,3,4,5,6,12],[0,1,2,3,4,5,6,12,13],[0,1,2,3,4,5,6,7,8,9,10,11,12,13,14],[0,1,2,3,4,5,6,7,8,9,10,11,12,13,14,15],[0,1,2,3,4,5,6,7,8,9,10,11,12,13,14,15,16],[0,1,2,3,4,5,6,7,8,9,10,11,12,13,14,15,16,17],[0,1,2,3,4,5,6,7,8,9,10,11,12,13,14,15,16,17],[0,1,2,3,4,5,6,7,8,9,10,11,12,13,14,15,16,17,18,19],[0,1,2,3,4,5,6,7,8,9,10,11,12,13,14,15,16,17,18,19,20],[0,1,2,3,4,5,6,7,8,9,10,11,12,13,14,15,16,17,18,19,20,21],[0,1,2,3,4,5,6,7,8,9,10,11,12,13,14,15,16,17,18,19,20,21,22],[0,1,2,3,4,5,6,7,8,9,10,11,12,13,14,15,16,17,18,19,20,21,22,23],[0,1,2,3,4,5,6,7,8,9,10,11,12,13,14,15,16,17,18,19,20,21,22,23,24]] [0,1,2,3,4,5,6,7,8,9,10,11,12,13,14,15,16,17,18,19,20,21,22,23,24,25] (by kernel_rfl) ?_
      refine Chk.mk (by omega) ?_
      refine LoadP.imm [.int .i64 g.blk] ⟨cA,TA,fA,.imm hIA,pair_fst hpair,rfl⟩ ?_
      refine CmpD.split (fun c4=>?_) (fun c4=>?_)
      · repeat (first | refine LoadD.own 0 rfl _ rfl rfl ?_ | refine LoadD.own 1 rfl _ rfl rfl ?_ | refine StoreD.st 1 rfl rfl rfl ?_)
        rw [if_pos (.inr (.inr (.inr (no (fun h=>by omega)))))]
        exact Done.mk ⟨_,rfl,hDJ⟩
      skip
      refine Chk.mk (by omega) ?_
      refine LoadP.imm [.int .i64 g.blk] ⟨cA,TA,fA,.imm hIA,pair_fst hpair,rfl⟩ ?_
      repeat (first | refine LoadP.at 0 rfl _ rfl rfl ?_)
      refine CmpD.split (fun c5=>?_) (fun c5=>?_)
      · have c5:(sl:Int)≤g.blk:=c5
        repeat (first | refine LoadD.own 0 rfl _ rfl rfl ?_ | refine LoadD.own 1 rfl _ rfl rfl ?_ | refine StoreD.st 1 rfl rfl rfl ?_)
        rw [if_pos (.inr (.inr (.inr (no (fun h=>by omega)))))]
        exact Done.mk ⟨_,rfl,hDJ⟩
      have c5:¬ (sl:Int)≤g.blk:=c5
      skip
      refine Chk.mk (by omega) ?_
      refine LoadP.imm [.slice g.a g.len g.cap] ⟨cA,TA,fA,.imm hIA,pair_snd hpair,rfl⟩ ?_
      refine CmpD.split (fun c6=>?_) (fun c6=>?_)
      rotate_left
      · repeat (first | refine LoadD.own 0 rfl _ rfl rfl ?_ | refine LoadD.own 1 rfl _ rfl rfl ?_ | refine StoreD.st 1 rfl rfl rfl ?_)
        rw [if_pos (.inr (.inr (.inr (no (fun h=>by omega)))))]
        exact Done.mk ⟨_,rfl,hDJ⟩
      skip
      refine ToD.i64 (by omega) (by omega) ?_
      refine ⟨_,Drop.pick [0,1] _ rfl,⟨i+1,by omega,?_,?_,rfl,rfl,rfl⟩,?_⟩
      · rw [htk,List.map_append]
        intro q hq
        rcases List.mem_append.1 hq with hq | hq
        · exact hok q hq
        · simp only [List.map_cons,List.map_nil,List.mem_singleton] at hq
          subst hq
          exact ⟨by show 2≤g.blk; omega,by show g.blk < _; omega,by show g.data.length=_; omega⟩
      · intro q hq
        rw [htk] at hq
        rcases List.mem_append.1 hq with hq | hq
        · exact hlen q hq
        · simp only [List.mem_singleton] at hq
          subst hq
          omega
      · show ((gs.length:Int) - ((i:Int)+1)).toNat < ((gs.length:Int) - (i:Int)).toNat
        omega
    obtain rfl:i=gs.length:=by omega
    rw [List.take_length] at hok hlen
    rw [if_neg (by rintro (h | h | h | h); exact h hR; omega; omega; exact h hok)]
    obtain ⟨W,hW⟩:∃ W,W=wrImgs (gs.map Img.pr) d:=⟨_,rfl⟩
    have hWf:W.1.Few (k+gs.length):=by rw [hW]; have:=wrImgs_few (gs.map Img.pr) d k hf; rwa [List.length_map] at this
    rw [← hW]
    refine CodeF.loopD [1,3,4,8,10,13] (fun vs J' S'=>∃ (i:Nat) (d':DSt) (s' w':Hd),i≤gs.length∧W=wrImgs ((gs.drop i).map Img.pr) d'∧d'.Few (k+i)∧RDk J' (rV s' w' d'.count d'.down (gv d'.arm) (gv d'.fault)) d'∧J.le J' ∧
        vs=[.slice aL gs.length capL,.int .i64 slot,.pointer (some ⟨b4,0,none⟩),.pointer (some ⟨b8,0,none⟩),.slice aB 4096 capB,.int .i64 i]∧S'=[rBox b4 s' w' d'.count d'.down (gv d'.arm) (gv d'.fault),rBox b8 ⟨none,0,0⟩ ⟨none,0,0⟩ 0 false 0 0])
      (fun vs _ _=>match vs with | [_,_,_,_,_,.int _ i]=>((gs.length:Int) - i).toNat | _=>0) ?_ ?_
    · exact ⟨_,Drop.refl _,0,d,⟨sa,sl,sc⟩,⟨wa,wl,wc⟩,by omega,by rw [hW]; rfl,hf,hDJ,J.le_refl,rfl,rfl⟩
    rintro vs gE2 J2 S2 hJ2 ⟨i,d',⟨sa',sl',sc'⟩,⟨wa',wl',wc'⟩,hil2,hWi,hfi,hDi,hle,rfl,rfl⟩
    refine CmpD.split (fun c4=>?_) (fun c4=>?_)
    · have hlt:i < gs.length:=by omega
      rcases hiJ.1.mem with q0 | ⟨bA,oA,cA,TA,fA,rfl,hIA,hcA⟩
      · omega
      have hpair:=take_part hcA (i:=i * 2) (m:=2) (by omega)
      rw [imgCells_at hlt] at hpair
      have hmem:gs[i] ∈ gs:=List.getElem_mem hlt
      have hdata:=hiJ.2 _ hmem
      have hgl:=hlen _ hmem
      have hdr:gs.drop i=gs[i] :: gs.drop (i+1):=List.drop_eq_getElem_cons hlt
      generalize gs[i]=g at *
      rw [hdr,List.map_cons,wrImgs] at hWi
      have hIA2:=hle _ _ hIA
      refine CodeF.sched [[],[],[],[1,2],[1,2,3],[1,2,3,4],[],[],[6,7],[6,7,8],[6,7,8,9],[0,1,2,3,4,5,6,7,8,9,10],[0,1,2,3,4,5,6,7,8,9,10,11],[0,1,2,3,4,5,6,7,8,9,10,11,12],[0,1,2,3,4,5,6,7,8,9,10,11,12],[0,1,2,3,4,5,6,7,8,9,10,11,12,13],[0,1,2,3,4,5,6,7,8,9,10,11,12,13,14,15]] [0,1,2,3,4,5,6,7,8,9,10,11,12,13,14,15,16] (by kernel_rfl) ?_
      refine LoadP.at 0 rfl _ rfl rfl ?_
      refine Chk.mk (by omega) ?_
      refine LoadP.imm [.int .i64 g.blk] ⟨cA,TA,fA,.imm hIA2,pair_fst hpair,rfl⟩ ?_
      refine Chk.mk (by omega) ?_
      refine LoadP.imm [.slice g.a g.len g.cap] ⟨cA,TA,fA,.imm hIA2,pair_snd hpair,rfl⟩ ?_
      refine Tri.free (r4_Write hDi (hfi.mono (by omega)) g.blk g.a g.len g.cap g.data (hdata.2.mono hle) (by omega) hdata.1) ?_
      rintro v J3 _ hJ3 ⟨v3,rfl,hD3⟩
      obtain ⟨⟨sa3,sl3,sc3⟩,⟨wa3,wl3,wc3⟩,_,_,rfl,_⟩:=id hD3.ex
      have hf3:=hfi.write g.blk g.data
      rw [show g.pr.1=g.blk from rfl,show g.pr.2=g.data from rfl] at hWi
      generalize hwr:d'.write g.blk g.data=wr at *
      repeat (first | refine StoreD.st 0 rfl rfl rfl ?_)
      refine CmpD.split (fun c5=>?_) (fun c5=>?_)
      · rw [if_neg (by simpa using c5)] at hWi
        skip
        refine ToD.i64 (by omega) (by omega) ?_
        refine ⟨_,Drop.pick [0,1] _ rfl,⟨i+1,_,⟨sa3,sl3,sc3⟩,⟨wa3,wl3,wc3⟩,by omega,hWi,hf3,hD3,Imm.le_trans hle hJ3,rfl,rfl⟩,?_⟩
        show ((gs.length:Int) - ((i:Int)+1)).toNat < ((gs.length:Int) - (i:Int)).toNat
        omega
      · rw [if_pos c5] at hWi
        repeat (first | refine LoadD.own 0 rfl _ rfl rfl ?_ | refine LoadD.own 1 rfl _ rfl rfl ?_ | refine StoreD.st 1 rfl rfl rfl ?_)
        rw [hWi,if_pos c5]
        exact Done.mk ⟨_,rfl,hD3⟩
    obtain rfl:i=gs.length:=by omega
    rw [List.drop_length,List.map_nil,wrImgs] at hWi
    subst hWi
    dsimp only at hWf ⊢
    rw [if_neg (by simp)]
    repeat (first | refine LoadD.own 0 rfl _ rfl rfl ?_)
    refine Tri.free (r4_Flush hDi (hWf.mono (by omega))) ?_
    rintro v J3 _ hJ3 ⟨v3,rfl,hD3⟩
    obtain ⟨⟨sa3,sl3,sc3⟩,⟨wa3,wl3,wc3⟩,_,_,rfl,_⟩:=id hD3.ex
    have hf3:=hWf.flush
    generalize d'.flush=fl at *
    repeat (first | refine StoreD.st 0 rfl rfl rfl ?_)
    refine CmpD.split (fun c5=>?_) (fun c5=>?_)
    rotate_left
    · repeat (first | refine LoadD.own 0 rfl _ rfl rfl ?_ | refine LoadD.own 1 rfl _ rfl rfl ?_ | refine StoreD.st 1 rfl rfl rfl ?_)
      rw [if_pos c5]
      exact Done.mk ⟨_,rfl,hD3⟩
    rw [if_neg (by simpa using c5)]
    unfold lastWr
    repeat (first | refine LoadD.own 0 rfl _ rfl rfl ?_)
    refine Tri.free (r4_Write hD3 (hf3.mono (by omega)) slot aB 4096 capB (supL s) (hB.mono (Imm.le_trans hle hJ3)) (by omega) hslot) ?_
    rintro v J4 _ hJ4 ⟨v4,rfl,hD4⟩
    obtain ⟨⟨sa4,sl4,sc4⟩,⟨wa4,wl4,wc4⟩,_,_,rfl,_⟩:=id hD4.ex
    have hf4:=hf3.write slot (supL s)
    repeat (first | refine StoreD.st 0 rfl rfl rfl ?_)
    refine CmpD.split (fun c6=>?_) (fun c6=>?_)
    rotate_left
    · repeat (first | refine LoadD.own 0 rfl _ rfl rfl ?_ | refine LoadD.own 1 rfl _ rfl rfl ?_ | refine StoreD.st 1 rfl rfl rfl ?_)
      rw [if_pos c6]
      exact Done.mk ⟨_,rfl,hD4⟩
    rw [if_neg (by simpa using c6)]
    repeat (first | refine LoadD.own 0 rfl _ rfl rfl ?_)
    refine Tri.free (r4_Flush hD4 (hf4.mono (by omega))) ?_
    rintro v J5 _ hJ5 ⟨v5,rfl,hD5⟩
    obtain ⟨⟨sa5,sl5,sc5⟩,⟨wa5,wl5,wc5⟩,_,_,rfl,_⟩:=id hD5.ex
    repeat (first | refine LoadD.own 1 rfl _ rfl rfl ?_ | refine StoreD.st 1 rfl rfl rfl ?_)
    exact Done.mk ⟨_,rfl,hD5⟩
end Go.Proofs.YtegdcjnjnoeinaaGreat
namespace Go.Proofs.YtegdcjnjnoeinaaGreat
open Go.RowKit Go.Sl
set_option maxRecDepth 20000
theorem ref_Number {I:Imm} {S:St} {a:Option Addr} {len cap:Nat} {l:List UInt8} (h:SlC I S a len (bts l)) (hlen:len≤1000000000) (at_:Int) (hat:In64 at_) (n:Nat) (hn:n≤8) :
    Tri Tryz.prog 230 #[.slice a len cap,.int .i64 at_,.int .i64 n] I S fun v J S'=>v=.tuple #[.int .u64 (numV l at_ n).1,.bool (numV l at_ n).2]∧I=J∧S'=S:=by
  have hl:l.length=len:=by rw [← bts_length,h.len]
  unfold In64 at hat
  unfold numV
  refine Tri.of (args:=[.slice a len cap,.int .i64 at_,.int .i64 n]) tabOk Tryz.func230 rfl (by kernel_rfl) (by kernel_rfl) ?_
  refine CmpD.split (fun c1=>?_) (fun c1=>?_)
  · rw [if_pos (.inl c1)]; exact Done.mk ⟨rfl,rfl,rfl⟩
  refine CmpD.split (fun c0=>?_) (fun c0=>?_)
  · rw [if_pos (.inr (by omega))]; exact Done.mk ⟨rfl,rfl,rfl⟩
  refine ToD.i64 (by omega) (by omega) ?_
  refine CmpD.split (fun c2=>?_) (fun c2=>?_)
  · rw [if_pos (.inr (by omega))]; exact Done.mk ⟨rfl,rfl,rfl⟩
  rw [if_neg (by omega)]
  obtain ⟨k,rfl⟩:∃ k:Nat,at_=k:=⟨at_.toNat,by omega⟩
  rw [show ((k:Int)).toNat=k from rfl]
  refine CodeF.loopD [0,1,2,8,9] (fun vs J' S'=>∃ (i:Nat),i≤n∧vs=[.slice a len cap,.int .i64 k,.int .i64 n,.int .u64 (nb ((l.drop k).take i):Nat),.int .i64 i]∧I=J'∧S'=S)
    (fun vs _ _=>match vs with | [_,_,_,_,.int _ i]=>((n:Int) - i).toNat | _=>0) ?_ ?_
  · exact ⟨_,Drop.refl _,0,by omega,rfl,rfl,rfl⟩
  rintro vs g J' S' hJ' ⟨i,hi,rfl,rfl,rfl⟩
  refine CmpD.split (fun c3=>?_) (fun c3=>?_)
  · have hin:k+i < l.length:=by omega
    rcases h.mem with h0 | ⟨b,off,rfl,hc⟩
    · omega
    have hv:=nb_lt ((l.drop k).take i)
    have hvl:((l.drop k).take i).length≤7:=by rw [List.length_take]; omega
    have hv2:nb ((l.drop k).take i) < 2 ^ 56:=Nat.lt_of_lt_of_le hv (Nat.pow_le_pow_right (by omega) (by omega))
    have htk:(l.drop k).take (i+1)=(l.drop k).take i++[l[k+i]]:=by
      rw [List.take_add_one,List.getElem?_drop,List.getElem?_eq_getElem hin]; rfl
    have hb:=l[k+i].toNat_lt
    refine ToD.to ((nb ((l.drop k).take i) * 256:Nat):Int) ?_ ?_
    · rw [wrap_u rfl (by omega) (by show 256 * (nb ((l.drop k).take i):Int) < 2 ^ 64; omega)]
      omega
    refine ToD.i64 (by omega) (by omega) ?_
    refine Chk.mk (by omega) ?_
    refine LoadD.mk [byte l[k+i]] (hc.at (i:=k+i) (bts_get (List.getElem?_eq_getElem hin))) ?_
    refine ToD.to ((l[k+i].toNat:Nat):Int) (wrap_u rfl (by omega) (by show (l[k+i].toNat:Int) < 2 ^ 64; omega)) ?_
    refine ToD.to ((nb ((l.drop k).take i) * 256 ||| l[k+i].toNat:Nat):Int) ?_ ?_
    · rw [or_low _ _ (by omega),wrap_u rfl (by omega) (by show ((nb ((l.drop k).take i) * 256:Nat):Int)+(l[k+i].toNat:Int) < 2 ^ 64; omega)]
      omega
    refine ToD.i64 (by omega) (by omega) ?_
    refine ⟨_,Drop.refl _,⟨i+1,by omega,by rw [htk,nb_snoc]; rfl,rfl,rfl⟩,?_⟩
    show ((n:Int) - ((i:Int)+1)).toNat < ((n:Int) - (i:Int)).toNat
    omega
  · obtain rfl:i=n:=by omega
    exact Done.mk ⟨rfl,rfl,rfl⟩
theorem ref_number3 {I:Imm} {S:St} {a:Option Addr} {len cap:Nat} {l:List UInt8} (h:SlC I S a len (bts l)) (hlen:len≤1000000000) (at_:Int) (hat:In64 at_) (n:Nat) (hn:n≤8) :
    Tri Tryz.prog 201 #[.slice a len cap,.int .i64 at_,.int .i64 n] I S fun v J S'=>v=.int .i64 (IntKind.i64.wrap ((numV l at_ n).1:Int))∧I=J∧S'=S:=by
  refine Tri.of (args:=[.slice a len cap,.int .i64 at_,.int .i64 n]) tabOk Tryz.func201 rfl (by kernel_rfl) (by kernel_rfl) ?_
  refine Tri.mono (ref_Number h hlen at_ hat n hn) ?_
  rintro v J S' hJ ⟨rfl,rfl,rfl⟩
  refine ToD.to _ rfl ?_
  exact Done.mk ⟨rfl,rfl,rfl⟩
end Go.Proofs.YtegdcjnjnoeinaaGreat
namespace Go.Proofs.YtegdcjnjnoeinaaGreat
open Go.RowKit Go.Sl
set_option maxRecDepth 20000
theorem ref_GetSuper {I:Imm} {a:Option Addr} {len cap:Nat} {b:Dat} (h:Rds I a len (bts b)) (hlen:len≤1000000000):Tri Tryz.prog 173 #[.slice a len cap] I [] fun v J _=>I=J∧v=getV (getS b):=by
  refine Tri.of (args:=[.slice a len cap]) tabOk Tryz.func173 rfl (by kernel_rfl) (by kernel_rfl) ?_
  conv=>whnf
  intro b2
  refine Tri.free (ref_number3 h.slC hlen 8 (by unfold In64; omega) 8 (by omega)) ?_
  rintro v J1 _ hJ1 ⟨rfl,rfl,_⟩
  refine Tri.free (ref_number3 h.slC hlen 16 (by unfold In64; omega) 8 (by omega)) ?_
  rintro v J2 _ hJ2 ⟨rfl,rfl,_⟩
  refine Tri.free (ref_number3 h.slC hlen 24 (by unfold In64; omega) 8 (by omega)) ?_
  rintro v J3 _ hJ3 ⟨rfl,rfl,_⟩
  refine Tri.free (ref_number3 h.slC hlen 32 (by unfold In64; omega) 8 (by omega)) ?_
  rintro v J4 _ hJ4 ⟨rfl,rfl,_⟩
  conv=>whnf
  intro b4
  repeat (first | refine LoadD.own 1 rfl _ rfl rfl ?_ | refine StoreD.st 1 rfl rfl rfl ?_)
  refine Tri.frameX (ref_PutSuper (decS b) I) [] rfl rfl ?_
  rintro v J5 A' hJ5 ⟨rfl,⟨hR,rfl,rfl⟩ | ⟨hR,aP,capP,ch,rfl,hO,rfl⟩⟩
  · repeat (first | refine LoadD.own 0 rfl _ rfl rfl ?_ | refine StoreD.st 0 rfl rfl rfl ?_ | refine CmpD.no (by decide) ?_)
    rw [show getS b=none from by unfold getS; rw [if_neg (fun h'=>hR h'.1)]]
    exact Done.mk ⟨rfl,rfl⟩
  repeat (first | refine CmpD.yes rfl ?_)
  refine Tri.mono (same_bytes (hO.slC1 2 rfl) h.slC) ?_
  rintro v J6 S' hJ6 ⟨rfl,rfl,rfl⟩
  by_cases e:supL (decS b)=b
  · rw [decide_eq_true e]
    repeat (first | refine LoadD.own 0 rfl _ rfl rfl ?_ | refine LoadD.own 1 rfl _ rfl rfl ?_ | refine StoreD.st 0 rfl rfl rfl ?_)
    rw [show getS b=some (decS b) from by unfold getS; rw [if_pos ⟨hR,e⟩]]
    exact Done.mk ⟨rfl,rfl⟩
  · rw [decide_eq_false e]
    repeat (first | refine LoadD.own 0 rfl _ rfl rfl ?_ | refine StoreD.st 0 rfl rfl rfl ?_)
    rw [show getS b=none from by unfold getS; rw [if_neg (fun h'=>e h'.2)]]
    exact Done.mk ⟨rfl,rfl⟩
end Go.Proofs.YtegdcjnjnoeinaaGreat
namespace Go.Proofs.YtegdcjnjnoeinaaGreat
open Go.RowKit Go.Sl
set_option maxRecDepth 20000
theorem r10_Choose {I:Imm} {a1 a2:Option Addr} {n1 n2 c1 c2:Nat} {l1 l2:Dat} (h1:Rds I a1 n1 (bts l1)) (h2:Rds I a2 n2 (bts l2)) (hn1:n1≤1000000000) (hn2:n2≤1000000000) :
    Tri Tryz.prog 115 #[.slice a1 n1 c1,.slice a2 n2 c2] I [] fun v J _=>I=J∧v=chooseV (chooseP (getS l1) (getS l2)):=by
  refine Tri.of (args:=[.slice a1 n1 c1,.slice a2 n2 c2]) tabOk Tryz.func115 rfl (by kernel_rfl) (by kernel_rfl) ?_
  conv=>whnf
  intro b4
  refine Tri.free (ref_GetSuper h1 hn1) ?_
  rintro v J _ hJ ⟨rfl,rfl⟩
  refine Go.Proofs.YtegdcjnjnoeinaaGreat.two_ways (getS l1) (fun s1 e1=>?_) (fun e1=>?_)
  all_goals
    rw [e1]
    conv=>whnf
    intro b7
    repeat (first | refine StoreD.st 1 rfl rfl rfl ?_)
    refine Tri.free (ref_GetSuper h2 hn2) ?_
    rintro v J _ hJ ⟨rfl,rfl⟩
    refine Go.Proofs.YtegdcjnjnoeinaaGreat.two_ways (getS l2) (fun s2 e2=>?_) (fun e2=>?_)
  all_goals
    rw [e2]
    conv=>whnf
    intro b9
    repeat (first | refine LoadD.own 0 rfl _ rfl rfl ?_ | refine LoadD.own 1 rfl _ rfl rfl ?_ | refine LoadD.own 2 rfl _ rfl rfl ?_ | refine StoreD.st 0 rfl rfl rfl ?_ | refine StoreD.st 2 rfl rfl rfl ?_ | refine CmpD.yes rfl ?_ | refine CmpD.no (by decide) ?_)
  · refine CmpD.split (fun c1=>?_) (fun c1=>?_)
    · repeat (first | refine LoadD.own 1 rfl _ rfl rfl ?_ | refine LoadD.own 2 rfl _ rfl rfl ?_)
      refine CmpD.split (fun c3=>?_) (fun c3=>?_)
      · repeat (first | refine LoadD.own 0 rfl _ rfl rfl ?_ | refine LoadD.own 1 rfl _ rfl rfl ?_ | refine StoreD.st 0 rfl rfl rfl ?_)
        refine Done.mk ⟨rfl,?_⟩
        show _=chooseV (chooseP (some s1) (some s2))
        rw [chooseP,if_pos (.inr ⟨c1.symm,c3⟩)]; rfl
      · repeat (first | refine LoadD.own 0 rfl _ rfl rfl ?_ | refine LoadD.own 2 rfl _ rfl rfl ?_ | refine StoreD.st 0 rfl rfl rfl ?_)
        refine Done.mk ⟨rfl,?_⟩
        show _=chooseV (chooseP (some s1) (some s2))
        rw [chooseP,if_neg (by rintro (h | h); omega; exact c3 h.2)]; rfl
    · repeat (first | refine LoadD.own 1 rfl _ rfl rfl ?_ | refine LoadD.own 2 rfl _ rfl rfl ?_)
      refine CmpD.split (fun c3=>?_) (fun c3=>?_)
      · repeat (first | refine LoadD.own 0 rfl _ rfl rfl ?_ | refine LoadD.own 1 rfl _ rfl rfl ?_ | refine StoreD.st 0 rfl rfl rfl ?_)
        refine Done.mk ⟨rfl,?_⟩
        show _=chooseV (chooseP (some s1) (some s2))
        rw [chooseP,if_pos (.inl c3)]; rfl
      · repeat (first | refine LoadD.own 0 rfl _ rfl rfl ?_ | refine LoadD.own 2 rfl _ rfl rfl ?_ | refine StoreD.st 0 rfl rfl rfl ?_)
        refine Done.mk ⟨rfl,?_⟩
        show _=chooseV (chooseP (some s1) (some s2))
        rw [chooseP,if_neg (by rintro (h | h); exact c3 h; omega)]; rfl
  all_goals
    exact Done.mk ⟨rfl,rfl⟩
end Go.Proofs.YtegdcjnjnoeinaaGreat
namespace Go.Proofs.YtegdcjnjnoeinaaGreat
open Go.RowKit Go.Sl
set_option maxRecDepth 20000
end Go.Proofs.YtegdcjnjnoeinaaGreat
namespace Go.Proofs.YtegdcjnjnoeinaaGreat
open Go.RowKit Go.Sl
set_option maxRecDepth 20000
end Go.Proofs.YtegdcjnjnoeinaaGreat
namespace Go.Proofs.YtegdcjnjnoeinaaGreat
open Go.RowKit Go.Sl
set_option maxRecDepth 20000
end Go.Proofs.YtegdcjnjnoeinaaGreat
namespace Go.Proofs.YtegdcjnjnoeinaaGreat
open Go.RowKit Go.Sl
set_option maxRecDepth 20000
theorem own_mem:∀ {cs:List (List Blk)} {gs:List Img} {J:Imm},OwnImgs cs gs→(∀ x ∈ cs.flatten,J x.1=some x.2)→∀ g ∈ gs,Rds J g.a g.len (bts g.data)
  | [],[],_,_,_,g,hg=>by simp at hg
  | c :: cs,x :: gs,J,h,hm,g,hg=>by
    rcases List.mem_cons.1 hg with rfl | hg
    · exact Rds.of_own h.1 fun y hy=>hm y (by simp [hy])
    · exact own_mem h.2 (fun y hy=>hm y (by rw [List.flatten_cons]; exact List.mem_append_right _ hy)) g hg
  | [],_ :: _,_,h,_,_,_=>h.elim
  | _ :: _,[],_,h,_,_,_=>h.elim
theorem home_fix {I:Imm} {aG:Option Addr} {capG:Nat} {l:List Grp} (hG:GrpsR I [] aG l) (hl:l.length≤1000000) (hall:(allI l).length≤1000000) (hfew:∀ g ∈ allI l,g.len≤100000000) (x:Lay) :
    Tri Tryz.prog 108 #[x.v,.slice aG l.length capG] I [] fun v J _ =>
      ((¬ LayOk x∧v=.tuple #[.slice none 0 0,.int .i64 2]) ∨
       (LayOk x∧¬ HomeOk x (allP l)∧v=.tuple #[.slice none 0 0,.int .i64 90]) ∨
       (LayOk x∧HomeOk x (allP l)∧∃ (aO:Option Addr) (capO:Nat) (outs:List Img),v=.tuple #[.slice aO outs.length capO,.int .i64 0]∧ImgsR J [] aO outs∧outs.map Img.pr=homeP (allP l))):=by
  refine Tri.fixed (Q:=fun v _ S'=>∃ ch,S'=[ch] ∧
      ((¬ LayOk x∧v=.tuple #[.slice none 0 0,.int .i64 2]) ∨
       (LayOk x∧¬ HomeOk x (allP l)∧v=.tuple #[.slice none 0 0,.int .i64 90]) ∨
       (LayOk x∧HomeOk x (allP l)∧∃ (aO:Option Addr) (capO:Nat) (chO:List Blk) (chs:List (List Blk)) (outs:List Img),v=.tuple #[.slice aO outs.length capO,.int .i64 0]∧OwnC chO 2 aO outs.length capO (imgCells outs)∧OwnImgs chs outs∧outs.map Img.pr=homeP (allP l)∧ch=chO++chs.flatten))) ?_ ?_
  · refine Tri.drop (home_any hG hl hall hfew x) ?_
    rintro v J S' hJ (⟨h,rfl,rfl⟩ | ⟨h1,h2,rfl,rfl⟩ | ⟨h1,h2,aO,capO,chO,chs,outs,rfl,hO,hcs,hpr,rfl⟩)
    · exact ⟨[[]],Drop.flat rfl,[],rfl,.inl ⟨h,rfl⟩⟩
    · exact ⟨[[]],Drop.flat rfl,[],rfl,.inr (.inl ⟨h1,h2,rfl⟩)⟩
    · exact ⟨[chO++chs.flatten],Drop.flat (by simp),_,rfl,.inr (.inr ⟨h1,h2,aO,capO,chO,chs,outs,rfl,hO,hcs,hpr,rfl⟩)⟩
  · rintro v J S' hJ ⟨ch,rfl,h⟩
    refine ⟨0,ch,rfl,fun J' hJ' hm=>?_⟩
    rcases h with ⟨h,rfl⟩ | ⟨h1,h2,rfl⟩ | ⟨h1,h2,aO,capO,chO,chs,outs,rfl,hO,hcs,hpr,rfl⟩
    · exact .inl ⟨h,rfl⟩
    · exact .inr (.inl ⟨h1,h2,rfl⟩)
    · refine .inr (.inr ⟨h1,h2,aO,capO,outs,rfl,⟨(Rds.of_ownS hO fun y hy=>hm y (List.mem_append_left _ hy)).slC,fun g hg=>⟨(own_mem hcs (fun y hy=>hm y (List.mem_append_right _ hy)) g hg).slC⟩⟩,hpr⟩)
open Classical in
noncomputable def homeA (x:Lay) (l:List PImg):List PImg × Int:=if ¬ LayOk x then ([],2) else if ¬ HomeOk x l then ([],90) else (homeP l,0)
theorem homeA_1 {x:Lay} {l:List PImg} (h:¬ LayOk x):homeA x l=([],2):=by unfold homeA; rw [if_pos h]
theorem homeA_2 {x:Lay} {l:List PImg} (h:LayOk x) (h2:¬ HomeOk x l):homeA x l=([],90):=by unfold homeA; rw [if_neg (by simpa using h),if_pos h2]
theorem homeA_3 {x:Lay} {l:List PImg} (h:LayOk x) (h2:HomeOk x l):homeA x l=(homeP l,0):=by unfold homeA; rw [if_neg (by simpa using h),if_neg (by simpa using h2)]
theorem imgsR_nil {I:Imm} {S:St}:ImgsR I S none []:=⟨⟨rfl,.inl rfl⟩,by simp⟩
theorem home_ref {I:Imm} {aG:Option Addr} {capG:Nat} {l:List Grp} (hG:GrpsR I [] aG l) (hl:l.length≤1000000) (hall:(allI l).length≤1000000) (hfew:∀ g ∈ allI l,g.len≤100000000) (x:Lay) :
    Tri Tryz.prog 118 #[x.v,.slice aG l.length capG] I [] fun v J _=>∃ (aO:Option Addr) (capO:Nat) (outs:List Img),v=.tuple #[.slice aO outs.length capO,.int .i64 (homeA x (allP l)).2]∧ImgsR J [] aO outs∧outs.map Img.pr=(homeA x (allP l)).1:=by
  refine (r10_Home hG hl hall hfew x).mono ?_
  rintro v J S' hJ (⟨h,rfl⟩ | ⟨h1,h2,rfl⟩ | ⟨h1,h2,aO,capO,outs,rfl,hR,hpr⟩)
  · rw [homeA_1 h]; exact ⟨none,0,[],rfl,imgsR_nil,rfl⟩
  · rw [homeA_2 h1 h2]; exact ⟨none,0,[],rfl,imgsR_nil,rfl⟩
  · rw [homeA_3 h1 h2]; exact ⟨aO,capO,outs,rfl,⟨hR.1.slC,fun g hg=>⟨(hR.2 g hg).2.slC⟩⟩,hpr⟩
theorem imgsR_of {I:Imm} {S:St} {a:Option Addr} {gs:List Img} (h:ImgsOk I a gs):ImgsR I S a gs:=⟨h.1.slC,fun g hg=>⟨(h.2 g hg).2.slC⟩⟩
theorem doP_few {d:DSt} {k:Nat} (h:d.Few k) (l:List PImg) (s:Sup) (slot:Int):(doP d l s slot).1.Few (k+l.length+1):=by
  have h1:=wrImgs_few l d k h
  unfold doP
  split
  · exact h.mono (by omega)
  split
  · exact h1.mono (by omega)
  split
  · exact h1.flush.mono (by omega)
  unfold lastWr
  split
  · exact h1.flush.write _ _
  · exact (h1.flush.write _ _).flush
end Go.Proofs.YtegdcjnjnoeinaaGreat
namespace Go.Proofs.YtegdcjnjnoeinaaGreat
open Go.RowKit Go.Sl
set_option maxRecDepth 20000
theorem stampB_eq {e s:Nat} (he:e≤8388608) (hs:s≤549755813888):stampB e s=be (e * 1099511627776+s) 8:=by
  unfold stampB
  have h1:e * 2 ^ 40 % 2 ^ 64=e * 2 ^ 40:=Nat.mod_eq_of_lt (by omega)
  rw [h1]
  have h2:e * 2 ^ 40 ||| s=e * 2 ^ 40+s:=by
    rw [Nat.mul_comm,← Nat.two_pow_add_eq_or_of_lt (by omega)]
  rw [h2]
theorem r6_stamp1 (c0:List Blk) {I:Imm} (e s:Nat) (he:e≤8388608) (hs:s≤549755813888) (a:Option Addr) (n cap:Nat) :
    Tri Tryz.prog 233 #[.agg #[.int .i64 e,.int .i64 s,.slice a n cap]] I [c0] fun v J S'=>∃ a' cap' ch,v=.slice a' 8 cap'∧OwnB ch a' 8 cap' (stampB e s)∧I=J∧S'=[c0,ch]:=by
  refine Tri.drop ?_ (fun _ _ _ _ h=>h)
  refine Tri.of (args:=[.agg #[.int .i64 e,.int .i64 s,.slice a n cap]]) tabOk Tryz.func233 rfl (by kernel_rfl) (by kernel_rfl) ?_
  conv=>whnf
  intro b1
  repeat (first | refine LoadD.own 1 rfl _ rfl rfl ?_)
  refine ToD.to (e:Int) (wrap_u64 e (by omega)) ?_
  refine ToD.to ((e * 1099511627776:Nat):Int) (by rw [← wrap_u64 (e * 1099511627776) (by omega)]; congr 1) ?_
  repeat (first | refine LoadD.own 1 rfl _ rfl rfl ?_)
  refine ToD.to (s:Int) (wrap_u64 s (by omega)) ?_
  refine ToD.to ((e * 1099511627776+s:Nat):Int) (by rw [← wrap_u64 (e * 1099511627776+s) (by omega)]; congr 1) ?_
  refine Tri.nf (ref_Add' (a:=none) (len:=0) (cap:=0) (l:=[]) ⟨rfl,.inl rfl⟩ (by omega) (e * 1099511627776+s) (by omega) 8 (by omega)) ?_
  rintro v J S' hJ ⟨a',cap',ch,rfl,hown,rfl,rfl⟩
  rw [List.nil_append,← stampB_eq he hs,Nat.zero_add] at hown
  exact Done.mk ⟨[c0,ch],Drop.pick [0,2] _ rfl,a',cap',ch,by show Value.slice _ _ _=_; rw [Nat.zero_add],hown,rfl,rfl⟩
theorem r6_stamp {S:St} {I:Imm} (e s:Nat) (he:e≤8388608) (hs:s≤549755813888) (a:Option Addr) (n cap:Nat) :
    Tri Tryz.prog 233 #[.agg #[.int .i64 e,.int .i64 s,.slice a n cap]] I S fun v J S'=>∃ a' cap' ch,v=.slice a' 8 cap'∧OwnB ch a' 8 cap' (stampB e s)∧I=J∧S'=S++[ch]:=by
  refine Tri.pack ((r6_stamp1 S.flatten e s he hs a n cap).mono ?_)
  rintro r J S' hJ ⟨a',cap',ch,rfl,hown,rfl,rfl⟩
  exact ⟨[ch],rfl,a',cap',ch,rfl,hown,rfl,rfl⟩
theorem right_no {e s:Int} {l:List PImg} {p:Prop} (h:RightP e s l→p) (hn:¬ p):Value.bool false=Value.bool (decide (RightP e s l)):=by
  rw [decide_eq_false fun h'=>hn (h h')]
set_option maxHeartbeats 4000000 in
theorem r6_Right1 (c0:List Blk) {I:Imm} (e s:Int) {a:Option Addr} {cap:Nat} {gs:List Img} (h:ImgsR I [c0] a gs) (hlen:gs.length≤1000000000) :
    Tri Tryz.prog 231 #[.agg #[.int .i64 e,.int .i64 s,.slice a gs.length cap]] I [c0] fun v J S'=>v=.bool (decide (RightP e s (gs.map Img.pr)))∧I=J∧S'=[c0]:=by
  have hml:(gs.map Img.pr).length=gs.length:=List.length_map ..
  refine Tri.drop ?_ (fun _ _ _ _ h=>h)
  refine Tri.of (args:=[.agg #[.int .i64 e,.int .i64 s,.slice a gs.length cap]]) tabOk Tryz.func231 rfl (by kernel_rfl) (by kernel_rfl) ?_
  conv=>whnf
  intro b1
  have no:∀ p:Prop,(RightP e s (gs.map Img.pr)→p)→¬ p→∃ S'',Drop [c0,[(b1,row [.int .i64 e,.int .i64 s,.slice a gs.length cap] 128)]] S''∧Value.bool false=Value.bool (decide (RightP e s (gs.map Img.pr)))∧I=I∧S''=[c0] :=
    fun p hp hn=>⟨[c0],Drop.pick [0] _ rfl,right_no hp hn,rfl,rfl⟩
  refine LoadD.own 1 rfl _ rfl rfl ?_
  refine CmpD.split (fun c1=>?_) (fun c1=>?_)
  · exact Done.mk (no (1≤e) (fun h=>h.1) (by omega))
  refine LoadD.own 1 rfl _ rfl rfl ?_
  refine CmpD.split (fun c2=>?_) (fun c2=>?_)
  · exact Done.mk (no (e≤8388608) (fun h=>h.2.1) (by omega))
  refine LoadD.own 1 rfl _ rfl rfl ?_
  refine CmpD.split (fun c3=>?_) (fun c3=>?_)
  · exact Done.mk (no (1≤s) (fun h=>h.2.2.1) (by omega))
  refine LoadD.own 1 rfl _ rfl rfl ?_
  refine CmpD.split (fun c4=>?_) (fun c4=>?_)
  · exact Done.mk (no (s≤549755813888) (fun h=>h.2.2.2.1) (by omega))
  refine LoadD.own 1 rfl _ rfl rfl ?_
  refine CmpD.split (fun c5=>?_) (fun c5=>?_)
  · exact Done.mk (no (1≤gs.length) (fun h=>by rw [← hml]; exact h.2.2.2.2.1) (by omega))
  refine LoadD.own 1 rfl _ rfl rfl ?_
  refine CmpD.split (fun c6=>?_) (fun c6=>?_)
  · exact Done.mk (no (gs.length≤32) (fun h=>by rw [← hml]; exact h.2.2.2.2.2.1) (by omega))
  have hnd:RightP e s (gs.map Img.pr)→(gs.map Img.blk).Nodup:=fun h=>by have:=h.2.2.2.2.2.2.2; rwa [List.map_map] at this
  have hea:RightP e s (gs.map Img.pr)→∀ g ∈ gs,0≤g.blk∧g.blk < 512∧g.data.length=4096:=fun h g hg=>h.2.2.2.2.2.2.1 g.pr (List.mem_map_of_mem hg)
  refine CodeF.loopD [1,3] (fun vs J' S'=>∃ (i:Nat),i≤gs.length∧(∀ g ∈ gs.take i,0≤g.blk∧g.blk < 512∧g.data.length=4096)∧((gs.take i).map Img.blk).Nodup∧vs=[.pointer (some ⟨b1,0,none⟩),.int .i64 i]∧I=J'∧S'=[c0,[(b1,row [.int .i64 e,.int .i64 s,.slice a gs.length cap] 128)]])
    (fun vs _ _=>match vs with | [_,.int _ i]=>((gs.length:Int) - i).toNat | _=>0) ?_ ?_
  · exact ⟨_,Drop.refl _,0,by omega,by simp,by simp,rfl,rfl,rfl⟩
  rintro vs gE J' S' hJ' ⟨i,hi,hall,hn,rfl,rfl,rfl⟩
  refine LoadD.own 1 rfl _ rfl rfl ?_
  refine CmpD.split (fun c7=>?_) (fun c7=>?_)
  · have i1:i < gs.length:=by omega
    obtain ⟨bA,oA,rfl,hcA⟩:=SlC.split h.sl (by omega)
    have hcA':∀ L:St,Cells I ([c0]++L) bA oA (gs.length * 2) (imgCells gs):=fun L=>by
      have:=h.sl.mores L
      rcases this.mem with q | ⟨b,o,e,hc⟩
      · omega
      · cases e; exact hc
    have hr:=h.each _ (List.getElem_mem i1)
    have hdl:gs[i].data.length=gs[i].len:=by have:=hr.rd.len; rwa [bts_length] at this
    have hmem:=List.getElem_mem i1
    have htake:gs.take (i+1)=gs.take i++[gs[i]]:=by rw [List.take_add_one,List.getElem?_eq_getElem i1]; rfl
    have h0:=imgCells_0 i1
    have h1:=imgCells_1 i1
    refine LoadD.own 1 rfl _ rfl rfl ?_
    refine Chk.mk (by omega) ?_
    refine LoadD.mk _ ((hcA' _).at h0) ?_
    refine CmpD.split (fun d1=>?_) (fun d1=>?_)
    · exact Done.mk (no (0≤gs[i].blk) (fun h=>(hea h _ hmem).1) (by omega))
    refine LoadD.own 1 rfl _ rfl rfl ?_
    refine Chk.mk (by omega) ?_
    refine LoadD.mk _ ((hcA' _).at h0) ?_
    refine CmpD.split (fun d2=>?_) (fun d2=>?_)
    · exact Done.mk (no (gs[i].blk < 512) (fun h=>(hea h _ hmem).2.1) (by omega))
    refine LoadD.own 1 rfl _ rfl rfl ?_
    refine Chk.mk (by omega) ?_
    refine LoadD.mk _ ((hcA' _).at h1) ?_
    refine CmpD.split (fun (d3:(gs[i].len:Int)=4096)=>?_) (fun (d3:¬ ((gs[i].len:Int)=4096))=>?_)
    rotate_left
    · exact Done.mk (no (gs[i].data.length=4096) (fun h=>(hea h _ hmem).2.2) (by omega))
    refine CodeF.loopD [1,3,4] (fun vs J' S'=>∃ (j:Nat),j≤i∧(∀ g ∈ gs.take j,¬ g.blk=gs[i].blk)∧vs=[.pointer (some ⟨b1,0,none⟩),.int .i64 i,.int .i64 j]∧I=J'∧S'=[c0,[(b1,row [.int .i64 e,.int .i64 s,.slice (some ⟨bA,oA,none⟩) gs.length cap] 128)]])
      (fun vs _ _=>match vs with | [_,_,.int _ j]=>((i:Int) - j).toNat | _=>0) ?_ ?_
    · exact ⟨_,Drop.refl _,0,by omega,by simp,rfl,rfl,rfl⟩
    rintro vs gE2 J' S' hJ' ⟨j,hj,hne,rfl,rfl,rfl⟩
    refine CmpD.split (fun c8=>?_) (fun c8=>?_)
    · have j1:j < gs.length:=by omega
      have hj0:=imgCells_0 j1
      have htj:gs.take (j+1)=gs.take j++[gs[j]]:=by rw [List.take_add_one,List.getElem?_eq_getElem j1]; rfl
      refine CodeF.sched [[],[0],[],[0,1,2],[0,1,2,3],[0,1,2,3,4],[],[6],[],[6,7,8],[6,7,8,9],[6,7,8,9,10],[0,1,2,3,4,5,6,7,8,9,10,11]] [0,1,2,3,4,5,6,7,8,9,10,11,12] (by kernel_rfl) ?_
      refine LoadP.at 1 rfl _ rfl rfl ?_
      refine Chk.mk (by omega) ?_
      refine LoadP.own 0 _ (hcA.at hj0) ?_
      refine LoadP.at 1 rfl _ rfl rfl ?_
      refine Chk.mk (by omega) ?_
      refine LoadP.own 0 _ (hcA.at h0) ?_
      refine CmpD.split (fun d4=>?_) (fun d4=>?_)
      · refine Done.mk (no ((gs.map Img.blk).Nodup) hnd ?_)
        intro hnn
        have:=(List.pairwise_iff_getElem.1 hnn) j i (by simpa using j1) (by simpa using i1) (by omega)
        exact this (by simpa using d4)
      · refine ToD.i64 (by omega) (by omega) ?_
        refine ⟨_,Drop.refl _,⟨j+1,by omega,?_,rfl,rfl,rfl⟩,?_⟩
        · intro g hg
          rw [htj] at hg
          rcases List.mem_append.1 hg with hg | hg
          · exact hne g hg
          · simp only [List.mem_singleton] at hg
            subst hg; exact d4
        · show ((i:Int) - ((j:Int)+1)).toNat < ((i:Int) - (j:Int)).toNat
          omega
    · obtain rfl:j=i:=by omega
      refine ToD.i64 (by omega) (by omega) ?_
      refine ⟨_,Drop.refl _,⟨j+1,by omega,?_,?_,rfl,rfl,rfl⟩,?_⟩
      · intro x hx
        rw [htake] at hx
        rcases List.mem_append.1 hx with hx | hx
        · exact hall x hx
        · simp only [List.mem_singleton] at hx
          subst hx
          exact ⟨by omega,by omega,by omega⟩
      · rw [htake,List.map_append,List.nodup_append]
        refine ⟨hn,by simp,?_⟩
        rintro x hx y hy rfl
        simp only [List.map_cons,List.map_nil,List.mem_singleton] at hy
        subst hy
        obtain ⟨g,hg,hg2⟩:=List.mem_map.1 hx
        exact hne g hg hg2
      · show ((gs.length:Int) - ((j:Int)+1)).toNat < ((gs.length:Int) - (j:Int)).toNat
        omega
  · obtain rfl:i=gs.length:=by omega
    rw [List.take_length] at hall hn
    refine Done.mk ⟨[c0],Drop.pick [0] _ rfl,?_,rfl,rfl⟩
    show Value.bool true=_
    rw [decide_eq_true]
    refine ⟨by omega,by omega,by omega,by omega,by omega,by omega,?_,by rw [List.map_map]; exact hn⟩
    intro g hg
    obtain ⟨x,hx,rfl⟩:=List.mem_map.1 hg
    exact hall x hx
theorem r6_Right {S:St} {I:Imm} (e s:Int) {a:Option Addr} {cap:Nat} {gs:List Img} (h:ImgsR I S a gs) (hlen:gs.length≤1000000000) :
    Tri Tryz.prog 231 #[.agg #[.int .i64 e,.int .i64 s,.slice a gs.length cap]] I S fun v J S'=>v=.bool (decide (RightP e s (gs.map Img.pr)))∧I=J∧S'=S:=by
  refine Tri.pack ((r6_Right1 _ e s h.pack hlen).mono ?_)
  rintro v J S' hJ ⟨rfl,rfl,rfl⟩
  exact ⟨[],rfl,rfl,rfl,by simp⟩
end Go.Proofs.YtegdcjnjnoeinaaGreat
namespace Go.Proofs.YtegdcjnjnoeinaaGreat
open Go.RowKit Go.Sl
set_option maxRecDepth 20000
theorem slC_part {I:Imm} {S:St} {a:Option Addr} {n cap:Nat} {vs:List Value} (h:SlC I S a n vs) (lo m:Nat) (hm:0 < m) (hle:lo+m≤n) (hc:n≤cap):SlC I S (slAddr a lo cap 1) m ((vs.drop lo).take m):=by
  have hl:=h.len
  refine ⟨by rw [List.length_take,List.length_drop]; omega,?_⟩
  rcases h.mem with q | ⟨b,off,rfl,hc'⟩
  · omega
  · refine .inr ⟨b,off+lo,?_,hc'.part hle⟩
    unfold slAddr
    rw [if_neg (by omega)]
    simp [add_none]
theorem bts_part (l:Dat) (lo m:Nat):((bts l).drop lo).take m=bts ((l.drop lo).take m):=by simp [bts,List.map_take,List.map_drop]
theorem hidP_snoc (l:List PImg) (g:PImg):hidP (l++[g])=hidP l++(be g.1.toNat 2++hidK g.2 8):=by simp [hidP]
set_option maxHeartbeats 4000000 in
theorem r6_head1 (c0:List Blk) {I:Imm} (e s:Nat) {a:Option Addr} {cap:Nat} {gs:List Img} (h:ImgsR I [c0] a gs) (hcap:∀ g ∈ gs,g.len≤g.cap) (hR:RightP e s (gs.map Img.pr)) :
    Tri Tryz.prog 232 #[.agg #[.int .i64 e,.int .i64 s,.slice a gs.length cap]] I [c0] fun v J S'=>∃ a' cap' ch,v=.slice a' 4096 cap'∧OwnB ch a' 4096 cap' (hblk e s (gs.map Img.pr))∧I=J∧S'=[c0,ch]:=by
  have hml:(gs.map Img.pr).length=gs.length:=List.length_map ..
  have hea:∀ g ∈ gs,0≤g.blk∧g.blk < 512∧g.data.length=4096:=fun g hg=>hR.2.2.2.2.2.2.1 g.pr (List.mem_map_of_mem hg)
  have hlens:∀ g ∈ gs.map Img.pr,g.2.length=4096:=hR.lens
  have h32:gs.length≤32:=by rw [← hml]; exact hR.2.2.2.2.2.1
  have h1:1≤gs.length:=by rw [← hml]; exact hR.2.2.2.2.1
  have hE:=hR.2.1
  have hS:=hR.2.2.2.1
  refine Tri.drop ?_ (fun _ _ _ _ h=>h)
  refine Tri.of (args:=[.agg #[.int .i64 e,.int .i64 s,.slice a gs.length cap]]) tabOk Tryz.func232 rfl (by kernel_rfl) (by kernel_rfl) ?_
  conv=>whnf
  intro b1
  obtain ⟨bA,oA,rfl,hcA⟩:=SlC.split h.sl (by omega)
  have hcA':∀ L:St,Cells I ([c0]++L) bA oA (gs.length * 2) (imgCells gs):=fun L=>by
    have:=h.sl.mores L
    rcases this.mem with q | ⟨b,o,e,hc⟩
    · omega
    · cases e; exact hc
  refine CodeF.loopD [1,3,4] (fun vs J' S'=>∃ (i:Nat) (a3:Option Addr) (cap3:Nat) (ch3:List Blk),i≤gs.length∧OwnB ch3 a3 (66 * i) cap3 (hidP ((gs.take i).map Img.pr))∧vs=[.pointer (some ⟨b1,0,none⟩),.slice a3 (66 * i:Nat) cap3,.int .i64 i]∧I=J'∧S'=[c0,[(b1,row [.int .i64 e,.int .i64 s,.slice (some ⟨bA,oA,none⟩) gs.length cap] 128)],ch3])
    (fun vs _ _=>match vs with | [_,_,.int _ i]=>((gs.length:Int) - i).toNat | _=>0) ?_ ?_
  · exact ⟨_,Drop.and (Drop.refl _),0,none,0,[],by omega,OwnC.nil _ _,rfl,rfl,rfl⟩
  rintro vs gE J' S' hJ' ⟨i,a3,cap3,ch3,hi,h3,rfl,rfl,rfl⟩
  refine LoadD.own 1 rfl _ rfl rfl ?_
  refine CmpD.split (fun c7=>?_) (fun c7=>?_)
  · have i1:i < gs.length:=by omega
    have hr:=h.each _ (List.getElem_mem i1)
    obtain ⟨q1,q2,q3⟩:=hea _ (List.getElem_mem i1)
    have hcp:=hcap _ (List.getElem_mem i1)
    have hdl:gs[i].data.length=gs[i].len:=by have:=hr.rd.len; rwa [bts_length] at this
    have htake:gs.take (i+1)=gs.take i++[gs[i]]:=by rw [List.take_add_one,List.getElem?_eq_getElem i1]; rfl
    have h0:=imgCells_0 i1
    have h1':=imgCells_1 i1
    generalize gs[i]=g at *
    obtain ⟨n,hn⟩:∃ n:Nat,g.blk=n:=⟨g.blk.toNat,by omega⟩
    refine LoadD.own 1 rfl _ rfl rfl ?_
    refine Chk.mk (by omega) ?_
    refine LoadD.mk _ ((hcA' _).at h0) ?_
    rw [hn]
    refine ToD.to (n:Int) (wrap_u64 n (by omega)) ?_
    refine Tri.nf (ref_Add' (h3.slC1 2 rfl) (by omega) n (by omega) 2 (by omega)) ?_
    rintro v J S' hJ ⟨a4,cap4,ch4,rfl,h4,rfl,rfl⟩
    refine CodeF.loopD [1,3,4,5] (fun vs J' S'=>∃ (j:Nat) (a3:Option Addr) (cap3:Nat) (ch3:List Blk),j≤8∧OwnB ch3 a3 (66 * i+2+8 * j) cap3 (hidP ((gs.take i).map Img.pr)++be n 2++hidK g.data j)∧vs=[.pointer (some ⟨b1,0,none⟩),.slice a3 (66 * i+2+8 * j:Nat) cap3,.int .i64 i,.int .i64 j]∧I=J'∧S'=[c0,[(b1,row [.int .i64 e,.int .i64 s,.slice (some ⟨bA,oA,none⟩) gs.length cap] 128)],ch3])
      (fun vs _ _=>match vs with | [_,_,_,.int _ j]=>((8:Int) - j).toNat | _=>0) ?_ ?_
    · exact ⟨_,Drop.pick [0,1,3] _ rfl,0,a4,cap4,ch4,by omega,by rw [hidK_zero,List.append_nil]; exact h4,rfl,rfl,rfl⟩
    rintro vs gE2 J' S' hJ' ⟨j,a5,cap5,ch5,hj,h5,rfl,rfl,rfl⟩
    refine CmpD.split (fun c8=>?_) (fun c8=>?_)
    · refine LoadD.own 1 rfl _ rfl rfl ?_
      refine Chk.mk (by omega) ?_
      refine LoadD.mk _ ((hcA' _).at h1') ?_
      refine ToD.to ((j * 512:Nat):Int) (by rw [wrap_i64 (by omega) (by omega)]; omega) ?_
      refine ToD.to ((j * 512:Nat):Int) (by rw [wrap_i64 (by omega) (by omega)]; omega) ?_
      refine ToD.to ((j * 512+8:Nat):Int) (by rw [wrap_i64 (by omega) (by omega)]; omega) ?_
      refine sliceD tabOk rfl rfl rfl rfl (j * 512) (j * 512+8) g.cap ⟨_,rfl⟩ ⟨_,rfl⟩ rfl (.inl rfl) (by omega) ?_
      rw [show j * 512+8 - j * 512=8 by omega]
      refine appendD tabOk rfl rfl rfl rfl rfl rfl rfl 2 rfl h5 (SrcOk.slice (n:=8) (news:=bts ((g.data.drop (j * 512)).take 8)) tabOk rfl (by rw [← bts_part]; exact SlC.mores (slC_part hr.rd (cap:=g.cap) (j * 512) 8 (by omega) (by omega) hcp) [_,_]) (bts_plain _)) rfl (by show (66 * i+2+8 * j+8) * 1≤_; omega) (by omega) ?_
      intro a6 cap6 ch6 h6
      refine ToD.i64 (by omega) (by omega) ?_
      refine ⟨_,Drop.refl _,⟨j+1,a6,cap6,ch6,by omega,?_,rfl,rfl,rfl⟩,?_⟩
      · rw [hidK_succ,OwnB,← List.append_assoc,bts_append]
        exact h6
      · show ((8:Int) - ((j:Int)+1)).toNat < ((8:Int) - (j:Int)).toNat
        omega
    · obtain rfl:j=8:=by omega
      refine ToD.i64 (by omega) (by omega) ?_
      refine ⟨_,Drop.refl _,⟨i+1,a5,cap5,ch5,by omega,?_,rfl,rfl,rfl⟩,?_⟩
      · rw [htake,List.map_append,List.map_cons,List.map_nil,hidP_snoc]
        show OwnB _ _ _ _ (_++(be g.blk.toNat 2++hidK g.data 8))
        rw [hn,Int.toNat_natCast,← List.append_assoc]
        exact h5
      · show ((gs.length:Int) - ((i:Int)+1)).toNat < ((gs.length:Int) - (i:Int)).toNat
        omega
  · obtain rfl:i=gs.length:=by omega
    rw [List.take_length] at h3
    refine CodeF.loopD [1,3] (fun vs J' S'=>∃ (k:Nat) (a3:Option Addr) (cap3:Nat) (ch3:List Blk),k≤4026 - 66 * gs.length∧OwnB ch3 a3 (66 * gs.length+k) cap3 (hidP (gs.map Img.pr)++List.replicate k 0)∧vs=[.pointer (some ⟨b1,0,none⟩),.slice a3 (66 * gs.length+k:Nat) cap3]∧I=J'∧S'=[c0,[(b1,row [.int .i64 e,.int .i64 s,.slice (some ⟨bA,oA,none⟩) gs.length cap] 128)],ch3])
      (fun vs _ _=>match vs with | [_,.slice _ n _]=>4026 - n | _=>0) ?_ ?_
    · exact ⟨_,Drop.refl _,0,a3,cap3,ch3,by omega,by rw [List.replicate_zero,List.append_nil]; exact h3,rfl,rfl,rfl⟩
    rintro vs gE2 J' S' hJ' ⟨k,a4,cap4,ch4,hk,h4,rfl,rfl,rfl⟩
    refine CmpD.split (fun c8=>?_) (fun c8=>?_)
    · conv=>whnf
      intro bN
      refine appendD tabOk rfl rfl rfl rfl rfl rfl rfl 2 rfl h4 (SrcOk.slice (n:=1) (news:=bts [0]) tabOk rfl ((OwnC.whole (len:=1) (size:=1) rfl).slC 3 rfl) (bts_plain _)) rfl (by show (66 * gs.length+k+1) * 1≤_; omega) (by omega) ?_
      intro a6 cap6 ch6 h6
      refine ⟨_,Drop.pick [0,1,2] _ rfl,⟨k+1,a6,cap6,ch6,by omega,?_,rfl,rfl,rfl⟩,?_⟩
      · rw [List.replicate_succ',← List.append_assoc,OwnB,bts_append]
        exact h6
      · show 4026 - (66 * gs.length+k+1) < 4026 - (66 * gs.length+k)
        omega
    · have hk2:66 * gs.length+k=4026:=by omega
      have hlist:hidP (gs.map Img.pr)++List.replicate k 0=listP (gs.map Img.pr):=by
        rw [listP,hml,show 4026 - 66 * gs.length=k by omega]
      rw [hk2,hlist] at h4
      rw [hk2]
      have hcrc:crcMore 0 (listP (gs.map Img.pr)) < 4294967296:=Nat.xor_lt_two_pow (n:=32) (crcReg_lt (by decide) _) (by decide)
      refine LoadD.own 1 rfl _ rfl rfl ?_
      refine ToD.to (gs.length:Int) (wrap_u64 gs.length (by omega)) ?_
      refine Tri.nf (ref_Add' (a:=none) (len:=0) (cap:=0) (l:=[]) ⟨rfl,.inl rfl⟩ (by omega) gs.length (by omega) 2 (by omega)) ?_
      rintro v J S' hJ ⟨a5,cap5,ch5,rfl,h5,rfl,rfl⟩
      refine Tri.nf (ref_More 0 (by omega) (h4.slC1 2 rfl) (by omega)) ?_
      rintro v J S' hJ ⟨rfl,rfl,rfl⟩
      refine ToD.to ((crcMore 0 (listP (gs.map Img.pr)):Nat):Int) (wrap_u64 _ (by omega)) ?_
      refine Tri.nf (ref_Add' (h5.slC1 3 rfl) (by omega) _ (by omega) 4 (by omega)) ?_
      rintro v J S' hJ ⟨a6,cap6,ch6,rfl,h6,rfl,rfl⟩
      refine appendD tabOk rfl rfl rfl rfl rfl rfl rfl 4 rfl h6 (SrcOk.slice (n:=4026) tabOk rfl (h4.slC 2 rfl) (bts_plain _)) rfl (by show (0+2+4+4026) * 1≤_; omega) (by omega) ?_
      intro a7 cap7 ch7 h7
      have h7:OwnB ch7 a7 4032 cap7 (headP (gs.map Img.pr)):=by
        rw [headP,hml,OwnB,bts_append]
        exact h7
      have hc7:=h7.le
      refine CodeF.loopD [1,6,7,8] (fun vs J' S'=>∃ (k:Nat) (a8:Option Addr) (cap8:Nat) (ch8:List Blk),k≤8∧OwnB ch8 a8 (512 * k) cap8 (sprK (stampB e s) (headP (gs.map Img.pr)) k)∧vs=[.pointer (some ⟨b1,0,none⟩),.slice a7 4032 cap7,.slice a8 (512 * k:Nat) cap8,.int .i64 k]∧I=J'∧S'=[c0,[(b1,row [.int .i64 e,.int .i64 s,.slice (some ⟨bA,oA,none⟩) gs.length cap] 128)],ch7,ch8])
        (fun vs _ _=>match vs with | [_,_,_,.int _ k]=>((8:Int) - k).toNat | _=>0) ?_ ?_
      · exact ⟨_,Drop.and (Drop.pick [0,1,4] _ rfl),0,none,0,[],by omega,by rw [sprK_zero]; exact OwnC.nil _ _,rfl,rfl,rfl⟩
      rintro vs gE3 J' S' hJ' ⟨k,a8,cap8,ch8,hk,h8,rfl,rfl,rfl⟩
      refine CmpD.split (fun c9=>?_) (fun c9=>?_)
      · refine LoadD.own 1 rfl _ rfl rfl ?_
        refine Tri.nf (r6_stamp e s (by omega) (by omega) _ _ _) ?_
        rintro v J S' hJ ⟨aM,capM,chM,rfl,hM,rfl,rfl⟩
        refine appendD tabOk rfl rfl rfl rfl rfl rfl rfl 3 rfl h8 (SrcOk.slice (n:=8) tabOk rfl (hM.slC 4 rfl) (bts_plain _)) rfl (by show (512 * k+8) * 1≤_; omega) (by omega) ?_
        intro a9 cap9 ch9 h9
        refine ToD.to ((k * 504:Nat):Int) (by rw [wrap_i64 (by omega) (by omega)]; omega) ?_
        refine ToD.to ((k+1:Nat):Int) (by rw [wrap_i64 (by omega) (by omega)]; omega) ?_
        refine ToD.to ((k * 504+504:Nat):Int) (by rw [wrap_i64 (by omega) (by omega)]; omega) ?_
        refine sliceD tabOk rfl rfl rfl rfl (k * 504) (k * 504+504) cap7 ⟨_,rfl⟩ ⟨_,rfl⟩ rfl (.inl rfl) (by omega) ?_
        rw [show k * 504+504 - k * 504=504 by omega]
        refine appendD tabOk rfl rfl rfl rfl rfl rfl rfl 3 rfl h9 (SrcOk.slice (n:=504) (news:=bts (((headP (gs.map Img.pr)).drop (k * 504)).take 504)) tabOk rfl (by rw [← bts_part]; exact (slC_part (h7.slC1 2 rfl) (cap:=cap7) (k * 504) 504 (by omega) (by omega) hc7)) (bts_plain _)) rfl (by show (512 * k+8+504) * 1≤_; omega) (by omega) ?_
        intro a10 cap10 ch10 h10
        refine ToD.i64 (by omega) (by omega) ?_
        refine ⟨_,Drop.pick [0,1,2,3] _ rfl,⟨k+1,a10,cap10,ch10,by omega,?_,?_,rfl,rfl⟩,?_⟩
        · rw [sprK_succ,OwnB,bts_append,bts_append,show 512 * (k+1)=512 * k+8+504 by omega]
          exact h10
        · rw [show 512 * (k+1)=512 * k+8+504 by omega]; rfl
        · show ((8:Int) - ((k:Int)+1)).toNat < ((8:Int) - (k:Int)).toNat
          omega
      · obtain rfl:k=8:=by omega
        exact Done.mk ⟨[c0,ch8],Drop.pick [0,3] _ rfl,a8,cap8,ch8,rfl,h8,rfl,rfl⟩
theorem r6_head {S:St} {I:Imm} (e s:Nat) {a:Option Addr} {cap:Nat} {gs:List Img} (h:ImgsR I S a gs) (hcap:∀ g ∈ gs,g.len≤g.cap) (hR:RightP e s (gs.map Img.pr)) :
    Tri Tryz.prog 232 #[.agg #[.int .i64 e,.int .i64 s,.slice a gs.length cap]] I S fun v J S'=>∃ a' cap' ch,v=.slice a' 4096 cap'∧OwnB ch a' 4096 cap' (hblk e s (gs.map Img.pr))∧I=J∧S'=S++[ch]:=by
  refine Tri.pack ((r6_head1 S.flatten e s h.pack hcap hR).mono ?_)
  rintro r J S' hJ ⟨a',cap',ch,rfl,hown,rfl,rfl⟩
  exact ⟨[ch],rfl,a',cap',ch,rfl,hown,rfl,rfl⟩
end Go.Proofs.YtegdcjnjnoeinaaGreat
namespace Go.Proofs.YtegdcjnjnoeinaaGreat
open Go.RowKit Go.Sl
set_option maxRecDepth 20000
theorem bts_set {x y:Dat} {p:Nat} {v:UInt8} (hp:p < x.length) (h:y=x.set p v):bts y=(bts x).take p++[byte v]++(bts x).drop (p+1):=by
  subst h
  rw [List.set_eq_take_append_cons_drop,if_pos hp]
  simp [bts,List.map_take,List.map_drop]
def gen (f g:Nat→UInt8) (q:Nat):Dat:=(List.range 4096).map fun j=>if j < q then f j else g j
theorem gen_length (f g:Nat→UInt8) (q:Nat):(gen f g q).length=4096:=by simp [gen]
theorem gen_get (f g:Nat→UInt8) (q:Nat) {j:Nat} (h:j < 4096):(gen f g q)[j]?=some (if j < q then f j else g j):=by simp [gen,h]
theorem getD_get {l:Dat} {j:Nat} (h:j < l.length):l[j]?=some (l.getD j 0):=by
  rw [List.getD_eq_getElem?_getD,List.getElem?_eq_getElem h]; rfl
theorem gen_zero (f:Nat→UInt8) {l:Dat} (hl:l.length=4096):gen f (fun j=>l.getD j 0) 0=l:=by
  refine ext4096 (gen_length _ _ _) hl fun j hj=>?_
  rw [gen_get _ _ _ hj,if_neg (by omega),getD_get (by omega)]
theorem gen_skip (f g:Nat→UInt8) {q:Nat} (h:f q=g q):gen f g (q+1)=gen f g q:=by
  refine ext4096 (gen_length _ _ _) (gen_length _ _ _) fun j hj=>?_
  rw [gen_get _ _ _ hj,gen_get _ _ _ hj]
  by_cases h1:j < q
  · rw [if_pos h1,if_pos (by omega)]
  · rw [if_neg h1]
    by_cases h2:j=q
    · subst h2; rw [if_pos (by omega),h]
    · rw [if_neg (by omega)]
theorem gen_step (f g:Nat→UInt8) {q:Nat} (hq:q < 4096):gen f g (q+1)=(gen f g q).set q (f q):=by
  apply List.ext_getElem?
  intro j
  rcases Nat.lt_or_ge j 4096 with hj | hj
  · rw [gen_get _ _ _ hj]
    by_cases h2:q=j
    · subst h2; rw [List.getElem?_set_self (by rw [gen_length]; exact hq),if_pos (by omega)]
    · rw [List.getElem?_set_ne h2,gen_get _ _ _ hj]
      by_cases h1:j < q
      · rw [if_pos h1,if_pos (by omega)]
      · rw [if_neg h1,if_neg (by omega)]
  · rw [List.getElem?_eq_none (by rw [gen_length]; exact hj),List.getElem?_eq_none (by rw [List.length_set,gen_length]; exact hj)]
def mrkF (m l:Dat) (j:Nat):UInt8:=if j % 512 < 8 then m.getD (j % 512) 0 else l.getD j 0
theorem gen_mark {m l:Dat} (hm:m.length=8) (hl:l.length=4096):gen (mrkF m l) (fun j=>l.getD j 0) 4096=markK m l 8:=by
  have hk:=markK_length (l:=l) hm 8 (by omega) (by omega)
  refine ext4096 (gen_length _ _ _) (by omega) fun j hj=>?_
  rw [gen_get _ _ _ hj,if_pos hj,markK_at hm hl 8 (by omega) j hj,mrkF]
  by_cases h:j % 512 < 8
  · rw [if_pos h,if_pos ⟨by omega,h⟩,getD_get (by omega)]
  · rw [if_neg h,if_neg (by omega),getD_get (by omega)]
def filF (l r:Dat) (j:Nat):UInt8:=if 8≤j % 512 then r.getD j 0 else l.getD j 0
theorem gen_fill {r hid:Dat} (hr:r.length=4096) (hh:hid.length=64):gen (filF (shoK noughts hid 8) r) (fun j=>(shoK noughts hid 8).getD j 0) 4096=shoK r hid 8:=by
  have hz:=shoK_length noughts_length hh 8 (by omega)
  have hk:=shoK_length hr hh 8 (by omega)
  refine ext4096 (gen_length _ _ _) (by omega) fun j hj=>?_
  rw [gen_get _ _ _ hj,if_pos hj,shoK_at hr hh 8 (by omega) j hj,filF]
  by_cases h:8≤j % 512
  · rw [if_pos h,if_neg (by omega),getD_get (by omega)]
  · rw [if_neg h,if_pos (by omega),← getD_get (by omega),shoK_at noughts_length hh 8 (by omega) j hj,if_pos (by omega)]
def shw (hid:Dat) (n:Nat):Dat:=(List.range 4096).map fun j=>if j % 512 < 8∧8 * (j / 512)+j % 512 < n then hid.getD (8 * (j / 512)+j % 512) 0 else 0
theorem shw_length (hid:Dat) (n:Nat):(shw hid n).length=4096:=by simp [shw]
theorem shw_get (hid:Dat) (n:Nat) {j:Nat} (h:j < 4096):(shw hid n)[j]?=some (if j % 512 < 8∧8 * (j / 512)+j % 512 < n then hid.getD (8 * (j / 512)+j % 512) 0 else 0):=by simp [shw,h]
theorem noughts_get {j:Nat} (h:j < 4096):noughts[j]?=some 0:=by
  unfold noughts
  rw [List.getElem?_replicate,if_pos h]
theorem shw_zero (hid:Dat):shw hid 0=noughts:=by
  refine ext4096 (shw_length _ _) noughts_length fun j hj=>?_
  rw [shw_get _ _ hj,if_neg (by omega),noughts_get hj]
theorem shw_all {hid:Dat} (hh:hid.length=64):shw hid 64=shoK noughts hid 8:=by
  have hz:=shoK_length noughts_length hh 8 (by omega)
  refine ext4096 (shw_length _ _) hz fun j hj=>?_
  rw [shw_get _ _ hj,shoK_at noughts_length hh 8 (by omega) j hj]
  by_cases h:j % 512 < 8
  · rw [if_pos (by omega),if_pos (by omega),getD_get (by omega)]
  · rw [if_neg (by omega),if_neg (by omega),noughts_get hj]
theorem shw_step (hid:Dat) (n:Nat):shw hid (n+1)=(shw hid n).set (n / 8 * 512+n % 8) (hid.getD n 0):=by
  apply List.ext_getElem?
  intro j
  rcases Nat.lt_or_ge j 4096 with hj | hj
  · rw [shw_get _ _ hj]
    by_cases h2:n / 8 * 512+n % 8=j
    · rw [h2,List.getElem?_set_self (by rw [shw_length]; exact hj),if_pos (by omega),show 8 * (j / 512)+j % 512=n by omega]
    · rw [List.getElem?_set_ne h2,shw_get _ _ hj]
      by_cases h1:j % 512 < 8∧8 * (j / 512)+j % 512 < n
      · rw [if_pos h1,if_pos (by omega)]
      · rw [if_neg h1,if_neg (by omega)]
  · rw [List.getElem?_eq_none (by rw [shw_length]; exact hj),List.getElem?_eq_none (by rw [List.length_set,shw_length]; exact hj)]
def cq (q:Nat):Nat:=q / 512 * 504+(q % 512 - 8)
theorem gat_step {b:Dat} (hb:b.length=4096) {q:Nat} (hq:q < 4096) (h8:8≤q % 512):(gatK b 8).take (cq (q+1))=(gatK b 8).take (cq q)++[b.getD q 0]∧cq (q+1)=cq q+1:=by
  have e:cq (q+1)=cq q+1:=by unfold cq; omega
  have hc:cq q < 4032:=by unfold cq; omega
  have hg:=gatK_at hb 8 (by omega) (cq q) (by omega)
  have hi:cq q / 504 * 512+8+cq q % 504=q:=by unfold cq; omega
  rw [hi,getD_get (l:=b) (j:=q) (by omega)] at hg
  exact ⟨by rw [e,List.take_add_one,hg]; rfl,e⟩
theorem cq_skip {q:Nat} (h8:¬ 8≤q % 512):cq (q+1)=cq q:=by unfold cq; omega
theorem cq_all {b:Dat} (hb:b.length=4096):(gatK b 8).take (cq 4096)=gatK b 8:=by
  have:=gatK_length hb 8 (by omega)
  exact List.take_of_length_le (by unfold cq; omega)
theorem hidB_get {b:Dat} (hb:b.length=4096) {i n:Nat} (hi:i < 32) (hn:n < 64):(gatK b 8)[8+66 * i+n]?=some ((hidB b i).getD n 0):=by
  have hg:=gatK_length hb 8 (by omega)
  have hl:(hidB b i).length=64:=by unfold hidB; rw [List.length_take,List.length_drop]; omega
  rw [← getD_get (by omega),hidB,List.getElem?_take,if_pos hn,List.getElem?_drop]
theorem hidB_length {b:Dat} (hb:b.length=4096) {i:Nat} (hi:i < 32):(hidB b i).length=64:=by
  have hg:=gatK_length hb 8 (by omega)
  unfold hidB; rw [List.length_take,List.length_drop]; omega
end Go.Proofs.YtegdcjnjnoeinaaGreat
namespace Go.Proofs.YtegdcjnjnoeinaaGreat
open Go.RowKit Go.Sl
set_option maxRecDepth 20000
theorem copyS1 (c0:List Blk) {I:Imm} {a:Option Addr} {len cap:Nat} {l:Dat} (h:SlC I [c0] a len (bts l)) (hlen:len≤140737488355328) :
    Tri Tryz.prog 44 #[.slice a len cap] I [c0] fun v J S'=>∃ a' cap' ch,v=.slice a' len cap'∧OwnB ch a' len cap' l∧I=J∧S'=[c0,ch]:=by
  refine Tri.lay (S2:=[c0,[]]) (by simp) ?_
  refine Tri.of (args:=[.slice a len cap]) tabOk Tryz.func44 rfl (by kernel_rfl) (by kernel_rfl) ?_
  refine appendD tabOk rfl rfl rfl rfl rfl rfl rfl 1 rfl (OwnC.nil 1 none) (SrcOk.slice (n:=len) (news:=bts l) tabOk rfl (by show SlC _ _ _ (len * 1) _; rw [Nat.mul_one]; exact h.mores [[]]) (bts_plain _)) rfl (by show (0+len) * 1≤_; omega) (by omega) ?_
  intro a2 cap2 ch2 hO
  rw [Nat.zero_add] at hO ⊢
  exact Done.mk ⟨a2,cap2,ch2,rfl,hO,rfl,rfl⟩
theorem copyS {S:St} {I:Imm} {a:Option Addr} {len cap:Nat} {l:Dat} (h:SlC I S a len (bts l)) (hlen:len≤140737488355328) :
    Tri Tryz.prog 44 #[.slice a len cap] I S fun v J S'=>∃ a' cap' ch,v=.slice a' len cap'∧OwnB ch a' len cap' l∧I=J∧S'=S++[ch]:=by
  refine Tri.pack ((copyS1 S.flatten h.pack hlen).mono ?_)
  rintro r J S' hJ ⟨a',cap',ch,rfl,hown,rfl,rfl⟩
  exact ⟨[ch],rfl,a',cap',ch,rfl,hown,rfl,rfl⟩
theorem ImgsR.mores {I:Imm} {S:St} {a:Option Addr} {gs:List Img} (h:ImgsR I S a gs) (L:St):ImgsR I (S++L) a gs:=⟨h.sl.mores L,fun g hg=>⟨(h.each g hg).rd.mores L⟩⟩
theorem slC_cells {I:Imm} {S:St} {b off n:Nat} {vs:List Value} (h:SlC I S (some ⟨b,off,none⟩) n vs) (hn:n≠0):Cells I S b off n vs:=by
  rcases h.mem with q | ⟨b',o',e,hc⟩
  · exact absurd q hn
  · cases e; exact hc
def BkIn (ch:List Blk) (b:Bk):Prop:=∃ bz pre post T,b.a=some ⟨bz,pre.length,none⟩∧(bz,row (pre++bts b.data++post) T) ∈ ch∧b.data.length=4096
theorem BkIn.ok {ch:List Blk} {b:Bk} (h:BkIn ch b) {J:Imm} (hm:∀ x ∈ ch,J x.1=some x.2):BkOk J b:=by
  obtain ⟨bz,pre,post,T,ha,hx,hl⟩:=h
  have hl':(bts b.data).length=4096:=by rw [bts_length,hl]
  refine ⟨hl',.inr ⟨bz,pre.length,_,T,(0,0),ha,hm _ hx,?_⟩⟩
  rw [List.append_assoc,List.drop_left,← hl',List.take_left]
theorem BkIn.of {ch:List Blk} {a:Option Addr} {cap:Nat} {l:Dat} (h:OwnB ch a 4096 cap l):BkIn ch ⟨a,cap,l⟩:=by
  have hl:l.length=4096:=by have:=h.n; rw [bts_length] at this; omega
  rcases h.at' with q0 | ⟨b6,pre,post,T6,h1,h2,_⟩
  · have:=h.le; omega
  · exact ⟨b6,pre,post,T6,h1,by rw [h2]; simp,hl⟩
theorem BkIn.more {ch:List Blk} {b:Bk} (h:BkIn ch b) (c2:List Blk):BkIn (ch++c2) b:=by
  obtain ⟨bz,pre,post,T,ha,hx,hl⟩:=h
  exact ⟨bz,pre,post,T,ha,List.mem_append_left _ hx,hl⟩
theorem BkIn.more' {ch:List Blk} {b:Bk} (h:BkIn ch b) (c2:List Blk):BkIn (c2++ch) b:=by
  obtain ⟨bz,pre,post,T,ha,hx,hl⟩:=h
  exact ⟨bz,pre,post,T,ha,List.mem_append_right _ hx,hl⟩
set_option maxHeartbeats 4000000 in
theorem r6_Put0 (c0:List Blk) {I:Imm} (e s:Nat) {a:Option Addr} {cap:Nat} {gs:List Img} (h:ImgsR I [c0] a gs) (hcap:∀ g ∈ gs,g.len≤g.cap) (hR:RightP e s (gs.map Img.pr)) :
    Tri Tryz.prog 203 #[.agg #[.int .i64 e,.int .i64 s,.slice a gs.length cap]] I [c0] fun v _ S'=>∃ aO capO chO chZ,∃ bs:List Bk,v=.tuple #[.slice aO (gs.length+1) capO,.int .i64 0]∧OwnC chO 1 aO (gs.length+1) capO (bs.map Bk.cell)∧bs.map Bk.data=putP e s (gs.map Img.pr)∧(∀ b ∈ bs,BkIn chZ b)∧S'=[c0,chO,chZ]:=by
  have hml:(gs.map Img.pr).length=gs.length:=List.length_map ..
  have hea:∀ g ∈ gs,0≤g.blk∧g.blk < 512∧g.data.length=4096:=fun g hg=>hR.2.2.2.2.2.2.1 g.pr (List.mem_map_of_mem hg)
  have h32:gs.length≤32:=by rw [← hml]; exact hR.2.2.2.2.2.1
  have h1:1≤gs.length:=by rw [← hml]; exact hR.2.2.2.2.1
  have hE:=hR.2.1
  have hS:=hR.2.2.2.1
  have hsl:=stampB_length e s
  refine Tri.drop ?_ (fun _ _ _ _ h=>h)
  refine Tri.of (args:=[.agg #[.int .i64 e,.int .i64 s,.slice a gs.length cap]]) tabOk Tryz.func203 rfl (by kernel_rfl) (by kernel_rfl) ?_
  conv=>whnf
  intro b1
  repeat (first | refine LoadD.own 1 rfl _ rfl rfl ?_)
  refine Tri.nf (r6_Right e s (h.mores [_]) (by omega)) ?_
  rintro v J S' hJ ⟨rfl,rfl,rfl⟩
  rw [decide_eq_true hR]
  repeat (first | refine LoadD.own 1 rfl _ rfl rfl ?_)
  refine Tri.nf (r6_head e s (h.mores [_]) hcap hR) ?_
  rintro v J S' hJ ⟨aH,capH,chH,rfl,hH,rfl,rfl⟩
  conv=>whnf
  intro bN
  obtain ⟨bA,oA,rfl,_⟩:=SlC.split h.sl (by omega)
  refine CodeF.loopD [1,4,5] (fun vs J' S'=>∃ (i:Nat) (a4:Option Addr) (cap4:Nat) (ch4 chZ:List Blk) (bs:List Bk),i≤gs.length∧OwnC ch4 1 a4 (i+1) cap4 (bs.map Bk.cell)∧bs.map Bk.data=hblk e s (gs.map Img.pr) :: (gs.take i).map (fun g=>markK (stampB e s) g.data 8)∧(∀ b ∈ bs,BkIn chZ b)∧I=J' ∧
      vs=[.pointer (some ⟨b1,0,none⟩),.slice a4 (i+1:Nat) cap4,.int .i64 i]∧S'=[c0,[(b1,row [.int .i64 e,.int .i64 s,.slice (some ⟨bA,oA,none⟩) gs.length cap] 128)],ch4,chZ])
    (fun vs _ _=>match vs with | [_,_,.int _ i]=>((gs.length:Int) - i).toNat | _=>0) ?_ ?_
  · refine ⟨_,Drop.pick [0,1,3,2] _ rfl,0,_,_,_,_,[⟨aH,capH,hblk e s (gs.map Img.pr)⟩],by omega,OwnC.whole rfl,rfl,?_,rfl,rfl,rfl⟩
    intro b hb
    simp only [List.mem_singleton] at hb
    subst hb; exact BkIn.of hH
  rintro vs gE J' S' hJ' ⟨i,a4,cap4,ch4,chZ,bs,hi,h4,hbd,hbok,rfl,rfl,rfl⟩
  have hj:=h
  refine LoadD.own 1 rfl _ rfl rfl ?_
  refine CmpD.split (fun c7=>?_) (fun c7=>?_)
  · have i1:i < gs.length:=by omega
    have hr:=hj.each _ (List.getElem_mem i1)
    obtain ⟨q1,q2,q3⟩:=hea _ (List.getElem_mem i1)
    have hdl:gs[i].data.length=gs[i].len:=by have:=hr.rd.len; rwa [bts_length] at this
    have htake:gs.take (i+1)=gs.take i++[gs[i]]:=by rw [List.take_add_one,List.getElem?_eq_getElem i1]; rfl
    have h1':=imgCells_1 i1
    generalize gs[i]=g at *
    obtain ⟨gb,ga,gl,gc,gd⟩:=g
    dsimp only at q1 q2 q3 hdl
    obtain rfl:gl=4096:=by omega
    refine LoadD.own 1 rfl _ rfl rfl ?_
    refine Chk.mk (by omega) ?_
    refine LoadD.mk _ ((slC_cells (hj.sl.mores [_,_,_]) (by omega)).at h1') ?_
    refine Tri.nf (copyS (hr.rd.mores [_,_,_]) (by show 4096≤_; omega)) ?_
    rintro v J S' hJ ⟨a6,cap6,ch6,rfl,h6,rfl,rfl⟩
    rcases h6.at' with q0 | ⟨b6,pre,post,T6,rfl,rfl,hpost⟩
    · have:=h6.le; dsimp only at this; omega
    refine CodeF.loopD [1,4,5,6,7] (fun vs J2 S'=>∃ (q:Nat),q≤4096∧I=J2∧vs=[.pointer (some ⟨b1,0,none⟩),.slice a4 (i+1:Nat) cap4,.int .i64 i,.slice (some ⟨b6,pre.length,none⟩) 4096 cap6,.int .i64 q] ∧
        S'=[c0,[(b1,row [.int .i64 e,.int .i64 s,.slice (some ⟨bA,oA,none⟩) gs.length cap] 128)],ch4,chZ,[(b6,row (pre++bts (gen (mrkF (stampB e s) gd) (fun j=>gd.getD j 0) q)++post) T6)]])
      (fun vs _ _=>match vs with | [_,_,_,_,.int _ q]=>((4096:Int) - q).toNat | _=>0) ?_ ?_
    · refine ⟨_,Drop.refl _,0,by omega,rfl,rfl,?_⟩
      rw [gen_zero _ q3]
    rintro vs gE2 J2 S' hJ2 ⟨q,hq,rfl,rfl,rfl⟩
    have hgl:=gen_length (mrkF (stampB e s) gd) (fun j=>gd.getD j 0) q
    refine CmpD.split (fun c8=>?_) (fun c8=>?_)
    · refine Chk.mk (by decide) ?_
      refine ToD.to ((q % 512:Nat):Int) (tmod_nat q 512) ?_
      refine CmpD.split (fun c9=>?_) (fun c9=>?_)
      · refine LoadD.own 1 rfl _ rfl rfl ?_
        refine Tri.nf (r6_stamp e s (by omega) (by omega) _ _ _) ?_
        rintro v J S' hJ ⟨aM,capM,chM,rfl,hM,rfl,rfl⟩
        obtain ⟨bM,oM,rfl,hcM⟩:=SlC.cells (hM.slC1 (I:=I) (S:=[c0,[(b1,row [.int .i64 e,.int .i64 s,.slice (some ⟨bA,oA,none⟩) gs.length cap] 128)],ch4,chZ,[(b6,row (pre++bts (gen (mrkF (stampB e s) gd) (fun j=>gd.getD j 0) q)++post) T6)],chM]) 5 rfl) (by omega)
        refine Chk.mk (by decide) ?_
        refine ToD.to ((q % 512:Nat):Int) (tmod_nat q 512) ?_
        refine Chk.mk (by omega) ?_
        refine LoadD.mk _ (hcM.at (bts_get (getD_get (by omega)))) ?_
        refine Chk.mk (by omega) ?_
        have hset:=gen_step (mrkF (stampB e s) gd) (fun j=>gd.getD j 0) (q:=q) (by omega)
        have hsp:splice (pre++bts (gen (mrkF (stampB e s) gd) (fun j=>gd.getD j 0) q)++post) (pre.length+q) [byte ((stampB e s).getD (q % 512) 0)]=pre++bts (gen (mrkF (stampB e s) gd) (fun j=>gd.getD j 0) (q+1))++post:=by
          rw [splice_mid _ _ _ _ _ (by rw [bts_length,hgl]; show q+1≤_; omega),bts_set (by rw [hgl]; omega) hset,mrkF,if_pos (by omega)]
          rfl
        refine StoreD.to 4 rfl _ hsp (by simp only [List.length_append,bts_length,hgl]; show pre.length+q+1≤_; omega) (.inr (.inr (Nat.le_refl _))) _ rfl ?_
        refine ToD.i64 (by omega) (by omega) ?_
        refine ⟨_,Drop.pick [0,1,2,3,4] _ rfl,⟨q+1,by omega,rfl,rfl,rfl⟩,?_⟩
        show ((4096:Int) - ((q:Int)+1)).toNat < ((4096:Int) - (q:Int)).toNat
        omega
      · refine ToD.i64 (by omega) (by omega) ?_
        refine ⟨_,Drop.refl _,⟨q+1,by omega,rfl,rfl,?_⟩,?_⟩
        · rw [gen_skip _ _ (q:=q) (by rw [mrkF,if_neg (by omega)])]
        · show ((4096:Int) - ((q:Int)+1)).toNat < ((4096:Int) - (q:Int)).toNat
          omega
    · obtain rfl:q=4096:=by omega
      rw [gen_mark hsl q3]
      have hkl:=markK_length (l:=gd) hsl 8 (by omega) (by omega)
      have h6':OwnB [(b6,row (pre++bts (markK (stampB e s) gd 8)++post) T6)] (some ⟨b6,pre.length,none⟩) 4096 cap6 (markK (stampB e s) gd 8):=⟨by rw [bts_length,hkl,q3],h6.le,.inr ⟨b6,pre,post,T6,rfl,rfl,hpost⟩⟩
      conv=>whnf
      intro bK
      refine appendD tabOk rfl rfl rfl rfl rfl rfl rfl 2 rfl h4 (SrcOk.slice (n:=1) (news:=[.slice (some ⟨b6,pre.length,none⟩) 4096 cap6]) tabOk rfl ((OwnC.whole (len:=1) (size:=1) rfl).slC 5 rfl) (by intro v hv; simp only [List.mem_singleton] at hv; subst hv; rfl)) rfl (by show (i+1+1) * 24≤_; omega) (by omega) ?_
      intro a5 cap5 ch5 h5
      refine ToD.i64 (by omega) (by omega) ?_
      refine ⟨[c0,[(b1,row [.int .i64 e,.int .i64 s,.slice (some ⟨bA,oA,none⟩) gs.length cap] 128)],ch5,chZ++[(b6,row (pre++bts (markK (stampB e s) gd 8)++post) T6)]],(Drop.pick [0,1,2,3,4] _ rfl).trans (Drop.flat (by simp [St.at])),⟨i+1,a5,cap5,ch5,_,bs++[⟨some ⟨b6,pre.length,none⟩,cap6,markK (stampB e s) gd 8⟩],by omega,?_,?_,?_,rfl,rfl,rfl⟩,?_⟩
      · rw [List.map_append]; exact h5
      · rw [List.map_append,hbd,htake,List.map_append]; rfl
      · intro b hb
        rcases List.mem_append.1 hb with hb | hb
        · exact (hbok b hb).more _
        · simp only [List.mem_singleton] at hb
          subst hb
          exact (BkIn.of h6').more' _
      · show ((gs.length:Int) - ((i:Int)+1)).toNat < ((gs.length:Int) - (i:Int)).toNat
        omega
  · obtain rfl:i=gs.length:=by omega
    rw [List.take_length] at hbd
    refine Done.mk ⟨[c0,ch4,chZ],Drop.pick [0,2,3] _ rfl,a4,cap4,ch4,chZ,bs,rfl,h4,?_,hbok,rfl⟩
    rw [hbd,putP,List.map_map]
    rfl
theorem r6_Put1 (c0:List Blk) {I:Imm} (e s:Nat) {a:Option Addr} {cap:Nat} {gs:List Img} (h:ImgsR I [c0] a gs) (hcap:∀ g ∈ gs,g.len≤g.cap) (hR:RightP e s (gs.map Img.pr)) :
    Tri Tryz.prog 203 #[.agg #[.int .i64 e,.int .i64 s,.slice a gs.length cap]] I [c0] fun v J S'=>∃ aO capO chO,∃ bs:List Bk,v=.tuple #[.slice aO (gs.length+1) capO,.int .i64 0]∧OwnC chO 1 aO (gs.length+1) capO (bs.map Bk.cell)∧bs.map Bk.data=putP e s (gs.map Img.pr)∧(∀ b ∈ bs,BkOk J b)∧S'=[c0,chO]:=by
  refine Tri.drop (Tri.fixed (K:=fun v J S'=>∃ aO capO chO,∃ bs:List Bk,v=.tuple #[.slice aO (gs.length+1) capO,.int .i64 0]∧OwnC chO 1 aO (gs.length+1) capO (bs.map Bk.cell)∧bs.map Bk.data=putP e s (gs.map Img.pr)∧(∀ b ∈ bs,BkOk J b)∧S'=[c0,chO,[]]) (r6_Put0 c0 e s h hcap hR) ?_) ?_
  · rintro v J S' hJ ⟨aO,capO,chO,chZ,bs,rfl,h1,h2,h3,rfl⟩
    exact ⟨2,chZ,rfl,fun J' hJ' hm=>⟨aO,capO,chO,bs,rfl,h1,h2,fun b hb=>(h3 b hb).ok hm,rfl⟩⟩
  · rintro v J S' hJ ⟨aO,capO,chO,bs,rfl,h1,h2,h3,rfl⟩
    exact ⟨[c0,chO],Drop.pick [0,1] _ rfl,aO,capO,chO,bs,rfl,h1,h2,h3,rfl⟩
theorem r6_Put {S:St} {I:Imm} (e s:Nat) {a:Option Addr} {cap:Nat} {gs:List Img} (h:ImgsR I S a gs) (hcap:∀ g ∈ gs,g.len≤g.cap) (hR:RightP e s (gs.map Img.pr)) :
    Tri Tryz.prog 203 #[.agg #[.int .i64 e,.int .i64 s,.slice a gs.length cap]] I S fun v J S'=>∃ aO capO chO,∃ bs:List Bk,v=.tuple #[.slice aO (gs.length+1) capO,.int .i64 0]∧OwnC chO 1 aO (gs.length+1) capO (bs.map Bk.cell)∧bs.map Bk.data=putP e s (gs.map Img.pr)∧(∀ b ∈ bs,BkOk J b)∧S'=S++[chO]:=by
  refine Tri.pack ((r6_Put1 S.flatten e s h.pack hcap hR).mono ?_)
  rintro r J S' hJ ⟨aO,capO,chO,bs,rfl,h1,h2,h3,rfl⟩
  exact ⟨[chO],rfl,aO,capO,chO,bs,rfl,h1,h2,h3,rfl⟩
end Go.Proofs.YtegdcjnjnoeinaaGreat
namespace Go.Proofs.YtegdcjnjnoeinaaGreat
open Go.RowKit Go.Sl
set_option maxRecDepth 20000
theorem nb_append (x y:Dat):nb (x++y)=nb x * 256 ^ y.length+nb y:=by
  refine snoc_ind (p:=fun y=>nb (x++y)=nb x * 256 ^ y.length+nb y) (by simp [nb]) ?_ y
  intro l c ih
  have hc:=c.toNat_lt
  rw [← List.append_assoc,nb_snoc,nb_snoc,ih,or_low _ _ hc,or_low _ _ hc,List.length_append,List.length_singleton,Nat.pow_succ,Nat.add_mul,Nat.mul_assoc]
  omega
theorem hbE_eq {b:Dat} (hb:b.length=4096):(numV b 0 3)=(hbE b,true)∧(numV b 3 5)=(hbS b,true)∧hbE b < 16777216∧hbS b < 1099511627776:=by
  have e8:(b.drop 0).take 8=(b.drop 0).take 3++(b.drop 3).take 5:=by
    rw [List.drop_zero,show (8:Nat)=3+5 from rfl,List.take_add]
  have l3:((b.drop 0).take 3).length=3:=by rw [List.length_take,List.length_drop]; omega
  have l5:((b.drop 3).take 5).length=5:=by rw [List.length_take,List.length_drop]; omega
  have hn:=nb_append ((b.drop 0).take 3) ((b.drop 3).take 5)
  rw [← e8,l5] at hn
  have h3:=nb_lt ((b.drop 0).take 3)
  have h5:=nb_lt ((b.drop 3).take 5)
  rw [l3] at h3
  rw [l5] at h5
  have hv:∀ (k:Nat) (n:Nat),k+n≤4096→numV b (k:Nat) n=(nb ((b.drop k).take n),true):=fun k n h=>by
    unfold numV
    rw [if_neg (by omega),Int.toNat_natCast]
  have v8:=hv 0 8 (by omega)
  have v3:=hv 0 3 (by omega)
  have v5:=hv 3 5 (by omega)
  have hE:hbE b=nb ((b.drop 0).take 3):=by
    unfold hbE
    rw [show (0:Int)=((0:Nat):Int) from rfl,v8]
    show nb _ / _=_
    rw [hn]; omega
  have hS:hbS b=nb ((b.drop 3).take 5):=by
    unfold hbS
    rw [show (0:Int)=((0:Nat):Int) from rfl,v8]
    show nb _ % _=_
    rw [hn]; omega
  refine ⟨by rw [hE]; exact v3,by rw [hS]; exact v5,by omega,by omega⟩
structure DI where
  blk:Int
  b:Nat
  data:Dat
def DI.img (d:DI):Img:=⟨d.blk,some ⟨d.b,0,none⟩,4096,4096,d.data⟩
def dch (l:List DI):List Blk:=l.map fun d=>(d.b,row (bts d.data) 5)
theorem dch_img {I:Imm} {S:St} {l:List DI} (k:Nat) (hk:S[k]?=some (dch l)) (hd:∀ d ∈ l,d.data.length=4096) {a:Option Addr} (hsl:SlC I S a (l.length * 2) (imgCells (l.map DI.img))):ImgsR I S a (l.map DI.img):=by
  refine ⟨by rw [List.length_map]; exact hsl,fun g hg=>?_⟩
  obtain ⟨d,hdm,rfl⟩:=List.mem_map.1 hg
  have hl:=hd d hdm
  refine ⟨⟨by rw [bts_length]; exact hl,.inr ⟨d.b,0,rfl,⟨bts d.data,5,(0,0),.own k ?_,?_,by rw [bts_length]; exact hl⟩⟩⟩⟩
  · exact mem_getD hk (List.mem_map_of_mem (f:=fun d:DI=>(d.b,row (bts d.data) 5)) hdm)
  · show List.take 4096 ((bts d.data).drop 0)=bts d.data
    rw [List.drop_zero,List.take_of_length_le (by rw [bts_length]; omega)]
set_option maxHeartbeats 8000000 in
theorem r6_read1 (c0:List Blk) {I:Imm} {a:Option Addr} {len cap:Nat} {b:Dat} (h:SlC I [c0] a len (bts b)) (hlen:len≤1000000000) :
    Tri Tryz.prog 202 #[.slice a len cap] I [c0] fun v J S' =>
      (hdP b=none∧(∃ x y aI n capI,v=.tuple #[.agg #[.int .i64 x,.int .i64 y,.slice aI n capI],.bool false])∧I=J∧S'=[c0]) ∨
      (hdP b=some (hbE b,hbS b,imsB b)∧∃ aI capI chI,∃ l:List DI,v=.tuple #[.agg #[.int .i64 (hbE b:Nat),.int .i64 (hbS b:Nat),.slice aI (cntB b) capI],.bool true]∧l.length=cntB b∧OwnC chI 2 aI (cntB b) capI (imgCells (l.map DI.img)) ∧
        (l.map DI.img).map Img.pr=imsB b∧I=J∧S'=[c0,chI,dch l]):=by
  have hll:b.length=len:=by rw [← bts_length,h.len]
  refine Tri.drop ?_ (fun _ _ _ _ h=>h)
  refine Tri.of (args:=[.slice a len cap]) tabOk Tryz.func202 rfl (by kernel_rfl) (by kernel_rfl) ?_
  conv=>whnf
  intro b2
  refine CmpD.split (fun (c1:(len:Int)=4096)=>?_) (fun (c1:¬ (len:Int)=4096)=>?_)
  rotate_left
  · repeat (first | refine LoadD.own 1 rfl _ rfl rfl ?_ | refine StoreD.st 1 rfl rfl rfl ?_)
    refine Done.mk ⟨[c0],Drop.pick [0] _ rfl,.inl ⟨?_,⟨_,_,_,_,_,rfl⟩,rfl,rfl⟩⟩
    cases hd:hdP b with
    | none=>rfl
    | some x =>
      obtain ⟨e,s,l⟩:=x
      obtain ⟨_,_,_,_,_,hb,_⟩:=hdP_some hd
      omega
  obtain rfl:len=4096:=by omega
  obtain ⟨bb,ob,rfl,hcb⟩:=SlC.split h (by omega)
  obtain ⟨n1,n2,n3,n4⟩:=hbE_eq hll
  refine Tri.nf (ref_Number (h.mores [_]) (by omega) 0 (by unfold In64; omega) 3 (by omega)) ?_
  rintro v J S' hJ ⟨rfl,rfl,rfl⟩
  rw [n1]
  skip
  refine Tri.nf (ref_Number (h.mores [_]) (by omega) 3 (by unfold In64; omega) 5 (by omega)) ?_
  rintro v J S' hJ ⟨rfl,rfl,rfl⟩
  rw [n2]
  refine ToD.to ((hbE b:Nat):Int) (wrap_i64 (by omega) (by omega)) ?_
  refine ToD.to ((hbS b:Nat):Int) (wrap_i64 (by omega) (by omega)) ?_
  conv=>whnf
  intro b8
  repeat (first | refine StoreD.st 2 rfl rfl rfl ?_)
  refine CodeF.loopD [0,2,8,9,10] (fun vs J' S'=>∃ (q:Nat) (a9:Option Addr) (cap9:Nat) (ch9:List Blk),q≤4096∧OwnB ch9 a9 (cq q) cap9 ((gatK b 8).take (cq q)) ∧
      vs=[.slice (some ⟨bb,ob,none⟩) 4096 cap,.pointer (some ⟨b2,0,none⟩),.pointer (some ⟨b8,0,none⟩),.slice a9 (cq q) cap9,.int .i64 q]∧I=J'∧S'=[c0,gBox b2 0 0 none 0 0,gBox b8 (hbE b:Nat) (hbS b:Nat) none 0 0,ch9])
    (fun vs _ _=>match vs with | [_,_,_,_,.int _ q]=>((4096:Int) - q).toNat | _=>0) ?_ ?_
  · exact ⟨_,Drop.and (Drop.refl _),0,none,0,[],by omega,OwnC.nil _ _,rfl,rfl,rfl⟩
  rintro vs gE J' S' hJ' ⟨q,a9,cap9,ch9,hq,h9,rfl,rfl,rfl⟩
  refine CmpD.split (fun c2=>?_) (fun c2=>?_)
  · have hcq:cq q≤4032:=by unfold cq; omega
    refine Chk.mk (by decide) ?_
    refine ToD.to ((q % 512:Nat):Int) (tmod_nat q 512) ?_
    refine CmpD.split (fun c3=>?_) (fun c3=>?_)
    · obtain ⟨g1,g2⟩:=gat_step hll (q:=q) (by omega) (by omega)
      refine Chk.mk (by omega) ?_
      refine LoadD.mk _ ((slC_cells (h.mores [_,_,_]) (by omega)).at (bts_get (getD_get (by omega)))) ?_
      conv=>whnf
      intro bN
      refine appendD tabOk rfl rfl rfl rfl rfl rfl rfl 3 rfl h9 (SrcOk.slice (n:=1) (news:=bts [b.getD q 0]) tabOk rfl ((OwnC.whole (len:=1) (size:=1) rfl).slC 4 rfl) (bts_plain _)) rfl (by show (cq q+1) * 1≤_; omega) (by omega) ?_
      intro a5 cap5 ch5 h5
      refine ToD.i64 (by omega) (by omega) ?_
      refine ⟨_,Drop.pick [0,1,2,3] _ rfl,⟨q+1,a5,cap5,ch5,by omega,?_,by rw [g2]; rfl,rfl,rfl⟩,?_⟩
      · rw [g1,g2,OwnB,bts_append]; exact h5
      · show ((4096:Int) - ((q:Int)+1)).toNat < ((4096:Int) - (q:Int)).toNat
        omega
    · refine ToD.i64 (by omega) (by omega) ?_
      refine ⟨_,Drop.refl _,⟨q+1,a9,cap9,ch9,by omega,?_,?_,rfl,rfl⟩,?_⟩
      · rw [cq_skip (by omega)]; exact h9
      · rw [cq_skip (by omega)]; rfl
      · show ((4096:Int) - ((q:Int)+1)).toNat < ((4096:Int) - (q:Int)).toNat
        omega
  · obtain rfl:q=4096:=by omega
    rw [cq_all hll] at h9
    have hg:=gatK_length hll 8 (by omega)
    have h9:OwnB ch9 a9 4032 cap9 (gatK b 8):=h9
    refine Tri.nf (ref_Number (h9.slC1 3 rfl) (by show 4032≤_; omega) 0 (by unfold In64; omega) 2 (by omega)) ?_
    rintro v J S' hJ ⟨rfl,rfl,rfl⟩
    have hc16:cntB b < 65536:=nb_lt2 (gatK b 8) 0
    have hcn:(numV (gatK b 8) 0 2).1=cntB b:=rfl
    generalize hc2:(numV (gatK b 8) 0 2).2=ok2
    rw [hcn]
    obtain ⟨c,hc⟩:∃ c,c=cntB b:=⟨_,rfl⟩
    rw [← hc] at hc16 ⊢
    refine CmpD.split (fun c3=>?_) (fun c3=>?_)
    · repeat (first | refine LoadD.own 1 rfl _ rfl rfl ?_ | refine StoreD.st 1 rfl rfl rfl ?_)
      refine Done.mk ⟨[c0],Drop.pick [0] _ rfl,.inl ⟨hdP_cnt (by omega),⟨_,_,_,_,_,rfl⟩,rfl,rfl⟩⟩
    refine CodeF.loopD [0,2,8,9,11,13] (fun vs J' S'=>∃ (i:Nat) (aI:Option Addr) (capI:Nat) (chI:List Blk) (l:List DI),i≤c∧l.length=i∧OwnC chI 2 aI i capI (imgCells (l.map DI.img))∧(l.map DI.img).map Img.pr=(List.range i).map (fun k=>(blkB b k,shoK noughts (hidB b k) 8)) ∧
        vs=[.slice (some ⟨bb,ob,none⟩) 4096 cap,.pointer (some ⟨b2,0,none⟩),.pointer (some ⟨b8,0,none⟩),.slice a9 4032 cap9,.int .u64 c,.int .i64 i]∧I=J'∧S'=[c0,gBox b2 0 0 none 0 0,gBox b8 (hbE b:Nat) (hbS b:Nat) aI i capI,ch9,chI,dch l])
      (fun vs _ _=>match vs with | [_,_,_,_,_,.int _ i]=>((c:Int) - i).toNat | _=>0) ?_ ?_
    · exact ⟨_,Drop.and (Drop.and (Drop.refl _)),0,none,0,[],[],by omega,rfl,OwnC.nil _ _,rfl,rfl,rfl,rfl⟩
    rintro vs gE J' S' hJ' ⟨i,aI,capI,chI,l,hi,hil,hI,hpr,rfl,rfl,rfl⟩
    refine ToD.to ((c:Nat):Int) (wrap_i64 (by omega) (by omega)) ?_
    refine CmpD.split (fun c4=>?_) (fun c4=>?_)
    · have hb16:=nb_lt2 (gatK b 8) (6+66 * i:Nat)
      refine ToD.to ((66 * i:Nat):Int) (by rw [wrap_i64 (by omega) (by omega)]; omega) ?_
      refine ToD.to ((6+66 * i:Nat):Int) (by rw [wrap_i64 (by omega) (by omega)]; omega) ?_
      refine Tri.nf (ref_Number (h9.slC1 3 rfl) (by omega) (6+66 * i:Nat) (by unfold In64; omega) 2 (by omega)) ?_
      rintro v J S' hJ ⟨rfl,rfl,rfl⟩
      have hbk:blkB b i=((numV (gatK b 8) (6+66 * i:Nat) 2).1:Nat):=rfl
      generalize (numV (gatK b 8) (6+66 * i:Nat) 2).2=ok3
      generalize (numV (gatK b 8) (6+66 * i:Nat) 2).1=bk at hbk hb16 ⊢
      refine makeD tabOk rfl rfl rfl 4096 4096 rfl rfl (Nat.le_refl _) (by show 1 * 4096≤_; decide) (by decide) (by show 4096 * 1≤_; decide) rfl (by decide) ?_
      intro bz
      refine CodeF.loopD [0,2,8,9,11,13,14,15,17,18] (fun vs J' S'=>∃ (n:Nat),n≤64 ∧
          vs=[.slice (some ⟨bb,ob,none⟩) 4096 cap,.pointer (some ⟨b2,0,none⟩),.pointer (some ⟨b8,0,none⟩),.slice a9 4032 cap9,.int .u64 c,.int .i64 i,.int .i64 (6+66 * i:Nat),.int .u64 bk,.slice (some ⟨bz,0,none⟩) 4096 4096,.int .i64 n]∧I=J' ∧
          S'=[c0,gBox b2 0 0 none 0 0,gBox b8 (hbE b:Nat) (hbS b:Nat) aI i capI,ch9,chI,dch l,[(bz,row (bts (shw (hidB b i) n)) 5)]])
        (fun vs _ _=>match vs with | [_,_,_,_,_,_,_,_,_,.int _ n]=>((64:Int) - n).toNat | _=>0) ?_ ?_
      · refine ⟨_,Drop.refl _,0,by omega,rfl,rfl,?_⟩
        rw [shw_zero,← rows_noughts]; rfl
      rintro vs gE2 J' S' hJ' ⟨n,hn,rfl,rfl,rfl⟩
      have hsl:=shw_length (hidB b i) n
      refine CmpD.split (fun c5=>?_) (fun c5=>?_)
      · obtain ⟨b9,o9,rfl,hc9⟩:=SlC.cells (h9.slC1 (I:=I) (S:=[c0,gBox b2 0 0 none 0 0,gBox b8 (hbE b:Nat) (hbS b:Nat) aI i capI,ch9,chI,dch l,[(bz,row (bts (shw (hidB b i) n)) 5)]]) 3 rfl) (by omega)
        refine Chk.mk (by decide) ?_
        refine ToD.to ((n / 8:Nat):Int) (by rw [Int.tdiv_eq_ediv_of_nonneg (by omega),wrap_i64 (by omega) (by omega)]; omega) ?_
        refine ToD.to ((n / 8 * 512:Nat):Int) (by rw [wrap_i64 (by omega) (by omega)]; omega) ?_
        refine Chk.mk (by decide) ?_
        refine ToD.to ((n % 8:Nat):Int) (tmod_nat n 8) ?_
        refine ToD.to ((n / 8 * 512+n % 8:Nat):Int) (by rw [wrap_i64 (by omega) (by omega)]; omega) ?_
        refine ToD.to ((8+66 * i:Nat):Int) (by rw [wrap_i64 (by omega) (by omega)]; omega) ?_
        refine ToD.to ((8+66 * i+n:Nat):Int) (by rw [wrap_i64 (by omega) (by omega)]; omega) ?_
        refine Chk.mk (by omega) ?_
        refine LoadD.mk _ (hc9.at (bts_get (hidB_get hll (i:=i) (n:=n) (by omega) (by omega)))) ?_
        refine Chk.mk (by omega) ?_
        have hsp:splice (bts (shw (hidB b i) n)) (n / 8 * 512+n % 8) [byte ((hidB b i).getD n 0)]=bts (shw (hidB b i) (n+1)):=by
          rw [bts_set (by rw [hsl]; omega) (shw_step (hidB b i) n)]; rfl
        refine StoreD.to 6 rfl (bts (shw (hidB b i) (n+1))) (by show splice _ (0+(n / 8 * 512+n % 8)) _=_; rw [Nat.zero_add]; exact hsp) (by rw [bts_length,hsl]; show 0+(n / 8 * 512+n % 8)+1≤_; omega) (.inr (.inr (Nat.le_refl _))) _ rfl ?_
        refine ToD.i64 (by omega) (by omega) ?_
        refine ⟨_,Drop.refl _,⟨n+1,by omega,rfl,rfl,rfl⟩,?_⟩
        show ((64:Int) - ((n:Int)+1)).toNat < ((64:Int) - (n:Int)).toNat
        omega
      · obtain rfl:n=64:=by omega
        rw [shw_all (hidB_length hll (by omega))]
        repeat (first | refine LoadD.own 2 rfl _ rfl rfl ?_)
        refine ToD.to (bk:Int) (wrap_i64 (by omega) (by omega)) ?_
        conv=>whnf
        intro bG
        refine appendD tabOk rfl rfl rfl rfl rfl rfl rfl 4 rfl hI (SrcOk.slice (n:=1) (news:=imgCells [⟨bk,some ⟨bz,0,none⟩,4096,4096,shoK noughts (hidB b i) 8⟩]) tabOk rfl ((OwnC.whole (len:=1) (size:=2) rfl).slC 7 rfl) (by intro v hv; simp [imgCells] at hv; rcases hv with rfl | rfl <;> rfl)) rfl (by show (i+1) * 32≤_; omega) (by omega) ?_
        intro aI2 capI2 chI2 hI2
        repeat (first | refine StoreD.st 2 rfl rfl rfl ?_)
        refine ToD.i64 (by omega) (by omega) ?_
        refine ⟨[c0,gBox b2 0 0 none 0 0,gBox b8 (hbE b:Nat) (hbS b:Nat) aI2 (i+1) capI2,ch9,chI2,dch (l++[⟨bk,bz,shoK noughts (hidB b i) 8⟩])],?_,⟨i+1,aI2,capI2,chI2,l++[⟨bk,bz,shoK noughts (hidB b i) 8⟩],by omega,by simp [hil],?_,?_,rfl,rfl,rfl⟩,?_⟩
        · refine (Drop.pick [0,1,2,3,4,5,6] _ rfl).trans (Drop.flat ?_)
          simp [St.at,dch]
          rfl
        · rw [List.map_append,List.map_cons,List.map_nil]
          rw [DI.img,imgCells_snoc]; exact hI2
        · rw [List.map_append,List.map_append,hpr,List.range_succ,List.map_append]
          show _++[((bk:Int),shoK noughts (hidB b i) 8)]=_++[(blkB b i,shoK noughts (hidB b i) 8)]
          rw [hbk]
        · show ((c:Int) - ((i:Int)+1)).toNat < ((c:Int) - i).toNat; omega
    · obtain rfl:i=c:=by omega
      have hims:(l.map DI.img).map Img.pr=imsB b:=by rw [hpr,imsB,← hc]
      have hdl:∀ d ∈ l,d.data.length=4096:=by
        intro d hd
        have hm:(d.blk,d.data) ∈ (l.map DI.img).map Img.pr:=List.mem_map.2 ⟨d.img,List.mem_map_of_mem hd,rfl⟩
        rw [hpr] at hm
        obtain ⟨k,hk,e⟩:=List.mem_map.1 hm
        have e2:shoK noughts (hidB b k) 8=d.data:=congrArg Prod.snd e
        rw [← e2]
        exact shoK_length noughts_length (hidB_length hll (by rw [List.mem_range] at hk; omega)) 8 (by omega)
      have hIR:∀ L,ImgsR I ([c0,gBox b2 0 0 none 0 0,gBox b8 (hbE b:Nat) (hbS b:Nat) aI i capI,ch9,chI,dch l]++L) aI (l.map DI.img):=fun L=>(dch_img 5 rfl hdl (by have:=hI.slC (I:=I) (S:=[c0,gBox b2 0 0 none 0 0,gBox b8 (hbE b:Nat) (hbS b:Nat) aI i capI,ch9,chI,dch l]) 4 rfl; rw [hil]; exact this)).mores L
      have hml:(l.map DI.img).length=i:=by rw [List.length_map,hil]
      have hRt:=r6_Right (hbE b:Nat) (hbS b:Nat) (cap:=capI) (hIR []) (by omega)
      rw [hims,hml] at hRt
      by_cases hR:RightP (hbE b:Nat) (hbS b:Nat) (imsB b)
      · have hHt:=r6_head (hbE b) (hbS b) (cap:=capI) (hIR []) (by intro g hg; obtain ⟨d,_,rfl⟩:=List.mem_map.1 hg; exact Nat.le_refl _) (by rw [hims]; exact hR)
        rw [hims,hml] at hHt
        refine CodeF.sched [[],[],[1],[1,2],[1,2,3],[1,2,3,4],[1,2,3],[1,2,3,4,5,6],[1,2,3,4,5,6,7],[0,1,2,3,4,5,6,7],[0,1,2,3,4,5,6,7,8,9]] [0,1,2,3,4,6,5,7,8,9,10] (by kernel_rfl) ?_
        repeat (first | refine LoadP.at 2 rfl _ rfl rfl ?_)
        refine Tri.nf hRt ?_
        rintro v J S' hJ ⟨rfl,rfl,rfl⟩
        rw [decide_eq_true hR]
        repeat (first | refine LoadP.at 2 rfl _ rfl rfl ?_ | refine Chk.mk ⟨rfl,trivial⟩ ?_)
        refine Tri.nf hHt ?_
        rintro v J S' hJ ⟨aH,capH,chH,rfl,hH,rfl,rfl⟩
        repeat (first | refine Chk.mk ⟨rfl,trivial⟩ ?_)
        refine Tri.nf (same_bytes (hH.slC1 6 rfl) (h.mores [_,_,_,_,_,_])) ?_
        rintro v J S' hJ ⟨rfl,rfl,rfl⟩
        repeat (first | refine LoadD.own 1 rfl _ rfl rfl ?_ | refine StoreD.st 1 rfl rfl rfl ?_ | refine Chk.mk ⟨rfl,trivial⟩ ?_)
        by_cases hq:hblk (hbE b) (hbS b) (imsB b)=b
        · rw [decide_eq_true hq]
          skip
          refine Done.mk ⟨[c0,chI,dch l],Drop.pick [0,4,5] _ rfl,.inr ⟨by unfold hdP; rw [if_pos ⟨hR,hq⟩],aI,capI,chI,l,rfl,hil,hI,hims,rfl,rfl⟩⟩
        · rw [decide_eq_false hq]
          skip
          exact Done.mk ⟨[c0],Drop.pick [0] _ rfl,.inl ⟨by unfold hdP; rw [if_neg (fun h'=>hq h'.2)],⟨_,_,_,_,_,rfl⟩,rfl,rfl⟩⟩
      · refine CodeF.sched [[],[],[1],[1,2],[1,2,3],[1,2,3,4],[1,2,3],[1,2,3,4,5,6],[1,2,3,4,5,6,7],[0,1,2,3,4,5,6,7],[0,1,2,3,4,5,6,7,8,9]] [0,1,2,3,4,6,5,7,8,9,10] (by kernel_rfl) ?_
        repeat (first | refine LoadP.at 2 rfl _ rfl rfl ?_)
        refine Tri.nf hRt ?_
        rintro v J S' hJ ⟨rfl,rfl,rfl⟩
        rw [decide_eq_false hR]
        repeat (first | refine LoadD.own 1 rfl _ rfl rfl ?_ | refine StoreD.st 1 rfl rfl rfl ?_ | refine Chk.mk ⟨rfl,trivial⟩ ?_)
        exact Done.mk ⟨[c0],Drop.pick [0] _ rfl,.inl ⟨by unfold hdP; rw [if_neg (fun h'=>hR h'.1)],⟨_,_,_,_,_,rfl⟩,rfl,rfl⟩⟩
end Go.Proofs.YtegdcjnjnoeinaaGreat
namespace Go.Proofs.YtegdcjnjnoeinaaGreat
open Go.RowKit Go.Sl
set_option maxRecDepth 20000
theorem r6_read {S:St} {I:Imm} {a:Option Addr} {len cap:Nat} {b:Dat} (h:SlC I S a len (bts b)) (hlen:len≤1000000000) :
    Tri Tryz.prog 202 #[.slice a len cap] I S fun v J S' =>
      (hdP b=none∧(∃ x y aI n capI,v=.tuple #[.agg #[.int .i64 x,.int .i64 y,.slice aI n capI],.bool false])∧I=J∧S'=S) ∨
      (hdP b=some (hbE b,hbS b,imsB b)∧∃ aI capI chI,∃ l:List DI,v=.tuple #[.agg #[.int .i64 (hbE b:Nat),.int .i64 (hbS b:Nat),.slice aI (cntB b) capI],.bool true]∧l.length=cntB b∧OwnC chI 2 aI (cntB b) capI (imgCells (l.map DI.img)) ∧
        (l.map DI.img).map Img.pr=imsB b∧I=J∧S'=S++[chI,dch l]):=by
  refine Tri.pack ((r6_read1 S.flatten h.pack hlen).mono ?_)
  rintro v J S' hJ (⟨h1,h2,rfl,rfl⟩ | ⟨h1,aI,capI,chI,l,rfl,h2,h3,h4,rfl,rfl⟩)
  · exact ⟨[],rfl,.inl ⟨h1,h2,rfl,by simp⟩⟩
  · exact ⟨[chI,dch l],rfl,.inr ⟨h1,aI,capI,chI,l,rfl,h2,h3,h4,rfl,rfl⟩⟩
theorem r6_Head {I:Imm} {a:Option Addr} {len cap:Nat} {b:Dat} (h:Rds I a len (bts b)) (hlen:len≤1000000000) :
    Tri Tryz.prog 174 #[.slice a len cap] I [] fun v J _=>v=headV b∧I=J:=by
  refine Tri.of (args:=[.slice a len cap]) tabOk Tryz.func174 rfl (by kernel_rfl) (by kernel_rfl) ?_
  refine Tri.nf (r6_read h.slC hlen) ?_
  rintro v J S' hJ (⟨hn,⟨x,y,aI,n,capI,rfl⟩,rfl,rfl⟩ | ⟨hs,aI,capI,chI,l,rfl,hl,hI,hp,rfl,rfl⟩)
  · conv=>whnf
    intro b6
    repeat (first | refine StoreD.st 0 rfl rfl rfl ?_)
    refine Done.mk ⟨?_,rfl⟩
    unfold headV; rw [hn]; rfl
  · conv=>whnf
    intro b6
    repeat (first | refine StoreD.st 2 rfl rfl rfl ?_)
    refine CodeF.sched [[],[0],[],[2],[],[4],[4,5],[0,1],[0,1,2,3,7],[0,1,2,3,4,5,6,7,8],[0,1,2,3,4,5,6,7,8,9]] [0,1,2,3,4,5,6,7,8,9,10] (by kernel_rfl) ?_
    repeat (first | refine LoadP.at 2 rfl _ rfl rfl ?_)
    refine Done.mk ⟨?_,rfl⟩
    unfold headV; rw [hs]
    show _=Value.tuple #[_,_,.int .i64 ((imsB b).length:Nat),_]
    rw [imsB_length]; rfl
theorem map_take_eq {α β:Type} {f:α→β} {g1 g2:List α} {i:Nat} (h1:i < g1.length) (h2:i < g2.length) (ht:(g1.take i).map f=(g2.take i).map f) :
    ((g1.take (i+1)).map f=(g2.take (i+1)).map f)↔f g1[i]=f g2[i]:=by
  rw [List.take_add_one,List.take_add_one,List.getElem?_eq_getElem h1,List.getElem?_eq_getElem h2,List.map_append,List.map_append,ht]
  simp
theorem same_lists1 (c0:List Blk) {I:Imm} {a1 a2:Option Addr} {c1 c2:Nat} {g1 g2:List Bk} (h1:SlC I [c0] a1 g1.length (g1.map Bk.cell)) (h2:SlC I [c0] a2 g2.length (g2.map Bk.cell)) (k1:∀ b ∈ g1,BkOk I b) (k2:∀ b ∈ g2,BkOk I b) (hl1:g1.length≤1000000000) :
    Tri Tryz.prog 36 #[.slice a1 g1.length c1,.slice a2 g2.length c2] I [c0] fun v J S'=>v=.bool (decide (g1.map Bk.data=g2.map Bk.data))∧I=J∧S'=[c0]:=by
  refine Tri.of (args:=[.slice a1 g1.length c1,.slice a2 g2.length c2]) tabOk Tryz.func36 rfl (by kernel_rfl) (by kernel_rfl) ?_
  refine CmpD.split (fun (c:(g1.length:Int)=g2.length)=>?_) (fun (c:¬ (g1.length:Int)=g2.length)=>?_)
  rotate_left
  · refine Done.mk ⟨?_,rfl,rfl⟩
    show Value.bool _=Value.bool _
    rw [decide_eq_false (fun h=>c (by have:=congrArg List.length h; simp at this; omega))]
  have hl:g1.length=g2.length:=by omega
  refine CodeF.loopD [0,1,5] (fun vs J' S'=>∃ (i:Nat),i≤g1.length∧(g1.take i).map Bk.data=(g2.take i).map Bk.data∧vs=[.slice a1 g1.length c1,.slice a2 g2.length c2,.int .i64 i]∧I=J'∧S'=[c0])
    (fun vs _ _=>match vs with | [_,_,.int _ i]=>((g1.length:Int) - i).toNat | _=>0) ?_ ?_
  · exact ⟨_,Drop.refl _,0,by omega,rfl,rfl,rfl,rfl⟩
  rintro vs gE J' S' hJ' ⟨i,hi,hpre,rfl,rfl,rfl⟩
  refine CmpD.split (fun c1'=>?_) (fun c1'=>?_)
  · have i1:i < g1.length:=by omega
    have i2:i < g2.length:=by omega
    have hiff:=map_take_eq (f:=Bk.data) i1 i2 hpre
    have no:¬ (g1[i].data=g2[i].data)→decide (g1.map Bk.data=g2.map Bk.data)=false:=by
      intro h
      refine decide_eq_false fun h'=>h (hiff.1 ?_)
      rw [List.map_take,List.map_take,h']
    obtain ⟨b1,o1,rfl,hc1⟩:=SlC.split h1 (by omega)
    obtain ⟨b2,o2,rfl,hc2⟩:=SlC.split h2 (by omega)
    have r1:=k1 _ (List.getElem_mem i1)
    have r2:=k2 _ (List.getElem_mem i2)
    have e1:(g1.map Bk.cell)[i]?=some g1[i].cell:=by rw [List.getElem?_map,List.getElem?_eq_getElem i1]; rfl
    have e2:(g2.map Bk.cell)[i]?=some g2[i].cell:=by rw [List.getElem?_map,List.getElem?_eq_getElem i2]; rfl
    refine CodeF.sched [[],[],[0,1],[0,1,2],[],[],[4,5],[4,5,6],[0,1,2,3,4,5,6,7],[0,1,2,3,4,5,6,7,8]] [0,1,2,3,4,5,6,7,8,9] (by kernel_rfl) ?_
    refine Chk.mk (by omega) ?_
    refine LoadP_any _ (hc1.at e1) ?_
    refine Chk.mk (by omega) ?_
    refine LoadP_any _ (hc2.at e2) ?_
    refine Tri.nf (same_bytes (Rds.slC r1) (Rds.slC r2)) ?_
    rintro v J S' hJ ⟨rfl,rfl,rfl⟩
    by_cases hd:g1[i].data=g2[i].data
    · rw [decide_eq_true hd]
      refine ToD.i64 (by omega) (by omega) ?_
      refine ⟨_,Drop.refl _,⟨i+1,by omega,hiff.2 hd,rfl,rfl,rfl⟩,?_⟩
      show ((g1.length:Int) - ((i:Int)+1)).toNat < ((g1.length:Int) - (i:Int)).toNat
      omega
    · rw [decide_eq_false hd]
      refine Done.mk ⟨?_,rfl,rfl⟩
      show Value.bool _=Value.bool _
      rw [no hd]
  · obtain rfl:i=g1.length:=by omega
    refine Done.mk ⟨?_,rfl,rfl⟩
    show Value.bool _=Value.bool _
    rw [List.take_length,hl,List.take_length] at hpre
    rw [decide_eq_true hpre]
theorem same_lists {S:St} {I:Imm} {a1 a2:Option Addr} {c1 c2:Nat} {g1 g2:List Bk} (h1:SlC I S a1 g1.length (g1.map Bk.cell)) (h2:SlC I S a2 g2.length (g2.map Bk.cell)) (k1:∀ b ∈ g1,BkOk I b) (k2:∀ b ∈ g2,BkOk I b) (hl1:g1.length≤1000000000) :
    Tri Tryz.prog 36 #[.slice a1 g1.length c1,.slice a2 g2.length c2] I S fun v J S'=>v=.bool (decide (g1.map Bk.data=g2.map Bk.data))∧I=J∧S'=S:=by
  refine Tri.pack ((same_lists1 _ h1.pack h2.pack k1 k2 hl1).mono ?_)
  rintro v J S' hJ ⟨rfl,rfl,rfl⟩
  exact ⟨[],rfl,rfl,rfl,by simp⟩
theorem flat_eq {f g:Nat→Dat} {n:Nat} (h:∀ i,i < n→f i=g i):(List.range n).flatMap f=(List.range n).flatMap g:=by
  have:∀ m:List Nat,(∀ i ∈ m,i < n)→m.flatMap f=m.flatMap g:=by
    intro m
    induction m with
    | nil=>intro _; rfl
    | cons x m ih =>
      intro hm
      rw [List.flatMap_cons,List.flatMap_cons,h x (hm x (by simp)),ih fun i hi=>hm i (by simp [hi])]
  exact this _ fun i hi=>List.mem_range.1 hi
theorem getL_right {b:Dat} {rest:List Dat} {e s:Nat} (hsome:hdP b=some (e,s,imsB b)) (hn:rest.length=cntB b) (h4:∀ r ∈ rest,r.length=4096):RightP e s (getL b rest)∧hblk e s (getL b rest)=b:=by
  obtain ⟨_,_,_,hR,hb,hb4,_⟩:=hdP_some hsome
  have h32:=hR.2.2.2.2.2.1
  have h1:=hR.2.2.2.2.1
  rw [imsB_length] at h32 h1
  have hfst:(getL b rest).map Prod.fst=(imsB b).map Prod.fst:=by
    unfold getL imsB
    rw [List.map_map,List.map_map,hn]; rfl
  have hll:(getL b rest).length=cntB b:=by simp [getL,hn]
  have hr4:∀ i,i < cntB b→(rest.getD i []).length=4096:=by
    intro i hi
    rw [List.getD_eq_getElem?_getD,List.getElem?_eq_getElem (by omega)]
    exact h4 _ (List.getElem_mem _)
  have hhid:hidP (getL b rest)=hidP (imsB b):=by
    unfold hidP getL imsB
    rw [List.flatMap_map,List.flatMap_map,hn]
    refine flat_eq fun i hi=>?_
    have hh:=hidB_length hb4 (i:=i) (by omega)
    dsimp only
    rw [hid_sho (hr4 i hi) hh,hid_sho noughts_length hh]
  refine ⟨?_,?_⟩
  · obtain ⟨r1,r2,r3,r4,r5,r6,r7,r8⟩:=hR
    refine ⟨r1,r2,r3,r4,by omega,by omega,?_,by rw [hfst]; exact r8⟩
    intro g hg
    obtain ⟨i,hi,rfl⟩:=List.mem_map.1 hg
    have hi:=List.mem_range.1 hi
    have hm:=r7 (blkB b i,shoK noughts (hidB b i) 8) (List.mem_map.2 ⟨i,List.mem_range.2 (by omega),rfl⟩)
    exact ⟨hm.1,hm.2.1,shoK_length (hr4 i (by omega)) (hidB_length hb4 (by omega)) 8 (by omega)⟩
  · rw [← hb]
    conv=>lhs; rw [hb]
    unfold hblk headP listP
    rw [hhid,hll,imsB_length]
theorem putL_iff {b:Dat} {rest:List Dat} {e s:Nat} (hsome:hdP b=some (e,s,imsB b)) (hn:rest.length=cntB b) (h4:∀ r ∈ rest,r.length=4096):putP e s (getL b rest)=b :: rest↔rest.length=(imsB b).length∧RestOk e s rest:=by
  obtain ⟨hR,hbk⟩:=getL_right hsome hn h4
  constructor
  · intro h
    refine ⟨by rw [imsB_length]; exact hn,fun r hr=>⟨h4 r hr,?_⟩⟩
    rw [putP_eq] at h
    have h2:=(List.cons.inj h).2
    rw [← h2] at hr
    obtain ⟨x,hx,rfl⟩:=List.mem_map.1 hr
    exact mark_bears (stampB_length _ _) (hR.lens x hx)
  · intro h
    exact (getP_some (getP_good hsome h)).2
end Go.Proofs.YtegdcjnjnoeinaaGreat

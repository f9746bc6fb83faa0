/- Texts of this claim laid together: Wh2, Opb. -/
import Derived.Test.YtklbcpofihgmlaaGreatBDataWhole5
import Derived.Test.YtklbcpofihgmlaaGreatBDataWhole2
import Derived.Test.YtklbcpofihgmlaaGreatBDataWhole1
import Derived.Test.YtklbcpofihgmlaaGreatBDataWhole3
import Derived.Test.YtklbcpofihgmlaaGreatBDataWhole4
namespace Go.Proofs.YtklbcpofihgmlaaGreat
open Go.RowKit Go.Sl
set_option maxRecDepth 20000
theorem pl_to {n:Nat} {hn:n≤512} {ends:Bool} {bp:Nat} {s s':PlS} (h:(plainSp n hn ends bp).To s s'):s'.did=s.did∧s'.V=s.V∨s.did.length < s'.did.length:=by
  induction h with
  | rd h1=>exact .inl ⟨h1.2,h1.1⟩
  | wr _ h1 ih =>
    right
    rw [h1.2,List.length_append,List.length_cons,List.length_nil]
    rcases ih with ⟨e,_⟩ | e
    · rw [e]; omega
    · omega
  | more _ h1 ih =>
    rcases ih with ⟨e,e2⟩ | e
    · exact .inl ⟨h1.2.trans e,h1.1.trans e2⟩
    · right; rw [h1.2]; exact e
theorem pl_to0 {n:Nat} {hn:n≤512} {ends:Bool} {bp:Nat} {s s':PlS} (h:(plainSp n hn ends bp).To s s') (h':s'.did=[]):s'.V=s.V:=by
  rcases pl_to h with ⟨_,e⟩ | e
  · exact e
  · rw [h',List.length_nil] at e; omega
abbrev spE (bp:Nat):SpC Tryz.prog PlS:=plainSp 64 (by decide) true bp
theorem wh_Write {bp:Nat} {s:PlS} {I:Imm} {c:List Blk} (hR:PlR 64 true bp s I c) (h0:s.did=[]) {fs:Fs} (hfs:FsOk 64 fs) (hV:s.V=fs.V) (i:Nat) (hi:1≤i∧i≤256) (at_:Nat) (b:List UInt8) (a:Option Addr) (nB cap:Nat) (hn:b.length=nB) (hB:Rds I a nB (bts b)) (hc:nB≤cap) (hat:at_+nB≤131072) :
    Tri Tryz.prog 13 #[pv bp,layVn 64,.int .i64 (i:Nat),.int .i64 (at_:Nat),.slice a nB cap] I [c] fun v J S'=>∃ c' s' e,v=.int .i64 e∧S'=[c']∧PlR 64 true bp s' J c'∧(e≠0→s'.did=[]→s'.V=fs.V):=by
  refine (data_Write (spE bp) n64 hR hfs hV i (by show 1≤i∧i≤64 * (64 / 16); omega) at_ b a nB cap hn hB hc hat (by show 512≤1000000 - s.did.length; rw [h0,List.length_nil]; omega)).mono ?_
  rintro v J S' hJ ⟨c',s',hR',rfl,-,hE⟩
  rcases hE with ⟨e,he,rfl,⟨_,hrd⟩ | ⟨_,hto⟩ | ⟨_,_,hrd⟩ | ⟨_,_,_,_,hrd⟩⟩ | ⟨rfl,hk,_⟩
  · exact ⟨c',s',e,rfl,rfl,hR',fun _ _=>hrd.1.trans hV⟩
  · exact ⟨c',s',e,rfl,rfl,hR',fun _ h=>(pl_to0 hto h).trans hV⟩
  · exact ⟨c',s',e,rfl,rfl,hR',fun _ _=>hrd.1.trans hV⟩
  · exact ⟨c',s',e,rfl,rfl,hR',fun _ _=>hrd.1.trans hV⟩
  · exact ⟨c',s',0,rfl,rfl,hR',fun h=>absurd rfl h⟩
theorem wh_Truncate {bp:Nat} {s:PlS} {I:Imm} {c:List Blk} (hR:PlR 64 true bp s I c) (h0:s.did=[]) {fs:Fs} (hfs:FsOk 64 fs) (hV:s.V=fs.V) (i:Nat) (hi:1≤i∧i≤256) (size:Nat) (hs:size≤131072) :
    Tri Tryz.prog 14 #[pv bp,layVn 64,.int .i64 (i:Nat),.int .i64 (size:Nat)] I [c] fun v J S'=>∃ c' s' e,v=.int .i64 e∧S'=[c']∧PlR 64 true bp s' J c'∧(e≠0→s'.did=[]→s'.V=fs.V):=by
  refine (data_Truncate (spE bp) n64 hR hfs hV i (by show 1≤i∧i≤64 * (64 / 16); omega) size hs (by show 512≤1000000 - s.did.length; rw [h0,List.length_nil]; omega)).mono ?_
  rintro v J S' hJ ⟨c',s',hR',rfl,-,hE⟩
  rcases hE with ⟨e,he,rfl,⟨_,hrd⟩ | ⟨_,hto⟩ | ⟨_,_,hrd⟩⟩ | ⟨rfl,hk,_⟩
  · exact ⟨c',s',e,rfl,rfl,hR',fun _ _=>hrd.1.trans hV⟩
  · exact ⟨c',s',e,rfl,rfl,hR',fun _ h=>(pl_to0 hto h).trans hV⟩
  · exact ⟨c',s',e,rfl,rfl,hR',fun _ _=>hrd.1.trans hV⟩
  · exact ⟨c',s',0,rfl,rfl,hR',fun h=>absurd rfl h⟩
theorem wh_Erase {bp:Nat} {s:PlS} {I:Imm} {c:List Blk} (hR:PlR 64 true bp s I c) (h0:s.did=[]) {fs:Fs} (hfs:FsOk 64 fs) (hV:s.V=fs.V) (i:Nat) (hi:1≤i∧i≤256) :
    Tri Tryz.prog 15 #[pv bp,layVn 64,.int .i64 (i:Nat)] I [c] fun v J S'=>∃ c' s' e,v=.int .i64 e∧S'=[c']∧PlR 64 true bp s' J c'∧(e≠0→s'.did=[]→s'.V=fs.V):=by
  refine (data_Erase (spE bp) n64 hR hfs hV i (by show 1≤i∧i≤64 * (64 / 16); omega) (by show 512≤1000000 - s.did.length; rw [h0,List.length_nil]; omega)).mono ?_
  rintro v J S' hJ ⟨c',s',hR',rfl,-,hE⟩
  rcases hE with ⟨e,he,rfl,⟨_,hrd⟩ | ⟨_,hto⟩ | ⟨_,_,hrd⟩⟩ | ⟨rfl,hk,_⟩
  · exact ⟨c',s',e,rfl,rfl,hR',fun _ _=>hrd.1.trans hV⟩
  · exact ⟨c',s',e,rfl,rfl,hR',fun _ h=>(pl_to0 hto h).trans hV⟩
  · exact ⟨c',s',e,rfl,rfl,hR',fun _ _=>hrd.1.trans hV⟩
  · exact ⟨c',s',0,rfl,rfl,hR',fun h=>absurd rfl h⟩
set_option maxHeartbeats 4000000 in
theorem dataWhole_walk {I:Imm} (a1:Option Addr) (n1 cap1:Nat) (l1:Dat) (hR1:Rds I a1 n1 (bts l1)) (hc1:n1≤cap1) (hm1:cap1≤9223372036854775807) (at_:Int) (hat:In64 at_)
    (a2:Option Addr) (n2 cap2:Nat) (l2:Dat) (hR2:Rds I a2 n2 (bts l2)) (hc2:n2≤cap2) (hm2:cap2≤9223372036854775807) (left:Int) (hleft:In64 left) :
    Tri Tryz.prog 4 #[.slice a1 n1 cap1,.int .i64 at_,.slice a2 n2 cap2,.int .i64 left] I [] fun v _ _=>v=.bool true:=by
  refine Tri.ofF (args:=[.slice a1 n1 cap1,.int .i64 at_,.slice a2 n2 cap2,.int .i64 left]) tabOk Tryz.func4 rfl (by kernel_rfl) (by kernel_rfl) ?_
  refine CodeF.stepD ?_
  refine CodeF.stepD ?_
  refine Tri.nf (Tri.frameX (law_space I 1 (by decide)) [] rfl rfl (K:=fun v J S'=>∃ bp c,v=.tuple #[.pointer (some ⟨bp,0,none⟩),layVn 64]∧PlR 64 false bp ⟨(fsN 64 1).V,0,[]⟩ J c∧S'=[c]) ?_) ?_
  · rintro v J A' hJ2 ⟨bp,c,rfl,hP,rfl⟩
    exact ⟨bp,c,rfl,hP,rfl⟩
  rintro v J1 S' hJ1 ⟨bp,c,rfl,hP,rfl⟩
  conv=>whnf
  intro b10
  refine StoreD.st 1 rfl rfl rfl ?_
  refine CodeF.join [0,1,2,3,9,10] (fun vs J S'=>vs=[.slice (slAddr a1 0 cap1 1) (min n1 30000) cap1,.int .i64 at_,.slice (slAddr a2 0 cap2 1) (min n2 30000) cap2,.int .i64 left,.pointer (some ⟨bp,0,none⟩),.pointer (some ⟨b10,0,none⟩)]∧J1=J∧S'=[c,lyB b10]) ?_ ?_
  · refine CodeF.schedT [[],[],[1],[1,2],[0,1,2,3],[],[],[6],[6,7],[5,6,7,8],[0,1,2,3,4],[0,1,2,3,4,5,6,7,8,9,10]] (.rd 0 (.rd 1 (.rd 2 (.rd 3 (.rd 5 (.rd 6 (.rd 7 (.rd 8 (.alt (.ef 4 (.rd 10 (.ef 9 (.rd 11 .nil)))) (.ef 9 (.ef 4 (.rd 10 (.rd 11 .nil))))))))))))) (by kernel_rfl) ?_
    refine ToD.to ((min n1 30000:Nat):Int) (by split <;> omega) ?_
    refine ToD.to ((min n2 30000:Nat):Int) (by split <;> omega) ?_
    repeat' (first
      | refine And.intro ?_ ?_
      | refine sliceD tabOk rfl rfl rfl rfl 0 (min n1 30000) cap1 rfl ⟨_,rfl⟩ rfl (.inl rfl) (by omega) ?_
      | refine sliceD tabOk rfl rfl rfl rfl 0 (min n2 30000) cap2 rfl ⟨_,rfl⟩ rfl (.inl rfl) (by omega) ?_)
    all_goals
      conv=>whnf
      exact ⟨_,Drop.refl _,rfl,rfl,rfl⟩
  rintro vs g J S' hJ ⟨rfl,rfl,rfl⟩
  have hw1:Rds J1 (slAddr a1 0 cap1 1) (min n1 30000) (bts (l1.take (min n1 30000))):=by
    have:=Rds.partG (size:=1) (n:=n1) (by rw [Nat.mul_one]; exact hR1.mono hJ1) 0 (min n1 30000) cap1 (by omega) (by omega) (by omega)
    rw [Nat.zero_mul,List.drop_zero,Nat.sub_zero,Nat.mul_one] at this
    unfold bts at this ⊢
    rwa [List.map_take]
  have hw2:Rds J1 (slAddr a2 0 cap2 1) (min n2 30000) (bts (l2.take (min n2 30000))):=by
    have:=Rds.partG (size:=1) (n:=n2) (by rw [Nat.mul_one]; exact hR2.mono hJ1) 0 (min n2 30000) cap2 (by omega) (by omega) (by omega)
    rw [Nat.zero_mul,List.drop_zero,Nat.sub_zero,Nat.mul_one] at this
    unfold bts at this ⊢
    rwa [List.map_take]
  have hl1:(l1.take (min n1 30000)).length=min n1 30000:=by rw [← bts_length,hw1.len]
  have hl2:(l2.take (min n2 30000)).length=min n2 30000:=by rw [← bts_length,hw2.len]
  generalize l1.take (min n1 30000)=d1 at *
  generalize l2.take (min n2 30000)=d2 at *
  have hm1':min n1 30000≤30000:=by omega
  have hm2':min n2 30000≤30000:=by omega
  have hc1':min n1 30000≤cap1:=by omega
  have hc2':min n2 30000≤cap2:=by omega
  generalize min n1 30000=m1 at *
  generalize min n2 30000=m2 at *
  generalize slAddr a1 0 cap1 1=s1 at *
  generalize slAddr a2 0 cap2 1=s2 at *
  have hat2:=pickS_range (n:=at_) (m:=100000) (by decide)
  refine CodeF.stepD ?_
  refine Tri.free (low_Pick at_ 100000 J1 hat (by unfold In64; omega)) ?_
  rintro v J _ hJ2 ⟨rfl,rfl⟩
  obtain ⟨k,hk⟩:∃ k:Nat,pickS at_ 100000=k:=⟨(pickS at_ 100000).toNat,by omega⟩
  rw [hk] at hat2 ⊢
  refine CodeF.stepD ?_
  refine LoadD.own 1 rfl _ rfl rfl ?_
  have hP0:P0 bp (fsN 64 1) 0 J1 c:=⟨⟨_,hP,rfl,Nat.le_refl 0⟩,fsN_ok n64 1 (by decide)⟩
  refine Tri.frame (p0_Write hP0 (by decide) 1 (by decide) 0 d1 s1 m1 cap1 hl1 hw1 hc1' (by omega)) [0] rfl rfl ?_
  rintro v J2 A' hJ2 ⟨c2,rfl,hE⟩
  obtain ⟨fs,hV,rfl⟩:∃ fs,P0 bp fs 512 J2 c2∧v=.int .i64 0:=by
    rcases hE with ⟨rfl,hk',hP'⟩ | ⟨rfl,hk',hf,hw',hP'⟩ | ⟨rfl,hk',⟨hb',hP'⟩ | ⟨-,fs2,hw',hW,hP'⟩⟩
    · rw [fsN_fi,if_pos (by omega)] at hk'; cases hk'
    · have h41:freeN (fsN 64 1).used=41:=by decide
      rw [h41] at hf
      unfold lastB at hf
      omega
    · exact ⟨_,hP',rfl⟩
    · exact ⟨_,hP',rfl⟩
  refine ⟨by simp,?_⟩
  refine CmpD.yes rfl ?_
  conv=>whnf
  obtain ⟨⟨sA,hRA,hVA,hdA⟩,hokA⟩:=hV
  obtain ⟨aB,capB,chB,hs,aD,capD,chD,rfl,h1,h2,h3,h4⟩:=hRA.ex
  refine CodeF.dropD (S0:=[[(bp,row (plV aB 64 capB false sA.left aD sA.did.length capD) 36)],chB,chD,lyB b10,[]]) (Drop.flat (by simp)) ?_
  refine CodeF.stepD ?_
  refine CodeF.stepD ?_
  refine LoadD.own 0 rfl [.slice aB 64 capB] rfl rfl ?_
  refine appendD tabOk rfl rfl rfl rfl rfl rfl rfl 4 rfl (OwnC.nil 1 none) (SrcOk.slice (n:=64) (news:=hs) tabOk rfl (by show SlC _ _ _ (64 * 1) _; exact h1.slC1 1 rfl) h2.plain) rfl (by show (0+64) * 24≤_; omega) (by omega) ?_
  intro aW capW chW hW
  have hW:OwnC chW 1 aW 64 capW hs:=hW
  rw [Nat.zero_add]
  refine CodeF.join [] (fun _ _ _=>True) ?_ ?_
  rotate_left
  · rintro vs g J S' hJ -
    refine CodeF.den ?_
    refine Tri.free (law26_awake J) ?_
    rintro v J _ hJ rfl
    exact Done.mk rfl
  refine CodeF.stepD ?_
  refine CodeF.blockF ?_ rfl
  refine CodeF.loopF [1,2,3,9,10,11,12] (fun vs J S'=>∃ (q:Nat) (c:List Blk) (s:PlS),q≤3∧PlR 64 false bp s J c∧s.V=fs.V∧S'=[c,lyB b10,chW] ∧
      vs=[.int .i64 (k:Nat),.slice s2 m2 cap2,.int .i64 left,.pointer (some ⟨bp,0,none⟩),.pointer (some ⟨b10,0,none⟩),.slice aW 64 capW,.int .i64 (q:Nat)])
    (fun vs _ _=>match vs with | [_,_,_,_,_,_,.int _ q]=>((3:Int) - q).toNat | _=>0) ?_ ?_
  · refine ⟨[(bp,row (plV aB 64 capB false sA.left aD sA.did.length capD) 36) :: (chB++chD),lyB b10,chW],Drop.flat (by simp),0,_,sA,by omega,hRA,hVA,rfl,rfl⟩
  have hsW:=h2
  clear hRA h1 h2 h3 h4 hE hP hP0
  rintro vs g J S' hJ ⟨q,c,sL,hq,hRL,hVL,rfl,rfl⟩
  refine CodeF.stepD ?_
  refine CmpD.split (fun (c1:(q:Int) < 3)=>?_) (fun (c1:¬ (q:Int) < 3)=>?_)
  rotate_left
  · exact ⟨_,Drop.refl _,trivial⟩
  refine CodeF.seqF (CodeF.blockF ?_ rfl)
  obtain ⟨aB,capB,chB,hs2,aD,capD,chD,rfl,h1,h2,h3,h4⟩:=hRL.ex
  refine CodeF.dropD (S0:=[[(bp,row (plV aB 64 capB false sL.left aD sL.did.length capD) 36)],chB,chD,lyB b10,chW]) (Drop.flat (by simp)) ?_
  refine CodeF.stepD ?_
  refine Tri.free (low_Pick left 12 J hleft (by unfold In64; omega)) ?_
  rintro v J3 _ hJ3 ⟨rfl,rfl⟩
  refine StoreD.st 0 rfl rfl rfl ?_
  refine StoreD.st 0 rfl rfl rfl ?_
  refine StoreD.st 0 rfl rfl rfl ?_
  refine CodeF.stepD ?_
  have hRE:PlR 64 true bp ⟨sL.V,pickS left 12,[]⟩ J ((bp,row (plV aB 64 capB true (pickS left 12) none 0 0) 36) :: (chB++[])) :=
    ⟨aB,capB,chB,hs2,none,0,[],rfl,h1,h2,OwnC.nil 1 none,by simp⟩
  refine CodeF.dropD (S0:=[(bp,row (plV aB 64 capB true (pickS left 12) none 0 0) 36) :: (chB++[]),lyB b10,chW]) (Drop.trans (show Drop _ [[(bp,row (plV aB 64 capB true (pickS left 12) none 0 0) 36)],chB,lyB b10,chW] from Drop.pick [0,1,3,4] _ rfl) (Drop.flat (by simp))) ?_
  clear hRL h1 h2 h3 h4
  generalize (bp,row (plV aB 64 capB true (pickS left 12) none 0 0) 36) :: (chB++[])=cE at *
  have hw2J:=hw2.mono (Imm.le_trans hJ2 hJ)
  have hsJ:=hsW.up hJ
  refine CodeF.join [1,2,3,9,10,11,12,13] (fun vs J' S'=>∃ (c:List Blk) (s:PlS) (e:Int),J.le J'∧PlR 64 true bp s J' c∧(e≠0→s.did=[]→s.V=fs.V)∧S'=[c,lyB b10,chW] ∧
      vs=[.int .i64 (k:Nat),.slice s2 m2 cap2,.int .i64 left,.pointer (some ⟨bp,0,none⟩),.pointer (some ⟨b10,0,none⟩),.slice aW 64 capW,.int .i64 (q:Nat),.int .i64 e]) ?_ ?_
  · refine CodeF.stepD ?_
    refine CodeF.blockF ?_ rfl
    refine CodeF.den ?_
    refine CmpD.split (fun (c2:(q:Int)=0)=>?_) (fun (c2:¬ (q:Int)=0)=>?_)
    · refine LoadD.own 1 rfl _ rfl rfl ?_
      refine Tri.frame (wh_Write hRE rfl hokA hVL 1 (by decide) k d2 s2 m2 cap2 hl2 hw2J hc2' (by omega)) [0] rfl rfl ?_
      rintro v J4 A' hJ4 ⟨c4,s4,e4,rfl,rfl,hR4,hV4⟩
      refine ⟨by simp,?_⟩
      exact ⟨_,Drop.refl _,c4,s4,e4,hJ4,hR4,hV4,rfl,rfl⟩
    refine CmpD.split (fun (c3:(q:Int)=1)=>?_) (fun (c3:¬ (q:Int)=1)=>?_)
    · refine LoadD.own 1 rfl _ rfl rfl ?_
      refine Tri.frame (wh_Truncate hRE rfl hokA hVL 1 (by decide) k (by omega)) [0] rfl rfl ?_
      rintro v J4 A' hJ4 ⟨c4,s4,e4,rfl,rfl,hR4,hV4⟩
      refine ⟨by simp,?_⟩
      exact ⟨_,Drop.refl _,c4,s4,e4,hJ4,hR4,hV4,rfl,rfl⟩
    · refine LoadD.own 1 rfl _ rfl rfl ?_
      refine Tri.frame (wh_Erase hRE rfl hokA hVL 1 (by decide)) [0] rfl rfl ?_
      rintro v J4 A' hJ4 ⟨c4,s4,e4,rfl,rfl,hR4,hV4⟩
      refine ⟨by simp,?_⟩
      exact ⟨_,Drop.refl _,c4,s4,e4,hJ4,hR4,hV4,rfl,rfl⟩
  clear hRE
  rintro vs g J4 S' hJ4 ⟨c4,s4,e4,-,hR4,hV4,rfl,rfl⟩
  obtain ⟨aB4,capB4,chB4,hs4,aD4,capD4,chD4,rfl,h1,h2,h3,h4⟩:=hR4.ex
  have hsW4:HsOk J4 hs 64 fs.V:=by rw [← hVA]; exact hsJ.up hJ4
  refine CodeF.dropD (S0:=[[(bp,row (plV aB4 64 capB4 true s4.left aD4 s4.did.length capD4) 36)],chB4,chD4,lyB b10,chW,[]]) (Drop.flat (by simp)) ?_
  refine CodeF.stepD ?_
  refine StoreD.st 0 rfl rfl rfl ?_
  refine CodeF.stepD ?_
  refine CmpD.split (fun (c2:e4=0)=>?_) (fun (c2:¬ e4=0)=>?_)
  · refine CodeF.den ?_
    refine CmpD.yes c2 ?_
    refine appendD tabOk rfl rfl rfl rfl rfl rfl rfl 5 rfl (OwnC.nil 1 none) (SrcOk.slice (n:=64) (news:=hs) tabOk rfl (by show SlC _ _ _ (64 * 1) _; exact hW.slC1 4 rfl) hsW4.plain) rfl (by show (0+64) * 24≤_; omega) (by omega) ?_
    intro aN capN chN hN
    have hN:OwnC chN 1 aN 64 capN hs:=hN
    rw [Nat.zero_add]
    refine StoreD.st 0 rfl rfl rfl ?_
    refine CodeF.den ?_
    refine ToD.i64 (by omega) (by omega) ?_
    refine ⟨[(bp,row (plV aN 64 capN false s4.left aD4 s4.did.length capD4) 36) :: (chN++chD4),lyB b10,chW],Drop.trans (show Drop _ [[(bp,row (plV aN 64 capN false s4.left aD4 s4.did.length capD4) 36)],chN,chD4,lyB b10,chW] from Drop.pick [0,5,2,3,4] _ rfl) (Drop.flat (by simp)),⟨q+1,_,⟨fs.V,s4.left,s4.did⟩,by omega,⟨aN,capN,chN,hs,aD4,capD4,chD4,rfl,hN,hsW4,h3,h4⟩,rfl,rfl,rfl⟩,?_⟩
    show ((3:Int) - ((q:Int)+1)).toNat < ((3:Int) - (q:Int)).toNat
    omega
  refine LoadD.own 0 rfl [.slice aD4 s4.did.length capD4] rfl rfl ?_
  refine CmpD.split (fun (c3:(s4.did.length:Int)=0)=>?_) (fun (c3:¬ (s4.did.length:Int)=0)=>?_)
  · refine LoadD.own 0 rfl [.slice aB4 64 capB4] rfl rfl ?_
    have hd0:s4.did=[]:=List.length_eq_zero_iff.1 (by omega)
    have h2':HsOk J4 hs4 64 fs.V:=by rw [← hV4 c2 hd0]; exact h2
    refine Tri.nf (same_hs (by decide) (h1.slC1 1 rfl) (hW.slC1 4 rfl) h2' hsW4) ?_
    rintro v J5 S' hJ5 ⟨rfl,rfl,rfl⟩
    conv=>whnf
    refine CodeF.den ?_
    refine CmpD.no c2 ?_
    refine LoadD.own 0 rfl [.slice aD4 s4.did.length capD4] rfl rfl ?_
    refine CmpD.no (by omega) ?_
    refine CodeF.den ?_
    refine ToD.i64 (by omega) (by omega) ?_
    refine ⟨[(bp,row (plV aB4 64 capB4 false s4.left aD4 s4.did.length capD4) 36) :: (chB4++chD4),lyB b10,chW],Drop.trans (show Drop _ [[(bp,row (plV aB4 64 capB4 false s4.left aD4 s4.did.length capD4) 36)],chB4,chD4,lyB b10,chW] from Drop.pick [0,1,2,3,4] _ rfl) (Drop.flat (by simp)),⟨q+1,_,⟨fs.V,s4.left,s4.did⟩,by omega,⟨aB4,capB4,chB4,hs4,aD4,capD4,chD4,rfl,h1,h2',h3,h4⟩,rfl,rfl,rfl⟩,?_⟩
    show ((3:Int) - ((q:Int)+1)).toNat < ((3:Int) - (q:Int)).toNat
    omega
  · refine CodeF.den ?_
    refine CmpD.no c2 ?_
    refine LoadD.own 0 rfl [.slice aD4 s4.did.length capD4] rfl rfl ?_
    refine CmpD.yes (by omega) ?_
    refine appendD tabOk rfl rfl rfl rfl rfl rfl rfl 5 rfl (OwnC.nil 1 none) (SrcOk.slice (n:=64) (news:=hs) tabOk rfl (by show SlC _ _ _ (64 * 1) _; exact hW.slC1 4 rfl) hsW4.plain) rfl (by show (0+64) * 24≤_; omega) (by omega) ?_
    intro aN capN chN hN
    have hN:OwnC chN 1 aN 64 capN hs:=hN
    rw [Nat.zero_add]
    refine StoreD.st 0 rfl rfl rfl ?_
    refine CodeF.den ?_
    refine ToD.i64 (by omega) (by omega) ?_
    refine ⟨[(bp,row (plV aN 64 capN false s4.left aD4 s4.did.length capD4) 36) :: (chN++chD4),lyB b10,chW],Drop.trans (show Drop _ [[(bp,row (plV aN 64 capN false s4.left aD4 s4.did.length capD4) 36)],chN,chD4,lyB b10,chW] from Drop.pick [0,5,2,3,4] _ rfl) (Drop.flat (by simp)),⟨q+1,_,⟨fs.V,s4.left,s4.did⟩,by omega,⟨aN,capN,chN,hs,aD4,capD4,chD4,rfl,hN,hsW4,h3,h4⟩,rfl,rfl,rfl⟩,?_⟩
    show ((3:Int) - ((q:Int)+1)).toNat < ((3:Int) - (q:Int)).toNat
    omega
end Go.Proofs.YtklbcpofihgmlaaGreat
namespace Go.Proofs.YtklbcpofihgmlaaGreat
open Go.RowKit Go.Sl
set_option maxRecDepth 20000
section
variable {H:Type} {enc:TypeId × Value→H} {W:World} {held:Bool} {fuel:Nat}
theorem open_bytesB {c0:Value} {x:DataW H × List MemPlace} (h:DataW.trod enc Tryz.prog W 0 (fun _=>true) held fuel 29 [c0]=some x) :
    ∃ (a:Option Addr) (len cap:Nat) (l:Dat),c0=.slice a len cap∧len≤cap∧cap≤maxLen∧l.length=len∧Rds (base W) a len (bts l):=by
  obtain ⟨a,len,cap,vs,D,rfl,hlc,hcm,hel,hR,hD⟩:=open_elems Tryz.underlying29 (k:=1) (by kernel_rfl) (by omega) h
  obtain ⟨z,hz⟩:=Go.Deep.choose_lt (α:=UInt8) (n:=len) (p:=fun i z=>vs i=[byte z]) (fun i hi=>by
    obtain ⟨hl,n,Pl,ht⟩:=hel i hi
    obtain ⟨m,h1,_,hw⟩:=DataW.trod_int Tryz.underlying5 ht
    have:0≤m∧m < 256:=by simp [Lit.wf,IntKind.min,IntKind.max,IntKind.signed,IntKind.bits] at hw; omega
    refine ⟨UInt8.ofNat m.toNat,?_⟩
    rw [h1]
    simp only [byte,UInt8.toNat_ofNat']
    congr 2
    omega)
  refine ⟨a,len,cap,(List.range len).map z,rfl,hlc,hcm,by simp,?_⟩
  rw [Nat.mul_one] at hR
  have e:(List.range len).flatMap vs=bts ((List.range len).map z):=by
    rw [Go.Deep.flatMap_congr_range (fun i hi=>hz i hi)]
    unfold bts
    rw [List.map_map]
    induction List.range len with
    | nil=>rfl
    | cons y l ih=>simp [ih]
  rw [← e]; exact hR
end
end Go.Proofs.YtklbcpofihgmlaaGreat

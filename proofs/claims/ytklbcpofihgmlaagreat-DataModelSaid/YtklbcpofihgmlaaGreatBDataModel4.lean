/- Texts of this claim laid together: Bi1, Bi2, Bi3, Bi4, Bi5, Bi6, Bi7, Ex1, Ex2, Ex3, Ex4, Ex5, Ex6, Ex7, Shelf, Keys, Sort, Sorted, Da1, Da2, Da3, Da4, Da5, Da6. -/
import Derived.Test.YtklbcpofihgmlaaGreatBDataModel3
import Derived.Test.YtklbcpofihgmlaaGreatBDataModel2
import Derived.Shelf.Sort.Plain
import Derived.Shelf.Slices.In.SortNone
import Derived.Test.YtklbcpofihgmlaaGreatProg
import Derived.Test.YtklbcpofihgmlaaGreatBDataModel1
namespace Go.Proofs.YtklbcpofihgmlaaGreat
open Go.RowKit Go.Sl
set_option maxRecDepth 20000
def bls (l:List Bool):List Value:=l.map Value.bool
theorem bls_length (l:List Bool):(bls l).length=l.length:=by simp [bls]
theorem bls_get {l:List Bool} {i:Nat} {b:Bool} (h:l[i]?=some b):(bls l)[i]?=some (.bool b):=by simp [bls,h]
theorem or_u8:∀ s:Nat,s < 256→∀ q:Nat,q < 8→bits .or .u8 (s:Int) ((UInt8.ofNat (2 ^ q)).toNat:Int)=((UInt8.ofNat s ||| UInt8.ofNat (2 ^ q)).toNat:Int):=by decide +kernel
theorem and_u8:∀ s:Nat,s < 256→∀ q:Nat,q < 8→decide (bits .and .u8 (s:Int) ((UInt8.ofNat (2 ^ q)).toNat:Int)=0)=!(s.testBit q):=by decide +kernel
theorem or_u8' (a:UInt8) (q:Nat) (hq:q < 8):bits .or .u8 (a.toNat:Int) ((UInt8.ofNat (2 ^ q)).toNat:Int)=((a ||| UInt8.ofNat (2 ^ q)).toNat:Int):=by
  rw [or_u8 a.toNat (UInt8.toNat_lt a) q hq,UInt8.ofNat_toNat]
theorem bts_set (l:Dat) (i:Nat) (b:UInt8) (h:i < l.length):splice (bts l) (0+i) [byte b]=bts (l.set i b):=by
  have hlb:=bts_length l
  rw [Nat.zero_add]
  unfold splice bts
  rw [List.map_set,List.set_eq_take_append_cons_drop,if_pos (by rw [List.length_map]; omega)]
  simp
theorem bits_written (n:Nat) (h:64≤n∧n≤512) {I:Imm} {S:St} (used:List Bool) (hu:used.length=n) (a:Option Addr) (cap:Nat) (hs:SlC I S a n (bls used)) :
    Tri Tryz.prog 105 #[layVn n,.slice a n cap] I S fun v J S'=>∃ b,v=.slice (some ⟨b,0,none⟩) 4096 4096∧I=J∧S'=S++[[(b,row (bts (bitsL used)) 5)]]:=by
  refine Tri.drop ?_ (fun _ _ _ _ h=>h)
  refine Tri.of (args:=[layVn n,.slice a n cap]) tabOk Tryz.func105 rfl (by kernel_rfl) (by kernel_rfl) ?_
  conv=>whnf
  intro b
  refine makeD tabOk rfl rfl rfl 4096 4096 rfl rfl (by omega) (by decide) (by omega) (by decide) rfl (by decide) ?_
  intro b2
  refine CodeF.loopD [1,2,5,12,13,14] (fun vs J S'=>∃ i:Nat,i≤n∧vs=[.slice a n cap,.pointer (some ⟨b,0,none⟩),.slice (some ⟨b2,0,none⟩) 4096 4096,.slice a n cap,.int .i64 n,.int .i64 i]∧I=J∧S'=S++[[(b,row (layVn n).cells.toList 24)]]++[[(b2,row (bts (bitsTo used i)) 5)]])
    (fun vs _ _=>match vs with | [_,_,_,_,_,.int _ i]=>((n:Int) - i).toNat | _=>0) ?_ ?_
  · refine ⟨_,Drop.refl _,0,by omega,rfl,rfl,?_⟩
    have e:bitsTo used 0=List.replicate 4096 0:=rfl
    rw [e,bts_zeros]; rfl
  rintro vs gE J S' hJ ⟨i,hi,rfl,rfl,rfl⟩
  refine CmpD.split (fun (c1:(i:Int) < n)=>?_) (fun (c1:¬ (i:Int) < n)=>?_)
  · obtain ⟨bb,off,rfl,hc⟩:=((hs.more _).more _).cells (by omega)
    obtain ⟨x,hx⟩:∃ x,used[i]?=some x:=⟨_,List.getElem?_eq_getElem (by omega)⟩
    refine Chk.mk (by omega) ?_
    refine LoadD.mk [.bool x] (by have:=hc.at (bls_get hx); exact this) ?_
    have hi2:bitsTo used (i+1)=bif x then (bitsTo used i).set (i / 8) ((bitsTo used i).getD (i / 8) 0 ||| UInt8.ofNat (2 ^ (i % 8))) else bitsTo used i:=by
      rw [bitsTo,List.getD_eq_getElem?_getD,hx]; rfl
    have hbl:=bitsTo_length used i
    cases x with
    | true =>
      rw [cond_true] at hi2
      refine LoadD.own S.length (two_get S _ _) _ rfl rfl ?_
      refine Tri.free (layout_Bit n i h (by omega) I) ?_
      rintro v J _ hJ ⟨rfl,rfl⟩
      refine Chk.mk (by omega) ?_
      generalize bitsTo used i=w at *
      obtain ⟨y,hy⟩:∃ y,w[i / 8]?=some y:=⟨_,List.getElem?_eq_getElem (by omega)⟩
      have hyd:w.getD (i / 8) 0=y:=by rw [List.getD_eq_getElem?_getD,hy]; rfl
      refine LoadD.own (S.length+1) (two_get1 S _ _) [byte y] ?_ rfl ?_
      · rw [Int.toNat_natCast]
        show (List.drop (addOff 0 (i / 8) 1) _).take 1=_
        rw [addOff_eq]
        exact take_get (c:=bts w) (vs:=bts w) (off:=0) (n:=4096) (by rw [List.drop_zero,List.take_of_length_le (by rw [bts_length]; omega)]) (by rw [Nat.mul_one,bts_get hy])
      refine ToD.to ((y ||| UInt8.ofNat (2 ^ (i % 8))).toNat:Int) (or_u8' y _ (Nat.mod_lt _ (by decide))) ?_
      refine Chk.mk (by omega) ?_
      refine StoreD.to (S.length+1) (two_get1 S _ _) (bts (w.set (i / 8) (y ||| UInt8.ofNat (2 ^ (i % 8))))) ?_ ?_ (.inr (.inr (Nat.le_refl _))) _ (two_set1 S _ _ _) ?_
      · rw [Int.toNat_natCast]
        show splice _ (addOff 0 (i / 8) 1) _=_
        rw [addOff_eq,Nat.mul_one]
        exact bts_set w _ _ (by omega)
      · rw [Int.toNat_natCast,bts_length]
        show addOff 0 (i / 8) 1+1≤_
        rw [addOff_eq]; omega
      refine ToD.i64 (by omega) (by omega) ?_
      refine ⟨_,Drop.refl _,⟨i+1,by omega,rfl,rfl,?_⟩,?_⟩
      · rw [hi2,hyd]
      · show ((n:Int) - ((i:Int)+1)).toNat < ((n:Int) - (i:Int)).toNat; omega
    | false =>
      rw [cond_false] at hi2
      refine ToD.i64 (by omega) (by omega) ?_
      refine ⟨_,Drop.refl _,⟨i+1,by omega,rfl,rfl,by rw [hi2]⟩,?_⟩
      show ((n:Int) - ((i:Int)+1)).toNat < ((n:Int) - (i:Int)).toNat; omega
  · obtain rfl:i=n:=by omega
    have e:bitsTo used i=bitsL used:=by unfold bitsL; rw [hu]
    rw [e]
    exact Done.mk ⟨_,drop_box _ _ _,b2,rfl,rfl,rfl⟩
theorem contains_false {I:Imm} {S:St} (l:List Bool) (a:Option Addr) (len cap:Nat) (hl:l.length=len) (hlen:len≤1000000) (hs:SlC I S a len (bls l)) :
    Tri Tryz.prog 103 #[.slice a len cap,.bool false] I S fun v J S'=>v=.bool (decide (false ∈ l))∧I=J∧S'=S:=by
  have key:Tri Tryz.prog 146 #[.slice a len cap,.bool false] I S fun v J S'=>(∃ k:Int,v=.int .i64 k∧(k ≥ 0↔false ∈ l))∧I=J∧S'=S:=by
    refine Tri.of (args:=[.slice a len cap,.bool false]) tabOk Tryz.func146 rfl (by kernel_rfl) (by kernel_rfl) ?_
    refine CodeF.loopD [0,1,7,8] (fun vs J S'=>∃ i:Nat,i≤len∧false ∉ l.take i∧vs=[.slice a len cap,.bool false,.int .i64 len,.int .i64 i]∧I=J∧S'=S)
      (fun vs _ _=>match vs with | [_,_,_,.int _ i]=>((len:Int) - i).toNat | _=>0) ?_ ?_
    · exact ⟨_,Drop.refl _,0,by omega,by simp,rfl,rfl,rfl⟩
    rintro vs gE J S' hJ ⟨i,hi,hx,rfl,rfl,rfl⟩
    refine CmpD.split (fun (c1:(i:Int) < len)=>?_) (fun (c1:¬ (i:Int) < len)=>?_)
    · obtain ⟨bb,off,rfl,hc⟩:=hs.cells (by omega)
      obtain ⟨y,hy⟩:∃ y,l[i]?=some y:=⟨_,List.getElem?_eq_getElem (by omega)⟩
      refine Chk.mk (by omega) ?_
      refine LoadD.mk [.bool y] (by have:=hc.at (bls_get hy); exact this) ?_
      cases y with
      | false =>
        refine Done.mk ⟨⟨(i:Int),rfl,?_⟩,rfl,rfl⟩
        exact ⟨fun _=>List.mem_of_getElem? hy,fun _=>by omega⟩
      | true =>
        refine ToD.i64 (by omega) (by omega) ?_
        refine ⟨_,Drop.refl _,⟨i+1,by omega,?_,rfl,rfl,rfl⟩,?_⟩
        · rw [List.take_add_one,hy]; simpa using hx
        · show ((len:Int) - ((i:Int)+1)).toNat < ((len:Int) - (i:Int)).toNat; omega
    · obtain rfl:i=len:=by omega
      rw [List.take_of_length_le (by omega)] at hx
      refine Done.mk ⟨⟨(-1:Int),rfl,?_⟩,rfl,rfl⟩
      exact ⟨fun h=>by omega,fun h=>absurd h hx⟩
  refine Tri.of (args:=[.slice a len cap,.bool false]) tabOk Tryz.func103 rfl (by kernel_rfl) (by kernel_rfl) ?_
  refine key.mono ?_
  rintro v J S' hJ ⟨⟨k,rfl,hk⟩,rfl,rfl⟩
  refine CmpD.keep ?_
  refine Done.mk ⟨?_,rfl,rfl⟩
  have e:decide (k ≥ 0)=decide (false ∈ l):=decide_eq_decide.2 hk
  rw [e]; rfl
end Go.Proofs.YtklbcpofihgmlaaGreat
namespace Go.Proofs.YtklbcpofihgmlaaGreat
open Go.RowKit Go.Sl
set_option maxRecDepth 20000
theorem SlC.partG {I:Imm} {S:St} {a:Option Addr} {n size:Nat} {vs:List Value} (h:SlC I S a (n * size) vs) (l u m:Nat) (hl:l≤u) (hu:u≤n) (hm:u≤m):SlC I S (slAddr a l m size) ((u - l) * size) ((vs.drop (l * size)).take ((u - l) * size)):=by
  have h1:l * size≤u * size:=Nat.mul_le_mul_right _ hl
  have h2:u * size≤n * size:=Nat.mul_le_mul_right _ hu
  have e1:(u - l) * size=u * size - l * size:=Nat.sub_mul ..
  refine ⟨by rw [List.length_take,List.length_drop,h.len]; omega,?_⟩
  by_cases hz:(u - l) * size=0
  · exact .inl hz
  · right
    obtain ⟨b,off,rfl,hc⟩:=h.cells (by omega)
    refine ⟨b,off+l * size,?_,hc.part (by omega)⟩
    unfold slAddr
    rw [if_neg (by intro e; apply hz; rw [show u - l=0 by omega,Nat.zero_mul])]
    simp [Addr.add]
theorem Rds.partG {I:Imm} {a:Option Addr} {n size:Nat} {vs:List Value} (h:Rds I a (n * size) vs) (l u m:Nat) (hl:l≤u) (hu:u≤n) (hm:u≤m):Rds I (slAddr a l m size) ((u - l) * size) ((vs.drop (l * size)).take ((u - l) * size)) :=
  (SlC.partG (S:=[]) h.slC l u m hl hu hm).rds
structure BtOk (n:Nat) (V:Bs) (used:List Bool):Prop where
  bits:V (bitsB n)=bitsL used
  len:used.length=n
  front:∀ i,i < datB n→used[i]?=some true
theorem FsOk.bt {n:Nat} {s:Fs} (h:FsOk n s):BtOk n s.V s.used :=
  ⟨h.bits,h.len,fun i hi=>(h.own i (by have:=layN_range h.n64; omega)).2 (.inl hi)⟩
variable {σ:Type} (sp:SpC Tryz.prog σ)
theorem bit_read (b:UInt8) (q:Nat) (hq:q < 8):decide (bits .and .u8 (b.toNat:Int) ((UInt8.ofNat (2 ^ q)).toNat:Int)=0)=!(b.toNat.testBit q):=and_u8 _ (UInt8.toNat_lt b) _ hq
theorem bits_Used (hn:64≤sp.n∧sp.n≤512) {I:Imm} {c:List Blk} {s:σ} (hR:sp.R s I c) {used:List Bool} (hb:BtOk sp.n (sp.blk s) used) :
    Tri Tryz.prog 60 #[sp.v,layVn sp.n] I [c] fun v J S'=>∃ c' s',sp.R s' J c'∧sp.rd s s' ∧
      ((∃ e,e≠0∧sp.can e∧v=.tuple #[.slice none 0 0,.int .i64 e]∧S'=[c',[]]) ∨
       (∃ a cap ch,v=.tuple #[.slice a sp.n cap,.int .i64 0]∧OwnC ch 1 a sp.n cap (bls used)∧S'=[c',ch])):=by
  have hL:=layN_range hn
  refine Tri.drop ?_ (fun _ _ _ _ h=>h)
  refine Tri.of (args:=[sp.v,layVn sp.n]) tabOk Tryz.func60 rfl (by kernel_rfl) (by kernel_rfl) ?_
  conv=>whnf
  intro b
  repeat (first | refine LoadD.own 1 rfl _ rfl rfl ?_)
  refine Tri.free (bits_wrong sp hn I) ?_
  rintro v J _ hJ ⟨rfl,rfl⟩
  repeat (first | refine LoadD.own 1 rfl _ rfl rfl ?_ | refine CmpD.yes rfl ?_)
  refine invokeD rfl rfl rfl sp.lrd rfl ?_
  refine Tri.frame (sp.read (bitsB sp.n) hR (by omega)) [0] rfl rfl ?_
  rintro v J A' hJ ⟨c',s',hR',hrd,⟨e,he,hcan,rfl,rfl⟩ | ⟨a,cap,ch,rfl,hch,rfl⟩⟩
  · refine ⟨by simp,?_⟩
    refine CmpD.no he ?_
    refine Done.mk ⟨_,Drop.pick [0,2] _ rfl,c',s',hR',hrd,.inl ⟨e,he,hcan,rfl,rfl⟩⟩
  refine ⟨by simp,?_⟩
  rw [hb.bits] at hch
  repeat (first | refine LoadD.own 1 rfl _ rfl rfl ?_ | refine CmpD.yes rfl ?_)
  obtain ⟨ba,off,rfl,hcl⟩:=(hch.slC1 (I:=J) (S:=[ch]) 0 rfl).cells (by omega)
  clear hcl
  refine CodeF.loopD [0,3,7,9,34,35] (fun vs J' S'=>∃ (i:Nat) (ao:Option Addr) (co:Nat) (cho:List Blk),i≤sp.n∧OwnC cho 1 ao i co (bls (used.take i))∧vs=[sp.v,.pointer (some ⟨b,0,none⟩),.slice (some ⟨ba,off,none⟩) 4096 cap,.slice ao i co,.int .i64 sp.n,.int .i64 i]∧J=J' ∧
      S'=[c',[(b,row (layVn sp.n).cells.toList 24)],ch,cho])
    (fun vs _ _=>match vs with | [_,_,_,_,_,.int _ i]=>((sp.n:Int) - i).toNat | _=>0) ?_ ?_
  · exact ⟨_,Drop.and (Drop.refl _),0,none,0,[],by omega,OwnC.nil _ _,rfl,rfl,rfl⟩
  rintro vs gE J' S' hJ' ⟨i,ao,co,cho,hi,hcho,rfl,rfl,rfl⟩
  refine CmpD.split (fun (c1:(i:Int) < sp.n)=>?_) (fun (c1:¬ (i:Int) < sp.n)=>?_)
  · obtain ⟨x,hx⟩:∃ x,used[i]?=some x:=⟨_,List.getElem?_eq_getElem (by have:=hb.len; omega)⟩
    repeat (first | refine LoadD.own 1 rfl _ rfl rfl ?_)
    refine Tri.free (layout_Bit sp.n i hn (by omega) J) ?_
    rintro v J _ hJ ⟨rfl,rfl⟩
    have hbl:=bitsL_length used
    have hbit:=bitsL_bit used (by rw [hb.len]; omega) hx
    obtain ⟨y,hy⟩:∃ y,(bitsL used)[i / 8]?=some y:=⟨_,List.getElem?_eq_getElem (by omega)⟩
    rw [List.getD_eq_getElem?_getD,hy] at hbit
    obtain ⟨b2,off2,e2,hcl⟩:=(hch.slC1 (I:=J) (S:=[c',[(b,row (layVn sp.n).cells.toList 24)],ch,cho]) 2 rfl).cells (by omega)
    cases e2
    refine Chk.mk (by omega) ?_
    refine LoadD.mk [byte y] (by have:=hcl.at (bts_get hy); rw [Int.toNat_natCast]; show Cells _ _ _ (addOff off (i / 8) 1) _ _; rw [addOff_eq,Nat.mul_one]; exact this) ?_
    refine ToD.keep ?_
    have hbr:=bit_read y (i % 8) (Nat.mod_lt _ (by decide))
    have hbit':y.toNat.testBit (i % 8)=x:=hbit
    rw [hbit'] at hbr
    have hsl:(SlC J [c',[(b,row (layVn sp.n).cells.toList 24)],ch,cho] ao i (bls (used.take i))):=hcho.slC1 3 rfl
    have tk:used.take (i+1)=used.take i++[x]:=by rw [List.take_add_one,hx]; rfl
    have hbls:bls (used.take (i+1))=bls (used.take i)++[.bool x]:=by rw [tk]; simp [bls]
    cases x
    · refine CmpD.yes (by simpa using hbr) ?_
      conv=>whnf
      intro b1
      refine appendD tabOk rfl rfl rfl rfl rfl rfl rfl 3 rfl hcho (SrcOk.slice (n:=1) (news:=[.bool false]) tabOk rfl ((OwnC.whole (len:=1) (size:=1) rfl).slC 4 rfl) (by intro v hv; rw [List.mem_singleton.1 hv]; rfl)) rfl (by show (i+1) * 1≤_; omega) (by omega) ?_
      intro a2 cap2 ch2 hch2
      refine ToD.i64 (by omega) (by omega) ?_
      refine ⟨_,Drop.pick [0,1,2,3] _ rfl,⟨i+1,a2,cap2,ch2,by omega,by rw [hbls]; exact hch2,rfl,rfl,rfl⟩,?_⟩
      show ((sp.n:Int) - ((i:Int)+1)).toNat < ((sp.n:Int) - (i:Int)).toNat; omega
    · refine CmpD.no (by simpa using hbr) ?_
      conv=>whnf
      intro b1
      refine appendD tabOk rfl rfl rfl rfl rfl rfl rfl 3 rfl hcho (SrcOk.slice (n:=1) (news:=[.bool true]) tabOk rfl ((OwnC.whole (len:=1) (size:=1) rfl).slC 4 rfl) (by intro v hv; rw [List.mem_singleton.1 hv]; rfl)) rfl (by show (i+1) * 1≤_; omega) (by omega) ?_
      intro a2 cap2 ch2 hch2
      refine ToD.i64 (by omega) (by omega) ?_
      refine ⟨_,Drop.pick [0,1,2,3] _ rfl,⟨i+1,a2,cap2,ch2,by omega,by rw [hbls]; exact hch2,rfl,rfl,rfl⟩,?_⟩
      show ((sp.n:Int) - ((i:Int)+1)).toNat < ((sp.n:Int) - (i:Int)).toNat; omega
  · obtain rfl:i=sp.n:=by omega
    rw [List.take_of_length_le (by rw [hb.len]; omega)] at hcho
    repeat (first | refine LoadD.own 1 rfl _ rfl rfl ?_)
    refine sliceD tabOk rfl rfl rfl rfl 0 (datB sp.n) co rfl ⟨_,rfl⟩ rfl (.inl rfl) (by have:=hcho.le; omega) ?_
    refine Tri.nf (contains_false (used.take (datB sp.n)) _ (datB sp.n - 0) (co - 0) (by rw [List.length_take,hb.len]; omega) (by omega) (by
      have:=SlC.partG (size:=1) (n:=sp.n) (hcho.slC (I:=J) (S:=[c',[(b,row (layVn sp.n).cells.toList 24)],ch,cho]) 3 rfl) 0 (datB sp.n) co (by omega) (by omega) (by have:=hcho.le; omega)
      rw [Nat.mul_one] at this
      have e:bls (used.take (datB sp.n))=((bls used).drop (0 * 1)).take (datB sp.n - 0):=by simp [bls]
      rw [e]; exact this)) ?_
    rintro v J' S' hJ' ⟨rfl,rfl,rfl⟩
    rw [decide_eq_false (by
      intro hm
      obtain ⟨k,hk,hk2⟩:=List.mem_iff_getElem.1 hm
      rw [List.length_take] at hk
      have:=hb.front k (by omega)
      rw [List.getElem_take,← Option.some_inj,← List.getElem?_eq_getElem,this] at hk2
      cases hk2)]
    repeat (first | refine LoadD.own 1 rfl _ rfl rfl ?_)
    refine Tri.nf (bits_written sp.n hn used hb.len ao co (by exact hcho.slC1 3 rfl)) ?_
    rintro v J' S' hJ' ⟨bw,rfl,rfl,rfl⟩
    refine Tri.nf (bytes_Equal (l1:=bitsL used) (l2:=bitsL used) (by exact (OwnC.whole (b:=bw) (size:=1) (len:=4096) (by rw [bts_length,bitsL_length])).slC1 4 rfl) (by exact hch.slC1 2 rfl)) ?_
    rintro v J' S' hJ' ⟨rfl,rfl,rfl⟩
    rw [decide_eq_true (rfl:bitsL used=bitsL used)]
    skip
    refine Done.mk ⟨_,Drop.pick [0,3] _ rfl,c',s',hR',hrd,.inr ⟨ao,co,cho,rfl,hcho,rfl⟩⟩
end Go.Proofs.YtklbcpofihgmlaaGreat
namespace Go.Proofs.YtklbcpofihgmlaaGreat
open Go.RowKit Go.Sl
set_option maxRecDepth 20000
theorem drop_at {l:List Bool} {p:Nat} {b:Bool} (h:l[p]?=some b):l.drop p=b :: l.drop (p+1):=by
  have hlt:p < l.length:=by
    rcases Nat.lt_or_ge p l.length with g | g
    · exact g
    · rw [List.getElem?_eq_none g] at h; cases h
  rw [List.drop_eq_getElem_cons hlt]
  rw [List.getElem?_eq_getElem hlt] at h
  rw [Option.some.inj h]
theorem hol_used {l:List Bool} {p:Nat} (h:l[p]?=some true):hol p none (l.drop p)=hol (p+1) none (l.drop (p+1)):=by rw [drop_at h]; rfl
theorem hol_free {l:List Bool} {p s:Nat} (h:l[p]?=some false):hol p (some s) (l.drop p)=hol (p+1) (some s) (l.drop (p+1)):=by rw [drop_at h]; rfl
theorem hol_open {l:List Bool} {p:Nat} (h:l[p]?=some false):hol p none (l.drop p)=hol p (some p) (l.drop p):=by rw [drop_at h]; rfl
theorem hol_shut {l:List Bool} {p s:Nat} (h:l[p]?=some true∨l.length≤p):hol p (some s) (l.drop p)=(s,p - s) :: hol (p+1) none (l.drop (p+1)):=by
  rcases h with h | h
  · rw [drop_at h]; rfl
  · rw [List.drop_eq_nil_of_le h,List.drop_eq_nil_of_le (by omega)]; rfl
@[reducible] def holV (h:Nat × Nat):Value:=.agg #[.int .i64 0,.int .i64 (h.1:Nat),.int .i64 (h.2:Nat)]
theorem holes_it (b1:Nat) (a:Option Addr) (n cap:Nat) (used:List Bool) (hu:used.length=n) (hn:n≤1000000) {I:Imm} (hs:Rds I a n (bls used)) :
    SeqC Tryz.prog 180 #[.pointer (some ⟨b1,0,none⟩)] I [[(b1,row [.slice a n cap] 45)]] (fun i x=>∃ h,(hol 0 none used)[i]?=some h∧x=holV h) (fun i=>(hol 0 none used).length≤i):=by
  intro l inv stp J c hJ hY h0
  have hs:=hs.mono hJ
  refine Tri.of (args:=[.func (.yield l) #[] #[],.pointer (some ⟨b1,0,none⟩)]) tabOk Tryz.func180 rfl (by kernel_rfl) (by kernel_rfl) ?_
  refine CodeF.loopD [0,1,3] (fun vs J' S'=>∃ (i p:Nat) (c':List Blk),p≤n+1∧(hol 0 none used).drop i=hol p none (used.drop p)∧vs=[.func (.yield l) #[] #[],.pointer (some ⟨b1,0,none⟩),.int .i64 (p:Nat)]∧inv i J' c'∧J.le J'∧S'=[c',[(b1,row [.slice a n cap] 45)]])
    (fun vs _ _=>match vs with | [_,_,.int _ k]=>((n:Int)+1 - k).toNat | _=>0) ?_ ?_
  · exact ⟨_,Drop.refl _,0,0,c,by omega,by simp,rfl,h0,J.le_refl,rfl⟩
  rintro vs g J' S' hJ' ⟨i,p,c',hp,hh,rfl,hinv,hJJ,rfl⟩
  have hs:=hs.mono hJJ
  repeat (first | refine LoadD.own 1 rfl _ rfl rfl ?_)
  refine CmpD.split (fun c1=>?_) (fun c1=>?_)
  · obtain ⟨x,hx⟩:∃ x,used[p]?=some x:=⟨_,List.getElem?_eq_getElem (by omega)⟩
    obtain ⟨bb,off,rfl,hc⟩:=(hs.slC (S:=[c',[(b1,row [.slice a n cap] 45)]])).cells (by omega)
    repeat (first | refine LoadD.own 1 rfl _ rfl rfl ?_)
    refine Chk.mk (by omega) ?_
    refine LoadD.mk [.bool x] (by have:=hc.at (bls_get hx); exact this) ?_
    cases x with
    | true =>
      refine ToD.i64 (by omega) (by omega) ?_
      refine ⟨_,Drop.refl _,⟨i,p+1,c',by omega,by rw [hh]; exact hol_used hx,rfl,hinv,hJJ,rfl⟩,?_⟩
      show ((n:Int)+1 - ((p:Int)+1)).toNat < ((n:Int)+1 - (p:Int)).toNat; omega
    | false =>
      conv=>whnf
      intro b4
      repeat (first | refine StoreD.st 2 rfl rfl rfl ?_)
      refine CodeF.loopD [0,1,3,4] (fun vs J2 S'=>∃ q:Nat,p≤q∧q≤n∧hol p none (used.drop p)=hol q (some p) (used.drop q)∧(q=p→used[q]?=some false)∧vs=[.func (.yield l) #[] #[],.pointer (some ⟨b1,0,none⟩),.int .i64 (q:Nat),.pointer (some ⟨b4,0,none⟩)]∧J'=J2 ∧
          S'=[c',[(b1,row [.slice (some ⟨bb,off,none⟩) n cap] 45)],[(b4,row [.int .i64 0,.int .i64 (p:Nat),.int .i64 (q - p:Nat)] 112)]])
        (fun vs _ _=>match vs with | [_,_,.int _ k,_]=>((n:Int) - k).toNat | _=>0) ?_ ?_
      · exact ⟨_,Drop.refl _,p,by omega,by omega,hol_open hx,fun _=>hx,rfl,rfl,by rw [Nat.sub_self]; rfl⟩
      rintro vs g2 J2 S' hJ2 ⟨q,hpq,hq,hhq,hq0,rfl,rfl,rfl⟩
      repeat (first | refine LoadD.own 1 rfl _ rfl rfl ?_)
      have fin:(used[q]?=some true∨used.length≤q)→True:=fun _=>trivial
      refine CmpD.split (fun c2=>?_) (fun c2=>?_)
      · obtain ⟨y,hy⟩:∃ y,used[q]?=some y:=⟨_,List.getElem?_eq_getElem (by omega)⟩
        obtain ⟨bb2,off2,e2,hc2⟩:=(hs.slC (S:=[c',[(b1,row [.slice (some ⟨bb,off,none⟩) n cap] 45)],[(b4,row [.int .i64 0,.int .i64 (p:Nat),.int .i64 (q - p:Nat)] 112)]])).cells (by omega)
        cases e2
        repeat (first | refine LoadD.own 1 rfl _ rfl rfl ?_)
        refine Chk.mk (by omega) ?_
        refine LoadD.mk [.bool y] (by have:=hc2.at (bls_get hy); exact this) ?_
        cases y with
        | false =>
          repeat (first | refine LoadD.own 2 rfl _ rfl rfl ?_)
          refine ToD.to ((q+1 - p:Nat):Int) (by rw [wrap_i64 (by omega) (by omega)]; omega) ?_
          repeat (first | refine StoreD.st 2 rfl rfl rfl ?_)
          refine ToD.i64 (by omega) (by omega) ?_
          refine ⟨_,Drop.refl _,⟨q+1,by omega,by omega,by rw [hhq]; exact hol_free hy,by omega,rfl,rfl,rfl⟩,?_⟩
          show ((n:Int) - ((q:Int)+1)).toNat < ((n:Int) - (q:Int)).toNat; omega
        | true =>
          have hqp:q≠p:=by intro e; rw [hq0 e] at hy; cases hy
          have hd:(hol 0 none used).drop i=(p,q - p) :: hol (q+1) none (used.drop (q+1)):=by rw [hh,hhq]; exact hol_shut (.inl hy)
          have hgi:(hol 0 none used)[i]?=some (p,q - p):=by
            have:=congrArg (·[0]?) hd
            simpa using this
          repeat (first | refine LoadD.own 2 rfl _ rfl rfl ?_)
          refine yieldD rfl rfl rfl (args:=#[holV (p,q - p)]) (by rfl) 0 rfl (hY i _ J' c' hJJ ⟨_,hgi,rfl⟩ hinv) ?_
          rintro b J2 c2 hle (⟨rfl,hi2⟩ | ⟨rfl,hs2⟩)
          · refine ToD.i64 (by omega) (by omega) ?_
            refine ⟨_,Drop.pick [0,1] _ rfl,⟨i+1,q+1,c2,by omega,by rw [← List.drop_drop,hd]; rfl,rfl,hi2,Imm.le_trans hJJ hle,rfl⟩,?_⟩
            show ((n:Int)+1 - ((q:Int)+1)).toNat < ((n:Int)+1 - (p:Int)).toNat; omega
          · exact Done.mk ⟨c2,_,rfl,.inr hs2⟩
      · have hqp:q≠p:=by omega
        have hd:(hol 0 none used).drop i=(p,q - p) :: hol (q+1) none (used.drop (q+1)):=by rw [hh,hhq]; exact hol_shut (.inr (by omega))
        have hgi:(hol 0 none used)[i]?=some (p,q - p):=by
          have:=congrArg (·[0]?) hd
          simpa using this
        repeat (first | refine LoadD.own 2 rfl _ rfl rfl ?_)
        refine yieldD rfl rfl rfl (args:=#[holV (p,q - p)]) (by rfl) 0 rfl (hY i _ J' c' hJJ ⟨_,hgi,rfl⟩ hinv) ?_
        rintro b J2 c2 hle (⟨rfl,hi2⟩ | ⟨rfl,hs2⟩)
        · refine ToD.i64 (by omega) (by omega) ?_
          refine ⟨_,Drop.pick [0,1] _ rfl,⟨i+1,q+1,c2,by omega,by rw [← List.drop_drop,hd]; rfl,rfl,hi2,Imm.le_trans hJJ hle,rfl⟩,?_⟩
          show ((n:Int)+1 - ((q:Int)+1)).toNat < ((n:Int)+1 - (p:Int)).toNat; omega
        · exact Done.mk ⟨c2,_,rfl,.inr hs2⟩
  · refine Done.mk ⟨c',_,rfl,.inl ⟨i,?_,hinv⟩⟩
    have:(hol 0 none used).drop i=[]:=by rw [hh,List.drop_eq_nil_of_le (by omega)]; rfl
    exact List.drop_eq_nil_iff.1 this
end Go.Proofs.YtklbcpofihgmlaaGreat
namespace Go.Proofs.YtklbcpofihgmlaaGreat
open Go.RowKit Go.Sl
set_option maxRecDepth 20000
theorem nblt {a b:Nat}:Nat.blt a b=true↔a < b:=by rw [Nat.blt_eq]
theorem bits_holes (a:Option Addr) (n cap:Nat) (I:Imm):Tri Tryz.prog 160 #[.slice a n cap] I [] fun v J S'=>∃ b,v=.func (.func 180) #[] #[.pointer (some ⟨b,0,none⟩)]∧I=J∧S'=[[(b,row [.slice a n cap] 45)]]:=by
  refine Tri.of (args:=[.slice a n cap]) tabOk Tryz.func160 rfl (by kernel_rfl) (by kernel_rfl) ?_
  conv=>whnf
  intro b
  exact Done.mk ⟨b,rfl,rfl,rfl⟩
theorem bestS_e (n:Nat) (eg:(Nat × Nat) × (Nat × Nat)) (x:Nat × Nat):(bestS n eg x).1=if n≤x.2∧(eg.1.2=0∨x.2 < eg.1.2) then x else eg.1:=by
  unfold bestS
  by_cases h:n≤x.2∧(eg.1.2=0∨x.2 < eg.1.2)
  · rw [if_pos h]
    have:(Nat.ble n x.2 && (Nat.beq eg.1.2 0 || Nat.blt x.2 eg.1.2))=true:=by
      simp only [Bool.and_eq_true,Bool.or_eq_true,Nat.ble_eq,Nat.blt_eq,Nat.beq_eq]; exact h
    rw [this]; rfl
  · rw [if_neg h]
    have:(Nat.ble n x.2 && (Nat.beq eg.1.2 0 || Nat.blt x.2 eg.1.2))=false:=by
      rw [Bool.eq_false_iff]; intro h2
      simp only [Bool.and_eq_true,Bool.or_eq_true,Nat.ble_eq,Nat.blt_eq,Nat.beq_eq] at h2; exact h h2
    rw [this]; rfl
theorem bestS_g (n:Nat) (eg:(Nat × Nat) × (Nat × Nat)) (x:Nat × Nat):(bestS n eg x).2=if eg.2.2 < x.2 then x else eg.2:=by
  unfold bestS
  by_cases h:eg.2.2 < x.2
  · rw [if_pos h]; have:=nblt.2 h; simp only [this,cond_true]
  · rw [if_neg h]
    have:Nat.blt eg.2.2 x.2=false:=by rw [Bool.eq_false_iff]; intro h2; exact h (nblt.1 h2)
    simp only [this,cond_false]
def egK (m:Nat) (used:List Bool) (i:Nat):(Nat × Nat) × (Nat × Nat):=((hol 0 none used).take i).foldl (bestS m) ((0,0),(0,0))
theorem egK_succ (m:Nat) (used:List Bool) (i:Nat) {x:Nat × Nat} (h:(hol 0 none used)[i]?=some x):egK m used (i+1)=bestS m (egK m used i) x:=by
  unfold egK; rw [List.take_add_one,h,List.foldl_append]; rfl
@[reducible] def pc (p:Nat × Nat):List Value:=[.int .i64 0,.int .i64 (p.1:Nat),.int .i64 (p.2:Nat)]
theorem bits_best {I:Imm} (used:List Bool) (n m:Nat) (hu:used.length=n) (hn:n≤1000000) (a:Option Addr) (cap:Nat) (hs:Rds I a n (bls used)) :
    Tri Tryz.prog 136 #[.slice a n cap,.int .i64 (m:Nat)] I [] fun v J _=>v=holV (bestP used m)∧I=J:=by
  refine Tri.of (args:=[.slice a n cap,.int .i64 (m:Nat)]) tabOk Tryz.func136 rfl (by kernel_rfl) (by kernel_rfl) ?_
  conv=>whnf
  intro b3
  conv=>whnf
  intro b4
  conv=>whnf
  intro b5
  conv=>whnf
  intro b6
  refine Tri.nf (Tri.frameX (bits_holes a n cap I) [] rfl rfl (K:=fun v J S'=>∃ b,v=.func (.func 180) #[] #[.pointer (some ⟨b,0,none⟩)]∧I=J∧S'=[[(b3,row [.int .i64 (m:Nat)] 3)],[(b4,row (pc (0,0)) 112)],[(b5,row (pc (0,0)) 112)],[(b6,row (pc (0,0)) 112)],[(b,row [.slice a n cap] 45)]]) ?_) ?_
  · rintro v J S' hJ ⟨b,rfl,rfl,rfl⟩
    exact ⟨b,rfl,rfl,rfl⟩
  rintro v J S' hJ ⟨b,rfl,rfl,rfl⟩
  refine CodeF.rangeF rfl [[(b3,row [.int .i64 (m:Nat)] 3)],[(b4,row (pc (0,0)) 112)],[(b5,row (pc (0,0)) 112)],[(b6,row (pc (0,0)) 112)]] [[(b,row [.slice a n cap] 45)]] ⟨[],by simp⟩ _ _ (holes_it b a n cap used hu hn hs)
    (fun i J' S'=>i≤(hol 0 none used).length∧I=J'∧S'=[[(b3,row [.int .i64 (m:Nat)] 3)],[(b4,row (pc (0,0)) 112)],[(b5,row (pc (egK m used i).1) 112)],[(b6,row (pc (egK m used i).2) 112)]])
    (fun _ _ _=>False) ⟨by omega,rfl,rfl⟩ ?round ?done ?stop
  case round =>
    rintro i x J' S' hJ' ⟨h,hx,rfl⟩ ⟨hi,rfl,rfl⟩
    have hil:i+1≤(hol 0 none used).length:=by
      rcases Nat.lt_or_ge i (hol 0 none used).length with g | g
      · exact g
      · rw [List.getElem?_eq_none g] at hx; cases hx
    have hst:=egK_succ m used i hx
    have he:=bestS_e m (egK m used i) h
    have hg:=bestS_g m (egK m used i) h
    rw [← hst] at he hg
    have fin:∀ (u v:Nat × Nat),(egK m used (i+1)).1=u→(egK m used (i+1)).2=v→([[(b3,row [.int .i64 (m:Nat)] 3)],[(b4,row (pc (0,0)) 112)],[(b5,row (pc u) 112)],[(b6,row (pc v) 112)]]:St)=[[(b3,row [.int .i64 (m:Nat)] 3)],[(b4,row (pc (0,0)) 112)],[(b5,row (pc (egK m used (i+1)).1) 112)],[(b6,row (pc (egK m used (i+1)).2) 112)]]:=by rintro u v rfl rfl; rfl
    generalize (egK m used i).1=eE at *
    generalize (egK m used i).2=eG at *
    conv=>whnf
    intro b7
    repeat (first | refine LoadD.own 0 rfl _ rfl rfl ?_ | refine LoadD.own 4 rfl _ rfl rfl ?_ | refine StoreD.st 4 rfl rfl rfl ?_)
    refine CmpD.split (fun c1=>?_) (fun c1=>?_)
    · repeat (first | refine LoadD.own 2 rfl _ rfl rfl ?_)
      refine CmpD.split (fun c2=>?_) (fun c2=>?_)
      · repeat (first | refine LoadD.own 3 rfl _ rfl rfl ?_ | refine LoadD.own 4 rfl _ rfl rfl ?_ | refine StoreD.st 2 rfl rfl rfl ?_)
        refine CmpD.split (fun c3=>?_) (fun c3=>?_)
        · repeat (first | refine LoadD.own 4 rfl _ rfl rfl ?_ | refine StoreD.st 3 rfl rfl rfl ?_)
          exact ⟨_,Drop.pick [0,1,2,3] _ rfl,hil,rfl,fin h h (by rw [he,if_pos (by omega)]) (by rw [hg,if_pos (by omega)])⟩
        · skip
          exact ⟨_,Drop.pick [0,1,2,3] _ rfl,hil,rfl,fin h eG (by rw [he,if_pos (by omega)]) (by rw [hg,if_neg (by omega)])⟩
      · repeat (first | refine LoadD.own 2 rfl _ rfl rfl ?_ | refine LoadD.own 4 rfl _ rfl rfl ?_)
        refine CmpD.split (fun c4=>?_) (fun c4=>?_)
        · repeat (first | refine LoadD.own 3 rfl _ rfl rfl ?_ | refine LoadD.own 4 rfl _ rfl rfl ?_ | refine StoreD.st 2 rfl rfl rfl ?_)
          refine CmpD.split (fun c3=>?_) (fun c3=>?_)
          · repeat (first | refine LoadD.own 4 rfl _ rfl rfl ?_ | refine StoreD.st 3 rfl rfl rfl ?_)
            exact ⟨_,Drop.pick [0,1,2,3] _ rfl,hil,rfl,fin h h (by rw [he,if_pos (by omega)]) (by rw [hg,if_pos (by omega)])⟩
          · skip
            exact ⟨_,Drop.pick [0,1,2,3] _ rfl,hil,rfl,fin h eG (by rw [he,if_pos (by omega)]) (by rw [hg,if_neg (by omega)])⟩
        · repeat (first | refine LoadD.own 3 rfl _ rfl rfl ?_ | refine LoadD.own 4 rfl _ rfl rfl ?_)
          refine CmpD.split (fun c3=>?_) (fun c3=>?_)
          · repeat (first | refine LoadD.own 4 rfl _ rfl rfl ?_ | refine StoreD.st 3 rfl rfl rfl ?_)
            exact ⟨_,Drop.pick [0,1,2,3] _ rfl,hil,rfl,fin eE h (by rw [he,if_neg (by omega)]) (by rw [hg,if_pos (by omega)])⟩
          · skip
            exact ⟨_,Drop.pick [0,1,2,3] _ rfl,hil,rfl,fin eE eG (by rw [he,if_neg (by omega)]) (by rw [hg,if_neg (by omega)])⟩
    · repeat (first | refine LoadD.own 3 rfl _ rfl rfl ?_ | refine LoadD.own 4 rfl _ rfl rfl ?_)
      refine CmpD.split (fun c3=>?_) (fun c3=>?_)
      · repeat (first | refine LoadD.own 4 rfl _ rfl rfl ?_ | refine StoreD.st 3 rfl rfl rfl ?_)
        exact ⟨_,Drop.pick [0,1,2,3] _ rfl,hil,rfl,fin eE h (by rw [he,if_neg (by omega)]) (by rw [hg,if_pos (by omega)])⟩
      · skip
        exact ⟨_,Drop.pick [0,1,2,3] _ rfl,hil,rfl,fin eE eG (by rw [he,if_neg (by omega)]) (by rw [hg,if_neg (by omega)])⟩
  case stop =>
    intro e J' S' hJ' h
    exact h.elim
  case done =>
    rintro i J' S' hJ' hi ⟨hi2,rfl,rfl⟩
    have ee:egK m used i=(hol 0 none used).foldl (bestS m) ((0,0),(0,0)):=by unfold egK; rw [List.take_of_length_le hi]
    have hb:bestP used m=bif Nat.blt 0 (egK m used i).1.2 then ((egK m used i).1.1,m) else (egK m used i).2:=by rw [ee]; rfl
    generalize bestP used m=r at *
    generalize (egK m used i).1=eE at *
    generalize (egK m used i).2=eG at *
    repeat (first | refine LoadD.own 2 rfl _ rfl rfl ?_)
    refine CmpD.split (fun c1=>?_) (fun c1=>?_)
    · have:Nat.blt 0 eE.2=true:=nblt.2 (by omega)
      rw [this] at hb
      subst hb
      repeat (first | refine LoadD.own 0 rfl _ rfl rfl ?_ | refine LoadD.own 1 rfl _ rfl rfl ?_ | refine LoadD.own 2 rfl _ rfl rfl ?_ | refine StoreD.st 1 rfl rfl rfl ?_ | refine StoreD.st 2 rfl rfl rfl ?_)
      exact Done.mk ⟨rfl,rfl⟩
    · have:Nat.blt 0 eE.2=false:=by rw [Bool.eq_false_iff]; intro h2; have:=nblt.1 h2; omega
      rw [this] at hb
      subst hb
      repeat (first | refine LoadD.own 1 rfl _ rfl rfl ?_ | refine LoadD.own 3 rfl _ rfl rfl ?_ | refine StoreD.st 1 rfl rfl rfl ?_)
      exact Done.mk ⟨rfl,rfl⟩
end Go.Proofs.YtklbcpofihgmlaaGreat
namespace Go.Proofs.YtklbcpofihgmlaaGreat
open Go.RowKit Go.Sl
set_option maxRecDepth 20000
def prefixA (r:Option (List Bool × List (Nat × Nat))) (done:List (Nat × Nat)):Option (List Bool × List (Nat × Nat)):=match r with
  | none=>none
  | some (u,xs)=>some (u,done++xs)
theorem prefixA_nil (r:Option (List Bool × List (Nat × Nat))):prefixA r []=r:=by
  cases r with
  | none=>rfl
  | some r=>rfl
theorem allocP_stop {f r:Nat} {u:List Bool} (h:(bestP u (r+1)).2=0):allocP (f+1) u (r+1)=none:=by
  rw [allocP]; simp only [h]
theorem allocP_step {f r:Nat} {u:List Bool} {done:List (Nat × Nat)} (h:0 < (bestP u (r+1)).2) :
    prefixA (allocP (f+1) u (r+1)) done=prefixA (allocP f (markP (bestP u (r+1)).1 (bestP u (r+1)).2 u) (r+1 - (bestP u (r+1)).2)) (done++[bestP u (r+1)]):=by
  rw [allocP]
  cases hc:(bestP u (r+1)).2 with
  | zero=>omega
  | succ c =>
    simp only []
    cases allocP f (markP (bestP u (r+1)).1 (c+1) u) (r+1 - (c+1)) with
    | none=>rfl
    | some v=>obtain ⟨v,ys⟩:=v; simp [prefixA]
theorem allocP_end (f:Nat) (u:List Bool):allocP f u 0=some (u,[]):=by cases f <;> rfl
theorem markP_zero:∀ (s:Nat) (l:List Bool),markP s 0 l=l
  | 0,l=>by cases l <;> rfl
  | s+1,[]=>rfl
  | s+1,b :: l=>by rw [show markP (s+1) 0 (b :: l)=b :: markP s 0 l from rfl,markP_zero s l]
theorem markP_snoc (s c:Nat) (l:List Bool) (h:s+c < l.length):(markP s c l).set (s+c) true=markP s (c+1) l:=by
  apply List.ext_getElem?
  intro i
  rcases Nat.lt_or_ge i l.length with g | g
  · rw [List.getElem?_set,markP_get _ _ _ _ g,markP_get _ _ _ _ g,markP_length]
    by_cases e:s+c=i
    · rw [if_pos e,if_pos h]
      rw [decide_eq_true (show s≤i∧i < s+(c+1) by omega)]; rfl
    · rw [if_neg e]
      congr 2
      simp only [decide_eq_decide]; omega
  · rw [List.getElem?_eq_none (by rw [List.length_set,markP_length]; exact g),List.getElem?_eq_none (by rw [markP_length]; exact g)]
theorem bls_set (l:List Bool) (i:Nat) (b:Bool) (h:i < l.length) (pre post:List Value):splice (pre++bls l++post) (pre.length+i) [.bool b]=pre++bls (l.set i b)++post:=by
  rw [splice_mid pre (bls l) post [.bool b] i (by rw [bls_length]; exact h)]
  congr 2
  unfold bls
  rw [List.map_set,List.set_eq_take_append_cons_drop,if_pos (by rw [List.length_map]; exact h)]
  simp
def holX (x:Nat × Nat):Xt:=⟨0,x.1,x.2⟩
variable {σ:Type} (sp:SpC Tryz.prog σ)
set_option maxHeartbeats 1000000 in
theorem bits_Alloc (hn:64≤sp.n∧sp.n≤512) {I:Imm} {c:List Blk} {s:σ} (hR:sp.R s I c) {used:List Bool} (hb:BtOk sp.n (sp.blk s) used) (m:Nat) (hm:1≤m∧m≤sp.n) (hroom:0 < sp.room s) :
    Tri Tryz.prog 89 #[sp.v,layVn sp.n,.int .i64 (m:Nat)] I [c] fun v J S'=>∃ c' s',sp.R s' J c'∧S'=[c'] ∧
      ((∃ e,e≠0∧sp.rd s s'∧(sp.can e∨sp.canW e∨e=230∧allocP m used m=none)∧v=.tuple #[.slice none 0 0,.int .i64 e]) ∨
       (∃ a cap u xs s1,allocP m used m=some (u,xs)∧sp.rd s s1∧sp.wr s1 (bitsB sp.n) (bitsL u) s'∧v=.tuple #[.slice a xs.length cap,.int .i64 0]∧Rds J a (xs.length * 3) (xtsV (xs.map holX)))):=by
  have hL:=layN_range hn
  refine Tri.drop ?_ (fun _ _ _ _ h=>h)
  refine Tri.of (args:=[sp.v,layVn sp.n,.int .i64 (m:Nat)]) tabOk Tryz.func89 rfl (by kernel_rfl) (by kernel_rfl) ?_
  conv=>whnf
  intro b
  repeat (first | refine LoadD.own 1 rfl _ rfl rfl ?_)
  refine Tri.free (bits_wrong sp hn I) ?_
  rintro v J _ hJ ⟨rfl,rfl⟩
  repeat (first | refine CmpD.yes rfl ?_)
  refine CmpD.no (by omega) ?_
  repeat (first | refine LoadD.own 1 rfl _ rfl rfl ?_)
  refine CmpD.no (by omega) ?_
  repeat (first | refine LoadD.own 1 rfl _ rfl rfl ?_)
  refine Tri.frame (bits_Used sp hn hR hb) [0] rfl rfl ?_
  rintro v J A' hJ ⟨c',s',hR',hrd,⟨e,he,hcan,rfl,rfl⟩ | ⟨a,cap,ch,rfl,hch,rfl⟩⟩
  · refine ⟨by simp,?_⟩
    refine CmpD.no he ?_
    refine Done.mk ⟨_,Drop.pick [0] _ rfl,c',s',hR',rfl,.inl ⟨e,he,hrd,.inl hcan,rfl⟩⟩
  refine ⟨by simp,?_⟩
  have hcap:=hch.le
  rcases hch.at' with h0 | ⟨bU,pre,post,T,rfl,rfl,hp⟩
  · omega
  repeat (first | refine CmpD.yes rfl ?_)
  refine CodeF.loopD [0,2,4,9,11] (fun vs J' S'=>∃ (f rem:Nat) (u:List Bool) (done:List (Nat × Nat)) (ao:Option Addr) (co:Nat) (cho:List Blk),J.le J'∧rem≤f∧rem≤m∧u.length=sp.n∧done.length+rem≤m∧allocP m used m=prefixA (allocP f u rem) done ∧
      OwnC cho 3 ao done.length co (xtsV (done.map holX))∧vs=[sp.v,.int .i64 (rem:Nat),.pointer (some ⟨b,0,none⟩),.slice (some ⟨bU,pre.length,none⟩) sp.n cap,.slice ao done.length co] ∧
      S'=[c',[(b,row (layVn sp.n).cells.toList 24)],[(bU,row (pre++bls u++post) T)],cho])
    (fun vs _ _=>match vs with | [_,.int _ k,_,_,_]=>k.toNat | _=>0) ?_ ?_
  · exact ⟨_,Drop.and (Drop.refl _),m,m,used,[],none,0,[],J.le_refl,by omega,by omega,hb.len,by simp,(prefixA_nil _).symm,OwnC.nil _ _,rfl,rfl⟩
  rintro vs gE J' S' hJ' ⟨f,rem,u,done,ao,co,cho,hJJ,hf,hrm,hu,hdl,hall,hcho,rfl,rfl⟩
  have hown:OwnC [(bU,row (pre++bls u++post) T)] 1 (some ⟨bU,pre.length,none⟩) sp.n cap (bls u):=⟨by rw [bls_length,hu,Nat.mul_one],hcap,.inr ⟨bU,pre,post,T,rfl,rfl,hp⟩⟩
  refine CmpD.split (fun (c1:(rem:Int) > 0)=>?_) (fun (c1:¬ (rem:Int) > 0)=>?_)
  · obtain ⟨r,rfl⟩:∃ r,rem=r+1:=⟨rem - 1,by omega⟩
    obtain ⟨f,rfl⟩:∃ f',f=f'+1:=⟨f - 1,by omega⟩
    have hbp:=bestP_ok u (r+1) (by omega)
    have hble:=bestP_le u (r+1)
    have hstop:=allocP_stop (f:=f) (r:=r) (u:=u)
    have hstep:=allocP_step (f:=f) (r:=r) (u:=u) (done:=done)
    refine Tri.lend 2 rfl fun I' hI' hfx hno=>?_
    refine Tri.free (bits_best u sp.n (r+1) hu (by omega) _ cap (Rds.of_own hown hfx)) ?_
    rintro v J2 _ hJ2 ⟨rfl,rfl⟩
    refine ⟨rfl,fun _=>?_⟩
    have hJ3:J.le (I'.less [(bU,row (pre++bls u++post) T)]):=Imm.le_trans hJJ (Imm.le_less hI' hno)
    generalize I'.less [(bU,row (pre++bls u++post) T)]=J3 at hJ3
    generalize bestP u (r+1)=x at *
    conv=>whnf
    intro b12
    repeat (first | refine LoadD.own 4 rfl _ rfl rfl ?_ | refine StoreD.st 4 rfl rfl rfl ?_)
    refine CmpD.split (fun c2=>?_) (fun c2=>?_)
    · refine Done.mk ⟨_,Drop.pick [0] _ rfl,c',s',sp.up hR' hJ3,rfl,.inl ⟨230,by decide,hrd,.inr (.inr ⟨rfl,?_⟩),rfl⟩⟩
      rw [hall,hstop (by omega)]; rfl
    · have hh:=hbp.1 (by omega)
      have hle:=hh.le
      repeat (first | refine LoadD.own 4 rfl _ rfl rfl ?_)
      refine CodeF.loopD [0,2,4,9,11,12,47,48] (fun vs J' S'=>∃ k:Nat,k≤x.2∧J3=J'∧vs=[sp.v,.int .i64 (r+1:Nat),.pointer (some ⟨b,0,none⟩),.slice (some ⟨bU,pre.length,none⟩) sp.n cap,.slice ao done.length co,.pointer (some ⟨b12,0,none⟩),.int .i64 (x.2:Nat),.int .i64 (k:Nat)] ∧
          S'=[c',[(b,row (layVn sp.n).cells.toList 24)],[(bU,row (pre++bls (markP x.1 k u)++post) T)],cho,[(b12,row (pc x) 112)]])
        (fun vs _ _=>match vs with | [_,_,_,_,_,_,_,.int _ k]=>((x.2:Int) - k).toNat | _=>0) ?_ ?_
      · exact ⟨_,Drop.refl _,0,by omega,rfl,rfl,by rw [markP_zero]; rfl⟩
      rintro vs g2 J4 S' hJ4 ⟨k,hk,rfl,rfl,rfl⟩
      refine CmpD.split (fun c3=>?_) (fun c3=>?_)
      · repeat (first | refine LoadD.own 4 rfl _ rfl rfl ?_)
        refine ToD.to ((x.1+k:Nat):Int) (by rw [wrap_i64 (by omega) (by omega)]; omega) ?_
        refine Chk.mk (by omega) ?_
        refine StoreD.to 2 rfl (pre++bls (markP x.1 (k+1) u)++post) ?_ ?_ (.inr (.inr (Nat.le_refl _))) _ rfl ?_
        · rw [Int.toNat_natCast]
          show splice _ (addOff pre.length (x.1+k) 1) _=_
          rw [addOff_eq,Nat.mul_one,bls_set _ _ _ (by rw [markP_length]; omega),markP_snoc _ _ _ (by omega)]
        · rw [Int.toNat_natCast,List.length_append,List.length_append,bls_length,markP_length]
          show addOff pre.length (x.1+k) 1+1≤_
          rw [addOff_eq]; omega
        refine ToD.i64 (by omega) (by omega) ?_
        refine ⟨_,Drop.refl _,⟨k+1,by omega,rfl,rfl,rfl⟩,?_⟩
        show ((x.2:Int) - ((k:Int)+1)).toNat < ((x.2:Int) - (k:Int)).toNat; omega
      · obtain rfl:k=x.2:=by omega
        repeat (first | refine LoadD.own 4 rfl _ rfl rfl ?_)
        conv=>whnf
        intro b60
        have e3:xtsV ((done++[x]).map holX)=xtsV (done.map holX)++xtV (holX x):=by rw [List.map_append,xtsV_append]; simp [xtsV]
        refine appendD tabOk rfl rfl rfl rfl rfl rfl rfl 3 rfl hcho (SrcOk.slice (n:=1) (news:=xtV (holX x)) tabOk rfl ((OwnC.whole (len:=1) (size:=3) rfl).slC 5 rfl) (by intro v hv; simp [xtV] at hv; rcases hv with rfl | rfl | rfl <;> rfl)) rfl (by show (done.length+1) * 24≤_; omega) (by omega) ?_
        intro a2 cap2 ch2 hch2
        repeat (first | refine LoadD.own 4 rfl _ rfl rfl ?_)
        refine ToD.to ((r+1 - x.2:Nat):Int) (by rw [wrap_i64 (by omega) (by omega)]; omega) ?_
        have hdl2:(done++[x]).length=done.length+1:=by simp
        refine ⟨_,Drop.pick [0,1,2,3] _ rfl,⟨f,r+1 - x.2,markP x.1 x.2 u,done++[x],a2,cap2,ch2,hJ3,by omega,by omega,by rw [markP_length]; exact hu,by rw [hdl2]; omega,by rw [hall]; exact hstep (by omega),by rw [hdl2,e3]; exact hch2,by rw [hdl2]; rfl,rfl⟩,?_⟩
        show ((r+1 - x.2:Nat):Int).toNat < ((r+1:Nat):Int).toNat; omega
  · obtain rfl:rem=0:=by omega
    rw [allocP_end] at hall
    have hall:allocP m used m=some (u,done):=by rw [hall]; simp [prefixA]
    refine CodeF.sched [[],[],[1],[],[],[3,4],[0],[0,6],[0,6,7],[0,1,2,3,4,5,6,7,8],[0,1,2,3,4,5,6,7,8,9]] [0,1,2,3,4,6,7,8,5,9,10] (by kernel_rfl) ?_
    repeat (first | refine LoadP.at 1 rfl _ rfl rfl ?_)
    refine nilMethD rfl rfl sp.lwr ?_
    skip
    refine Tri.nf (bits_written sp.n hn u hu _ cap (by exact hown.slC1 2 rfl)) ?_
    rintro v J2 S' hJ2 ⟨bw,rfl,rfl,rfl⟩
    repeat (first | refine Chk.mk ⟨rfl,trivial⟩ ?_)
    refine invokeD rfl rfl rfl sp.lwr rfl ?_
    refine Tri.fix 4 rfl fun I1 hI1 hfx1=>?_
    refine Tri.fix 3 rfl fun I2 hI2 hfx2=>?_
    have hJI:=Imm.le_trans hJJ (Imm.le_trans hI1 hI2)
    refine Tri.frame (sp.write (bitsB sp.n) (cap:=4096) (sp.up hR' hJI) (by omega) (by rw [sp.rd_room hrd]; exact hroom) (bitsL_length u) (Rds.of_own (OwnC.whole (size:=1) (by rw [bts_length,bitsL_length])) (fun x hx=>hI2 _ _ (hfx1 x hx)))) [0] rfl rfl ?_
    rintro v J3 A' hJ3 ⟨c2,s2,rfl,hR2,⟨e,he,hcan,hrd2,rfl⟩ | ⟨rfl,hwr⟩⟩
    · refine ⟨by simp,?_⟩
      refine CmpD.no he ?_
      refine Done.mk ⟨_,Drop.pick [0] _ rfl,c2,s2,hR2,rfl,.inl ⟨e,he,sp.rd_trans hrd hrd2,.inr (.inl hcan),rfl⟩⟩
    · refine ⟨by simp,?_⟩
      repeat (first | refine CmpD.yes rfl ?_)
      refine Done.mk ⟨_,Drop.pick [0] _ rfl,c2,s2,hR2,rfl,.inr ⟨ao,co,u,done,s',hall,hrd,hwr,rfl,?_⟩⟩
      have:=Rds.of_ownS hcho hfx2
      exact this.mono hJ3
end Go.Proofs.YtklbcpofihgmlaaGreat
namespace Go.Proofs.YtklbcpofihgmlaaGreat
open Go.RowKit Go.Sl
set_option maxRecDepth 20000
theorem clearP_eq (l:List Bool):∀ (s c:Nat),s+c≤l.length→clearP s c l=l.take s++List.replicate c false++l.drop (s+c):=by
  intro s c h
  apply List.ext_getElem?
  intro i
  rcases Nat.lt_or_ge i l.length with g | g
  · rw [clearP_get _ _ _ _ g]
    rcases Nat.lt_or_ge i s with h1 | h1
    · rw [List.append_assoc,List.getElem?_append_left (by rw [List.length_take]; omega),List.getElem?_take_of_lt h1,decide_eq_false (by omega),List.getD_eq_getElem?_getD,List.getElem?_eq_getElem g]; simp
    · rcases Nat.lt_or_ge i (s+c) with h2 | h2
      · rw [List.getElem?_append_left (by rw [List.length_append,List.length_take,List.length_replicate]; omega),List.getElem?_append_right (by rw [List.length_take]; omega),List.getElem?_replicate,if_pos (by rw [List.length_take]; omega),decide_eq_true ⟨h1,h2⟩]; rfl
      · rw [List.getElem?_append_right (by rw [List.length_append,List.length_take,List.length_replicate]; omega),List.getElem?_drop,decide_eq_false (by omega),List.getD_eq_getElem?_getD]
        have:s+c+(i - (List.take s l++List.replicate c false).length)=i:=by rw [List.length_append,List.length_take,List.length_replicate]; omega
        rw [this,List.getElem?_eq_getElem g]; simp
  · rw [List.getElem?_eq_none (by rw [clearP_length]; exact g),List.getElem?_eq_none (by simp only [List.length_append,List.length_take,List.length_replicate,List.length_drop]; omega)]
theorem bls_append (l m:List Bool):bls (l++m)=bls l++bls m:=by simp [bls]
theorem bls_rep (c:Nat):rows c [Value.bool false]=bls (List.replicate c false):=by simp [rows,bls]
variable {σ:Type} (sp:SpC Tryz.prog σ)
set_option maxHeartbeats 1000000 in
theorem bits_Free (hn:64≤sp.n∧sp.n≤512) {I:Imm} {c:List Blk} {s:σ} (hR:sp.R s I c) {used:List Bool} (hb:BtOk sp.n (sp.blk s) used) (st ct:Nat) (h1:datB sp.n≤st) (h2:1≤ct) (h3:st+ct≤sp.n) (h4:∀ i,st≤i→i < st+ct→used[i]?=some true) (hroom:0 < sp.room s) :
    Tri Tryz.prog 100 #[sp.v,layVn sp.n,.int .i64 (st:Nat),.int .i64 (ct:Nat)] I [c] fun v J S'=>∃ c' s',sp.R s' J c'∧S'=[c'] ∧
      ((∃ e,e≠0∧sp.rd s s'∧(sp.can e∨sp.canW e)∧v=.int .i64 e)∨(∃ s1,sp.rd s s1∧sp.wr s1 (bitsB sp.n) (bitsL (clearP st ct used)) s'∧v=.int .i64 0)):=by
  have hL:=layN_range hn
  have hul:=hb.len
  refine Tri.drop ?_ (fun _ _ _ _ h=>h)
  refine Tri.of (args:=[sp.v,layVn sp.n,.int .i64 (st:Nat),.int .i64 (ct:Nat)]) tabOk Tryz.func100 rfl (by kernel_rfl) (by kernel_rfl) ?_
  conv=>whnf
  intro b
  repeat (first | refine LoadD.own 1 rfl _ rfl rfl ?_)
  refine Tri.free (bits_wrong sp hn I) ?_
  rintro v J _ hJ ⟨rfl,rfl⟩
  repeat (first | refine LoadD.own 1 rfl _ rfl rfl ?_ | refine CmpD.yes rfl ?_)
  refine CmpD.no (by omega) ?_
  repeat (first | refine LoadD.own 1 rfl _ rfl rfl ?_)
  refine CmpD.no (by omega) ?_
  skip
  refine CmpD.no (by omega) ?_
  repeat (first | refine LoadD.own 1 rfl _ rfl rfl ?_)
  refine ToD.i64 (by omega) (by omega) ?_
  refine CmpD.no (by omega) ?_
  repeat (first | refine LoadD.own 1 rfl _ rfl rfl ?_)
  refine Tri.frame (bits_Used sp hn hR hb) [0] rfl rfl ?_
  rintro v J A' hJ ⟨c',s',hR',hrd,⟨e,he,hcan,rfl,rfl⟩ | ⟨a,cap,ch,rfl,hch,rfl⟩⟩
  · refine ⟨by simp,?_⟩
    refine CmpD.no he ?_
    refine Done.mk ⟨_,Drop.pick [0] _ rfl,c',s',hR',rfl,.inl ⟨e,he,hrd,.inl hcan,rfl⟩⟩
  refine ⟨by simp,?_⟩
  have hcap:=hch.le
  rcases hch.at' with h0 | ⟨bU,pre,post,T,rfl,rfl,hp⟩
  · omega
  repeat (first | refine CmpD.yes rfl ?_)
  refine ToD.to ((st+ct:Nat):Int) (by rw [wrap_i64 (by omega) (by omega)]; omega) ?_
  refine sliceD tabOk rfl rfl rfl rfl st (st+ct) cap ⟨_,rfl⟩ ⟨_,rfl⟩ rfl (.inl rfl) (by omega) ?_
  have hsa:slAddr (some ⟨bU,pre.length,none⟩) st cap 1=some ⟨bU,pre.length+st * 1,none⟩:=by
    unfold slAddr; rw [if_neg (by omega)]; simp [Addr.add] <;> omega
  have hpart:=SlC.partG (I:=J) (S:=[c',[(b,row (layVn sp.n).cells.toList 24)],[(bU,row (pre++bls used++post) T)]]) (size:=1) (hch.slC 2 rfl) st (st+ct) cap (by omega) (by omega) (by omega)
  have e1:((bls used).drop (st * 1)).take ((st+ct - st) * 1)=bls ((used.drop st).take ct):=by simp [bls,List.map_drop,List.map_take]
  rw [e1,hsa,Nat.mul_one,Nat.add_sub_cancel_left] at hpart
  have hsa':slAddr (some ⟨bU,pre.length,none⟩) st cap Tryz.t4.size=some ⟨bU,pre.length+st,none⟩:=by
    have:=hsa; rwa [Nat.mul_one] at this
  rw [hsa',Nat.add_sub_cancel_left]
  refine Tri.nf (contains_false ((used.drop st).take ct) _ ct _ (by rw [List.length_take,List.length_drop]; omega) (by omega) (by rw [Nat.mul_one] at hpart; exact hpart)) ?_
  rintro v J' S' hJ' ⟨rfl,rfl,rfl⟩
  rw [decide_eq_false (by
    intro hm
    obtain ⟨k,hk,hk2⟩:=List.mem_iff_getElem.1 hm
    rw [List.length_take,List.length_drop] at hk
    have:=h4 (st+k) (by omega) (by omega)
    rw [List.getElem_take,List.getElem_drop,← Option.some_inj,← List.getElem?_eq_getElem,this] at hk2
    cases hk2)]
  skip
  refine clearSlD tabOk rfl rfl rfl rfl rfl rfl rfl 2 rfl rfl (by decide) (by decide) (by simp only [List.length_append,bls_length]; show pre.length+st+ct * 1≤_; omega) (Nat.le_refl _) ?_
  have hcl:splice (pre++bls used++post) (pre.length+st) (rows ct [Value.bool false])=pre++bls (clearP st ct used)++post:=by
    rw [bls_rep,splice_mid _ _ _ _ _ (by rw [bls_length,bls_length,List.length_replicate]; omega),clearP_eq _ _ _ (by omega),bls_append,bls_append,bls_length,List.length_replicate]
    simp only [bls,List.map_take,List.map_drop]
  have hcu:(clearP st ct used).length=sp.n:=by rw [clearP_length]; exact hul
  have hown:OwnC [(bU,row (pre++bls (clearP st ct used)++post) T)] 1 (some ⟨bU,pre.length,none⟩) sp.n cap (bls (clearP st ct used)):=⟨by rw [bls_length,hcu,Nat.mul_one],hcap,.inr ⟨bU,pre,post,T,rfl,rfl,hp⟩⟩
  refine CodeF.dropD (S0:=[c',[(b,row (layVn sp.n).cells.toList 24)],[(bU,row (pre++bls (clearP st ct used)++post) T)]]) (Drop.flat (by rw [← hcl]; rfl)) ?_
  refine CodeF.sched [[],[],[1],[],[],[3,4],[0],[0,6],[0,6,7],[0,1,2,3,4,5,6,7,8],[0,1,2,3,4,5,6,7,8,9]] [0,1,2,3,4,6,7,8,5,9,10] (by kernel_rfl) ?_
  repeat (first | refine LoadP.at 1 rfl _ rfl rfl ?_)
  refine nilMethD rfl rfl sp.lwr ?_
  skip
  refine Tri.nf (bits_written sp.n hn _ hcu _ cap (by exact hown.slC1 2 rfl)) ?_
  rintro v J2 S' hJ2 ⟨bw,rfl,rfl,rfl⟩
  repeat (first | refine Chk.mk ⟨rfl,trivial⟩ ?_)
  refine invokeD rfl rfl rfl sp.lwr rfl ?_
  refine Tri.fix 3 rfl fun I1 hI1 hfx1=>?_
  refine Tri.frame (sp.write (bitsB sp.n) (cap:=4096) (sp.up hR' hI1) (by omega) (by rw [sp.rd_room hrd]; exact hroom) (bitsL_length _) (Rds.of_own (OwnC.whole (size:=1) (by rw [bts_length,bitsL_length])) hfx1)) [0] rfl rfl ?_
  rintro v J3 A' hJ3 ⟨c2,s2,rfl,hR2,⟨e,he,hcan,hrd2,rfl⟩ | ⟨rfl,hwr⟩⟩
  · refine ⟨by simp,?_⟩
    refine Done.mk ⟨_,Drop.pick [0] _ rfl,c2,s2,hR2,rfl,.inl ⟨e,he,sp.rd_trans hrd hrd2,.inr hcan,rfl⟩⟩
  · refine ⟨by simp,?_⟩
    refine Done.mk ⟨_,Drop.pick [0] _ rfl,c2,s2,hR2,rfl,.inr ⟨s',hrd,hwr,rfl⟩⟩
end Go.Proofs.YtklbcpofihgmlaaGreat
namespace Go.Proofs.YtklbcpofihgmlaaGreat
open Go.RowKit Go.Sl
set_option maxRecDepth 20000
theorem flat_split (F:Nat→List UInt8) (hF:∀ i,(F i).length=64) {n j:Nat} (h:j < n):∃ A B,A.length=64 * j∧∀ G:Nat→List UInt8,(∀ i,i≠j→G i=F i)→(List.range n).flatMap G=A++G j++B:=by
  refine ⟨(List.range j).flatMap F,((List.range (n - j - 1)).map (j+1+·)).flatMap F,?_,?_⟩
  · have:∀ (l:List Nat),(l.flatMap F).length=64 * l.length:=by
      intro l
      induction l with
      | nil=>rfl
      | cons a l ih=>rw [List.flatMap_cons,List.length_append,ih,hF,List.length_cons]; omega
    rw [this,List.length_range]
  · intro G hG
    have e:List.range n=List.range j++[j]++(List.range (n - j - 1)).map (j+1+·):=by
      have h1:n=(j+1)+(n - j - 1):=by omega
      have h2:=List.range_add (n:=j+1) (m:=n - j - 1)
      rw [← h1,List.range_succ] at h2
      exact h2
    rw [e,List.flatMap_append,List.flatMap_append]
    have e1:(List.range j).flatMap G=(List.range j).flatMap F:=by
      apply congrArg List.flatten
      apply List.map_congr_left
      intro i hi
      rw [List.mem_range] at hi
      exact hG i (by omega)
    have e2:((List.range (n - j - 1)).map (j+1+·)).flatMap G=((List.range (n - j - 1)).map (j+1+·)).flatMap F:=by
      apply congrArg List.flatten
      apply List.map_congr_left
      intro i hi
      obtain ⟨x,_,rfl⟩:=List.mem_map.1 hi
      exact hG _ (by omega)
    rw [e1,e2]; simp
theorem ino_split (fi:Nat→Fi) (k:Nat) {j:Nat} (hj:j < 64):∃ A B,A.length=64 * j∧B.length=4032 - 64 * j∧inoBlk fi k=A++inoL (fi (64 * k+j+1))++B∧∀ f,inoBlk (updF fi (64 * k+j+1) f) k=A++inoL f++B:=by
  obtain ⟨A,B,hA,hG⟩:=flat_split (fun j=>inoL (fi (64 * k+j+1))) (fun i=>inoL_length _) hj
  have h1:=hG _ (fun _ _=>rfl)
  refine ⟨A,B,hA,?_,h1,fun f=>?_⟩
  · have:=inoBlk_length fi k
    unfold inoBlk at this
    rw [h1] at this
    simp only [List.length_append,inoL_length,hA] at this
    omega
  · have:=hG (fun j'=>inoL (updF fi (64 * k+j+1) f (64 * k+j'+1))) (fun i hi=>by rw [updF_other _ _ (by omega)])
    rw [updF_same] at this
    exact this
structure InOk (n:Nat) (V:Bs) (fi:Nat→Fi):Prop where
  inos:∀ k,k < n / 16→V (inoB n+k)=inoBlk fi k
  ok:∀ i,IOk (fi i)
theorem FsOk.ino {n:Nat} {s:Fs} (h:FsOk n s):InOk n s.V s.fi:=⟨h.inos,fun i=>(h.fi i).iok h.n64.2⟩
theorem copyT {P:Program} {T:Tab} {o:Oper} {ρ:Env} {I:Imm} {S:St} {K:Value→Imm→St→Prop} (hT:TabOk P T) {c:Call} {s x:Operand} {t tx e:TypeId} {s1 b1 size bytes:Nat} {z1 z:Value} {d:TypeDesc} (ho:o.op=.call c) (hc:c.callee=.builtin .copy) (hargs:c.args=#[s,x]) (hts:c.argTypes=#[t,tx])
    (ht:T.get t=some ⟨.slice e,s1,z1,b1⟩) (he:T.get e=some ⟨d,size,z,bytes⟩) {b off len cap:Nat} (hs:ρ.ev s=.slice (some ⟨b,off,none⟩) len cap) (k:Nat) {cs:List Value} {Ty:TypeId} {fr:Nat × Nat} (hk:S[k]?=some [(b,row cs Ty fr)])
    {n:Nat} {news:List Value} (hsrc:SrcOk P I S size tx (ρ.ev x) n news) (hn:n≤len) (hl:off+n * size≤cs.length) (hf:fr.2≤fr.1) (c':List Value) (hc':splice cs off news=c') (S':St) (hS:S.set k [(b,row c' Ty fr)]=S')
    (h:K (.int .i64 n) I S'):AnyD P o ρ I S K:=by
  subst hc'; subst hS; exact copyD hT ho hc hargs hts ht he hs k hk hsrc hn hl hf h
variable {σ:Type} (sp:SpC Tryz.prog σ)
theorem bits_inodes {I:Imm} {c:List Blk} {s:σ} (hR:sp.R s I c) (k:Nat) (hk:k < sp.n) :
    Tri Tryz.prog 61 #[sp.v,.int .i64 (k:Nat)] I [c] fun v J S'=>∃ c' s',sp.R s' J c'∧sp.rd s s' ∧
      ((∃ e,e≠0∧sp.can e∧v=.tuple #[.slice none 0 0,.int .i64 e]∧S'=[c',[]])∨(∃ a cap ch,v=.tuple #[.slice a 4096 cap,.int .i64 0]∧OwnB ch a 4096 cap (sp.blk s k)∧S'=[c',ch])):=by
  refine Tri.of (args:=[sp.v,.int .i64 (k:Nat)]) tabOk Tryz.func61 rfl (by kernel_rfl) (by kernel_rfl) ?_
  refine invokeD rfl rfl rfl sp.lrd rfl ?_
  refine Tri.frame (sp.read k hR hk) [0] rfl rfl ?_
  rintro v J A' hJ ⟨c',s',hR',hrd,⟨e,he,hcan,rfl,rfl⟩ | ⟨a,cap,ch,rfl,hch,rfl⟩⟩
  · refine ⟨by simp,?_⟩
    refine CmpD.no he ?_
    exact Done.mk ⟨c',s',hR',hrd,.inl ⟨e,he,hcan,rfl,rfl⟩⟩
  · refine ⟨by simp,?_⟩
    repeat (first | refine CmpD.yes rfl ?_)
    exact Done.mk ⟨c',s',hR',hrd,.inr ⟨a,cap,ch,rfl,hch,rfl⟩⟩
theorem bits_where (hn:64≤sp.n∧sp.n≤512) {I:Imm} {c:List Blk} {s:σ} (hR:sp.R s I c) (i:Nat) (hi:1≤i∧i≤64 * (sp.n / 16)) :
    Tri Tryz.prog 77 #[sp.v,layVn sp.n,.int .i64 (i:Nat)] I [c] fun v J S'=>∃ c' s',sp.R s' J c'∧sp.rd s s' ∧
      ((∃ e,e≠0∧sp.can e∧v=.tuple #[.int .i64 (inoB sp.n+(i - 1) / 64:Nat),.int .i64 ((i - 1) % 64 * 64:Nat),.slice none 0 0,.int .i64 e]∧S'=[c',[]]) ∨
       (∃ a cap ch,v=.tuple #[.int .i64 (inoB sp.n+(i - 1) / 64:Nat),.int .i64 ((i - 1) % 64 * 64:Nat),.slice a 4096 cap,.int .i64 0]∧OwnB ch a 4096 cap (sp.blk s (inoB sp.n+(i - 1) / 64))∧S'=[c',ch])):=by
  have hL:=layN_range hn
  refine Tri.drop ?_ (fun _ _ _ _ h=>h)
  refine Tri.of (args:=[sp.v,layVn sp.n,.int .i64 (i:Nat)]) tabOk Tryz.func77 rfl (by kernel_rfl) (by kernel_rfl) ?_
  conv=>whnf
  intro b
  repeat (first | refine LoadD.own 1 rfl _ rfl rfl ?_)
  refine Tri.free (bits_wrong sp hn I) ?_
  rintro v J _ hJ ⟨rfl,rfl⟩
  repeat (first | refine LoadD.own 1 rfl _ rfl rfl ?_ | refine CmpD.yes rfl ?_)
  refine Tri.free (layout_Inode sp.n i hn hi I) ?_
  rintro v J _ hJ ⟨rfl,rfl⟩
  repeat (first | refine CmpD.yes rfl ?_)
  refine Tri.frame (bits_inodes sp hR (inoB sp.n+(i - 1) / 64) (by omega)) [0] rfl rfl ?_
  rintro v J A' hJ ⟨c',s',hR',hrd,⟨e,he,hcan,rfl,rfl⟩ | ⟨a,cap,ch,rfl,hch,rfl⟩⟩
  · refine ⟨by simp,?_⟩
    exact Done.mk ⟨_,Drop.pick [0,2] _ rfl,c',s',hR',hrd,.inl ⟨e,he,hcan,rfl,rfl⟩⟩
  · refine ⟨by simp,?_⟩
    exact Done.mk ⟨_,Drop.pick [0,2] _ rfl,c',s',hR',hrd,.inr ⟨a,cap,ch,rfl,hch,rfl⟩⟩
theorem bits_Inode (hn:64≤sp.n∧sp.n≤512) {I:Imm} {c:List Blk} {s:σ} (hR:sp.R s I c) {fi:Nat→Fi} (hf:InOk sp.n (sp.blk s) fi) (i:Nat) (hi:1≤i∧i≤64 * (sp.n / 16)) :
    Tri Tryz.prog 41 #[sp.v,layVn sp.n,.int .i64 (i:Nat)] I [c] fun v J S'=>∃ c' s',sp.R s' J c'∧sp.rd s s'∧S'=[c'] ∧
      ((∃ e,e≠0∧sp.can e∧v=.tuple #[.agg noIno.toArray,.int .i64 e])∨(∃ a cap,v=.tuple #[inoV (fi i) a cap,.int .i64 0]∧Rds J a ((fi i).direct.length * 3) (xtsV (fi i).direct))):=by
  have hL:=layN_range hn
  refine Tri.drop ?_ (fun _ _ _ _ h=>h)
  refine Tri.of (args:=[sp.v,layVn sp.n,.int .i64 (i:Nat)]) tabOk Tryz.func41 rfl (by kernel_rfl) (by kernel_rfl) ?_
  conv=>whnf
  intro b
  conv=>whnf
  intro b6
  repeat (first | refine LoadD.own 1 rfl _ rfl rfl ?_)
  refine Tri.frame (bits_where sp hn hR i hi) [0] rfl rfl ?_
  rintro v J A' hJ ⟨c',s',hR',hrd,⟨e,he,hcan,rfl,rfl⟩ | ⟨a,cap,ch,rfl,hch,rfl⟩⟩
  · refine ⟨by simp,?_⟩
    refine CmpD.no he ?_
    repeat (first | refine LoadD.own 2 rfl _ rfl rfl ?_ | refine StoreD.st 2 rfl rfl rfl ?_)
    exact Done.mk ⟨_,Drop.pick [0] _ rfl,c',s',hR',hrd,rfl,.inl ⟨e,he,hcan,rfl⟩⟩
  refine ⟨by simp,?_⟩
  have hmod:(i - 1) % 64 < 64:=Nat.mod_lt _ (by decide)
  obtain ⟨A,B,hA,hB,hAB,-⟩:=ino_split fi ((i - 1) / 64) hmod
  have hi2:64 * ((i - 1) / 64)+(i - 1) % 64+1=i:=by omega
  rw [hi2] at hAB
  rw [hf.inos _ (by omega),hAB] at hch
  have hcap:=hch.le
  generalize hat:(i - 1) % 64=at_ at *
  repeat (first | refine CmpD.yes rfl ?_)
  refine ToD.to ((at_ * 64+64:Nat):Int) (by rw [wrap_i64 (by omega) (by omega)]; omega) ?_
  refine sliceD tabOk rfl rfl rfl rfl (at_ * 64) (at_ * 64+64) cap ⟨_,rfl⟩ ⟨_,rfl⟩ rfl (.inl rfl) (by omega) ?_
  refine Tri.fix 3 rfl fun I' hI' hfx=>?_
  have hr:=Rds.partG (size:=1) (Rds.of_ownS hch hfx) (at_ * 64) (at_ * 64+64) cap (by omega) (by omega) (by omega)
  rw [Nat.add_sub_cancel_left] at hr ⊢
  have e1:((bts (A++inoL (fi i)++B)).drop (at_ * 64 * 1)).take (64 * 1)=bts (inoL (fi i)):=by
    unfold bts
    rw [← List.map_drop,← List.map_take]
    congr 1
    rw [show at_ * 64 * 1=A.length by omega,List.append_assoc,List.drop_left,show 64 * 1=(inoL (fi i)).length by rw [inoL_length],List.take_left]
  rw [e1] at hr
  refine Tri.free (super_GetInode (fi i) (hf.ok i) _ (cap - at_ * 64) hr) ?_
  rintro v J2 _ hJ2 ⟨a2,cap2,rfl,hrd2⟩
  repeat (first | refine LoadD.own 2 rfl _ rfl rfl ?_ | refine StoreD.st 2 rfl rfl rfl ?_)
  exact Done.mk ⟨_,Drop.pick [0] _ rfl,c',s',sp.up hR' (Imm.le_trans hI' hJ2),hrd,rfl,.inr ⟨a2,cap2,rfl,hrd2⟩⟩
theorem splice_at (A L B L':Dat) (pre post:List Value) (hl:L'.length=L.length):splice (pre++bts (A++L++B)++post) (pre.length+A.length) (bts L')=pre++bts (A++L'++B)++post:=by
  rw [splice_mid _ _ _ _ _ (by rw [bts_length,bts_length]; simp only [List.length_append]; omega)]
  congr 2
  rw [bts_append,bts_append,bts_append,bts_append,bts_length,hl]
  have h1:=bts_length A
  have h2:=bts_length L
  generalize bts A=a at *
  generalize bts L=l at *
  rw [← h1,← h2,List.append_assoc a l,List.take_left,← List.drop_drop,List.drop_left,List.drop_left]
theorem bits_SetInode (hn:64≤sp.n∧sp.n≤512) {I:Imm} {c:List Blk} {s:σ} (hR:sp.R s I c) {fi:Nat→Fi} (hf:InOk sp.n (sp.blk s) fi) (i:Nat) (hi:1≤i∧i≤64 * (sp.n / 16)) (f:Fi) (hfo:IOk f) (a:Option Addr) (cap:Nat) (hd:Rds I a (f.direct.length * 3) (xtsV f.direct)) (hroom:0 < sp.room s) :
    Tri Tryz.prog 97 #[sp.v,layVn sp.n,.int .i64 (i:Nat),inoV f a cap] I [c] fun v J S'=>∃ c' s',sp.R s' J c'∧S'=[c'] ∧
      ((∃ e,e≠0∧sp.rd s s'∧(sp.can e∨sp.canW e)∧v=.int .i64 e)∨(∃ s1,sp.rd s s1∧sp.wr s1 (inoB sp.n+(i - 1) / 64) (inoBlk (updF fi i f) ((i - 1) / 64)) s'∧v=.int .i64 0)):=by
  have hL:=layN_range hn
  refine Tri.drop ?_ (fun _ _ _ _ h=>h)
  refine Tri.of (args:=[sp.v,layVn sp.n,.int .i64 (i:Nat),inoV f a cap]) tabOk Tryz.func97 rfl (by kernel_rfl) (by kernel_rfl) ?_
  conv=>whnf
  intro b
  conv=>whnf
  intro b7
  repeat (first | refine LoadD.own 1 rfl _ rfl rfl ?_)
  refine Tri.free (bits_wrong sp hn I) ?_
  rintro v J _ hJ ⟨rfl,rfl⟩
  repeat (first | refine LoadD.own 2 rfl _ rfl rfl ?_ | refine CmpD.yes rfl ?_)
  refine Tri.nf (Tri.frameX (super_PutInode f hfo a cap hd) [] rfl rfl (K:=fun v J S'=>∃ a' cap' ch',v=.tuple #[.slice a' 64 cap',.int .i64 0]∧OwnB ch' a' 64 cap' (inoL f)∧I=J∧S'=[c,[(b,row (layVn sp.n).cells.toList 24)],[(b7,row (inoV f a cap).cells.toList 77)],ch']) ?_) ?_
  · rintro v J A' hJ ⟨a',cap',ch',rfl,hch',rfl,rfl⟩
    exact ⟨a',cap',ch',rfl,hch',rfl,rfl⟩
  rintro v J S' hJ ⟨aP,capP,chP,rfl,hchP,rfl,rfl⟩
  repeat (first | refine LoadD.own 1 rfl _ rfl rfl ?_ | refine CmpD.yes rfl ?_)
  refine Tri.frame (bits_where sp hn hR i hi) [0] rfl rfl ?_
  rintro v J A' hJ ⟨c',s',hR',hrd,⟨e,he,hcan,rfl,rfl⟩ | ⟨aW,capW,chW,rfl,hchW,rfl⟩⟩
  · refine ⟨by simp,?_⟩
    refine CmpD.no he ?_
    exact Done.mk ⟨_,Drop.pick [0] _ rfl,c',s',hR',rfl,.inl ⟨e,he,hrd,.inl hcan,rfl⟩⟩
  refine ⟨by simp,?_⟩
  have hmod:(i - 1) % 64 < 64:=Nat.mod_lt _ (by decide)
  obtain ⟨A,B,hA,hB,hAB,hup⟩:=ino_split fi ((i - 1) / 64) hmod
  have hi2:64 * ((i - 1) / 64)+(i - 1) % 64+1=i:=by omega
  rw [hi2] at hAB hup
  rw [hf.inos _ (by omega),hAB] at hchW
  have hnew:=hup f
  have hcap:=hchW.le
  rcases hchW.at' with h0 | ⟨bU,pre,post,T,rfl,rfl,hp⟩
  · omega
  generalize hat:(i - 1) % 64=at_ at *
  repeat (first | refine CmpD.yes rfl ?_)
  refine sliceD tabOk rfl rfl rfl rfl (at_ * 64) 4096 capW ⟨_,rfl⟩ rfl rfl (.inl rfl) (by omega) ?_
  have hsa:slAddr (some ⟨bU,pre.length,none⟩) (at_ * 64) capW Tryz.t5.size=some ⟨bU,pre.length+A.length,none⟩:=by
    have e:slAddr (some ⟨bU,pre.length,none⟩) (at_ * 64) capW 1=some ⟨bU,pre.length+A.length,none⟩:=by
      unfold slAddr; rw [if_neg (by omega),hA,Nat.mul_comm 64 at_]; simp [Addr.add]
    exact e
  rw [hsa]
  have hsp:=splice_at A (inoL (fi i)) B (inoL f) pre post (by rw [inoL_length,inoL_length])
  rw [← hnew] at hsp
  have hown:OwnB [(bU,row (pre++bts (inoBlk (updF fi i f) ((i - 1) / 64))++post) T)] (some ⟨bU,pre.length,none⟩) 4096 capW (inoBlk (updF fi i f) ((i - 1) / 64)):=⟨by rw [bts_length,inoBlk_length],hcap,.inr ⟨bU,pre,post,T,rfl,rfl,hp⟩⟩
  refine copyT tabOk rfl rfl rfl rfl rfl rfl rfl 4 rfl (n:=64) (news:=bts (inoL f)) (SrcOk.slice tabOk rfl (by exact hchP.slC1 3 rfl) (bts_plain _)) (by omega) (by simp only [List.length_append,bts_length,inoL_length]; show pre.length+A.length+64 * 1≤_; omega) (Nat.le_refl _) _ hsp _ rfl ?_
  refine invokeD rfl rfl rfl sp.lwr rfl ?_
  refine Tri.fix 4 rfl fun I1 hI1 hfx1=>?_
  refine Tri.frame (sp.write (inoB sp.n+(i - 1) / 64) (cap:=capW) (sp.up hR' hI1) (by omega) (by rw [sp.rd_room hrd]; exact hroom) (inoBlk_length _ _) (Rds.of_own hown hfx1)) [0] rfl rfl ?_
  rintro v J3 A' hJ3 ⟨c2,s2,rfl,hR2,⟨e,he,hcan,hrd2,rfl⟩ | ⟨rfl,hwr⟩⟩
  · refine ⟨by simp,?_⟩
    exact Done.mk ⟨_,Drop.pick [0] _ rfl,c2,s2,hR2,rfl,.inl ⟨e,he,sp.rd_trans hrd hrd2,.inr hcan,rfl⟩⟩
  · refine ⟨by simp,?_⟩
    exact Done.mk ⟨_,Drop.pick [0] _ rfl,c2,s2,hR2,rfl,.inr ⟨s',hrd,hwr,rfl⟩⟩
end Go.Proofs.YtklbcpofihgmlaaGreat
namespace Go.Proofs.YtklbcpofihgmlaaGreat
open Go.RowKit Go.Sl
set_option maxRecDepth 20000
def FirstX (p:Xt→Bool) (l:List Xt) (k:Int):Prop:=(∃ (i:Nat) (x:Xt),k=i∧l[i]?=some x∧p x=true∧∀ j y,j < i→l[j]?=some y→p y=false)∨(k=-1∧∀ y ∈ l,p y=false)
theorem idx_find {I:Imm} (g:FuncId) (caps:List Value) (p:Xt→Bool) (l:List Xt) (a:Option Addr) (len cap:Nat) (hll:l.length=len) (hlen:len≤1000000) (hs:Rds I a (len * 3) (xtsV l)) (S:St)
    (hg:∀ x ∈ l,Tri Tryz.prog g (xV x :: caps).toArray I S fun v J S'=>v=.bool (p x)∧I=J∧S'=S) :
    Tri Tryz.prog 93 #[.slice a len cap,.func (.func g) #[] caps.toArray] I S fun v J S'=>∃ k:Int,v=.int .i64 k∧FirstX p l k∧I=J∧S'=S:=by
  refine Tri.of (args:=[.slice a len cap,.func (.func g) #[] caps.toArray]) tabOk Tryz.func93 rfl (by kernel_rfl) (by kernel_rfl) ?_
  refine CodeF.loopD [0,1,7,8] (fun vs J S'=>∃ i:Nat,i≤len∧(∀ j y,j < i→l[j]?=some y→p y=false)∧vs=[.slice a len cap,.func (.func g) #[] caps.toArray,.int .i64 len,.int .i64 i]∧I=J∧S'=S)
    (fun vs _ _=>match vs with | [_,_,_,.int _ i]=>((len:Int) - i).toNat | _=>0) ?_ ?_
  · exact ⟨_,Drop.refl _,0,by omega,fun j y hj=>by omega,rfl,rfl,rfl⟩
  rintro vs gE J S' hJ ⟨i,hi,hno,rfl,rfl,rfl⟩
  refine CmpD.split (fun (c1:(i:Int) < len)=>?_) (fun (c1:¬ (i:Int) < len)=>?_)
  · obtain ⟨b,off,rfl,hc⟩:=(hs.slC (S:=S')).cells (by omega)
    obtain ⟨x,hx⟩:∃ x,l[i]?=some x:=⟨_,List.getElem?_eq_getElem (by omega)⟩
    refine Chk.mk (by omega) ?_
    refine LoadD.mk (xtV x) (by have:=hc.part (i:=i * 3) (m:=3) (by omega); rw [xts_at hx] at this; exact this) ?_
    refine forceL_to ?_
    refine Tri.castA (args:=(xV x :: caps).toArray) (by simp; rfl) ?_
    refine (hg x (List.mem_of_getElem? hx)).mono ?_
    rintro v J S2 hJ ⟨rfl,rfl,rfl⟩
    cases hp:p x with
    | true=>exact Done.mk ⟨(i:Int),rfl,.inl ⟨i,x,rfl,hx,hp,hno⟩,rfl,rfl⟩
    | false =>
      refine ToD.to (((i+1:Nat)):Int) (by rw [wrap_i64 (by omega) (by omega)]; omega) ?_
      refine ⟨_,Drop.refl _,⟨i+1,by omega,?_,rfl,rfl,rfl⟩,?_⟩
      · intro j y hj hy
        by_cases e:j=i
        · subst e; rw [hx] at hy; cases hy; exact hp
        · exact hno j y (by omega) hy
      · show ((len:Int) - ((i+1:Nat):Int)).toNat < ((len:Int) - (i:Int)).toNat; omega
  · obtain rfl:i=len:=by omega
    refine Done.mk ⟨-1,rfl,.inr ⟨rfl,fun y hy=>?_⟩,rfl,rfl⟩
    obtain ⟨j,hj⟩:=List.mem_iff_getElem?.1 hy
    refine hno j y ?_ hj
    rcases Nat.lt_or_ge j l.length with g | g
    · omega
    · rw [List.getElem?_eq_none g] at hj; cases hj
def inX (k:Nat) (x:Xt):Bool:=decide (x.at_≤k∧k < x.at_+x.count)
theorem findP_none_of {k:Nat}:∀ {l:List Xt},(∀ y ∈ l,inX k y=false)→findP l k=none
  | [],_=>rfl
  | x :: l,h=>by
    have h1:=h x (by simp)
    unfold inX at h1
    rw [findP,if_neg (by simpa using h1)]
    exact findP_none_of fun y hy=>h y (by simp [hy])
theorem find1 (b k:Nat) (x:Xt) (h:XtOk 0 x) (hk:k≤1000000) (I:Imm) (S:St) (j:Nat) (hS:S[j]?=some [(b,row [.int .i64 (k:Nat)] 3)]) :
    Tri Tryz.prog 94 #[xV x,.pointer (some ⟨b,0,none⟩)] I S fun v J S'=>v=.bool (inX k x)∧I=J∧S'=S:=by
  obtain ⟨a,s,c⟩:=x
  obtain ⟨h1,h2,h3,h4,h5,h6⟩:=h
  dsimp only at *
  have hlt:j < S.length:=by
    rcases Nat.lt_or_ge j S.length with g | g
    · exact g
    · rw [List.getElem?_eq_none g] at hS; cases hS
  refine Tri.drop ?_ (fun _ _ _ _ h=>h)
  refine Tri.of (args:=[.agg #[.int .i64 (a:Nat),.int .i64 (s:Nat),.int .i64 (c:Nat)],.pointer (some ⟨b,0,none⟩)]) tabOk Tryz.func94 rfl (by kernel_rfl) (by kernel_rfl) ?_
  conv=>whnf
  intro b2
  have hS2:(S++[[(b2,row [.int .i64 (a:Nat),.int .i64 (s:Nat),.int .i64 (c:Nat)] 112)]])[j]?=some [(b,row [.int .i64 (k:Nat)] 3)]:=by rw [List.getElem?_append_left hlt]; exact hS
  refine LoadD.own j hS2 _ rfl rfl ?_
  refine LoadD.own S.length (last_get S _) _ rfl rfl ?_
  refine CmpD.split (fun c1=>?_) (fun c1=>?_)
  · refine LoadD.own j hS2 _ rfl rfl ?_
    refine LoadD.own S.length (last_get S _) _ rfl rfl ?_
    refine LoadD.own S.length (last_get S _) _ rfl rfl ?_
    refine ToD.i64 (by omega) (by omega) ?_
    refine CmpD.keep ?_
    refine Done.mk ⟨_,Drop.init _ _,?_,rfl,rfl⟩
    have:decide ((k:Int) < (a:Int)+(c:Int))=inX k ⟨a,s,c⟩:=by unfold inX; apply decide_eq_decide.2; show _↔a≤k∧k < a+c; omega
    rw [this]; rfl
  · refine Done.mk ⟨_,Drop.init _ _,?_,rfl,rfl⟩
    have:inX k ⟨a,s,c⟩=false:=by unfold inX; apply decide_eq_false; show ¬ (a≤k∧k < a+c); omega
    rw [this]; rfl
def findV (l:List Xt) (k:Nat):Value:=match findP l k with
  | some b=>.tuple #[.int .i64 (b:Nat),.bool true]
  | none=>.tuple #[.int .i64 0,.bool false]
theorem extents_Find {I:Imm} (l:List Xt) (hr:rightX 0 l=true) (a:Option Addr) (n cap:Nat) (hn:l.length=n) (hn2:n≤1000000) (hs:Rds I a (n * 3) (xtsV l)) (k:Nat) (hk:k≤1000000) :
    Tri Tryz.prog 53 #[.slice a n cap,.int .i64 (k:Nat)] I [] fun v J _=>v=findV l k∧I=J:=by
  refine Tri.of (args:=[.slice a n cap,.int .i64 (k:Nat)]) tabOk Tryz.func53 rfl (by kernel_rfl) (by kernel_rfl) ?_
  conv=>whnf
  intro b
  refine Tri.free (super_Right (S:=[]) l hr a n cap hn hn2 hs.slC) ?_
  rintro v J _ hJ ⟨rfl,rfl,-⟩
  refine Tri.nf (idx_find 94 [.pointer (some ⟨b,0,none⟩)] (inX k) l a n cap hn hn2 hs [[(b,row [.int .i64 (k:Nat)] 3)]] ?_) ?_
  · intro x hx
    have hxo:=rightX_mem hr x hx
    exact find1 b k x hxo hk I _ 0 rfl
  rintro v J S' hJ ⟨i,rfl,⟨i,x,rfl,hx,hp,-⟩ | ⟨rfl,hno⟩,rfl,rfl⟩
  · have hxo:=rightX_mem hr x (List.mem_of_getElem? hx)
    unfold inX at hp
    have hp:=of_decide_eq_true hp
    have hf:=findP_of_mem hr x (List.mem_of_getElem? hx) hp.1 hp.2
    have hfv:findV l k=.tuple #[.int .i64 (x.start+k - x.at_:Nat),.bool true]:=by unfold findV; rw [hf]
    rw [hfv]
    have h1:=hxo.sto; have h2:=hxo.ato
    obtain ⟨xa,xs,xc⟩:=x
    dsimp only at *
    have hil:i < n:=by
      rcases Nat.lt_or_ge i l.length with g | g
      · omega
      · rw [List.getElem?_eq_none g] at hx; cases hx
    obtain ⟨bb,off,rfl,hc⟩:=(hs.slC (S:=[])).cells (by omega)
    have hcx:=hc.part (i:=i * 3) (m:=3) (by omega)
    rw [xts_at hx] at hcx
    refine CmpD.no (by omega) ?_
    refine CodeF.sched [[],[],[0,1],[0,1,2],[0,1,2,3],[],[0,1,2,3,4,5],[],[],[7,8],[7,8,9],[7,8,9,10],[0,1,2,3,4,5,6,7,8,9,10,11],[0,1,2,3,4,5,6,7,8,9,10,11,12],[0,1,2,3,4,5,6,7,8,9,10,11,12,13]] [0,1,2,3,4,5,6,7,8,9,10,11,12,13,14] (by kernel_rfl) ?_
    refine Chk.mk (by omega) ?_
    have ad:∀ m,addOff off (i:Int).toNat 3+m=off+i * 3+m:=fun m=>by rw [Int.toNat_natCast,addOff_eq]
    refine LoadP.imm [.int .i64 (xs:Nat)] (by show Cells _ _ _ (addOff off (i:Int).toNat 3+1) _ _; rw [ad]; exact hcx.part (i:=1) (m:=1) (by omega)) ?_
    refine LoadP.at 0 rfl _ rfl rfl ?_
    refine ToD.i64 (by omega) (by omega) ?_
    refine Chk.mk (by omega) ?_
    refine LoadP.imm [.int .i64 (xa:Nat)] (by show Cells _ _ _ (addOff off (i:Int).toNat 3+0) _ _; rw [ad]; exact hcx.part (i:=0) (m:=1) (by omega)) ?_
    refine ToD.to ((xs+k - xa:Nat):Int) (by rw [wrap_i64 (by omega) (by omega)]; omega) ?_
    skip
    exact Done.mk ⟨rfl,rfl⟩
  · have hfv:findV l k=.tuple #[.int .i64 0,.bool false]:=by unfold findV; rw [findP_none_of hno]
    rw [hfv]
    refine CmpD.yes (by omega) ?_
    exact Done.mk ⟨rfl,rfl⟩
end Go.Proofs.YtklbcpofihgmlaaGreat
namespace Go.Proofs.YtklbcpofihgmlaaGreat
open Go.RowKit Go.Sl
set_option maxRecDepth 20000
theorem clone_xts {I:Imm} {S:St} {a:Option Addr} {len cap:Nat} {vs:List Value} (h:SlC I S a (len * 3) vs) (h1:∀ u ∈ vs,Plain u=true) (hlen:len≤1000000) :
    Tri Tryz.prog 132 #[.slice a len cap] I S fun v J S'=>∃ a' cap' ch,v=.slice a' len cap'∧OwnC ch 3 a' len cap' vs∧I=J∧S'=S++[ch]:=by
  refine Tri.drop ?_ (fun _ _ _ _ h=>h)
  refine Tri.of (args:=[.slice a len cap]) tabOk Tryz.func132 rfl (by kernel_rfl) (by kernel_rfl) ?_
  cases a with
  | none =>
    have h0:=SlC.nil_len h
    obtain rfl:len=0:=by omega
    have:vs=[]:=List.length_eq_zero_iff.1 (by simpa using h.len)
    subst this
    exact Done.mk ⟨_,Drop.and (Drop.refl _),none,0,[],rfl,OwnC.nil _ _,rfl,rfl⟩
  | some p =>
    conv=>whnf
    intro b
    refine appendD tabOk rfl rfl rfl rfl rfl rfl rfl S.length (last_get S _) (OwnC.whole (len:=0) (size:=3) (vs:=[]) rfl) (SrcOk.slice tabOk rfl (h.more _) h1) rfl (by show (0+len) * 24≤_; omega) (by omega) ?_
    intro a' cap' ch hown
    rw [last_set]
    rw [Nat.zero_add] at hown ⊢
    exact Done.mk ⟨_,Drop.refl _,a',cap',ch,rfl,hown,rfl,rfl⟩
theorem keptP_snoc (at_:Nat) (l:List Xt) (x:Xt):keptP at_ (l++[x])=keptP at_ l++keptP at_ [x]:=by
  induction l with
  | nil=>rfl
  | cons y l ih =>
    rw [List.cons_append,keptP,keptP]
    cases Nat.blt 0 (min (at_ - y.at_) y.count) with
    | true=>rw [cond_true,cond_true,ih]; rfl
    | false=>rw [cond_false,cond_false,ih]
theorem restP_snoc (at_:Nat) (l:List Xt) (x:Xt):restP at_ (l++[x])=restP at_ l++restP at_ [x]:=by
  induction l with
  | nil=>rfl
  | cons y l ih =>
    rw [List.cons_append,restP,restP]
    cases Nat.blt (min (at_ - y.at_) y.count) y.count with
    | true=>rw [cond_true,cond_true,ih]; rfl
    | false=>rw [cond_false,cond_false,ih]
theorem snoc_at {l:List Xt} {i:Nat} {x:Xt} (h:l[i]?=some x):l.take (i+1)=l.take i++[x]:=by rw [List.take_add_one,h]; rfl
theorem xtV_plain (x:Xt):∀ v ∈ xtV x,Plain v=true:=by
  intro v hv; simp [xtV] at hv; rcases hv with rfl | rfl | rfl <;> rfl
theorem restP_length (at_:Nat):∀ (l:List Xt),(restP at_ l).length≤l.length
  | []=>Nat.le_refl _
  | x :: l=>by
    rw [restP]
    cases Nat.blt (min (at_ - x.at_) x.count) x.count with
    | true=>simp only [cond_true,List.length_cons]; have:=restP_length at_ l; omega
    | false=>simp only [cond_false,List.length_cons]; have:=restP_length at_ l; omega
set_option maxHeartbeats 1000000 in
theorem extents_Cut {I:Imm} (l:List Xt) (hr:rightX 0 l=true) (a:Option Addr) (n cap:Nat) (hn:l.length=n) (hn2:n≤1000000) (hs:Rds I a (n * 3) (xtsV l)) (k:Nat) (hk:k≤1000000) :
    Tri Tryz.prog 99 #[.slice a n cap,.int .i64 (k:Nat)] I [] fun v J S'=>∃ a1 c1 ch1 a2 c2 ch2,v=.tuple #[.slice a1 (keptP k l).length c1,.slice a2 (restP k l).length c2,.int .i64 0] ∧
      OwnC ch1 3 a1 (keptP k l).length c1 (xtsV (keptP k l))∧OwnC ch2 3 a2 (restP k l).length c2 (xtsV (restP k l))∧I=J∧S'=[ch1,ch2]:=by
  refine Tri.drop ?_ (fun _ _ _ _ h=>h)
  refine Tri.of (args:=[.slice a n cap,.int .i64 (k:Nat)]) tabOk Tryz.func99 rfl (by kernel_rfl) (by kernel_rfl) ?_
  refine Tri.free (super_Right (S:=[]) l hr a n cap hn hn2 hs.slC) ?_
  rintro v J _ hJ ⟨rfl,rfl,-⟩
  refine CmpD.no (by omega) ?_
  refine CodeF.loopD [1,7,8,19,20,21] (fun vs J S'=>∃ (i:Nat) (a1:Option Addr) (c1:Nat) (ch1:List Blk) (a2:Option Addr) (c2:Nat) (ch2:List Blk),i≤n∧OwnC ch1 3 a1 (keptP k (l.take i)).length c1 (xtsV (keptP k (l.take i)))∧OwnC ch2 3 a2 (restP k (l.take i)).length c2 (xtsV (restP k (l.take i))) ∧
      vs=[.int .i64 (k:Nat),.slice a1 (keptP k (l.take i)).length c1,.slice a2 (restP k (l.take i)).length c2,.slice a n cap,.int .i64 n,.int .i64 i]∧I=J∧S'=[ch1,ch2])
    (fun vs _ _=>match vs with | [_,_,_,_,_,.int _ i]=>((n:Int) - i).toNat | _=>0) ?_ ?_
  · exact ⟨_,Drop.and (Drop.and (Drop.refl _)),0,none,0,[],none,0,[],by omega,OwnC.nil _ _,OwnC.nil _ _,rfl,rfl,rfl⟩
  rintro vs gE J S' hJ ⟨i,a1,c1,ch1,a2,c2,ch2,hi,h1,h2,rfl,rfl,rfl⟩
  refine CmpD.split (fun (c1:(i:Int) < n)=>?_) (fun (c1:¬ (i:Int) < n)=>?_)
  · obtain ⟨b,off,rfl,hc⟩:=(hs.slC (S:=[ch1,ch2])).cells (by omega)
    obtain ⟨x,hx⟩:∃ x,l[i]?=some x:=⟨_,List.getElem?_eq_getElem (by omega)⟩
    have hxo:=rightX_mem hr x (List.mem_of_getElem? hx)
    have hk1:=keptP_snoc k (l.take i) x
    have hr1:=restP_snoc k (l.take i) x
    rw [← snoc_at hx] at hk1 hr1
    have hkl:=keptP_length k (l.take i)
    have hrl:=restP_length k (l.take i)
    rw [List.length_take] at hkl hrl
    generalize keptP k (l.take i)=kl at *
    generalize restP k (l.take i)=rl at *
    refine Chk.mk (by omega) ?_
    refine LoadD.mk (xtV x) (by have:=hc.part (i:=i * 3) (m:=3) (by omega); rw [xts_at hx] at this; exact this) ?_
    conv=>whnf
    intro b10
    have q1:=hxo.ato; have q2:=hxo.sto; have q3:=hxo.one
    obtain ⟨m,hm⟩:∃ m,m=min (k - x.at_) x.count:=⟨_,rfl⟩
    have hmle:m≤x.count:=by omega
    have ek:keptP k [x]=bif Nat.blt 0 m then [⟨x.at_,x.start,m⟩] else []:=by rw [hm]; rfl
    have er:restP k [x]=bif Nat.blt m x.count then [⟨x.at_+m,x.start+m,x.count - m⟩] else []:=by rw [hm]; rfl
    rw [ek] at hk1
    rw [er] at hr1
    repeat (first | refine LoadD.own 2 rfl _ rfl rfl ?_ | refine StoreD.st 2 rfl rfl rfl ?_)
    refine ToD.i64 (by omega) (by omega) ?_
    refine ToD.to ((k - x.at_:Nat):Int) (by split <;> omega) ?_
    repeat (first | refine LoadD.own 2 rfl _ rfl rfl ?_)
    refine ToD.to ((m:Nat):Int) (by split <;> omega) ?_
    skip
    rcases Nat.lt_or_ge 0 m with hm0 | hm0
    · refine CmpD.yes (by omega) ?_
      rw [nblt.2 hm0,cond_true] at hk1
      have ekv:xtsV (keptP k (l.take (i+1)))=xtsV kl++xtV ⟨x.at_,x.start,m⟩:=by rw [hk1,xtsV_append]; simp [xtsV]
      have ekl:(keptP k (l.take (i+1))).length=kl.length+1:=by rw [hk1]; simp
      repeat (first | refine LoadD.own 2 rfl _ rfl rfl ?_)
      conv=>whnf
      intro b42
      refine appendD tabOk rfl rfl rfl rfl rfl rfl rfl 0 rfl h1 (SrcOk.slice (n:=1) (news:=xtV ⟨x.at_,x.start,m⟩) tabOk rfl ((OwnC.whole (len:=1) (size:=3) rfl).slC 3 rfl) (xtV_plain _)) rfl (by show (kl.length+1) * 24≤_; omega) (by omega) ?_
      intro aK cK chK hchK
      repeat (first | refine LoadD.own 2 rfl _ rfl rfl ?_)
      rcases Nat.lt_or_ge m x.count with hmc | hmc
      · refine CmpD.yes (by omega) ?_
        rw [nblt.2 hmc,cond_true] at hr1
        have erv:xtsV (restP k (l.take (i+1)))=xtsV rl++xtV ⟨x.at_+m,x.start+m,x.count - m⟩:=by rw [hr1,xtsV_append]; simp [xtsV]
        have erl:(restP k (l.take (i+1))).length=rl.length+1:=by rw [hr1]; simp
        repeat (first | refine LoadD.own 2 rfl _ rfl rfl ?_)
        refine ToD.to ((x.at_+m:Nat):Int) (by rw [wrap_i64 (by omega) (by omega)]; omega) ?_
        repeat (first | refine LoadD.own 2 rfl _ rfl rfl ?_)
        refine ToD.to ((x.start+m:Nat):Int) (by rw [wrap_i64 (by omega) (by omega)]; omega) ?_
        repeat (first | refine LoadD.own 2 rfl _ rfl rfl ?_)
        refine ToD.to ((x.count - m:Nat):Int) (by rw [wrap_i64 (by omega) (by omega)]; omega) ?_
        skip
        conv=>whnf
        intro b62
        refine appendD tabOk rfl rfl rfl rfl rfl rfl rfl 1 rfl h2 (SrcOk.slice (n:=1) (news:=xtV ⟨x.at_+m,x.start+m,x.count - m⟩) tabOk rfl ((OwnC.whole (len:=1) (size:=3) rfl).slC 4 rfl) (xtV_plain _)) rfl (by show (rl.length+1) * 24≤_; omega) (by omega) ?_
        intro aR cR chR hchR
        refine ToD.i64 (by omega) (by omega) ?_
        refine ⟨_,Drop.pick [0,1] _ rfl,⟨i+1,aK,cK,chK,aR,cR,chR,by omega,by rw [ekv,ekl]; exact hchK,by rw [erv,erl]; exact hchR,by rw [ekl,erl]; rfl,rfl,rfl⟩,?_⟩
        show ((n:Int) - ((i:Int)+1)).toNat < ((n:Int) - (i:Int)).toNat; omega
      · refine CmpD.no (by omega) ?_
        have hf:Nat.blt m x.count=false:=by rw [Bool.eq_false_iff]; intro h2; have:=nblt.1 h2; omega
        rw [hf,cond_false,List.append_nil] at hr1
        refine ToD.i64 (by omega) (by omega) ?_
        refine ⟨_,Drop.pick [0,1] _ rfl,⟨i+1,aK,cK,chK,a2,_,ch2,by omega,by rw [ekv,ekl]; exact hchK,by rw [hr1]; exact h2,by rw [ekl,hr1]; rfl,rfl,rfl⟩,?_⟩
        show ((n:Int) - ((i:Int)+1)).toNat < ((n:Int) - (i:Int)).toNat; omega
    · refine CmpD.no (by omega) ?_
      have hf:Nat.blt 0 m=false:=by rw [Bool.eq_false_iff]; intro h2; have:=nblt.1 h2; omega
      rw [hf,cond_false,List.append_nil] at hk1
      repeat (first | refine LoadD.own 2 rfl _ rfl rfl ?_)
      refine CmpD.yes (by omega) ?_
      rw [nblt.2 (by omega),cond_true] at hr1
      have erv:xtsV (restP k (l.take (i+1)))=xtsV rl++xtV ⟨x.at_+m,x.start+m,x.count - m⟩:=by rw [hr1,xtsV_append]; simp [xtsV]
      have erl:(restP k (l.take (i+1))).length=rl.length+1:=by rw [hr1]; simp
      repeat (first | refine LoadD.own 2 rfl _ rfl rfl ?_)
      refine ToD.to ((x.at_+m:Nat):Int) (by rw [wrap_i64 (by omega) (by omega)]; omega) ?_
      repeat (first | refine LoadD.own 2 rfl _ rfl rfl ?_)
      refine ToD.to ((x.start+m:Nat):Int) (by rw [wrap_i64 (by omega) (by omega)]; omega) ?_
      repeat (first | refine LoadD.own 2 rfl _ rfl rfl ?_)
      refine ToD.to ((x.count - m:Nat):Int) (by rw [wrap_i64 (by omega) (by omega)]; omega) ?_
      skip
      conv=>whnf
      intro b62
      refine appendD tabOk rfl rfl rfl rfl rfl rfl rfl 1 rfl h2 (SrcOk.slice (n:=1) (news:=xtV ⟨x.at_+m,x.start+m,x.count - m⟩) tabOk rfl ((OwnC.whole (len:=1) (size:=3) rfl).slC 3 rfl) (xtV_plain _)) rfl (by show (rl.length+1) * 24≤_; omega) (by omega) ?_
      intro aR cR chR hchR
      refine ToD.i64 (by omega) (by omega) ?_
      refine ⟨_,Drop.pick [0,1] _ rfl,⟨i+1,a1,_,ch1,aR,cR,chR,by omega,by rw [hk1]; exact h1,by rw [erv,erl]; exact hchR,by rw [erl,hk1]; rfl,rfl,rfl⟩,?_⟩
      show ((n:Int) - ((i:Int)+1)).toNat < ((n:Int) - (i:Int)).toNat; omega
  · obtain rfl:i=n:=by omega
    rw [List.take_of_length_le (by omega)] at h1 h2 ⊢
    exact Done.mk ⟨_,Drop.refl _,a1,_,ch1,a2,_,ch2,rfl,h1,h2,rfl,rfl⟩
end Go.Proofs.YtklbcpofihgmlaaGreat
namespace Go.Proofs.YtklbcpofihgmlaaGreat
open Go.RowKit Go.Sl
set_option maxRecDepth 20000
theorem slAddr_xt (b o l m:Nat) (h:m≠l):slAddr (some ⟨b,o,none⟩) l m 3=some ⟨b,o+l * 3,none⟩:=by
  unfold slAddr; rw [if_neg h]; simp [Addr.add]
theorem splice_vxt (pre A Z N post:List Value) (h:N.length≤Z.length):splice (pre++(A++Z)++post) (pre.length+A.length) N=pre++(A++N++Z.drop N.length)++post:=by
  rw [splice_mid _ _ _ _ _ (by rw [List.length_append]; omega),List.take_left,← List.drop_drop,List.drop_left]
set_option maxHeartbeats 1000000 in
theorem insert_xt {I:Imm} (a:Option Addr) (n cap:Nat) (vs:List Value) (ch:List Blk) (hown:OwnC ch 3 a n cap vs) (i:Nat) (hi:i≤n) (b:Nat) (w:List Value) (hw:w.length=3) (hpv:∀ v ∈ vs,Plain v=true) (hpw:∀ v ∈ w,Plain v=true) (hn:n≤1000000) :
    Tri Tryz.prog 138 #[.slice a n cap,.int .i64 (i:Nat),.slice (some ⟨b,0,none⟩) 1 1] I [ch,[(b,row w 112)]] fun v J S' =>
      ∃ a' cap' ch',v=.slice a' (n+1) cap'∧OwnC ch' 3 a' (n+1) cap' (vs.take (i * 3)++w++vs.drop (i * 3))∧I=J∧S'=[ch']:=by
  have hle:=hown.le
  have hvl:=hown.n
  have hwO:OwnC [(b,row w 112)] 3 (some ⟨b,0,none⟩) 1 1 w:=OwnC.whole (by rw [hw])
  have htl:(vs.take (i * 3)).length=i * 3:=by rw [List.length_take]; omega
  have hdl:(vs.drop (i * 3)).length=(n - i) * 3:=by rw [List.length_drop]; omega
  have hres:(vs.take (i * 3)++w++vs.drop (i * 3)).length=(n+1) * 3:=by simp only [List.length_append,htl,hdl,hw]; omega
  refine Tri.drop ?_ (fun _ _ _ _ h=>h)
  refine Tri.ofF (args:=[.slice a n cap,.int .i64 (i:Nat),.slice (some ⟨b,0,none⟩) 1 1]) tabOk Tryz.func138 rfl (by kernel_rfl) (by kernel_rfl) ?_
  refine CodeF.stepD ?_
  refine CodeF.stepD ?_
  refine sliceD tabOk rfl rfl rfl rfl i n cap ⟨_,rfl⟩ rfl rfl (.inl rfl) (by omega) ?_
  refine CodeF.stepD ?_
  refine CodeF.stepD ?_
  repeat (first | refine CmpD.no (by decide) ?_)
  refine CodeF.stepD ?_
  refine CodeF.stepD ?_
  refine CmpD.split (fun c1=>?_) (fun c1=>?_)
  · obtain rfl:i=n:=by omega
    refine appendD tabOk rfl rfl rfl rfl rfl rfl rfl 0 rfl hown (SrcOk.slice (n:=1) (news:=w) tabOk rfl (hwO.slC 1 rfl) hpw) rfl (by show (i+1) * 24≤_; omega) (by omega) ?_
    intro a2 cap2 ch2 hch2
    refine Done.mk ⟨_,Drop.pick [0] _ rfl,a2,cap2,ch2,rfl,?_,rfl,rfl⟩
    rw [List.take_of_length_le (by omega),List.drop_eq_nil_of_le (by omega),List.append_nil]; exact hch2
  refine CodeF.stepD ?_
  refine ToD.to ((n+1:Nat):Int) (by rw [wrap_i64 (by omega) (by omega)]; omega) ?_
  refine capD tabOk rfl rfl rfl rfl rfl rfl ?_
  refine CmpD.split (fun c2=>?_) (fun c2=>?_)
  · refine sliceD tabOk rfl rfl rfl rfl 0 i cap rfl ⟨_,rfl⟩ rfl (.inl rfl) (by omega) ?_
    refine ToD.to ((n+1:Nat):Int) (by rw [wrap_i64 (by omega) (by omega)]; omega) ?_
    refine ToD.to ((n+1 - i:Nat):Int) (by rw [wrap_i64 (by omega) (by omega)]; omega) ?_
    have hpart:=hown.part 0 i (by omega) hi
    rw [Nat.sub_zero,Nat.sub_zero,Nat.zero_mul,List.drop_zero] at hpart
    refine appendZG tabOk rfl rfl rfl rfl rfl rfl rfl rfl (by exact hpart.slC 0 rfl) (n+1 - i) rfl rfl (by decide) (by omega) (by omega) (by show _ * 24≤_; omega) (by omega) ?_
    intro a9 c9 ch9 h9
    have e9:i - 0+(n+1 - i)=n+1:=by omega
    rw [e9] at h9 ⊢
    have h9l:=h9.le
    rcases h9.at' with h0 | ⟨b9,pre,post,T9,rfl,rfl,hp9⟩
    · omega
    have hzl:(rows (n+1 - i) (Tryz.t112.zero.getD undef).cells.toList).length=(n+1 - i) * 3:=by rw [rows_length]; rfl
    refine sliceD tabOk rfl rfl rfl rfl i (n+1) c9 ⟨_,rfl⟩ rfl rfl (.inl rfl) (by omega) ?_
    have hz9:=slAddr_xt b9 pre.length i c9 (by omega)
    have hsa:slAddr (some ⟨b9,pre.length,none⟩) i c9 Tryz.t112.size=some ⟨b9,pre.length+i * 3,none⟩:=hz9
    rw [hsa]
    generalize hZ:rows (n+1 - i) (Tryz.t112.zero.getD undef).cells.toList=Z at *
    generalize hA:vs.take (i * 3)=A at *
    generalize hN:vs.drop (i * 3)=N at *
    have hsp1:=splice_vxt pre A Z w post (by omega)
    rw [htl,hw] at hsp1
    have hml:min 1 (n+1 - i)=1:=by omega
    refine copyS tabOk rfl rfl rfl rfl rfl rfl rfl 2 rfl rfl 1 hml.symm (by exact hwO.slC 1 rfl) hpw (by simp only [List.length_append]; show pre.length+i * 3+1 * 3≤_; omega) (Nat.le_refl _) _ hsp1 _ rfl ?_
    have hsa2:slAddr (some ⟨b9,pre.length,none⟩) (i+1) c9 Tryz.t112.size=some ⟨b9,pre.length+(i+1) * 3,none⟩:=slAddr_xt b9 pre.length (i+1) c9 (by omega)
    have hsp2:=splice_vxt pre (A++w) (Z.drop 3) N post (by rw [List.length_drop]; omega)
    have e10:(A++w).length=(i+1) * 3:=by rw [List.length_append]; omega
    rw [e10] at hsp2
    have e11:(Z.drop 3).drop N.length=[]:=List.drop_eq_nil_of_le (by rw [List.length_drop]; omega)
    rw [e11,List.append_nil] at hsp2
    have hm2:min (n - i) (n+1 - (i+1))=n - i:=by omega
    have hsrc:=SlC.partG (I:=I) (S:=[ch,[(b,row w 112)],[(b9,row (pre++(A++w++Z.drop 3)++post) T9)]]) (hown.slC 0 rfl) i n cap hi (by omega) (by omega)
    rw [hN,List.take_of_length_le (by omega)] at hsrc
    refine CodeF.schedT [[],[],[],[1,2],[0,1,2,3],[],[],[5,6],[0,1,2,3,4,5,6,7]] (.rd 0 (.rd 1 (.rd 2 (.rd 3 (.rd 5 (.rd 6 (.alt (.ef 4 (.ef 7 (.ef 8 .nil))) (.ef 7 (.ef 4 (.ef 8 .nil)))))))))) (by kernel_rfl) ?_
    refine ToD.to ((i+1:Nat):Int) (by rw [wrap_i64 (by omega) (by omega)]; omega) ?_
    refine And.intro ?_ ?_
    · refine sliceD tabOk rfl rfl rfl rfl (i+1) (n+1) c9 ⟨_,rfl⟩ rfl rfl (.inl rfl) (by omega) ?_
      rw [hsa2]
      refine sliceD tabOk rfl rfl rfl rfl i n cap ⟨_,rfl⟩ rfl rfl (.inl rfl) (by omega) ?_
      refine copyS tabOk rfl rfl rfl rfl rfl rfl rfl 2 rfl rfl (n - i) hm2.symm (by exact hsrc) (fun u hu=>hpv u (by rw [← hN] at hu; exact List.mem_of_mem_drop hu)) (by simp only [List.length_append,List.length_drop]; show pre.length+(i+1) * 3+(n - i) * 3≤_; omega) (Nat.le_refl _) _ hsp2 _ rfl ?_
      refine Done.mk ⟨_,Drop.pick [2] _ rfl,_,c9,_,rfl,⟨hres,h9l,.inr ⟨b9,pre,post,T9,rfl,rfl,hp9⟩⟩,rfl,rfl⟩
    · refine sliceD tabOk rfl rfl rfl rfl i n cap ⟨_,rfl⟩ rfl rfl (.inl rfl) (by omega) ?_
      refine sliceD tabOk rfl rfl rfl rfl (i+1) (n+1) c9 ⟨_,rfl⟩ rfl rfl (.inl rfl) (by omega) ?_
      rw [hsa2]
      refine copyS tabOk rfl rfl rfl rfl rfl rfl rfl 2 rfl rfl (n - i) hm2.symm (by exact hsrc) (fun u hu=>hpv u (by rw [← hN] at hu; exact List.mem_of_mem_drop hu)) (by simp only [List.length_append,List.length_drop]; show pre.length+(i+1) * 3+(n - i) * 3≤_; omega) (Nat.le_refl _) _ hsp2 _ rfl ?_
      refine Done.mk ⟨_,Drop.pick [2] _ rfl,_,c9,_,rfl,⟨hres,h9l,.inr ⟨b9,pre,post,T9,rfl,rfl,hp9⟩⟩,rfl,rfl⟩
  · rcases hown.at' with h0 | ⟨bs,pre,post,Ts,rfl,rfl,hps⟩
    · omega
    have hz0:∀ m,m≠0→slAddr (some ⟨bs,pre.length,none⟩) 0 m Tryz.t112.size=some ⟨bs,pre.length,none⟩:=fun m hm=>by
      have:=slAddr_xt bs pre.length 0 m hm
      rw [Nat.zero_mul,Nat.add_zero] at this
      exact this
    have hzk:∀ l m,m≠l→slAddr (some ⟨bs,pre.length,none⟩) l m Tryz.t112.size=some ⟨bs,pre.length+l * 3,none⟩:=fun l m h=>slAddr_xt bs pre.length l m h
    refine CodeF.stepD ?_
    refine ToD.to ((n+1:Nat):Int) (by rw [wrap_i64 (by omega) (by omega)]; omega) ?_
    refine sliceD tabOk rfl rfl rfl rfl 0 (n+1) cap rfl ⟨_,rfl⟩ rfl (.inl rfl) (by omega) ?_
    rw [hz0 cap (by omega),Nat.sub_zero,Nat.sub_zero]
    refine CodeF.seqF (CodeF.seqF (CodeF.regionX 67 ?_))
    refine ToD.to ((i+1:Nat):Int) (by rw [wrap_i64 (by omega) (by omega)]; omega) ?_
    refine sliceD tabOk rfl rfl rfl rfl (i+1) (n+1) cap ⟨_,rfl⟩ rfl rfl (.inl rfl) (by omega) ?_
    rw [hzk (i+1) cap (by omega)]
    refine overlapsD (tS:=75) (tR:=4) tabOk rfl rfl rfl rfl Tryz.func161 (by kernel_rfl) (by kernel_rfl) (by kernel_rfl) (by kernel_rfl) rfl rfl rfl rfl 1 0 (by decide) rfl rfl (by simp only [List.length_append]; omega) ?_
    have hsrc:=SlC.partG (I:=I) (S:=[[(bs,row (pre++vs++post) Ts)],[(b,row w 112)]]) (hown.slC 0 rfl) i n cap hi (by omega) (by omega)
    generalize hA:vs.take (i * 3)=A at *
    generalize hN:vs.drop (i * 3)=N at *
    rw [List.take_of_length_le (by omega)] at hsrc
    have hm2:min (n+1 - i) (n+1 - (i+1))=n - i:=by omega
    obtain ⟨B3,hB3⟩:∃ B3,B3=((N++post).take 3):=⟨_,rfl⟩
    have hB3l:B3.length=3:=by rw [hB3,List.length_take,List.length_append]; omega
    obtain ⟨R,hR⟩:∃ R,R=((N++post).drop 3).drop N.length:=⟨_,rfl⟩
    have hRl:R.length=(cap - (n+1)) * 3:=by rw [hR,List.length_drop,List.length_drop,List.length_append]; omega
    have hvs:vs=A++N:=by rw [← hA,← hN,List.take_append_drop]
    have hspA:splice (pre++vs++post) (pre.length+(i+1) * 3) N=pre++(A++(B3++(N++R)))++[]:=by
      have h1:=splice_vxt pre (A++B3) ((N++post).drop 3) N [] (by rw [List.length_drop,List.length_append]; omega)
      rw [← hR] at h1
      have e1:(A++B3).length=(i+1) * 3:=by rw [List.length_append]; omega
      have e2:pre++vs++post=pre++(A++B3++(N++post).drop 3)++[]:=by
        rw [hvs,hB3,List.append_assoc A,List.take_append_drop]; simp
      rw [e1] at h1
      rw [e2,h1]; simp
    have hspB:splice (pre++(A++(B3++(N++R)))++[]) (pre.length+i * 3) w=pre++(A++w++(N++R))++[]:=by
      have h1:=splice_vxt pre A (B3++(N++R)) w [] (by rw [List.length_append]; omega)
      have e3:(B3++(N++R)).drop w.length=N++R:=by rw [hw,← hB3l,List.drop_left]
      rw [htl,e3] at h1
      exact h1
    refine CodeF.den ?_
    refine CodeF.schedT [[],[],[],[1,2],[0,1,2,3],[],[],[5,6],[0,1,2,3,4,5,6,7]] (.rd 0 (.rd 1 (.rd 2 (.rd 3 (.rd 5 (.rd 6 (.alt (.ef 4 (.ef 7 (.ef 8 .nil))) (.ef 7 (.ef 4 (.ef 8 .nil)))))))))) (by kernel_rfl) ?_
    refine ToD.to ((i+1:Nat):Int) (by rw [wrap_i64 (by omega) (by omega)]; omega) ?_
    refine And.intro ?_ ?_
    · refine sliceD tabOk rfl rfl rfl rfl (i+1) (n+1) cap ⟨_,rfl⟩ rfl rfl (.inl rfl) (by omega) ?_
      rw [hzk (i+1) cap (by omega)]
      refine sliceD tabOk rfl rfl rfl rfl i (n+1) cap ⟨_,rfl⟩ rfl rfl (.inl rfl) (by omega) ?_
      refine copyS tabOk rfl rfl rfl rfl rfl rfl rfl 0 rfl rfl (n - i) hm2.symm (by exact hsrc) (fun u hu=>hpv u (by rw [← hN] at hu; exact List.mem_of_mem_drop hu)) (by simp only [List.length_append]; show pre.length+(i+1) * 3+(n - i) * 3≤_; omega) (Nat.le_refl _) _ hspA _ rfl ?_
      refine sliceD tabOk rfl rfl rfl rfl i (n+1) cap ⟨_,rfl⟩ rfl rfl (.inl rfl) (by omega) ?_
      rw [hzk i cap (by omega)]
      refine copyS tabOk rfl rfl rfl rfl rfl rfl rfl 0 rfl rfl 1 (by omega) (by exact hwO.slC 1 rfl) hpw (by simp only [List.length_append]; show pre.length+i * 3+1 * 3≤_; omega) (Nat.le_refl _) _ hspB _ rfl ?_
      refine Done.mk ⟨_,Drop.pick [0] _ rfl,some ⟨bs,pre.length,none⟩,cap,_,rfl,⟨hres,by omega,.inr ⟨bs,pre,R,Ts,rfl,by simp only [List.append_nil,List.append_assoc]; rfl,by rw [hRl]⟩⟩,rfl,rfl⟩
    · refine sliceD tabOk rfl rfl rfl rfl i (n+1) cap ⟨_,rfl⟩ rfl rfl (.inl rfl) (by omega) ?_
      refine sliceD tabOk rfl rfl rfl rfl (i+1) (n+1) cap ⟨_,rfl⟩ rfl rfl (.inl rfl) (by omega) ?_
      rw [hzk (i+1) cap (by omega)]
      refine copyS tabOk rfl rfl rfl rfl rfl rfl rfl 0 rfl rfl (n - i) hm2.symm (by exact hsrc) (fun u hu=>hpv u (by rw [← hN] at hu; exact List.mem_of_mem_drop hu)) (by simp only [List.length_append]; show pre.length+(i+1) * 3+(n - i) * 3≤_; omega) (Nat.le_refl _) _ hspA _ rfl ?_
      refine sliceD tabOk rfl rfl rfl rfl i (n+1) cap ⟨_,rfl⟩ rfl rfl (.inl rfl) (by omega) ?_
      rw [hzk i cap (by omega)]
      refine copyS tabOk rfl rfl rfl rfl rfl rfl rfl 0 rfl rfl 1 (by omega) (by exact hwO.slC 1 rfl) hpw (by simp only [List.length_append]; show pre.length+i * 3+1 * 3≤_; omega) (Nat.le_refl _) _ hspB _ rfl ?_
      refine Done.mk ⟨_,Drop.pick [0] _ rfl,some ⟨bs,pre.length,none⟩,cap,_,rfl,⟨hres,by omega,.inr ⟨bs,pre,R,Ts,rfl,by simp only [List.append_nil,List.append_assoc]; rfl,by rw [hRl]⟩⟩,rfl,rfl⟩
set_option maxHeartbeats 1000000 in
theorem delete_xt {I:Imm} (a:Option Addr) (n cap:Nat) (vs:List Value) (ch:List Blk) (hown:OwnC ch 3 a n cap vs) (i:Nat) (hi:i < n) (hpv:∀ v ∈ vs,Plain v=true) (hn:n≤1000000) :
    Tri Tryz.prog 140 #[.slice a n cap,.int .i64 (i:Nat),.int .i64 (i+1:Nat)] I [ch] fun v J S' =>
      ∃ a' cap' ch',v=.slice a' (n - 1) cap'∧OwnC ch' 3 a' (n - 1) cap' (vs.take (i * 3)++vs.drop ((i+1) * 3))∧I=J∧S'=[ch']:=by
  have hle:=hown.le
  have hvl:=hown.n
  have hdl:(vs.drop ((i+1) * 3)).length=(n - (i+1)) * 3:=by rw [List.length_drop]; omega
  refine Tri.drop ?_ (fun _ _ _ _ h=>h)
  refine Tri.of (args:=[.slice a n cap,.int .i64 (i:Nat),.int .i64 (i+1:Nat)]) tabOk Tryz.func140 rfl (by kernel_rfl) (by kernel_rfl) ?_
  refine sliceD tabOk rfl rfl rfl rfl i (i+1) n ⟨_,rfl⟩ ⟨_,rfl⟩ ⟨_,rfl⟩ (.inr (by simp)) (by omega) ?_
  refine CmpD.no (by omega) ?_
  have hpart:=hown.part 0 i (by omega) (by omega)
  rw [Nat.sub_zero,Nat.sub_zero,Nat.zero_mul,List.drop_zero] at hpart
  have hsrc:=SlC.partG (I:=I) (S:=[ch]) (hown.slC 0 rfl) (i+1) n cap (by omega) (by omega) hle
  rw [List.take_of_length_le (by omega)] at hsrc
  have hroom:i+(n - (i+1))≤cap:=by omega
  have ei:i+(n - (i+1))=n - 1:=by omega
  have fin:∀ (ch':List Blk),OwnC ch' 3 (slAddr a 0 cap 3) (n - 1) cap (vs.take (i * 3)++vs.drop ((i+1) * 3))→∃ b pre post T,slAddr a 0 cap 3=some ⟨b,pre.length,none⟩∧ch'=[(b,row (pre++(vs.take (i * 3)++vs.drop ((i+1) * 3))++post) T)]∧post.length=(cap - (n - 1)) * 3:=by
    intro ch' h'
    rcases h'.at' with h0 | h0
    · omega
    · exact h0
  refine CodeF.schedT [[],[],[0,1],[],[],[3,4],[0,1,2,3,4,5],[0,1,2,3,4,5,6]] (.rd 0 (.rd 1 (.rd 3 (.rd 4 (.alt (.ef 2 (.ef 5 (.ef 6 (.rd 7 .nil)))) (.ef 5 (.ef 2 (.ef 6 (.rd 7 .nil))))))))) (by kernel_rfl) ?_
  refine And.intro ?_ ?_
  · refine sliceD tabOk rfl rfl rfl rfl 0 i cap rfl ⟨_,rfl⟩ rfl (.inl rfl) (by omega) ?_
    refine sliceD tabOk rfl rfl rfl rfl (i+1) n cap ⟨_,rfl⟩ rfl rfl (.inl rfl) (by omega) ?_
    refine appendR tabOk rfl rfl rfl rfl rfl rfl rfl 0 rfl (by exact hpart) (SrcOk.slice (n:=n - (i+1)) tabOk rfl (by exact hsrc) (fun u hu=>hpv u (List.mem_of_mem_drop hu))) rfl (by show _ * 24≤_; omega) (by omega) (by rw [Nat.sub_zero,Nat.sub_zero]; exact hroom) ?_
    intro ch' h'
    rw [Nat.sub_zero,Nat.sub_zero,ei] at h' ⊢
    obtain ⟨b,pre,post,T,ha,rfl,hp⟩:=fin ch' h'
    have ha':slAddr a 0 cap Tryz.t112.size=some ⟨b,pre.length,none⟩:=ha
    rw [ha']
    refine sliceD tabOk rfl rfl rfl rfl (n - 1) n cap ⟨_,rfl⟩ ⟨_,rfl⟩ rfl (.inl rfl) (by omega) ?_
    have hsa:slAddr (some ⟨b,pre.length,none⟩) (n - 1) cap Tryz.t112.size=some ⟨b,pre.length+(n - 1) * 3,none⟩:=slAddr_xt b pre.length (n - 1) cap (by omega)
    rw [hsa,show n - (n - 1)=1 by omega]
    have hM:(vs.take (i * 3)++vs.drop ((i+1) * 3)).length=(n - 1) * 3:=by rw [List.length_append,List.length_take,hdl]; omega
    generalize vs.take (i * 3)++vs.drop ((i+1) * 3)=M at *
    refine clearSlD tabOk rfl rfl rfl rfl rfl rfl rfl 0 rfl rfl (by decide) (by decide) (by simp only [List.length_append]; show pre.length+(n - 1) * 3+1 * 3≤_; omega) (Nat.le_refl _) ?_
    have hcl:∀ Z:List Value,Z.length=3→splice (pre++M++post) (pre.length+(n - 1) * 3) Z=pre++M++(Z++post.drop 3):=by
      intro Z hZ
      have h1:=splice_vxt pre M post Z [] (by omega)
      rw [hM,hZ] at h1
      simpa [List.append_assoc] using h1
    refine Done.mk ⟨_,Drop.pick [0] _ rfl,some ⟨b,pre.length,none⟩,cap,_,rfl,⟨hM,by omega,.inr ⟨b,pre,_,T,rfl,by rw [← hcl (rows 1 (Tryz.t112.zero.getD undef).cells.toList) (by rw [rows_length]; rfl)]; rfl,?_⟩⟩,rfl,rfl⟩
    rw [List.length_append,rows_length,List.length_drop]
    show 1 * 3+_=_
    omega
  · refine sliceD tabOk rfl rfl rfl rfl (i+1) n cap ⟨_,rfl⟩ rfl rfl (.inl rfl) (by omega) ?_
    refine sliceD tabOk rfl rfl rfl rfl 0 i cap rfl ⟨_,rfl⟩ rfl (.inl rfl) (by omega) ?_
    refine appendR tabOk rfl rfl rfl rfl rfl rfl rfl 0 rfl (by exact hpart) (SrcOk.slice (n:=n - (i+1)) tabOk rfl (by exact hsrc) (fun u hu=>hpv u (List.mem_of_mem_drop hu))) rfl (by show _ * 24≤_; omega) (by omega) (by rw [Nat.sub_zero,Nat.sub_zero]; exact hroom) ?_
    intro ch' h'
    rw [Nat.sub_zero,Nat.sub_zero,ei] at h' ⊢
    obtain ⟨b,pre,post,T,ha,rfl,hp⟩:=fin ch' h'
    have ha':slAddr a 0 cap Tryz.t112.size=some ⟨b,pre.length,none⟩:=ha
    rw [ha']
    refine sliceD tabOk rfl rfl rfl rfl (n - 1) n cap ⟨_,rfl⟩ ⟨_,rfl⟩ rfl (.inl rfl) (by omega) ?_
    have hsa:slAddr (some ⟨b,pre.length,none⟩) (n - 1) cap Tryz.t112.size=some ⟨b,pre.length+(n - 1) * 3,none⟩:=slAddr_xt b pre.length (n - 1) cap (by omega)
    rw [hsa,show n - (n - 1)=1 by omega]
    have hM:(vs.take (i * 3)++vs.drop ((i+1) * 3)).length=(n - 1) * 3:=by rw [List.length_append,List.length_take,hdl]; omega
    generalize vs.take (i * 3)++vs.drop ((i+1) * 3)=M at *
    refine clearSlD tabOk rfl rfl rfl rfl rfl rfl rfl 0 rfl rfl (by decide) (by decide) (by simp only [List.length_append]; show pre.length+(n - 1) * 3+1 * 3≤_; omega) (Nat.le_refl _) ?_
    have hcl:∀ Z:List Value,Z.length=3→splice (pre++M++post) (pre.length+(n - 1) * 3) Z=pre++M++(Z++post.drop 3):=by
      intro Z hZ
      have h1:=splice_vxt pre M post Z [] (by omega)
      rw [hM,hZ] at h1
      simpa [List.append_assoc] using h1
    refine Done.mk ⟨_,Drop.pick [0] _ rfl,some ⟨b,pre.length,none⟩,cap,_,rfl,⟨hM,by omega,.inr ⟨b,pre,_,T,rfl,by rw [← hcl (rows 1 (Tryz.t112.zero.getD undef).cells.toList) (by rw [rows_length]; rfl)]; rfl,?_⟩⟩,rfl,rfl⟩
    rw [List.length_append,rows_length,List.length_drop]
    show 1 * 3+_=_
    omega
end Go.Proofs.YtklbcpofihgmlaaGreat
namespace Go.Proofs.YtklbcpofihgmlaaGreat
open Go.RowKit Go.Sl
set_option maxRecDepth 20000
theorem nble {a b:Nat}:Nat.ble a b=true↔a≤b:=by rw [Nat.ble_eq]
theorem joins_ok (u v:Xt) (hu:XtOk 0 u) (hv:XtOk 0 v) (I:Imm):Tri Tryz.prog 139 #[xV u,xV v] I [] fun r J _=>r=.bool (joinsX u v)∧I=J:=by
  obtain ⟨a,s,c⟩:=u
  obtain ⟨a',s',c'⟩:=v
  obtain ⟨h1,h2,h3,h4,h5,h6⟩:=hu
  dsimp only at *
  refine Tri.of (args:=[.agg #[.int .i64 (a:Nat),.int .i64 (s:Nat),.int .i64 (c:Nat)],.agg #[.int .i64 (a':Nat),.int .i64 (s':Nat),.int .i64 (c':Nat)]]) tabOk Tryz.func139 rfl (by kernel_rfl) (by kernel_rfl) ?_
  conv=>whnf
  intro b
  conv=>whnf
  intro b1
  repeat (first | refine LoadD.own 0 rfl _ rfl rfl ?_)
  refine ToD.i64 (by omega) (by omega) ?_
  repeat (first | refine LoadD.own 1 rfl _ rfl rfl ?_)
  refine CmpD.split (fun c1=>?_) (fun c1=>?_)
  · repeat (first | refine LoadD.own 0 rfl _ rfl rfl ?_)
    refine ToD.i64 (by omega) (by omega) ?_
    repeat (first | refine LoadD.own 1 rfl _ rfl rfl ?_)
    refine CmpD.keep ?_
    refine Done.mk ⟨?_,rfl⟩
    have:decide ((s:Int)+(c:Int)=(s':Int))=joinsX ⟨a,s,c⟩ ⟨a',s',c'⟩:=by
      rw [Bool.eq_iff_iff,decide_eq_true_eq,joinsX_iff]
      show _↔a+c=a'∧s+c=s'; omega
    rw [this]; rfl
  · refine Done.mk ⟨?_,rfl⟩
    have:joinsX ⟨a,s,c⟩ ⟨a',s',c'⟩=false:=by
      rw [Bool.eq_false_iff]; intro h; have:=(joinsX_iff.1 h).1; dsimp only at this; omega
    rw [this]; rfl
theorem xtsV_take:∀ (l:List Xt) (k:Nat),(xtsV l).take (k * 3)=xtsV (l.take k)
  | [],k=>by simp [xtsV]
  | x :: l,0=>by simp [xtsV]
  | x :: l,k+1=>by
    have e:xtsV (x :: l)=xtV x++xtsV l:=by simp [xtsV]
    have e2:xtsV ((x :: l).take (k+1))=xtV x++xtsV (l.take k):=by simp [xtsV]
    rw [e,e2,← xtsV_take l k,List.take_append,List.take_of_length_le (by show 3≤_; omega)]
    congr 2
    show (k+1) * 3 - 3=_; omega
theorem xtsV_drop:∀ (l:List Xt) (k:Nat),(xtsV l).drop (k * 3)=xtsV (l.drop k)
  | [],k=>by simp [xtsV]
  | x :: l,0=>by simp [xtsV]
  | x :: l,k+1=>by
    have e:xtsV (x :: l)=xtV x++xtsV l:=by simp [xtsV]
    rw [List.drop_succ_cons,← xtsV_drop l k,e,show (k+1) * 3=3+k * 3 by omega,← List.drop_drop]; rfl
theorem joinAt_eq:∀ (j:Nat) (L:List Xt) {u v:Xt},L[j]?=some u→L[j+1]?=some v→joinAt j L=if joinsX u v=true then L.take j++mergeX u v :: L.drop (j+2) else L
  | 0,a :: b :: l,u,v,hu,hv=>by
    simp only [List.getElem?_cons_zero,Option.some.injEq,List.getElem?_cons_succ] at hu hv
    subst hu; subst hv
    rw [joinAt]
    cases joinsX a b <;> rfl
  | 0,[a],u,v,hu,hv=>by simp at hv
  | 0,[],u,v,hu,hv=>by simp at hu
  | j+1,[],u,v,hu,hv=>by simp at hu
  | j+1,a :: l,u,v,hu,hv=>by
    rw [joinAt,joinAt_eq j l (by simpa using hu) (by simpa using hv)]
    split <;> simp
theorem joinAt_short:∀ (j:Nat) (L:List Xt),L.length≤j+1→joinAt j L=L
  | 0,[],_=>rfl
  | 0,[a],_=>rfl
  | 0,a :: b :: l,h=>by simp at h
  | j+1,[],_=>rfl
  | j+1,a :: l,h=>by rw [joinAt,joinAt_short j l (by simpa using h)]
theorem first_idx {l:List Xt} {k:Nat} {i:Int} (h:FirstX (fun y=>decide (k≤y.at_)) l i):(i=idxX l k∧idxX l k < l.length)∨(i=-1∧idxX l k=l.length):=by
  induction l generalizing i with
  | nil =>
    rcases h with ⟨j,x,_,hx,_⟩ | ⟨rfl,_⟩
    · simp at hx
    · right; exact ⟨rfl,rfl⟩
  | cons y l ih =>
    rw [idxX]
    rcases h with ⟨j,x,rfl,hx,hp,hno⟩ | ⟨rfl,hno⟩
    · cases j with
      | zero =>
        simp only [List.getElem?_cons_zero,Option.some.injEq] at hx
        subst hx
        have:Nat.ble k y.at_=true:=nble.2 (of_decide_eq_true hp)
        left; rw [this]; exact ⟨rfl,by simp⟩
      | succ j =>
        have h0:=hno 0 y (by omega) rfl
        have:Nat.ble k y.at_=false:=by
          rw [Bool.eq_false_iff]; intro hb; rw [decide_eq_false_iff_not] at h0; exact h0 (nble.1 hb)
        rw [this]
        simp only [cond_false,List.length_cons]
        have:=ih (i:=(j:Int)) (.inl ⟨j,x,rfl,by simpa using hx,hp,fun j' y' hj hy=>hno (j'+1) y' (by omega) (by simpa using hy)⟩)
        rcases this with ⟨e,h⟩ | ⟨e,h⟩
        · left; exact ⟨by omega,by omega⟩
        · omega
    · have h0:=hno y (by simp)
      have:Nat.ble k y.at_=false:=by
        rw [Bool.eq_false_iff]; intro hb; rw [decide_eq_false_iff_not] at h0; exact h0 (nble.1 hb)
      rw [this]
      simp only [cond_false,List.length_cons]
      have:=ih (i:=-1) (.inr ⟨rfl,fun y' hy=>hno y' (by simp [hy])⟩)
      rcases this with ⟨e,h⟩ | ⟨e,h⟩
      · omega
      · right; exact ⟨trivial,by omega⟩
theorem add1 (b:Nat) (x y:Xt) (I:Imm) (S:St) (j:Nat) (hS:S[j]?=some [(b,row (xtV x) 112)]) :
    Tri Tryz.prog 137 #[xV y,.pointer (some ⟨b,0,none⟩)] I S fun v J S'=>v=.bool (decide (x.at_≤y.at_))∧I=J∧S'=S:=by
  obtain ⟨a,s,c⟩:=y
  have hlt:j < S.length:=by
    rcases Nat.lt_or_ge j S.length with g | g
    · exact g
    · rw [List.getElem?_eq_none g] at hS; cases hS
  refine Tri.drop ?_ (fun _ _ _ _ h=>h)
  refine Tri.of (args:=[.agg #[.int .i64 (a:Nat),.int .i64 (s:Nat),.int .i64 (c:Nat)],.pointer (some ⟨b,0,none⟩)]) tabOk Tryz.func137 rfl (by kernel_rfl) (by kernel_rfl) ?_
  conv=>whnf
  intro b2
  have hS2:(S++[[(b2,row [.int .i64 (a:Nat),.int .i64 (s:Nat),.int .i64 (c:Nat)] 112)]])[j]?=some [(b,row (xtV x) 112)]:=by rw [List.getElem?_append_left hlt]; exact hS
  refine LoadD.own S.length (last_get S _) _ rfl rfl ?_
  refine LoadD.own j hS2 _ rfl rfl ?_
  refine CmpD.keep ?_
  refine Done.mk ⟨_,Drop.init _ _,?_,rfl,rfl⟩
  have:decide ((a:Int) ≥ (x.at_:Int))=decide (x.at_≤a):=by apply decide_eq_decide.2; omega
  show resV [Value.bool (decide ((a:Int) ≥ (x.at_:Int)))]=_
  rw [this]; rfl
theorem insX_get (x:Xt) (l:List Xt):(insX l x)[idxX l x.at_]?=some x∧∀ j,j < idxX l x.at_→(insX l x)[j]?=l[j]?:=by
  have hle:=idxX_le x.at_ l
  rw [insX_eq]
  refine ⟨?_,fun j hj=>?_⟩
  · rw [List.getElem?_append_right (by rw [List.length_take]; omega),List.length_take,Nat.min_eq_left hle,Nat.sub_self]; rfl
  · rw [List.getElem?_append_left (by rw [List.length_take]; omega),List.getElem?_take_of_lt hj]
theorem set_merge {L:List Xt} {j:Nat} {u:Xt} (v:Xt) (hu:L[j]?=some u) (pre post:List Value) :
    splice (pre++xtsV L++post) (pre.length+j * 3+2) [.int .i64 (u.count+v.count:Nat)]=pre++xtsV (L.set j (mergeX u v))++post ∧
    (xtsV (L.set j (mergeX u v))).take ((j+1) * 3)++(xtsV (L.set j (mergeX u v))).drop ((j+1+1) * 3)=xtsV (L.take j++mergeX u v :: L.drop (j+2)):=by
  have hlt:j < L.length:=by
    rcases Nat.lt_or_ge j L.length with g | g
    · exact g
    · rw [List.getElem?_eq_none g] at hu; cases hu
  have hj:L[j]=u:=by rw [List.getElem?_eq_getElem hlt] at hu; exact Option.some.inj hu
  have hL:L=L.take j++u :: L.drop (j+1):=by rw [← hj,← List.drop_eq_getElem_cons hlt,List.take_append_drop]
  have hset:L.set j (mergeX u v)=L.take j++mergeX u v :: L.drop (j+1):=by rw [List.set_eq_take_append_cons_drop,if_pos hlt]
  refine ⟨?_,?_⟩
  · rw [hset]
    have e1:xtsV L=xtsV (L.take j)++(xtV u++xtsV (L.drop (j+1))):=by
      have:=congrArg xtsV hL
      rw [xtsV_append] at this
      rw [this]; simp [xtsV]
    have e2:xtsV (L.take j++mergeX u v :: L.drop (j+1))=xtsV (L.take j)++(xtV (mergeX u v)++xtsV (L.drop (j+1))):=by rw [xtsV_append]; simp [xtsV]
    have hl:(xtsV (L.take j)).length=j * 3:=by rw [xtsV_length,List.length_take,Nat.min_eq_left (by omega)]
    rw [e1,e2]
    generalize xtsV (L.take j)=A at *
    generalize xtsV (L.drop (j+1))=Z
    have h1:=splice_vxt pre (A++[.int .i64 (u.at_:Nat),.int .i64 (u.start:Nat)]) (.int .i64 (u.count:Nat) :: Z) [.int .i64 (u.count+v.count:Nat)] post (by simp)
    have e3:pre.length+(A++[Value.int .i64 (u.at_:Nat),.int .i64 (u.start:Nat)]).length=pre.length+j * 3+2:=by simp [hl]; omega
    rw [e3] at h1
    simpa [xtV,mergeX] using h1
  · rw [xtsV_take,xtsV_drop,← xtsV_append,hset]
    congr 1
    have ht:(L.take j).length=j:=by rw [List.length_take]; omega
    have a1:(L.take j++mergeX u v :: L.drop (j+1)).take (j+1)=L.take j++[mergeX u v]:=by
      rw [List.take_append,ht,List.take_of_length_le (by omega),show j+1 - j=1 by omega]; rfl
    have a2:(L.take j++mergeX u v :: L.drop (j+1)).drop (j+1+1)=L.drop (j+2):=by
      have h0:(L.take j).drop (j+1+1)=[]:=List.drop_eq_nil_of_le (by omega)
      rw [List.drop_append,ht,h0,show j+1+1 - j=2 by omega]; simp
    rw [a1,a2,List.append_assoc]; rfl
end Go.Proofs.YtklbcpofihgmlaaGreat
namespace Go.Proofs.YtklbcpofihgmlaaGreat
open Go.RowKit Go.Sl
set_option maxRecDepth 20000
theorem right_one {x:Xt} (h:XtOk 0 x):rightX 0 [x]=true:=rightX_cons.2 ⟨h,rfl⟩
theorem xtcell {L:List Xt} {j:Nat} {u:Xt} (hu:L[j]?=some u) (pre post:List Value):((pre++xtsV L++post).drop (pre.length+j * 3)).take 3=xtV u:=by
  have hlt:j < L.length:=by
    rcases Nat.lt_or_ge j L.length with g | g
    · exact g
    · rw [List.getElem?_eq_none g] at hu; cases hu
  have:=take_part (own_take pre (xtsV L) post) (i:=j * 3) (m:=3) (by rw [xtsV_length]; omega)
  rw [xts_at hu] at this
  exact this
theorem xtpart {c:List Value} {o:Nat} {u:Xt} (h:(c.drop o).take 3=xtV u) (i:Nat) (hi:i < 3):(c.drop (o+i)).take 1=((xtV u).drop i).take 1:=take_part h (by omega)
set_option maxHeartbeats 2000000 in
theorem extents_Add {I:Imm} (l:List Xt) (hr:rightX 0 l=true) (a:Option Addr) (n cap:Nat) (hn:l.length=n) (hn2:n≤100000) (hs:Rds I a (n * 3) (xtsV l)) (x:Xt) (hx:XtOk 0 x) (hno:∀ k,x.at_≤k→k < x.at_+x.count→findP l k=none) :
    Tri Tryz.prog 90 #[.slice a n cap,xV x] I [] fun v J S'=>∃ a' cap' ch,v=.tuple #[.slice a' (addP l x).length cap',.int .i64 0]∧OwnC ch 3 a' (addP l x).length cap' (xtsV (addP l x))∧I=J∧S'=[ch]:=by
  have hins:rightX 0 (insX l x)=true:=insX_right hr hx hno
  have hilen:=insX_length x l
  have hile:=idxX_le x.at_ l
  have hieq:=insX_eq x l
  have hget:=insX_get x l
  have hadd:0 < idxX l x.at_∧addP l x=joinAt (idxX l x.at_ - 1) (joinAt (idxX l x.at_) (insX l x))∨idxX l x.at_=0∧addP l x=joinAt (idxX l x.at_) (insX l x):=by
    unfold addP
    cases idxX l x.at_ with
    | zero=>right; exact ⟨rfl,rfl⟩
    | succ i=>left; exact ⟨by omega,rfl⟩
  obtain ⟨xa,xs,xc⟩:=x
  refine Tri.drop ?_ (fun _ _ _ _ h=>h)
  refine Tri.ofF (args:=[.slice a n cap,.agg #[.int .i64 (xa:Nat),.int .i64 (xs:Nat),.int .i64 (xc:Nat)]]) tabOk Tryz.func90 rfl (by kernel_rfl) (by kernel_rfl) ?_
  refine CodeF.stepD ?_
  conv=>whnf
  intro b3
  refine CodeF.stepD ?_
  refine Tri.free (super_Right (S:=[]) l hr a n cap hn (by omega) hs.slC) ?_
  rintro v J _ hJ ⟨rfl,rfl,-⟩
  repeat (first | refine LoadD.own 0 rfl _ rfl rfl ?_)
  conv=>whnf
  intro b13
  refine Tri.nf (super_Right [⟨xa,xs,xc⟩] (right_one hx) _ 1 1 rfl (by omega) ((OwnC.whole (len:=1) (size:=3) (b:=b13) (vs:=xtsV [⟨xa,xs,xc⟩]) rfl).slC 1 rfl)) ?_
  rintro v J _ hJ ⟨rfl,rfl,rfl⟩
  refine CodeF.stepD ?_
  refine Tri.nf (idx_find 137 [.pointer (some ⟨b3,0,none⟩)] (fun y=>decide (xa≤y.at_)) l a n cap hn (by omega) hs _ ?_) ?_
  · intro y hy
    exact add1 b3 ⟨xa,xs,xc⟩ y I _ 0 rfl
  rintro v J S' hJ ⟨k,rfl,hk,rfl,rfl⟩
  have hk:=first_idx hk
  dsimp only at hile hieq hget hadd
  generalize hi:idxX l xa=i at *
  refine CodeF.join [0,3,6] (fun vs J S'=>vs=[.slice a n cap,.pointer (some ⟨b3,0,none⟩),.int .i64 i]∧I=J∧S'=[[(b3,row (xtV ⟨xa,xs,xc⟩) 112)]]) ?_ ?_
  · refine CodeF.den ?_
    rcases hk with ⟨rfl,hlt⟩ | ⟨rfl,he⟩
    · refine CmpD.no (by omega) ?_
      exact ⟨_,Drop.pick [0] _ rfl,rfl,rfl,rfl⟩
    · refine CmpD.yes (by omega) ?_
      subst he
      rw [hn]
      exact ⟨_,Drop.pick [0] _ rfl,rfl,rfl,rfl⟩
  rintro vs gE J S' hJ ⟨rfl,rfl,rfl⟩
  have hclone:=clone_xts (I:=I) (S:=[[(b3,row (xtV ⟨xa,xs,xc⟩) 112)]]) (cap:=cap) hs.slC (xtsV_plain l) (by omega)
  have hinsC:∀ (aC:Option Addr) (capC:Nat) (chC:List Blk) (b28:Nat),OwnC chC 3 aC n capC (xtsV l)→_:=fun aC capC chC b28 h=>insert_xt (I:=I) aC n capC (xtsV l) chC h i (by omega) b28 (xtV ⟨xa,xs,xc⟩) rfl (xtsV_plain l) (xtV_plain _) (by omega)
  have hres:(xtsV l).take (i * 3)++xtV ⟨xa,xs,xc⟩++(xtsV l).drop (i * 3)=xtsV (insX l ⟨xa,xs,xc⟩):=by
    rw [hieq,xtsV_take,xtsV_drop,xtsV_append]; simp [xtsV]
  rw [hres] at hinsC
  generalize hL:insX l ⟨xa,xs,xc⟩=L at *
  refine CodeF.join [6,7] (fun vs J S'=>∃ (a':Option Addr) (cap':Nat) (ch:List Blk),vs=[.int .i64 i,.slice a' (n+1) cap']∧OwnC ch 3 a' (n+1) cap' (xtsV L)∧I=J∧S'=[ch]) ?_ ?_
  · refine CodeF.schedT [[],[0],[],[],[3],[0,1,2,3,4],[0,1,2,3,4,5]] (.rd 0 (.rd 2 (.rd 3 (.alt (.ef 1 (.ef 4 (.ef 5 (.rd 6 .nil)))) (.ef 4 (.ef 1 (.ef 5 (.rd 6 .nil)))))))) (by kernel_rfl) ?_
    repeat (first | refine LoadP.at 0 rfl _ rfl rfl ?_)
    refine And.intro ?_ ?_
    · refine Tri.nf hclone ?_
      rintro v J S' hJ ⟨aC,capC,chC,rfl,hchC,rfl,rfl⟩
      repeat (first | refine Chk.mk ⟨rfl,trivial⟩ ?_)
      conv=>whnf
      intro b28
      skip
      refine Tri.frameX (hinsC aC capC chC b28 hchC) [1,2] rfl rfl ?_
      rintro v J A' hJ ⟨a1,cap1,ch1,rfl,hch1,rfl,rfl⟩
      exact ⟨_,Drop.pick [3] _ rfl,a1,cap1,ch1,rfl,hch1,rfl,rfl⟩
    · conv=>whnf
      intro b28
      refine Tri.nf (clone_xts (I:=I) (cap:=cap) hs.slC (xtsV_plain l) (by omega)) ?_
      rintro v J S' hJ ⟨aC,capC,chC,rfl,hchC,rfl,rfl⟩
      repeat (first | refine Chk.mk ⟨rfl,trivial⟩ ?_)
      refine Tri.frameX (hinsC aC capC chC b28 hchC) [2,1] rfl rfl ?_
      rintro v J A' hJ ⟨a1,cap1,ch1,rfl,hch1,rfl,rfl⟩
      exact ⟨_,Drop.pick [3] _ rfl,a1,cap1,ch1,rfl,hch1,rfl,rfl⟩
  rintro vs gE J S' hJ ⟨a1,cap1,ch1,rfl,hch1,rfl,rfl⟩
  have hLl:L.length=n+1:=by rw [hilen,hn]
  refine CodeF.stepD ?_
  refine Tri.nf (super_Right L hins a1 (n+1) cap1 hLl (by omega) (by exact hch1.slC 0 rfl)) ?_
  rintro v J S' hJ ⟨rfl,rfl,rfl⟩
  refine CodeF.join [6,7] (fun vs J S'=>∃ (a':Option Addr) (cap':Nat) (ch:List Blk),vs=[.int .i64 i,.slice a' (joinAt i L).length cap']∧OwnC ch 3 a' (joinAt i L).length cap' (xtsV (joinAt i L))∧I=J∧S'=[ch]) ?_ ?_
  · refine CodeF.den ?_
    refine CodeF.sched [[],[0],[],[2],[0,1,2,3],[0,1,2,3,4],[0,1,2,3,4,5],[0,1,2,3,4,5],[0,1,2,3,4,5,6,7],[0,1,2,3,4,5,6,7,8],[0,1,2,3,4,5],[0,1,2,3,4,5],[0,1,2,3,4,5,11],[0,1,2,3,4,5,10,11,12],[0,1,2,3,4,5,10,11,12,13],[0,1,2,3,4,5,6,7,8,9,10,11,12,13,14],[0,1,2,3,4,5,6,7,8,9,10,11,12,13,14,15]] [0,1,2,3,4,5,6,7,8,9,10,11,12,13,14,15,16] (by kernel_rfl) ?_
    refine ToD.to ((i+1:Nat):Int) (by rw [wrap_i64 (by omega) (by omega)]; omega) ?_
    refine CmpD.split (fun c1=>?_) (fun c1=>?_)
    · have hle1:=hch1.le
      rcases hch1.at' with h0 | ⟨b,pre,post,T,rfl,rfl,hp⟩
      · omega
      obtain ⟨u,hu⟩:∃ u,L[i]?=some u:=⟨_,List.getElem?_eq_getElem (by omega)⟩
      obtain ⟨w,hw⟩:∃ w,L[i+1]?=some w:=⟨_,List.getElem?_eq_getElem (by omega)⟩
      have hj:=joinAt_eq i L hu hw
      have hcu:=xtcell hu pre post
      have hcw:=xtcell hw pre post
      have huo:=rightX_mem hins u (List.mem_of_getElem? hu)
      have hwo:=rightX_mem hins w (List.mem_of_getElem? hw)
      have ad:∀ (m:Nat) (k:Int),k=m→addOff pre.length k.toNat 3=pre.length+m * 3:=fun m k h=>by rw [h,Int.toNat_natCast,addOff_eq]
      refine Chk.mk (by omega) ?_
      refine LoadP.at 0 rfl (xtV u) (by show (List.drop (addOff pre.length _ 3) _).take 3=_; rw [ad i _ rfl]; exact hcu) rfl ?_
      refine ToD.to ((i+1:Nat):Int) (by rw [wrap_i64 (by omega) (by omega)]; omega) ?_
      refine Chk.mk (by omega) ?_
      refine LoadP.at 0 rfl (xtV w) (by show (List.drop (addOff pre.length _ 3) _).take 3=_; rw [ad (i+1) _ rfl]; exact hcw) rfl ?_
      skip
      refine Tri.free (joins_ok u w huo hwo I) ?_
      rintro v J _ hJ ⟨rfl,rfl⟩
      cases hjj:joinsX u w with
      | false =>
        rw [hjj] at hj
        have hj:joinAt i L=L:=hj
        rw [hj,hLl]
        exact ⟨_,Drop.refl _,some ⟨b,pre.length,none⟩,cap1,_,rfl,⟨by rw [xtsV_length,hLl],hle1,.inr ⟨b,pre,post,T,rfl,rfl,hp⟩⟩,rfl,rfl⟩
      | true =>
        rw [hjj,if_pos rfl] at hj
        obtain ⟨hm1,hm2⟩:=set_merge w hu pre post
        refine CodeF.sched [[],[],[0,1],[0,1,2],[0,1,2,3],[],[],[6],[5,6,7],[5,6,7,8],[5,6,7,8,9],[0,1,2,3,4,5,6,7,8,9,10],[0,1,2,3,4,5,6,7,8,9,10,11],[0,1,2,3,4,5,6,7,8,9,10,11,12],[0,1,2,3,4,5,6,7,8,9,10,11,12,13]] [0,1,2,3,4,5,6,7,8,9,10,11,12,13,14] (by kernel_rfl) ?_
        refine Chk.mk (by omega) ?_
        refine LoadP.at 0 rfl [.int .i64 (u.count:Nat)] (by show (List.drop (addOff pre.length _ 3+2) _).take 1=_; rw [ad i _ rfl]; exact xtpart hcu 2 (by omega)) rfl ?_
        refine ToD.to ((i+1:Nat):Int) (by rw [wrap_i64 (by omega) (by omega)]; omega) ?_
        refine Chk.mk (by omega) ?_
        refine LoadP.at 0 rfl [.int .i64 (w.count:Nat)] (by show (List.drop (addOff pre.length _ 3+2) _).take 1=_; rw [ad (i+1) _ rfl]; exact xtpart hcw 2 (by omega)) rfl ?_
        have q1:=huo.few; have q2:=hwo.few
        refine ToD.to ((u.count+w.count:Nat):Int) (by rw [wrap_i64 (by omega) (by omega)]; omega) ?_
        refine Chk.mk (by omega) ?_
        skip
        refine StoreD.to 0 rfl (pre++xtsV (L.set i (mergeX u w))++post) (by show splice _ (addOff pre.length _ 3+2) _=_; rw [ad i _ rfl]; exact hm1) (by show addOff pre.length _ 3+2+1≤_; rw [ad i _ rfl]; simp only [List.length_append,xtsV_length]; omega) (.inr (.inr (Nat.le_refl _))) _ rfl ?_
        refine ToD.to ((i+1:Nat):Int) (by rw [wrap_i64 (by omega) (by omega)]; omega) ?_
        refine ToD.to ((i+1+1:Nat):Int) (by rw [wrap_i64 (by omega) (by omega)]; omega) ?_
        refine Tri.nf (delete_xt (some ⟨b,pre.length,none⟩) (n+1) cap1 (xtsV (L.set i (mergeX u w))) _ ⟨by rw [xtsV_length,List.length_set,hLl],hle1,.inr ⟨b,pre,post,T,rfl,rfl,hp⟩⟩ (i+1) (by omega) (xtsV_plain _) (by omega)) ?_
        rintro v J S' hJ ⟨a5,cap5,ch5,rfl,hch5,rfl,rfl⟩
        rw [hm2,← hj] at hch5
        have e5:(joinAt i L).length=n+1 - 1:=by rw [hj]; simp only [List.length_append,List.length_take,List.length_cons,List.length_drop]; omega
        rw [e5]
        exact ⟨_,Drop.refl _,a5,cap5,ch5,rfl,hch5,rfl,rfl⟩
    · have hj:joinAt i L=L:=joinAt_short i L (by omega)
      rw [hj,hLl]
      exact ⟨_,Drop.refl _,a1,cap1,ch1,rfl,hch1,rfl,rfl⟩
  rintro vs gE J S' hJ ⟨a2,cap2,ch2,rfl,hch2,rfl,rfl⟩
  have hL2:rightX 0 (joinAt i L)=true:=joinAt_right i 0 L hins
  have hL2l:i < (joinAt i L).length:=by
    rcases Nat.lt_or_ge (i+1) L.length with g | g
    · obtain ⟨u,hu⟩:∃ u,L[i]?=some u:=⟨_,List.getElem?_eq_getElem (by omega)⟩
      obtain ⟨w,hw⟩:∃ w,L[i+1]?=some w:=⟨_,List.getElem?_eq_getElem (by omega)⟩
      rw [joinAt_eq i L hu hw]
      split
      · simp only [List.length_append,List.length_take,List.length_cons,List.length_drop]; omega
      · omega
    · rw [joinAt_short i L (by omega)]; omega
  have hL2n:(joinAt i L).length≤n+1:=by rw [← hLl]; exact joinAt_length i L
  clear hch1 hclone hinsC
  generalize joinAt i L=M at *
  refine CodeF.join [7] (fun vs J S'=>∃ (a':Option Addr) (cap':Nat) (ch:List Blk),vs=[.slice a' (addP l ⟨xa,xs,xc⟩).length cap']∧OwnC ch 3 a' (addP l ⟨xa,xs,xc⟩).length cap' (xtsV (addP l ⟨xa,xs,xc⟩))∧I=J∧S'=[ch]) ?_ ?_
  · refine CodeF.den ?_
    refine CodeF.sched [[],[0],[0,1],[0,1,2],[0,1,2],[0,1,2,4],[0,1,2,3,4,5],[0,1,2,3,4,5,6],[0,1,2],[0,1,2],[0,1,2,8,9],[0,1,2,8,9,10],[0,1,2,3,4,5,6,7,8,9,10,11],[0,1,2,3,4,5,6,7,8,9,10,11,12]] [0,1,2,3,4,5,6,7,8,9,10,11,12,13] (by kernel_rfl) ?_
    rcases hadd with ⟨hi0,hadd⟩ | ⟨hi0,hadd⟩
    · refine CmpD.yes (by omega) ?_
      have hle2:=hch2.le
      rcases hch2.at' with h0 | ⟨b,pre,post,T,rfl,rfl,hp⟩
      · omega
      obtain ⟨i,rfl⟩:∃ i',i=i'+1:=⟨i - 1,by omega⟩
      rw [Nat.add_sub_cancel] at hadd
      obtain ⟨u,hu⟩:∃ u,M[i]?=some u:=⟨_,List.getElem?_eq_getElem (by omega)⟩
      obtain ⟨w,hw⟩:∃ w,M[i+1]?=some w:=⟨_,List.getElem?_eq_getElem (by omega)⟩
      have hj:=joinAt_eq i M hu hw
      have hcu:=xtcell hu pre post
      have hcw:=xtcell hw pre post
      have huo:=rightX_mem hL2 u (List.mem_of_getElem? hu)
      have hwo:=rightX_mem hL2 w (List.mem_of_getElem? hw)
      have ad:∀ (m:Nat) (k:Int),k=m→addOff pre.length k.toNat 3=pre.length+m * 3:=fun m k h=>by rw [h,Int.toNat_natCast,addOff_eq]
      refine ToD.to ((i:Nat):Int) (by rw [wrap_i64 (by omega) (by omega)]; omega) ?_
      refine Chk.mk (by omega) ?_
      refine LoadP.at 0 rfl (xtV u) (by show (List.drop (addOff pre.length _ 3) _).take 3=_; rw [ad i _ rfl]; exact hcu) rfl ?_
      refine Chk.mk (by omega) ?_
      refine LoadP.at 0 rfl (xtV w) (by show (List.drop (addOff pre.length _ 3) _).take 3=_; rw [ad (i+1) _ rfl]; exact hcw) rfl ?_
      skip
      refine Tri.free (joins_ok u w huo hwo I) ?_
      rintro v J _ hJ ⟨rfl,rfl⟩
      cases hjj:joinsX u w with
      | false =>
        rw [hjj] at hj
        have hj:joinAt i M=M:=hj
        rw [hadd,hj]
        exact ⟨_,Drop.refl _,some ⟨b,pre.length,none⟩,cap2,_,rfl,⟨by rw [xtsV_length],hle2,.inr ⟨b,pre,post,T,rfl,rfl,hp⟩⟩,rfl,rfl⟩
      | true =>
        rw [hjj,if_pos rfl] at hj
        obtain ⟨hm1,hm2⟩:=set_merge w hu pre post
        refine CodeF.sched [[],[],[1],[0,1,2],[0,1,2,3],[0,1,2,3,4],[],[],[6,7],[6,7,8],[6,7,8,9],[0,1,2,3,4,5,6,7,8,9,10],[0,1,2,3,4,5,6,7,8,9,10,11],[0,1,2,3,4,5,6,7,8,9,10,11,12],[0,1,2,3,4,5,6,7,8,9,10,11,12,13]] [0,1,2,3,4,5,6,7,8,9,10,11,12,13,14] (by kernel_rfl) ?_
        refine ToD.to ((i:Nat):Int) (by rw [wrap_i64 (by omega) (by omega)]; omega) ?_
        refine Chk.mk (by omega) ?_
        refine LoadP.at 0 rfl [.int .i64 (u.count:Nat)] (by show (List.drop (addOff pre.length _ 3+2) _).take 1=_; rw [ad i _ rfl]; exact xtpart hcu 2 (by omega)) rfl ?_
        refine Chk.mk (by omega) ?_
        refine LoadP.at 0 rfl [.int .i64 (w.count:Nat)] (by show (List.drop (addOff pre.length _ 3+2) _).take 1=_; rw [ad (i+1) _ rfl]; exact xtpart hcw 2 (by omega)) rfl ?_
        have q1:=huo.few; have q2:=hwo.few
        refine ToD.to ((u.count+w.count:Nat):Int) (by rw [wrap_i64 (by omega) (by omega)]; omega) ?_
        refine Chk.mk (by omega) ?_
        skip
        refine StoreD.to 0 rfl (pre++xtsV (M.set i (mergeX u w))++post) (by show splice _ (addOff pre.length _ 3+2) _=_; rw [ad i _ rfl]; exact hm1) (by show addOff pre.length _ 3+2+1≤_; rw [ad i _ rfl]; simp only [List.length_append,xtsV_length]; omega) (.inr (.inr (Nat.le_refl _))) _ rfl ?_
        refine ToD.to ((i+1+1:Nat):Int) (by rw [wrap_i64 (by omega) (by omega)]; omega) ?_
        refine Tri.nf (delete_xt (some ⟨b,pre.length,none⟩) M.length cap2 (xtsV (M.set i (mergeX u w))) _ ⟨by rw [xtsV_length,List.length_set],hle2,.inr ⟨b,pre,post,T,rfl,rfl,hp⟩⟩ (i+1) (by omega) (xtsV_plain _) (by omega)) ?_
        rintro v J S' hJ ⟨a5,cap5,ch5,rfl,hch5,rfl,rfl⟩
        rw [hm2,← hj] at hch5
        have e5:(joinAt i M).length=M.length - 1:=by rw [hj]; simp only [List.length_append,List.length_take,List.length_cons,List.length_drop]; omega
        rw [hadd,e5]
        exact ⟨_,Drop.refl _,a5,cap5,ch5,rfl,hch5,rfl,rfl⟩
    · refine CmpD.no (by omega) ?_
      rw [hadd]
      exact ⟨_,Drop.refl _,a2,cap2,ch2,rfl,hch2,rfl,rfl⟩
  rintro vs gE J S' hJ ⟨a4,cap4,ch4,rfl,hch4,rfl,rfl⟩
  refine CodeF.den ?_
  exact Done.mk ⟨_,Drop.refl _,a4,cap4,ch4,rfl,hch4,rfl,rfl⟩
end Go.Proofs.YtklbcpofihgmlaaGreat
namespace Go.Proofs.YtklbcpofihgmlaaGreat
open Go.RowKit Go.Sl
set_option maxRecDepth 20000
variable {σ:Type} (sp:SpC Tryz.prog σ)
theorem all1 (b n st ct:Nat) (h:datB n≤st∧st+ct≤n) (hn:n≤512) (I:Imm) (S:St) (j:Nat) (hS:S[j]?=some [(b,row (layVn n).cells.toList 24)]) :
    Tri Tryz.prog 131 #[.int .i64 (st:Nat),.int .i64 (ct:Nat),.pointer (some ⟨b,0,none⟩)] I S fun v J S'=>v=.bool true∧I=J∧S'=S:=by
  refine Tri.of (args:=[.int .i64 (st:Nat),.int .i64 (ct:Nat),.pointer (some ⟨b,0,none⟩)]) tabOk Tryz.func131 rfl (by kernel_rfl) (by kernel_rfl) ?_
  refine LoadD.own j hS _ rfl rfl ?_
  refine CmpD.yes (by omega) ?_
  refine ToD.i64 (by omega) (by omega) ?_
  refine LoadD.own j hS _ rfl rfl ?_
  refine CmpD.yes (by omega) ?_
  exact Done.mk ⟨rfl,rfl,rfl⟩
theorem all2 (b b9 n:Nat) (y:Xt) (h:datB n≤y.start∧y.start+y.count≤n) (hn:n≤512) (I:Imm) (S:St) (j j9:Nat) (hS:S[j]?=some [(b,row (layVn n).cells.toList 24)])
    {T:TypeId} (hS9:S[j9]?=some [(b9,row [.func (.func 131) #[] #[.pointer (some ⟨b,0,none⟩)]] T)]) :
    Tri Tryz.prog 135 #[xV y,.pointer (some ⟨b9,0,none⟩)] I S fun v J S'=>v=.bool false∧I=J∧S'=S:=by
  obtain ⟨a,s,c⟩:=y
  have lt:∀ {k:Nat} {x:List Blk},S[k]?=some x→k < S.length:=by
    intro k x hk
    rcases Nat.lt_or_ge k S.length with g | g
    · exact g
    · rw [List.getElem?_eq_none g] at hk; cases hk
  refine Tri.drop ?_ (fun _ _ _ _ h=>h)
  refine Tri.of (args:=[.agg #[.int .i64 (a:Nat),.int .i64 (s:Nat),.int .i64 (c:Nat)],.pointer (some ⟨b9,0,none⟩)]) tabOk Tryz.func135 rfl (by kernel_rfl) (by kernel_rfl) ?_
  conv=>whnf
  intro b2
  refine LoadD.own j9 (by rw [List.getElem?_append_left (lt hS9)]; exact hS9) _ rfl rfl ?_
  refine LoadD.own S.length (last_get S _) _ rfl rfl ?_
  refine LoadD.own S.length (last_get S _) _ rfl rfl ?_
  refine (all1 b n s c h hn I _ j (by rw [List.getElem?_append_left (lt hS)]; exact hS)).mono ?_
  rintro v J S' hJ ⟨rfl,rfl,rfl⟩
  exact Done.mk ⟨_,Drop.init _ _,rfl,rfl,rfl⟩
theorem ext_few {n:Nat} {V:Bs} {f:Fi} (h:FiOk n V f):f.ext.length≤253:=nodeL_of h
theorem cont_find {I:Imm} (g:FuncId) (caps:List Value) (l:List Xt) (a:Option Addr) (len cap:Nat) (hll:l.length=len) (hlen:len≤1000000) (hs:Rds I a (len * 3) (xtsV l)) (S:St)
    (hg:∀ x ∈ l,Tri Tryz.prog g (xV x :: caps).toArray I S fun v J S'=>v=.bool false∧I=J∧S'=S) :
    Tri Tryz.prog 134 #[.slice a len cap,.func (.func g) #[] caps.toArray] I S fun v J S'=>v=.bool false∧I=J∧S'=S:=by
  refine Tri.of (args:=[.slice a len cap,.func (.func g) #[] caps.toArray]) tabOk Tryz.func134 rfl (by kernel_rfl) (by kernel_rfl) ?_
  refine (idx_find g caps (fun _=>false) l a len cap hll hlen hs S hg).mono ?_
  rintro v J S' hJ ⟨k,rfl,⟨i,x,rfl,hx,hp,-⟩ | ⟨rfl,-⟩,rfl,rfl⟩
  · cases hp
  · refine CmpD.no (by decide) ?_
    exact Done.mk ⟨rfl,rfl,rfl⟩
set_option maxHeartbeats 1000000 in
theorem extents_All (hn:64≤sp.n∧sp.n≤512) {I:Imm} {c:List Blk} {s:σ} (hR:sp.R s I c) {f:Fi} (hf:FiOk sp.n (sp.blk s) f) (a:Option Addr) (cap:Nat) (hd:Rds I a (f.direct.length * 3) (xtsV f.direct)) :
    Tri Tryz.prog 88 #[sp.v,layVn sp.n,inoV f a cap] I [c] fun v J S'=>∃ c' s',sp.R s' J c'∧sp.rd s s'∧S'=[c'] ∧
      ((∃ e,e≠0∧sp.can e∧v=.tuple #[.slice none 0 0,.int .i64 e])∨(∃ a' cap',v=.tuple #[.slice a' f.ext.length cap',.int .i64 0]∧Rds J a' (f.ext.length * 3) (xtsV f.ext)∧f.ext.length≤cap')):=by
  have hio:=hf.iok hn.2
  have hfew:=ext_few hf
  have hnode:=hf.node
  have hnode0:=hf.node0
  have hrng:=hf.rng
  have hr:=hf.right
  have hwr:=fun I=>extents_wrong sp hn (I:=I) f hio a cap
  have hdl:f.direct=f.ext.take 3:=rfl
  have hL:=layN_range hn
  unfold inoV at *
  generalize f.direct=d at *
  generalize hE:f.ext=ext at *
  refine Tri.drop ?_ (fun _ _ _ _ h=>h)
  refine Tri.ofF (args:=[sp.v,layVn sp.n,.agg #[.int .u8 (f.kind:Nat),.int .i64 (f.links:Nat),.int .i64 (f.size:Nat),.slice a d.length cap,.int .i64 (f.node:Nat)]]) tabOk Tryz.func88 rfl (by kernel_rfl) (by kernel_rfl) ?_
  refine CodeF.stepD ?_
  conv=>whnf
  intro b4
  conv=>whnf
  intro b5
  refine CodeF.stepD ?_
  repeat (first | refine LoadD.own 1 rfl _ rfl rfl ?_ | refine LoadD.own 2 rfl _ rfl rfl ?_)
  refine Tri.free (hwr I hd) ?_
  rintro v J _ hJ ⟨rfl,rfl⟩
  repeat (first | refine CmpD.yes rfl ?_)
  refine CodeF.stepD ?_
  conv=>whnf
  intro b9
  repeat (first | refine StoreD.st 3 rfl rfl rfl ?_)
  refine CodeF.stepD ?_
  repeat (first | refine LoadD.own 2 rfl _ rfl rfl ?_)
  refine Tri.nf (clone_xts (hd.slC) (xtsV_plain d) (by rw [hdl,List.length_take]; omega)) ?_
  rintro v J S' hJ ⟨aC,capC,chC,rfl,hchC,rfl,rfl⟩
  refine CodeF.join [9,10] (fun vs J S'=>(∃ c' s' a' cap' ch',sp.R s' J c'∧sp.rd s s'∧vs=[.pointer (some ⟨b9,0,none⟩),.slice a' ext.length cap']∧OwnC ch' 3 a' ext.length cap' (xtsV ext) ∧
      S'=[c',[(b4,row (layVn sp.n).cells.toList 24)],[(b9,row [.func (.func 131) #[] #[.pointer (some ⟨b4,0,none⟩)]] 187)],ch'])) ?_ ?_
  · refine CodeF.den ?_
    repeat (first | refine LoadD.own 2 rfl _ rfl rfl ?_)
    refine CmpD.split (fun c1=>?_) (fun c1=>?_)
    · have he:=hnode0.1 (by omega)
      have hde:d=ext:=by rw [hdl,List.take_of_length_le he]
      subst hde
      exact ⟨_,Drop.pick [0,1,3,4] _ rfl,c,s,aC,capC,chC,hR,sp.rd_refl s,rfl,hchC,rfl⟩
    · obtain ⟨h1,h2,h3⟩:=hnode (by omega)
      have hdl3:d.length=3:=by
        have:¬ ext.length≤3:=fun h=>(by omega:f.node≠0) (hnode0.2 h)
        rw [hdl,List.length_take]; omega
      repeat (first | refine LoadD.own 2 rfl _ rfl rfl ?_ | refine LoadD.own 3 rfl _ rfl rfl ?_)
      refine (all1 b4 sp.n f.node 1 ⟨h1,by omega⟩ hn.2 I _ 1 rfl).mono ?_
      rintro v J S' hJ ⟨rfl,rfl,rfl⟩
      repeat (first | refine LoadD.own 2 rfl _ rfl rfl ?_)
      refine invokeD rfl rfl rfl sp.lrd rfl ?_
      refine Tri.frame (sp.read f.node hR h2) [0] rfl rfl ?_
      rintro v J A' hJ ⟨c',s',hR',hrd,⟨e,he,hcan,rfl,rfl⟩ | ⟨aN,capN,chN,rfl,hchN,rfl⟩⟩
      · refine ⟨by simp,?_⟩
        refine CmpD.no he ?_
        refine Done.mk ⟨_,Drop.pick [0] _ rfl,c',s',hR',hrd,rfl,.inl ⟨e,he,hcan,rfl⟩⟩
      refine ⟨by simp,?_⟩
      rw [h3] at hchN
      repeat (first | refine CmpD.yes rfl ?_)
      refine Tri.fix 5 rfl fun I1 hI1 hfx1=>?_
      have hrest:(ext.drop 3).length=ext.length - 3:=by rw [List.length_drop]
      refine Tri.free (super_GetNode (ext.drop 3) (ext.length - 3) hrest (by omega) (by
        have:=hr
        rw [← List.take_append_drop 3 ext,rightX_append] at this
        exact rightX_mono (Nat.zero_le _) this.2) aN capN (Rds.of_own hchN hfx1)) ?_
      rintro v J2 _ hJ2 ⟨aM,capM,rfl,hrM⟩
      repeat (first | refine CmpD.yes rfl ?_)
      refine CmpD.no (by omega) ?_
      skip
      refine CmpD.yes (by omega) ?_
      skip
      rw [hdl3] at hchC ⊢
      refine appendD tabOk rfl rfl rfl rfl rfl rfl rfl 4 rfl hchC (SrcOk.slice (n:=ext.length - 3) (news:=xtsV (ext.drop 3)) tabOk rfl (hrM.slC) (xtsV_plain _)) rfl (by show _ * 24≤_; omega) (by omega) ?_
      intro aF capF chF hchF
      have e1:3+(ext.length - 3)=ext.length:=by
        have:¬ ext.length≤3:=fun h=>(by omega:f.node≠0) (hnode0.2 h)
        omega
      have e2:xtsV d++xtsV (ext.drop 3)=xtsV ext:=by rw [hdl,← xtsV_append,List.take_append_drop]
      rw [e1,e2] at hchF
      rw [e1]
      exact ⟨_,Drop.pick [0,1,3,4] _ rfl,c',s',aF,capF,chF,sp.up hR' (Imm.le_trans hI1 hJ2),hrd,rfl,hchF,rfl⟩
  rintro vs gE J S' hJ ⟨c',s',a',cap',ch',hR',hrd,rfl,hch',rfl⟩
  refine CodeF.fixD 3 rfl fun I1 hI1 hfx1=>?_
  have hre:=Rds.of_ownS hch' hfx1
  refine CodeF.den ?_
  refine Tri.free (super_Right (S:=[]) ext hr a' ext.length cap' rfl (by omega) hre.slC) ?_
  rintro v J2 _ hJ2 ⟨rfl,rfl,-⟩
  skip
  refine Tri.nf (cont_find 135 [.pointer (some ⟨b9,0,none⟩)] ext a' ext.length cap' rfl (by omega) hre _ ?_) ?_
  · intro y hy
    exact all2 b4 b9 sp.n y (hrng y hy) hn.2 I1 _ 1 2 rfl rfl
  rintro v J2 S' hJ2 ⟨rfl,rfl,rfl⟩
  skip
  refine Done.mk ⟨_,Drop.pick [0] _ rfl,c',s',sp.up hR' hI1,hrd,rfl,.inr ⟨a',cap',rfl,hre,hch'.le⟩⟩
end Go.Proofs.YtklbcpofihgmlaaGreat
namespace Go.Proofs.YtklbcpofihgmlaaGreat
open Go.RowKit Go.Sl
set_option maxRecDepth 20000
theorem keepU_node {n:Nat} {V:Bs} {used:List Bool} (hb:BtOk n V used) {node:Nat} {all:List Xt} {u:List Bool} {m:Nat} (h:keepU used node all=some (u,m)) (hn:node≠0→datB n≤node∧node < n) :
    (m=0↔all.length≤3)∧(m≠0→datB n≤m∧m < n):=by
  have hd0:0 < datB n:=by unfold datB; omega
  unfold keepU at h
  split at h
  · rename_i hl
    simp only [Option.some.injEq,Prod.mk.injEq] at h
    obtain ⟨-,rfl⟩:=h
    exact ⟨⟨fun _=>hl,fun _=>rfl⟩,fun h=>absurd rfl h⟩
  · rename_i hl
    split at h
    · cases ha:allocP 1 used 1 with
      | none=>rw [ha] at h; cases h
      | some r =>
        obtain ⟨u1,xs⟩:=r
        rw [ha] at h
        cases xs with
        | nil=>cases h
        | cons x xs =>
          simp only [Option.some.injEq,Prod.mk.injEq] at h
          obtain ⟨-,rfl⟩:=h
          have hF:=(allocP_ok 1 used 1 (by omega)).1 u1 (x :: xs) ha
          obtain ⟨p1,p2,p3⟩:=hF.pos x (by simp)
          have hx:=p3 x.1 (by omega) (by omega)
          have:¬ x.1 < datB n:=by intro hlt; rw [hb.front _ hlt] at hx; cases hx
          rw [hb.len] at p2
          refine ⟨⟨fun e=>by omega,fun e=>absurd e hl⟩,fun _=>⟨by omega,by omega⟩⟩
    · rename_i hnd
      simp only [Option.some.injEq,Prod.mk.injEq] at h
      obtain ⟨-,rfl⟩:=h
      exact ⟨⟨fun e=>absurd e hnd,fun e=>absurd e hl⟩,hn⟩
theorem keepV_zero {n:Nat} {V:Bs} {u:List Bool} {all:List Xt}:keepV n V u 0 all=upd V (bitsB n) (bitsL u):=by
  funext j
  unfold keepV upd
  by_cases h:j=bitsB n
  · rw [if_pos h,if_pos h]
  · rw [if_neg h,if_neg h,if_neg (by simp)]
theorem keepV_some {n:Nat} {V:Bs} {u:List Bool} {m:Nat} {all:List Xt} (hm:m≠0) (hb:m≠bitsB n):keepV n V u m all=upd (upd V (bitsB n) (bitsL u)) m (nodeL (all.drop 3)):=by
  funext j
  unfold keepV upd
  by_cases h:j=m
  · rw [if_pos h,if_neg (by omega),if_pos ⟨hm,h⟩]
  · rw [if_neg h]
    by_cases h2:j=bitsB n
    · rw [if_pos h2,if_pos h2]
    · rw [if_neg h2,if_neg h2,if_neg (by intro hh; exact h hh.2)]
theorem upd_upd (V:Bs) (i:Nat) (d d':List UInt8):upd (upd V i d) i d'=upd V i d':=by
  funext j
  unfold upd
  split <;> rfl
variable {σ:Type} (sp:SpC Tryz.prog σ)
def inoC (f:Fi) (a:Option Addr) (n cap m:Nat):List Value:=[.int .u8 (f.kind:Nat),.int .i64 (f.links:Nat),.int .i64 (f.size:Nat),.slice a n cap,.int .i64 (m:Nat)]
set_option maxHeartbeats 2000000 in
theorem extents_Keep (hn:64≤sp.n∧sp.n≤512) (hW:∀ e,¬ sp.canW e) {I:Imm} {c:List Blk} {s:σ} (hR:sp.R s I c) {used:List Bool} (hb:BtOk sp.n (sp.blk s) used) (f:Fi) (hf:IOk f) (hk:f.kind≠0) (a:Option Addr) (cap:Nat) (hd:Rds I a (f.direct.length * 3) (xtsV f.direct))
    (hnode:f.node≠0→datB sp.n≤f.node∧f.node < sp.n∧used[f.node]?=some true) (all:List Xt) (hr:rightX 0 all=true) (hall:all.length≤253) (aA:Option Addr) (capA:Nat) (hA:Rds I aA (all.length * 3) (xtsV all)) (hcA:all.length≤capA) (hroom:3≤sp.room s) :
    Tri Tryz.prog 91 #[sp.v,layVn sp.n,inoV f a cap,.slice aA all.length capA] I [c] fun v J S'=>∃ c' s',sp.R s' J c'∧S'=[c'] ∧
      ((∃ e,e≠0∧sp.rd s s'∧(sp.can e∨e=230∧keepU used f.node all=none)∧v=.tuple #[.agg noIno.toArray,.int .i64 e]) ∨
       (∃ u m a' cap',keepU used f.node all=some (u,m)∧sp.To s s'∧sp.blk s'=keepV sp.n (sp.blk s) u m all∧v=.tuple #[inoV { f with node:=m,ext:=all } a' cap',.int .i64 0]∧Rds J a' ((all.take 3).length * 3) (xtsV (all.take 3)))):=by
  have hL:=layN_range hn
  have hbs:=hb.bits
  have hVself:upd (sp.blk s) (bitsB sp.n) (bitsL used)=sp.blk s:=by rw [← hbs,upd_self]
  have hwr:=fun I=>extents_wrong sp hn (I:=I) f hf a cap
  have hkn:=fun (u:List Bool) (m:Nat) (h:keepU used f.node all=some (u,m))=>keepU_node hb h (fun h=>⟨(hnode h).1,(hnode h).2.1⟩)
  generalize hN:f.node=node at *
  unfold inoV at *
  generalize f.direct=d at *
  rw [hN] at hwr
  refine Tri.drop ?_ (fun _ _ _ _ h=>h)
  refine Tri.ofF (args:=[sp.v,layVn sp.n,.agg #[.int .u8 (f.kind:Nat),.int .i64 (f.links:Nat),.int .i64 (f.size:Nat),.slice a d.length cap,.int .i64 (f.node:Nat)],.slice aA all.length capA]) tabOk Tryz.func91 rfl (by kernel_rfl) (by kernel_rfl) ?_
  rw [hN]
  refine CodeF.stepD ?_
  conv=>whnf
  intro b5
  conv=>whnf
  intro b6
  conv=>whnf
  intro b8
  refine CodeF.stepD ?_
  repeat (first | refine LoadD.own 1 rfl _ rfl rfl ?_ | refine LoadD.own 2 rfl _ rfl rfl ?_)
  refine Tri.free (hwr I hd) ?_
  rintro v J _ hJ ⟨rfl,rfl⟩
  repeat (first | refine CmpD.yes rfl ?_)
  refine CodeF.stepD ?_
  repeat (first | refine LoadD.own 2 rfl _ rfl rfl ?_)
  refine CmpD.no (by omega) ?_
  refine Tri.free (super_Right (S:=[]) all hr aA all.length capA rfl (by omega) hA.slC) ?_
  rintro v J _ hJ ⟨rfl,rfl,-⟩
  refine CmpD.no (by omega) ?_
  refine CodeF.stepD ?_
  obtain ⟨k3,hk3⟩:∃ k3,k3=min all.length 3:=⟨_,rfl⟩
  refine ToD.to ((k3:Nat):Int) (by split <;> omega) ?_
  refine CodeF.join [0,3,5,6,8,11] (fun vs J S'=>∃ (c1:List Blk) (s1:σ) (u1:List Bool) (m1:Nat),sp.R s1 J c1∧I.le J∧sp.To s s1∧sp.room s≤sp.room s1+1∧sp.blk s1=upd (sp.blk s) (bitsB sp.n) (bitsL u1)∧(all.length≤3→keepU used node all=some (u1,0)∧m1=0)∧(3 < all.length→u1=used∧m1=node∧sp.rd s s1) ∧
      vs=[sp.v,.slice aA all.length capA,.pointer (some ⟨b5,0,none⟩),.pointer (some ⟨b6,0,none⟩),.pointer (some ⟨b8,0,none⟩),.int .i64 k3] ∧
      S'=[c1,[(b5,row (layVn sp.n).cells.toList 24)],[(b6,row (inoC f a d.length cap m1) 77)],[(b8,row noIno 77)]]) ?_ ?_
  · refine CodeF.den ?_
    refine CmpD.split (fun c1=>?_) (fun c1=>?_)
    · repeat (first | refine LoadD.own 2 rfl _ rfl rfl ?_)
      refine CmpD.split (fun c2=>?_) (fun c2=>?_)
      · exact ⟨_,Drop.refl _,c,s,used,0,hR,I.le_refl,.refl s,by omega,hVself.symm,fun h=>⟨by unfold keepU; rw [if_pos h,if_pos (by omega)],rfl⟩,fun h=>by omega,rfl,by rw [show node=0 by omega]; rfl⟩
      · obtain ⟨q1,q2,q3⟩:=hnode (by omega)
        repeat (first | refine LoadD.own 1 rfl _ rfl rfl ?_ | refine LoadD.own 2 rfl _ rfl rfl ?_)
        refine Tri.frame (bits_Free sp hn hR hb node 1 q1 (by omega) (by omega) (fun i h1 h2=>by rw [show i=node by omega]; exact q3) (by omega)) [0] rfl rfl ?_
        rintro v J A' hJ ⟨c1,s1,hR1,rfl,⟨e,he,hrd,hcan,rfl⟩ | ⟨s2,hrd,hwr2,rfl⟩⟩
        · refine ⟨by simp,?_⟩
          refine CmpD.no he ?_
          repeat (first | refine LoadD.own 3 rfl _ rfl rfl ?_ | refine StoreD.st 3 rfl rfl rfl ?_)
          refine Done.mk ⟨_,Drop.pick [0] _ rfl,c1,s1,hR1,rfl,.inl ⟨e,he,hrd,.inl (hcan.resolve_right (hW e)),rfl⟩⟩
        · refine ⟨by simp,?_⟩
          repeat (first | refine StoreD.st 2 rfl rfl rfl ?_ | refine CmpD.yes rfl ?_)
          exact ⟨_,Drop.refl _,c1,s1,clearP node 1 used,0,hR1,hJ,.wr (.rd hrd) hwr2,by have:=sp.wr_room hwr2; have:=sp.rd_room hrd; omega,by rw [sp.wr_blk hwr2,sp.rd_blk hrd],fun h=>⟨by unfold keepU; rw [if_pos h,if_neg (by omega)],rfl⟩,fun h=>by omega,rfl,rfl⟩
    · exact ⟨_,Drop.refl _,c,s,used,node,hR,I.le_refl,.refl s,by omega,hVself.symm,fun h=>by omega,fun h=>⟨rfl,rfl,sp.rd_refl s⟩,rfl,rfl⟩
  rintro vs gE J S' hJ ⟨c1,s1,u1,m1,hR1,hJ1,hto1,hrm1,hblk1,hle3,hgt3,rfl,rfl⟩
  refine CodeF.join [0,3,5,6,8,11] (fun vs J S'=>∃ (c1:List Blk) (s1:σ) (u1:List Bool) (m1:Nat),sp.R s1 J c1∧I.le J∧sp.To s s1∧sp.room s≤sp.room s1+2∧sp.blk s1=upd (sp.blk s) (bitsB sp.n) (bitsL u1)∧keepU used node all=some (u1,m1) ∧
      vs=[sp.v,.slice aA all.length capA,.pointer (some ⟨b5,0,none⟩),.pointer (some ⟨b6,0,none⟩),.pointer (some ⟨b8,0,none⟩),.int .i64 k3] ∧
      S'=[c1,[(b5,row (layVn sp.n).cells.toList 24)],[(b6,row (inoC f a d.length cap m1) 77)],[(b8,row noIno 77)]]) ?_ ?_
  · refine CodeF.den ?_
    refine CmpD.split (fun d1=>?_) (fun d1=>?_)
    · obtain ⟨rfl,rfl,hrd1⟩:=hgt3 (by omega)
      repeat (first | refine LoadD.own 2 rfl _ rfl rfl ?_)
      refine CmpD.split (fun d2=>?_) (fun d2=>?_)
      · have hb1:BtOk sp.n (sp.blk s1) u1:=⟨by rw [hblk1,upd_same],hb.len,hb.front⟩
        repeat (first | refine LoadD.own 1 rfl _ rfl rfl ?_)
        refine Tri.frame (bits_Alloc sp hn hR1 hb1 1 (by omega) (by omega)) [0] rfl rfl ?_
        rintro v J2 A' hJ2 ⟨c2,s2,hR2,rfl,⟨e,he,hrd,hcan,rfl⟩ | ⟨aX,capX,u,xs,s3,hal,hrd,hwr2,rfl,hrX⟩⟩
        · refine ⟨by simp,?_⟩
          refine CmpD.no he ?_
          repeat (first | refine LoadD.own 3 rfl _ rfl rfl ?_ | refine StoreD.st 3 rfl rfl rfl ?_)
          refine Done.mk ⟨_,Drop.pick [0] _ rfl,c2,s2,hR2,rfl,.inl ⟨e,he,sp.rd_trans hrd1 hrd,?_,rfl⟩⟩
          rcases hcan with h | h | ⟨h1,h2⟩
          · exact .inl h
          · exact absurd h (hW e)
          · right; refine ⟨h1,?_⟩
            unfold keepU; rw [if_neg (by omega),if_pos (by omega),h2]
        · refine ⟨by simp,?_⟩
          have hF:=(allocP_ok 1 u1 1 (by omega)).1 u xs hal
          cases xs with
          | nil=>have:=hF.sum; simp at this
          | cons x xs =>
            rcases hrX.mem with h0 | ⟨bX,oX,cX,TX,fX,rfl,hIX,hcX⟩
            · simp at h0
            repeat (first | refine CmpD.yes rfl ?_)
            refine Chk.mk (by simp only [List.length_cons]; omega) ?_
            refine LoadD.imm hIX [.int .i64 (x.1:Nat)] (take_get hcX (i:=1) (by simp [xtsV,xtV,holX])) rfl ?_
            repeat (first | refine StoreD.st 2 rfl rfl rfl ?_)
            exact ⟨_,Drop.refl _,c2,s2,u,x.1,hR2,Imm.le_trans hJ1 hJ2,(hto1.more hrd).wr hwr2,by have:=sp.wr_room hwr2; have:=sp.rd_room hrd; omega,by rw [sp.wr_blk hwr2,sp.rd_blk hrd,hblk1]; exact upd_upd _ _ _ _,by unfold keepU; rw [if_neg (by omega),if_pos (by omega),hal],rfl,rfl⟩
      · exact ⟨_,Drop.refl _,c1,s1,u1,m1,hR1,hJ1,hto1,by omega,hblk1,by unfold keepU; rw [if_neg (by omega),if_neg (by omega)],rfl,rfl⟩
    · obtain ⟨k1,rfl⟩:=hle3 (by omega)
      exact ⟨_,Drop.refl _,c1,s1,u1,0,hR1,hJ1,hto1,by omega,hblk1,k1,rfl,rfl⟩
  clear hle3 hgt3 hblk1 hto1 hR1 hJ1 hrm1
  rintro vs gE J S' hJ ⟨c1,s1,u1,m1,hR1,hJ1,hto1,hrm1,hblk1,hkeep,rfl,rfl⟩
  obtain ⟨hm0,hmr⟩:=hkn u1 m1 hkeep
  have hA:=hA.mono hJ1
  refine CodeF.stepD ?_
  refine sliceD tabOk rfl rfl rfl rfl 0 k3 capA rfl ⟨_,rfl⟩ rfl (.inl rfl) (by omega) ?_
  have hp1:=Rds.partG (size:=3) hA 0 k3 capA (by omega) (by omega) (by omega)
  have e1:((xtsV all).drop (0 * 3)).take ((k3 - 0) * 3)=xtsV (all.take 3):=by
    rw [Nat.zero_mul,List.drop_zero,Nat.sub_zero,xtsV_take]
    congr 1
    rcases Nat.lt_or_ge all.length 3 with g | g
    · rw [List.take_of_length_le (by omega),List.take_of_length_le (by omega)]
    · congr 1; omega
  have e2:(all.take 3).length=k3:=by rw [List.length_take]; omega
  rw [e1,Nat.sub_zero] at hp1
  rw [Nat.sub_zero,Nat.sub_zero]
  refine Tri.nf (clone_xts (by exact hp1.slC) (xtsV_plain _) (by omega)) ?_
  rintro v J2 S' hJ2 ⟨aC,capC,chC,rfl,hchC,rfl,rfl⟩
  repeat (first | refine StoreD.st 2 rfl rfl rfl ?_)
  refine CodeF.fixD 4 rfl fun I1 hI1 hfx1=>?_
  have hrC:=Rds.of_ownS hchC hfx1
  refine CodeF.den ?_
  repeat (first | refine LoadD.own 2 rfl _ rfl rfl ?_)
  refine CmpD.split (fun d1=>?_) (fun d1=>?_)
  · obtain rfl:m1=0:=by omega
    repeat (first | refine LoadD.own 2 rfl _ rfl rfl ?_ | refine LoadD.own 3 rfl _ rfl rfl ?_ | refine StoreD.st 3 rfl rfl rfl ?_)
    refine Done.mk ⟨_,Drop.pick [0] _ rfl,c1,s1,sp.up hR1 hI1,rfl,.inr ⟨u1,0,aC,capC,hkeep,hto1,by rw [keepV_zero]; exact hblk1,?_,by rw [e2]; exact hrC⟩⟩
    show _=Value.tuple #[.agg #[.int .u8 (f.kind:Nat),.int .i64 (f.links:Nat),.int .i64 (f.size:Nat),.slice aC (all.take 3).length capC,.int .i64 (0:Nat)],.int .i64 0]
    rw [e2]; rfl
  · have hgt:3 < all.length:=by
      rcases Nat.lt_or_ge 3 all.length with g | g
      · exact g
      · exact absurd (hm0.2 g) (by omega)
    obtain ⟨r1,r2⟩:=hmr (by omega)
    have ek3:k3=3:=by omega
    subst ek3
    refine sliceD tabOk rfl rfl rfl rfl 3 all.length capA ⟨_,rfl⟩ rfl rfl (.inl rfl) (by omega) ?_
    have hp2:=Rds.partG (size:=3) (hA.mono hI1) 3 all.length capA (by omega) (by omega) (by omega)
    have e3:((xtsV all).drop (3 * 3)).take ((all.length - 3) * 3)=xtsV (all.drop 3):=by
      rw [xtsV_drop,List.take_of_length_le (by rw [xtsV_length,List.length_drop]; omega)]
    rw [e3] at hp2
    have hrd3:rightX 0 (all.drop 3)=true:=by
      have:=hr
      rw [← List.take_append_drop 3 all,rightX_append] at this
      exact rightX_mono (Nat.zero_le _) this.2
    have e4:(all.drop 3).length=all.length - 3:=List.length_drop ..
    refine Tri.nf (Tri.frameX (super_PutNode (all.drop 3) (all.length - 3) e4 (by omega) hrd3 _ (capA - 3) hp2) [] rfl rfl (K:=fun v J S'=>∃ a' cap' ch',v=.tuple #[.slice a' 4096 cap',.int .i64 0]∧OwnB ch' a' 4096 cap' (nodeL (all.drop 3))∧I1=J ∧
      S'=[c1,[(b5,row (layVn sp.n).cells.toList 24)],[(b6,row [.int .u8 (f.kind:Nat),.int .i64 (f.links:Nat),.int .i64 (f.size:Nat),.slice aC 3 capC,.int .i64 (m1:Nat)] 77)],[(b8,row noIno 77)],[],ch']) ?_) ?_
    · rintro v J A' hJ ⟨a',cap',ch',rfl,hch',rfl,rfl⟩
      exact ⟨a',cap',ch',rfl,hch',rfl,rfl⟩
    rintro v J S' hJ ⟨aP,capP,chP,rfl,hchP,rfl,rfl⟩
    repeat (first | refine LoadD.own 2 rfl _ rfl rfl ?_)
    refine invokeD rfl rfl rfl sp.lwr rfl ?_
    refine Tri.fix 5 rfl fun I2 hI2 hfx2=>?_
    refine Tri.frame (sp.write m1 (cap:=capP) (sp.up hR1 (Imm.le_trans hI1 hI2)) (by omega) (by omega) (nodeL_length (by omega)) (Rds.of_own hchP hfx2)) [0] rfl rfl ?_
    rintro v J3 A' hJ3 ⟨c2,s2,rfl,hR2,⟨e,he,hcan,hrd2,rfl⟩ | ⟨rfl,hwr2⟩⟩
    · exact absurd hcan (hW e)
    refine ⟨by simp,?_⟩
    repeat (first | refine LoadD.own 2 rfl _ rfl rfl ?_ | refine LoadD.own 3 rfl _ rfl rfl ?_ | refine StoreD.st 3 rfl rfl rfl ?_ | refine CmpD.yes rfl ?_)
    refine Done.mk ⟨_,Drop.pick [0] _ rfl,c2,s2,hR2,rfl,.inr ⟨u1,m1,aC,capC,hkeep,hto1.wr hwr2,by rw [keepV_some (by omega) (by omega),sp.wr_blk hwr2,hblk1],?_,by rw [e2]; exact hrC.mono (Imm.le_trans hI2 hJ3)⟩⟩
    show _=Value.tuple #[.agg #[.int .u8 (f.kind:Nat),.int .i64 (f.links:Nat),.int .i64 (f.size:Nat),.slice aC (all.take 3).length capC,.int .i64 (m1:Nat)],.int .i64 0]
    rw [e2]; rfl
end Go.Proofs.YtklbcpofihgmlaaGreat
namespace Go.Proofs
open Go.Shelf
def Tryz.lays189_ren:Go.Shelf.Ren:=⟨fun | 189=>110 | 125=>150 | 257=>149 | 128=>174 | 129=>175 | 294=>165 | 295=>166 | 296=>167 | 297=>168 | 298=>169 | 299=>170 | 216=>171 | 300=>172 | 301=>173 | 328=>183 | 329=>184 | 330=>185 | 331=>186 | 332=>187 | 215=>188 | 343=>190 | n=>n,fun | 28=>34 | 3=>3 | 46=>114 | 0=>0 | 51=>167 | 53=>113 | 4=>4 | 183=>219 | 182=>218 | 131=>87 | 5=>5 | 9=>9 | 218=>228 | 222=>232 | 228=>235 | 229=>236 | n=>n,fun | n=>n⟩
theorem Tryz.lays189:Go.Proofs.Lays.n189 Tryz.prog Tryz.lays189_ren:={
  mixed:=by kernel_rfl
  f125:=Tryz.func150.trans (congrArg some (by kernel_rfl))
  f128:=Tryz.func174.trans (congrArg some (by kernel_rfl))
  f129:=Tryz.func175.trans (congrArg some (by kernel_rfl))
  f189:=Tryz.func110.trans (congrArg some (by kernel_rfl))
  f215:=Tryz.func188.trans (congrArg some (by kernel_rfl))
  f216:=Tryz.func171.trans (congrArg some (by kernel_rfl))
  f257:=Tryz.func149.trans (congrArg some (by kernel_rfl))
  f294:=Tryz.func165.trans (congrArg some (by kernel_rfl))
  f295:=Tryz.func166.trans (congrArg some (by kernel_rfl))
  f296:=Tryz.func167.trans (congrArg some (by kernel_rfl))
  f297:=Tryz.func168.trans (congrArg some (by kernel_rfl))
  f298:=Tryz.func169.trans (congrArg some (by kernel_rfl))
  f299:=Tryz.func170.trans (congrArg some (by kernel_rfl))
  f300:=Tryz.func172.trans (congrArg some (by kernel_rfl))
  f301:=Tryz.func173.trans (congrArg some (by kernel_rfl))
  f328:=Tryz.func183.trans (congrArg some (by kernel_rfl))
  f329:=Tryz.func184.trans (congrArg some (by kernel_rfl))
  f330:=Tryz.func185.trans (congrArg some (by kernel_rfl))
  f331:=Tryz.func186.trans (congrArg some (by kernel_rfl))
  f332:=Tryz.func187.trans (congrArg some (by kernel_rfl))
  f343:=Tryz.func190.trans (congrArg some (by kernel_rfl))
  t0:=Tryz.underlying0
  a0:=Tryz.isAgg0
  z0:=Tryz.sizeOf0
  v0:=Tryz.zeroValue0
  t3:=Tryz.underlying3
  a3:=Tryz.isAgg3
  z3:=Tryz.sizeOf3
  v3:=Tryz.zeroValue3
  t4:=Tryz.underlying4
  a4:=Tryz.isAgg4
  z4:=Tryz.sizeOf4
  v4:=Tryz.zeroValue4
  t5:=Tryz.underlying5
  a5:=Tryz.isAgg5
  z5:=Tryz.sizeOf5
  v5:=Tryz.zeroValue5
  t9:=Tryz.underlying9
  a9:=Tryz.isAgg9
  z9:=Tryz.sizeOf9
  v9:=Tryz.zeroValue9
  t28:=Tryz.underlying34
  a28:=Tryz.isAgg34
  z28:=Tryz.sizeOf34
  v28:=Tryz.zeroValue34
  t46:=Tryz.underlying114
  a46:=Tryz.isAgg114
  z46:=Tryz.sizeOf114
  v46:=Tryz.zeroValue114
  t51:=Tryz.underlying167
  a51:=Tryz.isAgg167
  z51:=Tryz.sizeOf167
  v51:=Tryz.zeroValue167
  t53:=Tryz.underlying113
  a53:=Tryz.isAgg113
  z53:=Tryz.sizeOf113
  v53:=Tryz.zeroValue113
  t131:=Tryz.underlying87
  a131:=Tryz.isAgg87
  z131:=Tryz.sizeOf87
  v131:=Tryz.zeroValue87
  t182:=Tryz.underlying218
  a182:=Tryz.isAgg218
  z182:=Tryz.sizeOf218
  v182:=Tryz.zeroValue218
  t183:=Tryz.underlying219
  a183:=Tryz.isAgg219
  z183:=Tryz.sizeOf219
  v183:=Tryz.zeroValue219
  t218:=Tryz.underlying228
  a218:=Tryz.isAgg228
  z218:=Tryz.sizeOf228
  v218:=Tryz.zeroValue228
  t222:=Tryz.underlying232
  a222:=Tryz.isAgg232
  z222:=Tryz.sizeOf232
  v222:=Tryz.zeroValue232
  t228:=Tryz.underlying235
  a228:=Tryz.isAgg235
  z228:=Tryz.sizeOf235
  v228:=Tryz.zeroValue235
  t229:=Tryz.underlying236
  a229:=Tryz.isAgg236
  z229:=Tryz.sizeOf236
  v229:=Tryz.zeroValue236 }
open Go.Sort Go.RowKit in
theorem Tryz.slices_Sort_int (blk off cap:Nat) (zs:List Int) (w:World) (hH:Holds (Value.int .i64) w blk off zs.toArray) (hblk:blk < w.heap.size) (hsz:zs.length < 4611686018427387904) :
    Calls Tryz.prog 110 #[.slice (some ⟨blk,off,none⟩) zs.length cap] w fun e w' =>
      e=.returned (.tuple #[])∧∃ n os,w'=grow (putRow (Value.int .i64) (Sort.ahead w n) blk off (zs.mergeSort fun x y=>decide (x≤y)).toArray) os:=Any.slices_Sort_int Tryz.lays189 blk off cap zs w hH hblk hsz
open Go.RowKit Go.Sort in
theorem Tryz.slices_Sort_int_none (p:Option Addr) (cap:Nat) (w:World) :
    Calls Tryz.prog 110 #[.slice p 0 cap] w fun e w'=>e=.returned (.tuple #[])∧w'=w:=Any.slices_Sort_int_none Tryz.lays189 p cap w
end Go.Proofs
namespace Go.Proofs.YtklbcpofihgmlaaGreat
open Go.RowKit Go.Sl
set_option maxRecDepth 20000
theorem nodup_len {α:Type} [DecidableEq α]:∀ (l m:List α),l.Nodup→(∀ x ∈ l,x ∈ m)→l.length≤m.length
  | [],_,_,_=>by simp
  | x :: l,m,h,hs=>by
    have hx:=hs x (by simp)
    rw [List.nodup_cons] at h
    have h1:=nodup_len l (m.erase x) h.2 (fun y hy=>(List.mem_erase_of_ne (by rintro rfl; exact h.1 hy)).2 (hs y (by simp [hy])))
    rw [List.length_erase_of_mem hx] at h1
    have h2:0 < m.length:=List.length_pos_of_mem hx
    rw [List.length_cons]; omega
theorem keys_of (r:Nat) (I:Imm) (S:St):Tri Tryz.prog 144 #[.map (some r)] I S fun v J S'=>∃ b,v=.func (.func 164) #[] #[.pointer (some ⟨b,0,none⟩)]∧I=J∧S'=S++[[(b,row [.map (some r)] 144)]]:=by
  refine Tri.of (args:=[.map (some r)]) tabOk Tryz.func144 rfl (by kernel_rfl) (by kernel_rfl) ?_
  conv=>whnf
  intro b
  exact Done.mk ⟨b,rfl,rfl,rfl⟩
@[reducible] def keyBox (b r:Nat):List Blk:=[(b,row [.map (some r)] 144)]
theorem keys_it (b r:Nat) (ob:Obj) (l:List (Int × Value)) (hM:MapR ob l) (I:Imm) :
    SeqG Tryz.prog 164 #[.pointer (some ⟨b,0,none⟩)] I [keyBox b r,[(r,ob)]] (σ:=List Int) [] (fun s xs s'=>∃ n,xs=[.int .i64 n]∧n ∉ s∧n ∈ l.map Prod.fst∧s'=s++[n])
      (fun s _ R=>s.Nodup∧(∀ n,n ∈ s↔n ∈ l.map Prod.fst)∧R=[[(r,ob)]]) (fun _ R=>R=[[(r,ob)]]):=by
  intro lp inv stp J c hJ hY h0
  refine Tri.drop ?_ (fun _ _ _ _ h=>h)
  refine Tri.of (args:=[.func (.yield lp) #[] #[],.pointer (some ⟨b,0,none⟩)]) tabOk Tryz.func164 rfl (by kernel_rfl) (by kernel_rfl) ?_
  refine LoadD.own 1 rfl [.map (some r)] rfl rfl ?_
  refine rangeMapD tabOk rfl rfl rfl 2 rfl hM ?_
  intro bi it0 hI0
  refine CodeF.loopD [0,5] (fun vs J' S'=>∃ (s:List Int) (c':List Blk) (it:Obj),s.Nodup∧(∀ n ∈ s,n ∈ l.map Prod.fst)∧IterR r ob it s∧inv s J' c'∧J.le J'∧vs=[.func (.yield lp) #[] #[],.pointer (some ⟨bi,0,none⟩)]∧S'=[c',keyBox b r,[(r,ob)],[(bi,it)]])
    (fun _ _ S'=>match S' with | [_,_,_,[(_,.mapIter _ _ sb _)]]=>l.length+1 - sb.size | _=>0) ?_ ?_
  · exact ⟨_,Drop.refl _,[],c,it0,by simp,by simp,hI0,h0,J.le_refl,rfl,rfl⟩
  rintro vs g J' S' hJ' ⟨s,c',it,hnd,hsub,hI,hinv,hJJ,rfl,rfl⟩
  have hsz:∀ it s,IterR r ob it s→∃ a q sb t,it=.mapIter a q sb t∧sb.size=s.length:=by
    rintro it s ⟨es,clk,sb,c0,ms,_,rfl,_,_,h1,_,h2⟩
    refine ⟨_,_,_,_,rfl,?_⟩
    have h3:=congrArg List.length h1
    have h4:=congrArg List.length h2
    simp only [List.length_map,Array.length_toList] at h3 h4
    omega
  refine nextMapD rfl rfl 2 3 rfl rfl hM hI ?_ ?_
  · intro hall
    refine Done.mk ⟨[c',[(r,ob)]],Drop.pick [0,2] _ rfl,c',_,rfl,.inl ⟨s,⟨hnd,fun n=>⟨hsub n,fun hn=>?_⟩,rfl⟩,hinv⟩⟩
    obtain ⟨p,hp,rfl⟩:=List.mem_map.1 hn
    exact hall p hp
  · intro n v it' hmem hns hI'
    refine entryMapD rfl rfl 2 3 rfl rfl hM hI' ?_
    intro v' hv'
    have hnk:n ∈ l.map Prod.fst:=List.mem_map.2 ⟨(n,v),hmem,rfl⟩
    refine yieldD rfl rfl rfl (args:=#[.int .i64 n]) rfl 0 rfl (hY s [.int .i64 n] (s++[n]) J' c' hJJ ⟨n,rfl,hns,hnk,rfl⟩ hinv) ?_
    have hnd2:(s++[n]).Nodup:=by
      rw [List.nodup_append]
      refine ⟨hnd,by simp,?_⟩
      intro a ha b' hb' hab
      simp only [List.mem_singleton] at hb'
      subst hb'; subst hab; exact hns ha
    have hsub2:∀ m ∈ s++[n],m ∈ l.map Prod.fst:=by
      intro m hm
      rcases List.mem_append.1 hm with hm | hm
      · exact hsub m hm
      · simp only [List.mem_singleton] at hm; subst hm; exact hnk
    rintro bb J2 c2 hle (⟨rfl,hi2⟩ | ⟨rfl,hs2⟩)
    · refine ⟨_,Drop.refl _,⟨s++[n],c2,it',hnd2,hsub2,hI',hi2,Imm.le_trans hJJ hle,rfl,rfl⟩,?_⟩
      obtain ⟨a1,q1,sb1,t1,rfl,e1⟩:=hsz _ _ hI
      obtain ⟨a2,q2,sb2,t2,rfl,e2⟩:=hsz _ _ hI'
      show l.length+1 - sb2.size < l.length+1 - sb1.size
      have h5:(s++[n]).length≤(l.map Prod.fst).length:=nodup_len _ _ hnd2 hsub2
      rw [List.length_append,List.length_map,List.length_singleton] at h5
      rw [List.length_append,List.length_singleton] at e2
      omega
    · exact Done.mk ⟨[c2,[(r,ob)]],Drop.pick [0,2] _ rfl,c2,_,rfl,.inr ⟨hs2,rfl⟩⟩
theorem appendSeq_keys (b r:Nat) (ob:Obj) (l:List (Int × Value)) (hM:MapR ob l) (hl:l.length≤1000000) (I:Imm) :
    Tri Tryz.prog 182 #[.slice none 0 0,.func (.func 164) #[] #[.pointer (some ⟨b,0,none⟩)]] I [keyBox b r,[(r,ob)]] fun v J S' =>
      ∃ a cap ch s,v=.slice a s.length cap∧OwnC ch 1 a s.length cap (ints s)∧s.Nodup∧(∀ n,n ∈ s↔n ∈ l.map Prod.fst)∧I.le J∧S'=[[(r,ob)],ch]:=by
  refine Tri.drop ?_ (fun _ _ _ _ h=>h)
  refine Tri.of (args:=[.slice none 0 0,.func (.func 164) #[] #[.pointer (some ⟨b,0,none⟩)]]) tabOk Tryz.func182 rfl (by kernel_rfl) (by kernel_rfl) ?_
  conv=>whnf
  intro b2
  refine CodeF.rangeG rfl [[(b2,row [.slice none 0 0] 34)],[]] [keyBox b r,[(r,ob)]] ((Drop.pick [2,0,1] _ rfl).trans (Drop.flat (by simp [St.at]))) (keys_it b r ob l hM I) (by rintro s xs s' ⟨n,rfl,_⟩; rfl)
    (fun s J' S'=>∃ (a:Option Addr) (cap:Nat) (ch:List Blk),s.Nodup∧(∀ n ∈ s,n ∈ l.map Prod.fst)∧S'=[[(b2,row [.slice a s.length cap] 34)],ch]∧OwnC ch 1 a s.length cap (ints s)∧I.le J')
    (fun _ _ _=>False) ⟨none,0,[],by simp,by simp,rfl,OwnC.nil _ _,I.le_refl⟩ ?round ?done ?stop
  case round =>
    rintro s xs s' J' S' hJ' ⟨n,rfl,hns,hnk,rfl⟩ ⟨a,cap,ch,hnd,hsub,rfl,hown,hle⟩
    have hnd2:(s++[n]).Nodup:=by
      rw [List.nodup_append]
      refine ⟨hnd,by simp,?_⟩
      intro a ha b' hb' hab
      simp only [List.mem_singleton] at hb'
      subst hb'; subst hab; exact hns ha
    have hsub2:∀ m ∈ s++[n],m ∈ l.map Prod.fst:=by
      intro m hm
      rcases List.mem_append.1 hm with hm | hm
      · exact hsub m hm
      · simp only [List.mem_singleton] at hm; subst hm; exact hnk
    have h5:(s++[n]).length≤(l.map Prod.fst).length:=nodup_len _ _ hnd2 hsub2
    rw [List.length_append,List.length_map,List.length_singleton] at h5
    repeat (first | refine LoadD.own 0 rfl _ rfl rfl ?_)
    conv=>whnf
    intro bN
    refine appendD tabOk rfl rfl rfl rfl rfl rfl rfl 1 rfl hown (SrcOk.slice (n:=1) (news:=ints [n]) tabOk rfl ((OwnC.whole (len:=1) (size:=1) rfl).slC 2 rfl) (ints_plain _)) rfl (by show (s.length+1) * 8≤_; omega) (by omega) ?_
    intro a2 cap2 ch2 hown2
    repeat (first | refine StoreD.st 0 rfl rfl rfl ?_)
    refine ⟨_,Drop.pick [0,1] _ rfl,a2,cap2,ch2,hnd2,hsub2,?_,?_,hle⟩
    · rw [List.length_append]; rfl
    · rw [List.length_append]; unfold ints at *; rw [List.map_append]; exact hown2
  case done =>
    rintro s J' S' R hJ' ⟨hnd,hall,rfl⟩ ⟨a,cap,ch,_,_,rfl,hown,hle⟩
    repeat (first | refine LoadD.own 0 rfl _ rfl rfl ?_)
    exact Done.mk ⟨[[(r,ob)],ch],Drop.pick [2,1] _ rfl,a,cap,ch,s,rfl,hown,hnd,hall,hle,rfl⟩
  case stop =>
    rintro e J' S' R hJ' hs _
    exact hs.elim
theorem collect_keys (b r:Nat) (ob:Obj) (l:List (Int × Value)) (hM:MapR ob l) (hl:l.length≤1000000) (I:Imm) :
    Tri Tryz.prog 163 #[.func (.func 164) #[] #[.pointer (some ⟨b,0,none⟩)]] I [keyBox b r,[(r,ob)]] fun v J S' =>
      ∃ a cap ch s,v=.slice a s.length cap∧OwnC ch 1 a s.length cap (ints s)∧s.Nodup∧(∀ n,n ∈ s↔n ∈ l.map Prod.fst)∧I.le J∧S'=[[(r,ob)],ch]:=by
  refine Tri.of (args:=[.func (.func 164) #[] #[.pointer (some ⟨b,0,none⟩)]]) tabOk Tryz.func163 rfl (by kernel_rfl) (by kernel_rfl) ?_
  refine Tri.mono (appendSeq_keys b r ob l hM hl I) ?_
  rintro v J S' hJ ⟨a,cap,ch,s,rfl,h1,h2,h3,h4,rfl⟩
  exact Done.mk ⟨a,cap,ch,s,rfl,h1,h2,h3,h4,rfl⟩
end Go.Proofs.YtklbcpofihgmlaaGreat
namespace Go.Proofs.YtklbcpofihgmlaaGreat
open Go.RowKit Go.Sl
set_option maxRecDepth 20000
def sortI (l:List Int):List Int:=l.mergeSort fun x y=>decide (x≤y)
theorem sortI_perm (l:List Int):(sortI l).Perm l:=List.mergeSort_perm _ _
theorem putCells_mid (pre post:List Value) (zs:List Int) (cs:List Value) (hc:cs.length=zs.length) :
    (Go.Sort.putCells (Value.int .i64) pre.length zs.toArray (pre++cs++post).toArray).toList=pre++ints zs++post:=by
  apply List.ext_getElem?
  intro j
  simp only [Go.Sort.putCells,Array.toList_mapIdx,List.getElem?_mapIdx,List.size_toArray]
  have hil:(ints zs).length=zs.length:=by simp [ints]
  have e:∀ ds:List Value,ds.length=zs.length→∀ i,(pre++ds++post)[i]?=if i < pre.length then pre[i]? else if i - pre.length < zs.length then ds[i - pre.length]? else post[i - pre.length - zs.length]?:=by
    intro ds hd i
    rw [List.append_assoc]
    split
    · rename_i h; rw [List.getElem?_append_left h]
    · rename_i h
      rw [List.getElem?_append_right (by omega)]
      split
      · rename_i h2; rw [List.getElem?_append_left (by omega)]
      · rename_i h2; rw [List.getElem?_append_right (by omega),hd]
  rw [e cs hc,e (ints zs) hil]
  by_cases h1:j < pre.length
  · rw [if_pos h1,if_pos h1,List.getElem?_eq_getElem h1]
    simp only [Option.map_some]
    rw [if_neg (by omega)]
  · rw [if_neg h1,if_neg h1]
    by_cases h2:j - pre.length < zs.length
    · rw [if_pos h2,if_pos h2,List.getElem?_eq_getElem (by omega),List.getElem?_eq_getElem (by omega)]
      simp only [Option.map_some]
      rw [if_pos (by omega)]
      simp [ints,h2]
    · rw [if_neg h2,if_neg h2]
      cases hp:post[j - pre.length - zs.length]? with
      | none=>rfl
      | some v =>
        simp only [Option.map_some]
        rw [if_neg (by omega)]
theorem Has_grow {w:World} {I:Imm} {L:List Blk} (os:Array Obj) (h:Has w I L):Has (Go.Sort.grow w os) I L:=by
  have old:∀ (b:Nat) (x:Obj),w.heap[b]?=some x→(Go.Sort.grow w os).heap[b]?=some x:=fun b x hb=>by
    show (w.heap++os)[b]?=_
    rw [Array.getElem?_append_left (lt_of_some hb)]; exact hb
  exact ⟨fun b o hb=>old _ _ (h.imm b o hb),fun x hx=>old _ _ (h.mem x hx),h.nodup,h.disj⟩
theorem sort_ints {I:Imm} {S:St} (k:Nat) {ch:List Blk} (hk:S[k]?=some ch) {a:Option Addr} {len cap:Nat} {zs:List Int} (hown:OwnC ch 1 a len cap (ints zs)) (hlen:len≤1000000000) :
    Tri Tryz.prog 110 #[.slice a len cap] I S fun v J S'=>I=J∧v=.tuple #[]∧∃ ch',OwnC ch' 1 a len cap (ints (sortI zs))∧S'=S.set k ch':=by
  have hzl:zs.length=len:=by have:=hown.len1; simpa [ints] using this
  have hlt:k < S.length:=by
    rcases Nat.lt_or_ge k S.length with g | g
    · exact g
    · rw [List.getElem?_eq_none g] at hk; cases hk
  have same:S.set k ch=S:=by
    apply List.ext_getElem?
    intro j
    by_cases hj:k=j
    · subst hj; rw [List.getElem?_set_self hlt,hk]
    · rw [List.getElem?_set_ne hj]
  refine ⟨fun w F hw=>?_,fun w F hw=>?_⟩
  · simp [callFunc,Tryz.func110]
    kernel_rfl
  · rcases Nat.eq_zero_or_pos len with h0 | h0
    · subst h0
      refine (Tryz.slices_Sort_int_none a cap w).mono ?_
      rintro e w' ⟨rfl,rfl⟩
      have hz:zs=[]:=List.length_eq_zero_iff.1 hzl
      subst hz
      exact ⟨_,I,S,rfl,I.le_refl,⟨rfl,rfl,ch,by simpa [sortI] using hown,same.symm⟩,hw,Ext.refl _⟩
    · rcases hown.at' with q0 | ⟨b,pre,post,T,rfl,rfl,hpost⟩
      · have:=hown.le; omega
      have hb:w.heap[b]?=some (row (pre++ints zs++post) T):=by
        refine In.heap (S:=S) (I:=I) (.own k ?_) hw
        rw [List.getD_eq_getElem?_getD,hk]; simp
      have hil:(ints zs).length=zs.length:=by simp [ints]
      have hholds:Go.Sort.Holds (Value.int .i64) w b pre.length zs.toArray:=by
        intro j hj
        have hj:j < zs.length:=by simpa using hj
        refine ⟨?_,?_⟩
        · rw [Go.Sl.cell_of_row hb,List.append_assoc,List.getElem?_append_right (by omega),Nat.add_sub_cancel_left,List.getElem?_append_left (by omega)]
          simp [ints,hj]
        · rw [Go.Sl.frozen_of_row hb]; simp
      have hcall:=Tryz.slices_Sort_int b pre.length cap zs w hholds (lt_of_some hb) (by omega)
      rw [hzl] at hcall
      refine hcall.mono ?_
      rintro e w' ⟨rfl,n,os,rfl⟩
      have hblt:=lt_of_some hb
      have hsz:∀ d:Array Int,(Go.Sort.putRow (Value.int .i64) (Go.Sort.ahead w n) b pre.length d).heap.size=w.heap.size:=by
        intro d; simp [Go.Sort.putRow,Go.Sort.mapBlock,Go.Sort.ahead]
      refine ⟨_,I,_,rfl,I.le_refl,⟨rfl,rfl,[(b,row (pre++ints (sortI zs)++post) T)],⟨?_,hown.le,.inr ⟨b,pre,post,T,rfl,rfl,hpost⟩⟩,rfl⟩,?_,⟨rfl,rfl,rfl,?_⟩⟩
      · have:=(sortI_perm zs).length_eq
        simp [ints,this,hzl]
      · refine Has_grow os (Has.turnAt (A:=[]) (B:=[]) hw hk ?_ ?_)
        · have hp:=putCells_mid pre post (zs.mergeSort fun x y=>decide (x≤y)) (ints zs) (by rw [hil,List.length_mergeSort])
          have:(Go.Sort.putCells (Value.int .i64) pre.length (zs.mergeSort fun x y=>decide (x≤y)).toArray (pre++ints zs++post).toArray)=(pre++ints (sortI zs)++post).toArray:=Array.ext' hp
          simp only [Go.Sort.putRow,Go.Sort.mapBlock,Go.Sort.ahead,Array.getElem?_modify,hb,if_true,Option.map_some,row,Go.Sort.onCells,this]
        · intro j hj
          simp only [Go.Sort.putRow,Go.Sort.mapBlock,Go.Sort.ahead,Array.getElem?_modify]
          rw [if_neg (Ne.symm hj)]
      · show w.heap.size≤(_++os).size
        rw [Array.size_append,hsz]; omega
end Go.Proofs.YtklbcpofihgmlaaGreat
namespace Go.Proofs.YtklbcpofihgmlaaGreat
open Go.RowKit Go.Sl
set_option maxRecDepth 20000
theorem sortI_le (l:List Int):(sortI l).Pairwise (fun a b=>a≤b):=by
  have:=List.pairwise_mergeSort (le:=fun x y:Int=>decide (x≤y)) (by intro a b c h1 h2; simp only [decide_eq_true_eq] at *; omega) (by intro a b; simp only [Bool.or_eq_true,decide_eq_true_eq]; omega) l
  exact this.imp (by intro _ _ h; simpa using h)
theorem sortI_eq {l m:List Int} (h:l.Perm m):sortI l=sortI m :=
  List.Perm.eq_of_pairwise (le:=fun a b=>a≤b) (fun _ _ _ _ h1 h2=>Int.le_antisymm h1 h2) (sortI_le l) (sortI_le m) ((sortI_perm l).trans (h.trans (sortI_perm m).symm))
def keysOf (l:List (Int × Value)):List Int:=sortI (l.map Prod.fst)
theorem keysOf_length (l:List (Int × Value)):(keysOf l).length=l.length:=by unfold keysOf; rw [(sortI_perm _).length_eq,List.length_map]
theorem sorted_keys (b r:Nat) (ob:Obj) (l:List (Int × Value)) (hM:MapR ob l) (hl:l.length≤1000000) (I:Imm) :
    Tri Tryz.prog 143 #[.func (.func 164) #[] #[.pointer (some ⟨b,0,none⟩)]] I [keyBox b r,[(r,ob)]] fun v J S' =>
      ∃ a cap ch,v=.slice a l.length cap∧OwnC ch 1 a l.length cap (ints (keysOf l))∧I.le J∧S'=[[(r,ob)],ch]:=by
  have hnd:(l.map Prod.fst).Nodup:=by obtain ⟨es,clk,_,h⟩:=hM; exact h.nodup
  refine Tri.of (args:=[.func (.func 164) #[] #[.pointer (some ⟨b,0,none⟩)]]) tabOk Tryz.func143 rfl (by kernel_rfl) (by kernel_rfl) ?_
  refine Tri.nf (collect_keys b r ob l hM hl I) ?_
  rintro v J S' hJ ⟨a,cap,ch,s,rfl,hown,h1,h2,h3,rfl⟩
  have hp:s.Perm (l.map Prod.fst):=(List.perm_ext_iff_of_nodup h1 hnd).2 h2
  have hsl:s.length=l.length:=by rw [hp.length_eq,List.length_map]
  rw [hsl] at hown ⊢
  refine Tri.nf (sort_ints 1 rfl hown (by omega)) ?_
  rintro v J2 S' hJ2 ⟨rfl,rfl,ch',hown',rfl⟩
  exact Done.mk ⟨a,cap,ch',rfl,by unfold keysOf; rw [← sortI_eq hp]; exact hown',h3,rfl⟩
end Go.Proofs.YtklbcpofihgmlaaGreat
namespace Go.Proofs.YtklbcpofihgmlaaGreat
open Go.RowKit Go.Sl
set_option maxRecDepth 20000
theorem mget_mput (l:List (Int × Value)) (n m:Int) (v:Value):mget (mput l n v) m=if m=n then some v else mget l m:=by
  unfold mget mput
  have key:∀ l:List (Int × Value),n ∈ l.map Prod.fst→(l.map (fun p=>if p.1=n then (n,v) else p)).lookup m=if m=n then some v else l.lookup m:=by
    intro l hl
    induction l with
    | nil=>simp at hl
    | cons p l ih =>
      obtain ⟨a,b⟩:=p
      rw [List.map_cons]
      by_cases ha:a=n
      · subst ha
        simp only [if_pos]
        by_cases hm:m=a
        · subst hm; simp
        · have hb:(m == a)=false:=by simpa using hm
          rw [List.lookup_cons,List.lookup_cons,hb,if_neg hm]
          simp only []
          by_cases hin:a ∈ l.map Prod.fst
          · rw [ih hin,if_neg hm]
          · have:l.map (fun p=>if p.1=a then (a,v) else p)=l:=by
              conv=>rhs; rw [← List.map_id l]
              apply List.map_congr_left
              intro p hp
              rw [if_neg]; rfl
              intro e; exact hin (e ▸ List.mem_map_of_mem hp)
            rw [this]
      · simp only [if_neg ha]
        have hin:n ∈ l.map Prod.fst:=by simpa [Ne.symm ha] using hl
        rw [List.lookup_cons,List.lookup_cons,ih hin]
        by_cases hm:m=a
        · subst hm
          simp [ha]
        · have hb:(m == a)=false:=by simpa using hm
          rw [hb]
  by_cases hl:n ∈ l.map Prod.fst
  · rw [if_pos hl]; exact key l hl
  · rw [if_neg hl]
    have hno:l.lookup n=none:=mget_none hl
    rw [List.lookup_append]
    by_cases hm:m=n
    · subst hm; rw [hno,if_pos rfl]; simp
    · rw [if_neg hm]
      have hb:(m == n)=false:=by simpa using hm
      cases l.lookup m with
      | none=>simp [List.lookup_cons,hb]
      | some x=>rfl
abbrev Ov:=Nat→Option Dat
def putO (M:Ov) (k:Nat) (d:Dat):Ov:=fun i=>if i=k then some d else M i
def overO (M:Ov) (V:Bs):Bs:=fun i=>(M i).getD (V i)
theorem overO_put (M:Ov) (V:Bs) (k:Nat) (d:Dat):overO (putO M k d) V=upd (overO M V) k d:=by
  funext i
  unfold overO putO upd
  split <;> rfl
structure OvR (I:Imm) (n:Nat) (M:Ov) (l:List (Int × Value)):Prop where
  get:∀ k:Nat,match M k with
    | none=>mget l k=none
    | some d=>∃ a cap,mget l k=some (.slice a 4096 cap)∧Rds I a 4096 (bts d)∧d.length=4096
  key:∀ x ∈ l.map Prod.fst,∃ k:Nat,x=k∧k < n
theorem OvR.nil (I:Imm) (n:Nat):OvR I n (fun _=>none) []:=⟨fun k=>rfl,fun x hx=>by simp at hx⟩
theorem OvR.up {I J:Imm} {n:Nat} {M:Ov} {l:List (Int × Value)} (h:OvR I n M l) (hJ:I.le J):OvR J n M l:=by
  refine ⟨fun k=>?_,h.key⟩
  have:=h.get k
  cases hM:M k with
  | none=>rw [hM] at this; exact this
  | some d=>rw [hM] at this; obtain ⟨a,cap,h1,h2,h3⟩:=this; exact ⟨a,cap,h1,h2.mono hJ,h3⟩
theorem OvR.put {I:Imm} {n:Nat} {M:Ov} {l:List (Int × Value)} (h:OvR I n M l) {k:Nat} (hk:k < n) {d:Dat} (hd:d.length=4096) {a:Option Addr} {cap:Nat} (ha:Rds I a 4096 (bts d)):OvR I n (putO M k d) (mput l k (.slice a 4096 cap)):=by
  refine ⟨fun i=>?_,fun x hx=>?_⟩
  · rw [mget_mput]
    unfold putO
    by_cases hi:i=k
    · rw [if_pos hi,if_pos (by omega)]; exact ⟨a,cap,rfl,ha,hd⟩
    · rw [if_neg hi,if_neg (by omega)]; exact h.get i
  · rcases mput_keys_mem.1 hx with rfl | hx
    · exact ⟨k,rfl,hk⟩
    · exact h.key x hx
theorem OvR.none_of {I:Imm} {n:Nat} {M:Ov} {l:List (Int × Value)} (h:OvR I n M l) {k:Nat} (hk:M k=none):mget l k=none:=by
  have:=h.get k; rw [hk] at this; exact this
theorem OvR.some_of {I:Imm} {n:Nat} {M:Ov} {l:List (Int × Value)} (h:OvR I n M l) {k:Nat} {d:Dat} (hk:M k=some d):∃ a cap,mget l k=some (.slice a 4096 cap)∧Rds I a 4096 (bts d)∧d.length=4096:=by
  have:=h.get k; rw [hk] at this; exact this
variable {σ:Type} (sp:SpC Tryz.prog σ)
def DrR (bd:Nat) (x:σ × Ov) (I:Imm) (ch:List Blk):Prop:=∃ (bm:Nat) (ob:Obj) (l:List (Int × Value)) (co:List Blk),ch=(bd,row [sp.v,.map (some bm)] 146) :: (bm,ob) :: co∧MapR ob l∧OvR I sp.n x.2 l∧sp.R x.1 I co
theorem draft_Read_leads : Leads Tryz.prog 103 "Read" 95 := ⟨fun p w => by kernel_rfl, fun p w => by kernel_rfl⟩
theorem draft_Write_leads : Leads Tryz.prog 103 "Write" 55 := ⟨fun p w => by kernel_rfl, fun p w => by kernel_rfl⟩
theorem draft_Read {I:Imm} {bd:Nat} {x:σ × Ov} {ch:List Blk} (hR:DrR sp bd x I ch) (k:Nat) (hk:k < sp.n) :
    Tri Tryz.prog 95 #[.pointer (some ⟨bd,0,none⟩),.int .i64 (k:Nat)] I [ch] fun v J S'=>∃ c' s',DrR sp bd (s',x.2) J c'∧sp.rd x.1 s' ∧
      ((∃ e,e≠0∧sp.can e∧v=.tuple #[.slice none 0 0,.int .i64 e]∧S'=[c',[]]) ∨
       (∃ a cap cb,v=.tuple #[.slice a 4096 cap,.int .i64 0]∧OwnB cb a 4096 cap (overO x.2 (sp.blk x.1) k)∧S'=[c',cb])):=by
  obtain ⟨s,M⟩:=x
  obtain ⟨bm,ob,l,co,rfl,hM,hO,hs⟩:=hR
  dsimp only at *
  refine Tri.abs (S2:=[[(bd,row [sp.v,.map (some bm)] 146)],[(bm,ob)],co]) (by simp) (Q:=fun v J S'=>∃ c' s',sp.R s' J c'∧I.le J∧sp.rd s s' ∧
      ((∃ e,e≠0∧sp.can e∧v=.tuple #[.slice none 0 0,.int .i64 e]∧S'=[[(bd,row [sp.v,.map (some bm)] 146)],[(bm,ob)],c',[]]) ∨
       (∃ a cap cb,v=.tuple #[.slice a 4096 cap,.int .i64 0]∧OwnB cb a 4096 cap (overO M (sp.blk s) k)∧S'=[[(bd,row [sp.v,.map (some bm)] 146)],[(bm,ob)],c',cb]))) ?_ ?_
  · refine Tri.of (args:=[.pointer (some ⟨bd,0,none⟩),.int .i64 (k:Nat)]) tabOk Tryz.func95 rfl (by kernel_rfl) (by kernel_rfl) ?_
    repeat (first | refine LoadD.own 0 rfl _ rfl rfl ?_)
    refine lookupD tabOk rfl rfl rfl rfl rfl rfl 1 rfl hM ?_
    cases hMk:M k with
    | none =>
      rw [hO.none_of hMk]
      repeat (first | refine LoadD.own 0 rfl _ rfl rfl ?_)
      refine invokeD rfl rfl rfl sp.lrd rfl ?_
      refine Tri.frame (sp.read k hs hk) [2] rfl rfl ?_
      have ho:overO M (sp.blk s) k=sp.blk s k:=by unfold overO; rw [hMk]; rfl
      rw [ho]
      rintro v J A' hJ ⟨c',s',hR',hrd,⟨e,he,hcan,rfl,rfl⟩ | ⟨a,cap,cb,rfl,hcb,rfl⟩⟩
      · exact ⟨by simp,Done.mk ⟨c',s',hR',hJ,hrd,.inl ⟨e,he,hcan,rfl,rfl⟩⟩⟩
      · exact ⟨by simp,Done.mk ⟨c',s',hR',hJ,hrd,.inr ⟨a,cap,cb,rfl,hcb,rfl⟩⟩⟩
    | some d =>
      obtain ⟨a,cap,h1,h2,h3⟩:=hO.some_of hMk
      rw [h1]
      skip
      have ho:overO M (sp.blk s) k=d:=by unfold overO; rw [hMk]; rfl
      rw [ho]
      refine Tri.nf (clone_bytes I _ a 4096 cap (bts d) (by rw [Nat.mul_one]; exact h2.slC) (bts_plain d) (by omega)) ?_
      rintro v J S' hJ ⟨a',cap',cb,rfl,hcb,rfl,rfl⟩
      exact Done.mk ⟨co,s,hs,I.le_refl,sp.rd_refl s,.inr ⟨a',cap',cb,rfl,hcb,rfl⟩⟩
  · rintro v J S' hJ ⟨c',s',hR',hJJ,hrd,⟨e,he,hcan,rfl,rfl⟩ | ⟨a,cap,cb,rfl,hcb,rfl⟩⟩
    · exact ⟨[(bd,row [sp.v,.map (some bm)] 146) :: (bm,ob) :: c',[]],Drop.flat (by simp),_,s',⟨bm,ob,l,c',rfl,hM,hO.up hJJ,hR'⟩,hrd,.inl ⟨e,he,hcan,rfl,rfl⟩⟩
    · exact ⟨[(bd,row [sp.v,.map (some bm)] 146) :: (bm,ob) :: c',cb],Drop.flat (by simp),_,s',⟨bm,ob,l,c',rfl,hM,hO.up hJJ,hR'⟩,hrd,.inr ⟨a,cap,cb,rfl,hcb,rfl⟩⟩
theorem draft_Write {I:Imm} {bd:Nat} {x:σ × Ov} {ch:List Blk} (hR:DrR sp bd x I ch) (k:Nat) (hk:k < sp.n) {a:Option Addr} {cap:Nat} {d:Dat} (hd:d.length=4096) (ha:Rds I a 4096 (bts d)) :
    Tri Tryz.prog 55 #[.pointer (some ⟨bd,0,none⟩),.int .i64 (k:Nat),.slice a 4096 cap] I [ch] fun v J S'=>∃ c',S'=[c']∧DrR sp bd (x.1,putO x.2 k d) J c'∧v=.int .i64 0:=by
  obtain ⟨s,M⟩:=x
  obtain ⟨bm,ob,l,co,rfl,hM,hO,hs⟩:=hR
  dsimp only at *
  refine Tri.drop (Q:=fun v J S'=>∃ c',S'=[c',[]]∧DrR sp bd (s,putO M k d) J c'∧v=.int .i64 0) ?_ (fun v J S' _ h=>by obtain ⟨c',rfl,h2⟩:=h; exact ⟨_,Drop.pick [0] _ rfl,c',rfl,h2⟩)
  refine Tri.fixed (Q:=fun v J S'=>∃ ob' a' cap' cb,MapR ob' (mput l k (.slice a' 4096 cap'))∧OwnB cb a' 4096 cap' d∧I=J∧v=.int .i64 0∧S'=[(bd,row [sp.v,.map (some bm)] 146) :: (bm,ob') :: co,cb]) ?_ ?_
  · refine Tri.abs (S2:=[[(bd,row [sp.v,.map (some bm)] 146)],[(bm,ob)],co]) (by simp) (Q:=fun v J S'=>∃ ob' a' cap' cb,MapR ob' (mput l k (.slice a' 4096 cap'))∧OwnB cb a' 4096 cap' d∧I=J∧v=.int .i64 0∧S'=[[(bd,row [sp.v,.map (some bm)] 146)],[(bm,ob')],co,cb]) ?_ ?_
    · refine Tri.of (args:=[.pointer (some ⟨bd,0,none⟩),.int .i64 (k:Nat),.slice a 4096 cap]) tabOk Tryz.func55 rfl (by kernel_rfl) (by kernel_rfl) ?_
      refine CodeF.sched [[],[0],[0,1],[0,1,2],[],[],[5],[0,1,2,3,4,5,6]] [0,1,2,3,4,5,6,7] (by kernel_rfl) ?_
      repeat (first | refine LoadP.at 0 rfl _ rfl rfl ?_)
      refine Tri.nf (clone_bytes I _ a 4096 cap (bts d) (by rw [Nat.mul_one]; exact ha.slC) (bts_plain d) (by omega)) ?_
      rintro v J S' hJ ⟨a',cap',cb,rfl,hcb,rfl,rfl⟩
      repeat (first | refine Chk.mk ⟨rfl,trivial⟩ ?_)
      refine mapUpdateD tabOk rfl rfl rfl rfl rfl 1 rfl hM ?_
      intro ob' hM'
      exact Done.mk ⟨ob',a',cap',cb,hM',hcb,rfl,rfl,rfl⟩
    · rintro v J S' hJ ⟨ob',a',cap',cb,h1,h2,rfl,rfl,rfl⟩
      exact ⟨[(bd,row [sp.v,.map (some bm)] 146) :: (bm,ob') :: co,cb],Drop.flat (by simp),ob',a',cap',cb,h1,h2,rfl,rfl,rfl⟩
  · rintro v J S' hJ ⟨ob',a',cap',cb,h1,h2,rfl,rfl,rfl⟩
    exact ⟨1,cb,rfl,fun J' hJ' hfx=>⟨(bd,row [sp.v,.map (some bm)] 146) :: (bm,ob') :: co,rfl,⟨bm,ob',_,co,rfl,h1,(hO.up hJ').put hk hd (Rds.of_own h2 hfx),sp.up hs hJ'⟩,rfl⟩⟩
end Go.Proofs.YtklbcpofihgmlaaGreat
namespace Go.Proofs.YtklbcpofihgmlaaGreat
open Go.RowKit Go.Sl
set_option maxRecDepth 20000
variable {σ:Type} (sp:SpC Tryz.prog σ)
def draftSp (bd:Nat):SpC Tryz.prog (σ × Ov) where
  t:=103
  p:=some ⟨bd,0,none⟩
  frd:=95
  fwr:=55
  lrd:=draft_Read_leads
  lwr:=draft_Write_leads
  R:=DrR sp bd
  n:=sp.n
  blk x:=overO x.2 (sp.blk x.1)
  can:=sp.can
  canW _:=False
  rd x y:=sp.rd x.1 y.1∧y.2=x.2
  wr x k d y:=y=(x.1,putO x.2 k d)
  up:=by
    rintro x I J c ⟨bm,ob,l,co,rfl,h1,h2,h3⟩ hJ
    exact ⟨bm,ob,l,co,rfl,h1,h2.up hJ,sp.up h3 hJ⟩
  rd_refl x:=⟨sp.rd_refl x.1,rfl⟩
  rd_trans:=by
    rintro a b c ⟨h1,h2⟩ ⟨h3,h4⟩
    exact ⟨sp.rd_trans h1 h3,by rw [h4,h2]⟩
  room _:=1000000
  rd_room _:=rfl
  wr_room _:=by omega
  rd_blk:=by
    rintro x y ⟨h1,h2⟩
    rw [h2,sp.rd_blk h1]
  wr_blk:=by
    rintro x k d y rfl
    exact overO_put _ _ _ _
  len:=by
    rintro x I c i ⟨bm,ob,l,co,rfl,h1,h2,h3⟩ hi
    unfold overO
    cases hM:x.2 i with
    | none=>exact sp.len h3 hi
    | some d=>obtain ⟨_,_,_,_,h⟩:=h2.some_of hM; exact h
  read:=by
    intro I c s k hR hk
    refine (draft_Read sp hR k hk).mono ?_
    rintro v J S' hJ ⟨c',s',hR',hrd,h⟩
    exact ⟨c',(s',s.2),hR',⟨hrd,rfl⟩,h⟩
  write:=by
    intro I c s k a cap d hR hk _ hd ha
    refine (draft_Write sp hR k hk hd ha).mono ?_
    rintro v J S' hJ ⟨c',rfl,hR',rfl⟩
    exact ⟨c',_,rfl,hR',.inr ⟨rfl,rfl⟩⟩
theorem draftSp_noW (bd:Nat):∀ e,¬ (draftSp sp bd).canW e:=fun _ h=>h
theorem draftSp_To {bd:Nat} {x y:σ × Ov} (h:(draftSp sp bd).To x y):sp.rd x.1 y.1:=by
  induction h with
  | rd h=>exact h.1
  | wr h1 h2 ih=>rw [h2]; exact ih
  | more h1 h2 ih=>exact sp.rd_trans ih h2.1
theorem nilIfaceD {P:Program} {o:Oper} {ρ:Env} {K:Value→Prop} {x:Operand} (ho:o.op=.nilCheck x) {t:TypeId} {v:Value} (hx:ρ.ev x=.iface t v) (h:K (.iface t v)):PureD P o ρ K :=
  .mk _ (fun w=>by simp [execOp,ho,hx]) h
def partO (M:Ov) (ks:List Int):Ov:=fun k=>if (k:Int) ∈ ks then M k else none
theorem partO_snoc {M:Ov} {ks:List Int} {k:Nat} {d:Dat} (h:M k=some d):partO M (ks++[(k:Int)])=putO (partO M ks) k d:=by
  funext i
  unfold partO putO
  by_cases hi:i=k
  · subst hi; rw [if_pos (by simp),if_pos rfl,h]
  · rw [if_neg hi]
    simp only []
    by_cases hm:(i:Int) ∈ ks
    · rw [if_pos hm,if_pos (by simp [hm])]
    · rw [if_neg hm,if_neg (by simp [hm]; omega)]
set_option maxHeartbeats 1000000 in
theorem draft_done (hn:sp.n≤512) {I:Imm} {bd:Nat} {x:σ × Ov} {ch:List Blk} (hR:DrR sp bd x I ch) (hroom:512≤sp.room x.1) :
    Tri Tryz.prog 98 #[.pointer (some ⟨bd,0,none⟩)] I [ch] fun v J S'=>∃ c' s',sp.R s' J c'∧S'=[c']∧sp.To x.1 s'∧sp.room x.1≤sp.room s'+512 ∧
      ((∃ e,e≠0∧sp.canW e∧v=.int .i64 e)∨(v=.int .i64 0∧sp.blk s'=overO x.2 (sp.blk x.1))):=by
  obtain ⟨s,M⟩:=x
  obtain ⟨bm,ob,l,co,rfl,hM,hO,hs⟩:=hR
  dsimp only at *
  have hnd:(l.map Prod.fst).Nodup:=by obtain ⟨es,clk,_,h⟩:=hM; exact h.nodup
  have hll:l.length≤512:=by
    have:=nodup_len (l.map Prod.fst) ((List.range sp.n).map Int.ofNat) hnd (fun x hx=>by
      obtain ⟨k,rfl,hk⟩:=hO.key x hx
      exact List.mem_map.2 ⟨k,List.mem_range.2 hk,rfl⟩)
    rw [List.length_map,List.length_map,List.length_range] at this
    omega
  refine Tri.lay (S2:=[[(bd,row [sp.v,.map (some bm)] 146)],[(bm,ob)],co]) (by simp) ?_
  refine Tri.drop ?_ (fun _ _ _ _ h=>h)
  refine Tri.of (args:=[.pointer (some ⟨bd,0,none⟩)]) tabOk Tryz.func98 rfl (by kernel_rfl) (by kernel_rfl) ?_
  repeat (first | refine LoadD.own 0 rfl _ rfl rfl ?_)
  refine Tri.nf (keys_of bm I _) ?_
  rintro v J S' hJ ⟨bK,rfl,rfl,rfl⟩
  refine Tri.frameX (sorted_keys bK bm ob l hM (by omega) I) [3,1] rfl rfl ?_
  rintro v J A' hJ ⟨aK,capK,chK,rfl,hK,hJ1,rfl⟩
  have hkl:=keysOf_length l
  have hmem:∀ k,k ∈ keysOf l↔k ∈ l.map Prod.fst:=fun k=>(sortI_perm _).mem_iff
  generalize keysOf l=ks at *
  refine CodeF.loopD [0,11,12,13] (fun vs J' S'=>∃ (i:Nat) (c':List Blk) (s':σ),J.le J'∧i≤l.length∧sp.R s' J' c'∧sp.To s s'∧sp.room s≤sp.room s'+i∧sp.blk s'=overO (partO M (ks.take i)) (sp.blk s)∧vs=[.pointer (some ⟨bd,0,none⟩),.slice aK l.length capK,.int .i64 l.length,.int .i64 i] ∧
      S'=[[(bd,row [sp.v,.map (some bm)] 146)],[],c',[],[(bm,ob)],chK])
    (fun vs _ _=>match vs with | [_,_,_,.int _ i]=>((l.length:Int) - i).toNat | _=>0) ?_ ?_
  · exact ⟨_,Drop.refl _,0,co,s,J.le_refl,by omega,sp.up hs hJ1,.refl s,by omega,by funext k; simp [overO,partO],rfl,rfl⟩
  rintro vs gE J' S' hJ' ⟨i,c',s',hJJ,hi,hR',hto,hrm,hblk,rfl,rfl⟩
  refine CmpD.split (fun c1=>?_) (fun c1=>?_)
  · obtain ⟨k,hk⟩:∃ k,ks[i]?=some k:=⟨_,List.getElem?_eq_getElem (by omega)⟩
    obtain ⟨kn,rfl,hkn⟩:=hO.key k ((hmem k).1 (List.mem_of_getElem? hk))
    obtain ⟨d,hd⟩:∃ d,M kn=some d:=by
      cases h:M kn with
      | some d=>exact ⟨d,rfl⟩
      | none =>
        exfalso
        have h1:=hO.none_of h
        obtain ⟨p,hp,e⟩:=List.mem_map.1 ((hmem _).1 (List.mem_of_getElem? hk))
        obtain ⟨q,v⟩:=p
        dsimp only at e
        subst e
        obtain ⟨j,hj⟩:=List.mem_iff_getElem?.1 hp
        rw [mget_of hnd hj] at h1; cases h1
    obtain ⟨a,cap,h1,h2,h3⟩:=hO.some_of hd
    obtain ⟨bb,off,rfl,hc⟩:=(hK.slC1 (I:=J') (S:=[[(bd,row [sp.v,.map (some bm)] 146)],[],c',[],[(bm,ob)],chK]) 5 rfl).cells (by omega)
    refine Chk.mk (by omega) ?_
    refine LoadD.mk [.int .i64 kn] (by have:=hc.at (i:=i) (v:=.int .i64 kn) (by simp [ints,hk]); exact this) ?_
    refine CodeF.sched [[],[0],[0,1],[0,1,2],[],[],[5],[5,6],[5,6,7],[],[5,6,7,8,9],[0,1,2,3],[0,1,2,3,11],[0,1,2,3,4,5,6,7,8,9,10,11,12],[0,1,2,3,4,5,6,7,8,9,10,11,12,13]] [0,1,2,3,4,5,6,7,8,9,11,12,10,13,14] (by kernel_rfl) ?_
    repeat (first | refine LoadP.at 0 rfl _ rfl rfl ?_)
    refine nilIfaceD rfl rfl ?_
    refine lookupD tabOk rfl rfl rfl rfl rfl rfl 4 rfl hM ?_
    rw [h1]
    repeat (first | refine Chk.mk ⟨rfl,trivial⟩ ?_)
    refine invokeD rfl rfl rfl sp.lwr rfl ?_
    refine Tri.frame (sp.write kn (cap:=cap) hR' hkn (by omega) h3 (h2.mono (Imm.le_trans hJ1 hJJ))) [2] rfl rfl ?_
    rintro v J3 A' hJ3 ⟨c2,s2,rfl,hR2,⟨e,he,hcan,hrd2,rfl⟩ | ⟨rfl,hwr2⟩⟩
    · refine ⟨by simp,?_⟩
      refine CmpD.no he ?_
      refine Done.mk ⟨_,Drop.pick [2] _ rfl,c2,s2,hR2,rfl,hto.more hrd2,by have:=sp.rd_room hrd2; omega,.inl ⟨e,he,hcan,rfl⟩⟩
    · refine ⟨by simp,?_⟩
      repeat (first | refine CmpD.yes rfl ?_)
      refine ToD.i64 (by omega) (by omega) ?_
      refine ⟨_,Drop.refl _,⟨i+1,c2,s2,Imm.le_trans hJJ hJ3,by omega,hR2,hto.wr hwr2,by have:=sp.wr_room hwr2; omega,?_,rfl,rfl⟩,?_⟩
      · rw [List.take_add_one,hk,sp.wr_blk hwr2,hblk,← overO_put]
        congr 1
        exact (partO_snoc hd).symm
      · show ((l.length:Int) - ((i:Int)+1)).toNat < ((l.length:Int) - (i:Int)).toNat; omega
  · obtain rfl:i=l.length:=by omega
    rw [List.take_of_length_le (by omega)] at hblk
    have e:partO M ks=M:=by
      funext k
      unfold partO
      by_cases hm:(k:Int) ∈ ks
      · rw [if_pos hm]
      · rw [if_neg hm]
        cases h:M k with
        | none=>rfl
        | some d =>
          exfalso
          obtain ⟨a,cap,h1,-,-⟩:=hO.some_of h
          apply hm
          rw [hmem]
          rcases Decidable.em ((k:Int) ∈ l.map Prod.fst) with g | g
          · exact g
          · rw [mget_none g] at h1; cases h1
    rw [e] at hblk
    exact Done.mk ⟨_,Drop.pick [2] _ rfl,c',s',hR',rfl,hto,by omega,.inr ⟨rfl,hblk⟩⟩
end Go.Proofs.YtklbcpofihgmlaaGreat
namespace Go.Proofs.YtklbcpofihgmlaaGreat
open Go.RowKit Go.Sl
set_option maxRecDepth 20000
@[reducible] def fileV (bd n i:Nat) (f:Fi) (a:Option Addr) (nd cap:Nat) (aA:Option Addr) (lA capA:Nat):List Value :=
  [.pointer (some ⟨bd,0,none⟩),.int .i64 (n:Nat),.int .i64 2,.int .i64 (layN n:Nat),.int .i64 (bitsB n:Nat),.int .i64 (inoB n:Nat),.int .i64 (n / 16:Nat),.int .i64 (datB n:Nat),.int .i64 (i:Nat),
   .int .u8 (f.kind:Nat),.int .i64 (f.links:Nat),.int .i64 (f.size:Nat),.slice a nd cap,.int .i64 (f.node:Nat),.slice aA lA capA]
variable {σ:Type} (sp:SpC Tryz.prog σ)
theorem drop_co (x y:Blk) (co:List Blk) (rest:St):Drop ((x :: y :: co) :: rest) [co]:=by
  refine ⟨x :: y :: rest.flatten,?_⟩
  simp only [List.flatten_cons,List.flatten_nil,List.append_nil,List.cons_append]
  have:=List.Perm.append_right rest.flatten (List.perm_append_comm (l₁:=[x,y]) (l₂:=co))
  simpa using this
structure FileAt (n bd i:Nat) (f:Fi) (all:List Xt) (J:Imm) (bf:Nat) (ch:List Blk):Prop where
  ex:∃ a cap aA capA,ch=[(bf,row (fileV bd n i f a f.direct.length cap aA all.length capA) 105)]∧Rds J a (f.direct.length * 3) (xtsV f.direct)∧Rds J aA (all.length * 3) (xtsV all)∧all.length≤capA
theorem FileAt.up {n bd i:Nat} {f:Fi} {all:List Xt} {I J:Imm} {bf:Nat} {ch:List Blk} (h:FileAt n bd i f all I bf ch) (hJ:I.le J):FileAt n bd i f all J bf ch:=by
  obtain ⟨a,cap,aA,capA,rfl,h1,h2,h3⟩:=h.ex
  exact ⟨a,cap,aA,capA,rfl,h1.mono hJ,h2.mono hJ,h3⟩
set_option maxHeartbeats 1000000 in
theorem data_open (hn:64≤sp.n∧sp.n≤512) {I:Imm} {c:List Blk} {s:σ} (hR:sp.R s I c) {fi:Nat→Fi} (hf:InOk sp.n (sp.blk s) fi) (i:Nat) (hi:1≤i∧i≤64 * (sp.n / 16)) (hfi:FiOk sp.n (sp.blk s) (fi i)) :
    Tri Tryz.prog 51 #[sp.v,layVn sp.n,.int .i64 (i:Nat)] I [c] fun v J S' =>
      (∃ e w c' s',e≠0∧(sp.can e∨e=2∧(fi i).kind=0)∧v=.tuple #[.pointer w,.int .i64 e]∧S'=[c']∧sp.R s' J c'∧sp.rd s s') ∨
      (∃ bd bf cd cf s',v=.tuple #[.pointer (some ⟨bf,0,none⟩),.int .i64 0]∧S'=[cd,cf]∧DrR sp bd (s',fun _=>none) J cd∧sp.rd s s'∧(fi i).kind≠0∧FileAt sp.n bd i (fi i) (fi i).ext J bf cf):=by
  have hL:=layN_range hn
  refine Tri.drop ?_ (fun _ _ _ _ h=>h)
  refine Tri.of (args:=[sp.v,layVn sp.n,.int .i64 (i:Nat)]) tabOk Tryz.func51 rfl (by kernel_rfl) (by kernel_rfl) ?_
  conv=>whnf
  intro b4
  repeat (first | refine LoadD.own 1 rfl _ rfl rfl ?_)
  refine Tri.free (data_wrong sp hn I) ?_
  rintro v J _ hJ ⟨rfl,rfl⟩
  repeat (first | refine CmpD.yes rfl ?_)
  refine makeMapD rfl ?_
  intro bm
  skip
  conv=>whnf
  intro bd
  repeat (first | refine LoadD.own 1 rfl _ rfl rfl ?_)
  conv=>whnf
  intro bf
  skip
  refine CodeF.dropD (S0:=[(bd,row [sp.v,.map (some bm)] 146) :: (bm,.map #[] 0) :: c,[(b4,row (layVn sp.n).cells.toList 24)],[(bf,row (fileV bd sp.n i noFi none 0 0 none 0 0) 105)]]) ((Drop.pick [3,2,0,1,4] _ rfl).trans (Drop.flat (by simp [St.at]; exact ⟨rfl,rfl⟩))) ?_
  refine CodeF.sched [[],[],[1],[1,2],[1,2,3],[1,2,3,4],[],[],[1,2,3,4,5,6,7],[1,2,3,4,5,6,7,8],[1,2,3,4,5,6,7,8,9],[1,2,3,4,5,6,7,8,9],[0,1,2,3,4,5,6,7,8,9,10],[0,1,2,3,4,5,6,7,8,9,10,12],[0,1,2,3,4,5,6,7,8,9,10,12,13],[0,1,2,3,4,5,6,7,8,9,10,11,12,13,14]] [0,1,2,3,4,5,6,7,8,9,10,11,12,13,14,15] (by kernel_rfl) ?_
  repeat (first | refine LoadP.at 1 rfl _ rfl rfl ?_ | refine LoadP.at 2 rfl _ rfl rfl ?_)
  have hR0:DrR sp bd (s,fun _=>none) I ((bd,row [sp.v,.map (some bm)] 146) :: (bm,.map #[] 0) :: c):=⟨bm,_,[],c,rfl,MapR.nil,OvR.nil _ _,hR⟩
  have hblk0:(draftSp sp bd).blk (s,fun _=>none)=sp.blk s:=by funext k; rfl
  refine Tri.frame (bits_Inode (draftSp sp bd) hn hR0 (fi:=fi) (by rw [hblk0]; exact hf) i hi) [0] rfl rfl ?_
  rintro v J A' hJ ⟨c',⟨s',M'⟩,hR',⟨hrd,hM'⟩,rfl,⟨e,he,hcan,rfl⟩ | ⟨a,cap,rfl,hra⟩⟩
  · refine ⟨by simp,?_⟩
    obtain ⟨bm',ob',l',co,rfl,-,-,hco⟩:=hR'
    repeat (first | refine StoreD.st 2 rfl rfl rfl ?_)
    refine CmpD.no he ?_
    refine Done.mk ⟨_,drop_co _ _ _ _,.inl ⟨e,_,co,s',he,.inl hcan,rfl,rfl,hco,hrd⟩⟩
  · refine ⟨by simp,?_⟩
    cases hM'
    repeat (first | refine LoadD.own 2 rfl _ rfl rfl ?_ | refine StoreD.st 2 rfl rfl rfl ?_ | refine CmpD.yes rfl ?_)
    refine CmpD.split (fun d1=>?_) (fun d1=>?_)
    · obtain ⟨bm',ob',l',co,rfl,-,-,hco⟩:=hR'
      refine Done.mk ⟨_,drop_co _ _ _ _,.inl ⟨2,_,co,s',by decide,.inr ⟨rfl,by omega⟩,rfl,rfl,hco,hrd⟩⟩
    refine CodeF.sched [[],[],[1],[1,2],[1,2,3],[1,2,3,4],[],[],[7],[7,8],[7,8,9],[1,2,3,4,5,6,7,8,9,10],[1,2,3,4,5,6,7,8,9,10,11],[1,2,3,4,5,6,7,8,9,10,11,12],[1,2,3,4,5,6,7,8,9,10,11,12],[0,1,2,3,4,5,6,7,8,9,10,11,12,13],[0,1,2,3,4,5,6,7,8,9,10,11,12,13,15],[0,1,2,3,4,5,6,7,8,9,10,11,12,13,15,16],[0,1,2,3,4,5,6,7,8,9,10,11,12,13,14,15,16,17]] [0,1,2,3,4,5,6,7,8,9,10,11,12,13,14,15,16,17,18] (by kernel_rfl) ?_
    repeat (first | refine LoadP.at 1 rfl _ rfl rfl ?_ | refine LoadP.at 2 rfl _ rfl rfl ?_)
    have hblk1:(draftSp sp bd).blk (s',fun _=>none)=sp.blk s:=by rw [← sp.rd_blk hrd]; funext k; rfl
    refine Tri.frame (extents_All (draftSp sp bd) hn hR' (f:=fi i) (by rw [hblk1]; exact hfi) a cap hra) [0] rfl rfl ?_
    rintro v J2 A' hJ2 ⟨c2,⟨s2,M2⟩,hR2,⟨hrd2,hM2⟩,rfl,⟨e,he,hcan,rfl⟩ | ⟨aA,capA,rfl,hrA,hcA⟩⟩
    · refine ⟨by simp,?_⟩
      obtain ⟨bm',ob',l',co,rfl,-,-,hco⟩:=hR2
      repeat (first | refine StoreD.st 2 rfl rfl rfl ?_)
      refine Done.mk ⟨_,drop_co _ _ _ _,.inl ⟨e,_,co,s2,he,.inl hcan,rfl,rfl,hco,sp.rd_trans hrd hrd2⟩⟩
    · refine ⟨by simp,?_⟩
      cases hM2
      repeat (first | refine StoreD.st 2 rfl rfl rfl ?_)
      refine Done.mk ⟨_,Drop.pick [0,2] _ rfl,.inr ⟨bd,bf,_,_,s2,rfl,rfl,hR2,sp.rd_trans hrd hrd2,by omega,⟨a,cap,aA,capA,rfl,hra.mono hJ2,hrA,hcA⟩⟩⟩
end Go.Proofs.YtklbcpofihgmlaaGreat
namespace Go.Proofs.YtklbcpofihgmlaaGreat
open Go.RowKit Go.Sl
set_option maxRecDepth 20000
variable {σ:Type} (sp:SpC Tryz.prog σ)
theorem data_set (hn:64≤sp.n∧sp.n≤512) {I:Imm} {bd bf:Nat} {s:σ} {M:Ov} {cd cf:List Blk} (hR:DrR sp bd (s,M) I cd) {fi:Nat→Fi} (hin:InOk sp.n (overO M (sp.blk s)) fi) {i:Nat} (hi:1≤i∧i≤64 * (sp.n / 16)) {f:Fi} (hf:IOk f) {all:List Xt} (hF:FileAt sp.n bd i f all I bf cf) (hroom:512≤sp.room s) :
    Tri Tryz.prog 56 #[.pointer (some ⟨bf,0,none⟩)] I [cd,cf] fun v J S'=>∃ c' s',sp.R s' J c'∧S'=[c']∧sp.room s≤sp.room s'+512 ∧
      ((∃ e,e≠0∧((sp.can e∧sp.rd s s')∨(sp.canW e∧sp.To s s'))∧v=.int .i64 e)∨(v=.int .i64 0∧sp.To s s'∧sp.blk s'=setV sp.n (overO M (sp.blk s)) (updF fi i f) i)):=by
  obtain ⟨a,cap,aA,capA,rfl,h1,h2,h3⟩:=hF.ex
  refine Tri.drop ?_ (fun _ _ _ _ h=>h)
  refine Tri.of (args:=[.pointer (some ⟨bf,0,none⟩)]) tabOk Tryz.func56 rfl (by kernel_rfl) (by kernel_rfl) ?_
  refine CodeF.sched [[],[0],[0,1],[0,1,2],[0,1,2,3],[],[5],[5,6],[5,6,7],[],[9],[9,10],[9,10,11],[],[13],[13,14],[13,14,15],[0,1,2,3,4,5,6,7,8,9,10,11,12,13,14,15,16],[0,1,2,3,4,5,6,7,8,9,10,11,12,13,14,15,16,17]] [0,1,2,3,4,5,6,7,8,9,10,11,12,13,14,15,16,17,18] (by kernel_rfl) ?_
  repeat (first | refine LoadP.at 1 rfl _ rfl rfl ?_)
  refine Tri.frame (bits_SetInode (draftSp sp bd) hn hR (fi:=fi) hin i hi f hf a cap h1 (by show 0 < 1000000; decide)) [0] rfl rfl ?_
  rintro v J A' hJ ⟨c',⟨s',M'⟩,hR',rfl,⟨e,he,⟨hrd,hM⟩,hcan,rfl⟩ | ⟨⟨s1,M1⟩,⟨hrd,hM1⟩,hwr,rfl⟩⟩
  · refine ⟨by simp,?_⟩
    obtain ⟨bm',ob',l',co,rfl,-,-,hco⟩:=hR'
    skip
    refine CmpD.no he ?_
    refine Done.mk ⟨_,drop_co _ _ _ _,co,s',hco,rfl,Nat.le_trans (Nat.le_of_eq (sp.rd_room hrd).symm) (Nat.le_add_right _ _),.inl ⟨e,he,.inl ⟨hcan.resolve_right (draftSp_noW sp bd e),hrd⟩,rfl⟩⟩
  · refine ⟨by simp,?_⟩
    cases hM1
    cases hwr
    repeat (first | refine LoadD.own 1 rfl _ rfl rfl ?_ | refine CmpD.yes rfl ?_)
    refine Tri.frame (draft_done sp hn.2 hR' (Nat.le_trans hroom (Nat.le_of_eq (sp.rd_room hrd).symm))) [0] rfl rfl ?_
    rintro v J2 A' hJ2 ⟨c2,s2,hR2,rfl,hto,hrm,⟨e,he,hcan,rfl⟩ | ⟨rfl,hblk⟩⟩
    · exact ⟨by simp,Done.mk ⟨_,Drop.pick [0] _ rfl,c2,s2,hR2,rfl,Nat.le_trans (Nat.le_of_eq (sp.rd_room hrd).symm) hrm,.inl ⟨e,he,.inr ⟨hcan,(SpC.To.rd hrd).trans hto⟩,rfl⟩⟩⟩
    · refine ⟨by simp,Done.mk ⟨_,Drop.pick [0] _ rfl,c2,s2,hR2,rfl,Nat.le_trans (Nat.le_of_eq (sp.rd_room hrd).symm) hrm,.inr ⟨rfl,(SpC.To.rd hrd).trans hto,?_⟩⟩⟩
      rw [hblk,overO_put,sp.rd_blk hrd]; rfl
theorem zer4_own (b:Nat):OwnB [(b,row (rows 4096 [Value.int .u8 0]) 5)] (some ⟨b,0,none⟩) 4096 4096 zer4:=by
  show OwnC _ 1 _ 4096 4096 (bts (List.replicate 4096 0))
  rw [bts_zeros]
  exact OwnC.made rfl (Nat.le_refl _)
def blockP (V:Bs) (all:List Xt) (k:Nat):Dat:=match findP all k with
  | some b=>V b
  | none=>zer4
theorem data_block {I:Imm} {bd bf:Nat} {s:σ} {M:Ov} {cd cf:List Blk} (hR:DrR sp bd (s,M) I cd) {i:Nat} {f:Fi} {all:List Xt} (hF:FileAt sp.n bd i f all I bf cf) (hr:rightX 0 all=true) (hall:all.length≤100000) (hrng:∀ x ∈ all,x.start+x.count≤sp.n) (k:Nat) (hk:k≤1000000) :
    Tri Tryz.prog 54 #[.pointer (some ⟨bf,0,none⟩),.int .i64 (k:Nat)] I [cd,cf] fun v J S'=>∃ cd' s',DrR sp bd (s',M) J cd'∧sp.rd s s'∧FileAt sp.n bd i f all J bf cf ∧
      ((∃ e,e≠0∧sp.can e∧v=.tuple #[.slice none 0 0,.int .i64 e]∧S'=[cd',cf,[]])∨(∃ a cap cb,v=.tuple #[.slice a 4096 cap,.int .i64 0]∧OwnB cb a 4096 cap (blockP (overO M (sp.blk s)) all k)∧S'=[cd',cf,cb])):=by
  obtain ⟨a,cap,aA,capA,rfl,h1,h2,h3⟩:=hF.ex
  refine Tri.of (args:=[.pointer (some ⟨bf,0,none⟩),.int .i64 (k:Nat)]) tabOk Tryz.func54 rfl (by kernel_rfl) (by kernel_rfl) ?_
  repeat (first | refine LoadD.own 1 rfl _ rfl rfl ?_)
  refine Tri.free (extents_Find all hr aA all.length capA rfl (by omega) h2 k hk) ?_
  rintro v J _ hJ ⟨rfl,rfl⟩
  unfold findV blockP
  cases hfd:findP all k with
  | none =>
    simp only []
    refine makeD tabOk rfl rfl rfl 4096 4096 rfl rfl (by omega) (by decide) (by omega) (by decide) rfl (by decide) ?_
    intro b
    exact Done.mk ⟨cd,s,hR,sp.rd_refl s,hF,.inr ⟨_,_,_,rfl,zer4_own b,rfl⟩⟩
  | some b =>
    simp only []
    obtain ⟨x,hx,q1,q2,q3⟩:=findP_mem hfd
    have:=hrng x hx
    repeat (first | refine LoadD.own 1 rfl _ rfl rfl ?_)
    refine Tri.frame (draft_Read sp hR b (by omega)) [0] rfl rfl ?_
    rintro v J A' hJ ⟨c',s',hR',hrd,⟨e,he,hcan,rfl,rfl⟩ | ⟨a2,cap2,cb,rfl,hcb,rfl⟩⟩
    · refine ⟨by simp,?_⟩
      skip
      refine CmpD.no he ?_
      exact Done.mk ⟨c',s',hR',hrd,hF.up hJ,.inl ⟨e,he,hcan,rfl,rfl⟩⟩
    · refine ⟨by simp,?_⟩
      repeat (first | refine CmpD.yes rfl ?_)
      exact Done.mk ⟨c',s',hR',hrd,hF.up hJ,.inr ⟨a2,cap2,cb,rfl,hcb,rfl⟩⟩
end Go.Proofs.YtklbcpofihgmlaaGreat
namespace Go.Proofs.YtklbcpofihgmlaaGreat
open Go.RowKit Go.Sl
set_option maxRecDepth 20000
theorem TakenAll.drop:∀ {l:List Xt} {used:List Bool} (i:Nat),TakenAll used l→TakenAll (freeX used (l.take i)) (l.drop i)
  | l,used,0,h=>by simpa [freeX] using h
  | [],used,i+1,h=>trivial
  | x :: l,used,i+1,h=>by
    rw [List.take_succ_cons,List.drop_succ_cons]
    exact TakenAll.drop i h.2
theorem freeX_snoc (used:List Bool) (l:List Xt) (x:Xt):freeX used (l++[x])=clearP x.start x.count (freeX used l):=by simp [freeX]
theorem clear_front {n:Nat} {used:List Bool} (hl:used.length=n) (hn:datB n < n) (hf:∀ i,i < datB n→used[i]?=some true) (s c:Nat) (hs:datB n≤s):∀ i,i < datB n→(clearP s c used)[i]?=some true:=by
  intro i hi
  rw [clearP_get _ _ _ _ (by omega),decide_eq_false (by omega),List.getD_eq_getElem?_getD,hf i hi]; rfl
theorem freeX_front {n:Nat} (hn:datB n < n):∀ (l:List Xt) {used:List Bool},used.length=n→(∀ i,i < datB n→used[i]?=some true)→(∀ x ∈ l,datB n≤x.start)→∀ i,i < datB n→(freeX used l)[i]?=some true
  | [],used,_,hf,_,i,hi=>by simpa [freeX] using hf i hi
  | x :: l,used,hl,hf,hx,i,hi=>freeX_front hn l (by rw [clearP_length]; exact hl) (clear_front hl hn hf _ _ (hx x (by simp))) (fun y hy=>hx y (by simp [hy])) i hi
variable {σ:Type} (sp:SpC Tryz.prog σ)
set_option maxHeartbeats 1000000 in
theorem data_free (hn:64≤sp.n∧sp.n≤512) {I:Imm} {bd bf:Nat} {s:σ} {M:Ov} {cd cf:List Blk} (hR:DrR sp bd (s,M) I cd) {used:List Bool} (hb:BtOk sp.n (overO M (sp.blk s)) used) {i:Nat} {f:Fi} {all:List Xt} (hF:FileAt sp.n bd i f all I bf cf)
    (l:List Xt) (a:Option Addr) (nl cap:Nat) (hnl:l.length=nl) (hl2:nl≤100000) (hl:Rds I a (nl * 3) (xtsV l)) (ht:TakenAll used l) (hrng:∀ x ∈ l,datB sp.n≤x.start∧1≤x.count∧x.start+x.count≤sp.n) :
    Tri Tryz.prog 58 #[.pointer (some ⟨bf,0,none⟩),.slice a nl cap] I [cd,cf] fun v J S'=>∃ cd' s' M',DrR sp bd (s',M') J cd'∧sp.rd s s'∧S'=[cd',cf] ∧
      ((∃ e,e≠0∧sp.can e∧v=.int .i64 e)∨(v=.int .i64 0∧overO M' (sp.blk s')=upd (overO M (sp.blk s)) (bitsB sp.n) (bitsL (freeX used l)))):=by
  have hL:=layN_range hn
  obtain ⟨af,capf,aA,capA,rfl,h1,h2,h3⟩:=hF.ex
  refine Tri.drop ?_ (fun _ _ _ _ h=>h)
  refine Tri.of (args:=[.pointer (some ⟨bf,0,none⟩),.slice a nl cap]) tabOk Tryz.func58 rfl (by kernel_rfl) (by kernel_rfl) ?_
  refine CodeF.loopD [0,8,9,10] (fun vs J' S'=>∃ (k:Nat) (cd':List Blk) (s':σ) (M':Ov),I.le J'∧k≤nl∧DrR sp bd (s',M') J' cd'∧sp.rd s s'∧overO M' (sp.blk s')=upd (overO M (sp.blk s)) (bitsB sp.n) (bitsL (freeX used (l.take k)))∧vs=[.pointer (some ⟨bf,0,none⟩),.slice a nl cap,.int .i64 nl,.int .i64 k] ∧
      S'=[cd',[(bf,row (fileV bd sp.n i f af f.direct.length capf aA all.length capA) 105)]])
    (fun vs _ _=>match vs with | [_,_,_,.int _ k]=>((nl:Int) - k).toNat | _=>0) ?_ ?_
  · refine ⟨_,Drop.refl _,0,cd,s,M,I.le_refl,by omega,hR,sp.rd_refl s,?_,rfl,rfl⟩
    have:freeX used (l.take 0)=used:=by simp [freeX]
    rw [this,← hb.bits,upd_self]
  rintro vs gE J' S' hJ' ⟨k,cd',s',M',hJJ,hk,hR',hrd,hblk,rfl,rfl⟩
  refine CmpD.split (fun c1=>?_) (fun c1=>?_)
  · have hl:=hl.mono hJJ
    rcases hl.mem with h0 | ⟨bL,oL,cL,TL,fL,rfl,hIL,hcL⟩
    · omega
    obtain ⟨x,hx⟩:∃ x,l[k]?=some x:=⟨_,List.getElem?_eq_getElem (by omega)⟩
    obtain ⟨q1,q2,q3⟩:=hrng x (List.mem_of_getElem? hx)
    have hcell:=take_part hcL (i:=k * 3) (m:=3) (by omega)
    rw [xts_at hx] at hcell
    have htk:=ht.drop k
    have hdx:l.drop k=x :: l.drop (k+1):=by
      have hlt:k < l.length:=by omega
      rw [List.drop_eq_getElem_cons hlt]
      rw [List.getElem?_eq_getElem hlt] at hx
      rw [Option.some.inj hx]
    rw [hdx] at htk
    have hsn:freeX used (l.take (k+1))=clearP x.start x.count (freeX used (l.take k)):=by rw [snoc_at hx,freeX_snoc]
    have hb':BtOk sp.n (overO M' (sp.blk s')) (freeX used (l.take k)):=⟨by rw [hblk,upd_same],by rw [freeX_length]; exact hb.len,freeX_front (by omega) _ hb.len hb.front (fun y hy=>(hrng y (List.mem_of_mem_take hy)).1)⟩
    refine Chk.mk (by omega) ?_
    refine LoadD.imm hIL (xtV x) (by rw [Int.toNat_natCast]; show (cL.drop (addOff oL k 3)).take 3=_; rw [addOff_eq]; exact hcell) rfl ?_
    conv=>whnf
    intro b6
    repeat (first | refine StoreD.st 2 rfl rfl rfl ?_)
    refine CodeF.sched [[],[0],[0,1],[0,1,2],[0,1,2,3],[],[5],[5,6],[5,6,7],[],[9],[],[11],[0,1,2,3,4,5,6,7,8,9,10,11,12],[0,1,2,3,4,5,6,7,8,9,10,11,12,13]] [0,1,2,3,4,5,6,7,8,9,10,11,12,13,14] (by kernel_rfl) ?_
    repeat (first | refine LoadP.at 1 rfl _ rfl rfl ?_ | refine LoadP.at 2 rfl _ rfl rfl ?_)
    refine Tri.frame (bits_Free (draftSp sp bd) hn hR' hb' x.start x.count q1 q2 q3 htk.1 (by show 0 < 1000000; decide)) [0] rfl rfl ?_
    rintro v J2 A' hJ2 ⟨c2,⟨s2,M2⟩,hR2,rfl,⟨e,he,⟨hrd2,hM2⟩,hcan,rfl⟩ | ⟨⟨s3,M3⟩,⟨hrd3,hM3⟩,hwr,rfl⟩⟩
    · refine ⟨by simp,?_⟩
      skip
      refine CmpD.no he ?_
      cases hM2
      exact Done.mk ⟨_,Drop.pick [0,1] _ rfl,c2,s2,M',hR2,sp.rd_trans hrd hrd2,rfl,.inl ⟨e,he,hcan.resolve_right (draftSp_noW sp bd e),rfl⟩⟩
    · refine ⟨by simp,?_⟩
      cases hM3
      cases hwr
      repeat (first | refine CmpD.yes rfl ?_)
      refine ToD.i64 (by omega) (by omega) ?_
      refine ⟨_,Drop.pick [0,1] _ rfl,⟨k+1,c2,s3,putO M' (bitsB sp.n) (bitsL (clearP x.start x.count (freeX used (l.take k)))),Imm.le_trans hJJ hJ2,by omega,hR2,sp.rd_trans hrd hrd3,?_,rfl,rfl⟩,?_⟩
      · rw [overO_put,hsn,sp.rd_blk hrd3,hblk,upd_upd]
      · show ((nl:Int) - ((k:Int)+1)).toNat < ((nl:Int) - (k:Int)).toNat; omega
  · obtain rfl:k=nl:=by omega
    rw [List.take_of_length_le (by omega)] at hblk
    exact Done.mk ⟨_,Drop.refl _,cd',s',M',hR',hrd,rfl,.inr ⟨rfl,hblk⟩⟩
end Go.Proofs.YtklbcpofihgmlaaGreat
namespace Go.Proofs.YtklbcpofihgmlaaGreat
open Go.RowKit Go.Sl
set_option maxRecDepth 20000
theorem extents_AddR {I:Imm} (l:List Xt) (hr:rightX 0 l=true) (a:Option Addr) (n cap:Nat) (hn:l.length=n) (hn2:n≤100000) (hs:Rds I a (n * 3) (xtsV l)) (x:Xt) (hx:XtOk 0 x) (hno:∀ k,x.at_≤k→k < x.at_+x.count→findP l k=none) :
    Tri Tryz.prog 90 #[.slice a n cap,xV x] I [] fun v J _=>∃ a' cap',v=.tuple #[.slice a' (addP l x).length cap',.int .i64 0]∧Rds J a' ((addP l x).length * 3) (xtsV (addP l x))∧(addP l x).length≤cap':=by
  refine Tri.fixed (extents_Add l hr a n cap hn hn2 hs x hx hno) ?_
  rintro v J S' hJ ⟨a',cap',ch,rfl,hch,rfl,rfl⟩
  exact ⟨0,ch,rfl,fun J' hJ' hfx=>⟨a',cap',rfl,Rds.of_ownS hch hfx,hch.le⟩⟩
theorem extents_CutR {I:Imm} (l:List Xt) (hr:rightX 0 l=true) (a:Option Addr) (n cap:Nat) (hn:l.length=n) (hn2:n≤1000000) (hs:Rds I a (n * 3) (xtsV l)) (k:Nat) (hk:k≤1000000) :
    Tri Tryz.prog 99 #[.slice a n cap,.int .i64 (k:Nat)] I [] fun v J _=>∃ a1 c1 a2 c2,v=.tuple #[.slice a1 (keptP k l).length c1,.slice a2 (restP k l).length c2,.int .i64 0] ∧
      Rds J a1 ((keptP k l).length * 3) (xtsV (keptP k l))∧Rds J a2 ((restP k l).length * 3) (xtsV (restP k l))∧(keptP k l).length≤c1:=by
  refine Tri.fixed (Q:=fun v J S'=>∃ a1 c1 a2 c2 ch2,v=.tuple #[.slice a1 (keptP k l).length c1,.slice a2 (restP k l).length c2,.int .i64 0]∧Rds J a1 ((keptP k l).length * 3) (xtsV (keptP k l))∧OwnC ch2 3 a2 (restP k l).length c2 (xtsV (restP k l))∧(keptP k l).length≤c1∧S'=[[],ch2]) ?_ ?_
  · refine Tri.fixed (extents_Cut l hr a n cap hn hn2 hs k hk) ?_
    rintro v J S' hJ ⟨a1,c1,ch1,a2,c2,ch2,rfl,h1,h2,rfl,rfl⟩
    exact ⟨0,ch1,rfl,fun J' hJ' hfx=>⟨a1,c1,a2,c2,ch2,rfl,Rds.of_ownS h1 hfx,h2,h1.le,rfl⟩⟩
  · rintro v J S' hJ ⟨a1,c1,a2,c2,ch2,rfl,h1,h2,h3,rfl⟩
    exact ⟨1,ch2,rfl,fun J' hJ' hfx=>⟨a1,c1,a2,c2,rfl,h1.mono hJ',Rds.of_ownS h2 hfx,h3⟩⟩
theorem placeP_snoc:∀ (xs:List (Nat × Nat)) (k:Nat) (all:List Xt) (x:Nat × Nat),placeP k (xs++[x]) all=addP (placeP k xs all) ⟨k+(xs.map Prod.snd).sum,x.1,x.2⟩
  | [],k,all,x=>by simp [placeP]
  | y :: xs,k,all,x=>by
    rw [List.cons_append,placeP,placeP,placeP_snoc xs]
    congr 2
    simp only [List.map_cons,List.sum_cons]; omega
theorem zerP_snoc (xs:List (Nat × Nat)) (x:Nat × Nat):zerP (xs++[x])=zerP xs++(List.range x.2).map (x.1+·):=by simp [zerP]
theorem len_end:∀ {l:List Xt} {e:Nat},rightX e l=true→l.length≤endX e l - e∧(l=[]∨∃ x ∈ l,endX e l=x.at_+x.count∧1≤x.count)
  | [],_,_=>⟨by simp,.inl rfl⟩
  | x :: l,e,h=>by
    rw [rightX_cons] at h
    obtain ⟨h1,h2⟩:=len_end h.2
    have:=h.1.one; have:=h.1.ge
    have hg:=endX_ge h.2
    refine ⟨by rw [List.length_cons,endX]; omega,.inr ?_⟩
    rcases h2 with rfl | ⟨y,hy,h3,h4⟩
    · exact ⟨x,by simp,rfl,h.1.one⟩
    · exact ⟨y,by simp [hy],h3,h4⟩
theorem len_few {l:List Xt} (h:rightX 0 l=true) {m:Nat} (hm:∀ j,(findP l j).isSome=true→j < m):l.length≤m:=by
  obtain ⟨h1,h2⟩:=len_end h
  rcases h2 with rfl | ⟨x,hx,h3,h4⟩
  · simp
  · obtain ⟨d,hd⟩:=last_find h hx
    have:=hm _ (by rw [hd]; rfl)
    omega
theorem growV_more {n:Nat} {V:Bs} {g:Gr} {b:Nat} (hb:b≠bitsB n):upd (growV n V g) b zer4=growV n V ⟨g.used,g.all,g.zer++[b]⟩:=by
  funext j
  unfold upd growV
  by_cases h:j=b
  · subst h
    rw [if_pos rfl,if_neg hb]
    simp
  · rw [if_neg h]
    by_cases h2:j=bitsB n
    · rw [if_pos h2,if_pos h2]
    · rw [if_neg h2,if_neg h2]
      congr 1
      simp [h]
theorem growV_bits {n:Nat} {V:Bs} {g:Gr} {u:List Bool}:upd (growV n V g) (bitsB n) (bitsL u)=growV n V ⟨u,g.all,g.zer⟩:=by
  funext j
  unfold upd growV
  by_cases h:j=bitsB n
  · rw [if_pos h,if_pos h]
  · rw [if_neg h,if_neg h,if_neg h]
theorem lack_step {all:List Xt} {k c:Nat} (h:findP all k=none):lackP all k (c+1)=lackP all (k+1) c+1:=by rw [lackP,h]; rfl
theorem lack_there {all:List Xt} {k c:Nat} {b:Nat} (h:findP all k=some b):lackP all k c=0:=by
  cases c with
  | zero=>rfl
  | succ c=>rw [lackP,h]; rfl
structure GrowAt (n from_ to:Nat) (g0:Gr) (O:Nat→Prop) (k:Nat) (g:Gr):Prop where
  eq:∃ f,to - k≤f∧growP (to - from_) from_ to g0=growP f k to g
  right:rightX 0 g.all=true
  own:TakenB n g.used (blksX g.all) O
  few:∀ j,(findP g.all j).isSome=true→j < 32
theorem GrowAt.start {n from_ to:Nat} {g0:Gr} {O:Nat→Prop} (h1:rightX 0 g0.all=true) (h2:TakenB n g0.used (blksX g0.all) O) (h3:∀ j,(findP g0.all j).isSome=true→j < 32):GrowAt n from_ to g0 O from_ g0 :=
  ⟨⟨_,Nat.le_refl _,rfl⟩,h1,h2,h3⟩
theorem GrowAt.skip {n from_ to:Nat} {g0:Gr} {O:Nat→Prop} {k:Nat} {g:Gr} (h:GrowAt n from_ to g0 O k g) (hk:k < to) (hl:lackP g.all k (to - k)=0):GrowAt n from_ to g0 O (k+1) g:=by
  obtain ⟨f,hf,e⟩:=h.eq
  cases f with
  | zero=>omega
  | succ f =>
    refine ⟨⟨f,by omega,?_⟩,h.right,h.own,h.few⟩
    rw [e,growP,nblt.2 hk,cond_true,hl]
theorem GrowAt.none {n from_ to:Nat} {g0:Gr} {O:Nat→Prop} {k:Nat} {g:Gr} (h:GrowAt n from_ to g0 O k g) (hk:k < to) {m:Nat} (hl:lackP g.all k (to - k)=m) (hm:0 < m) (ha:allocP m g.used m=none):growP (to - from_) from_ to g0=none:=by
  obtain ⟨f,hf,e⟩:=h.eq
  cases f with
  | zero=>omega
  | succ f =>
    cases m with
    | zero=>omega
    | succ m=>rw [e,growP,nblt.2 hk,cond_true,hl]; simp only [ha]
theorem GrowAt.done {n from_ to:Nat} {g0:Gr} {O:Nat→Prop} {k:Nat} {g:Gr} (h:GrowAt n from_ to g0 O k g) (hk:to≤k):growP (to - from_) from_ to g0=some g:=by
  obtain ⟨f,hf,e⟩:=h.eq
  rw [e]
  cases f with
  | zero=>rfl
  | succ f =>
    have:Nat.blt k to=false:=by rw [Bool.eq_false_iff]; intro h2; have:=nblt.1 h2; omega
    rw [growP,this,cond_false]
structure Take (n k m:Nat) (g:Gr) (u:List Bool) (xs:List (Nat × Nat)):Prop where
  sum:(xs.map Prod.snd).sum=m
  pos:∀ x ∈ xs,0 < x.2∧datB n≤x.1∧x.1+x.2≤n
  none:∀ j,k≤j→j < k+m→findP g.all j=none
  le:k+m≤32
theorem GrowAt.take {n from_ to:Nat} (hn:n≤512) (hto:to≤32) {g0:Gr} {O:Nat→Prop} (hOd:∀ b,b < datB n→O b) {k:Nat} {g:Gr} (h:GrowAt n from_ to g0 O k g) (hk:k < to) {m:Nat} (hl:lackP g.all k (to - k)=m) (hm:0 < m) {u:List Bool} {xs:List (Nat × Nat)} (ha:allocP m g.used m=some (u,xs)) :
    Take n k m g u xs∧GrowAt n from_ to g0 O (k+m+1) ⟨u,placeP k xs g.all,g.zer++zerP xs⟩:=by
  have hF:=(allocP_ok m g.used m (Nat.le_refl _)).1 u xs ha
  have hll:=lackP_le g.all (to - k) k
  have hno:∀ j,k≤j→j < k+m→findP g.all j=Option.none:=fun j h1 h2=>lackP_none g.all (to - k) k j h1 (by rw [hl]; exact h2)
  have hpos:∀ x ∈ xs,0 < x.2∧datB n≤x.1∧x.1+x.2≤n:=by
    intro x hx
    obtain ⟨p1,p2,p3⟩:=hF.pos x hx
    rw [h.own.len] at p2
    refine ⟨p1,?_,p2⟩
    rcases Nat.lt_or_ge x.1 (datB n) with q | q
    · have:=h.own.free (p3 x.1 (by omega) (by omega))
      exact absurd (hOd _ q) this.2.2
    · exact q
  have hd0:1≤datB n:=by unfold datB; omega
  have hp:=placeP_ok n hn xs k m g.all h.right hF.sum (by omega) (fun x hx=>⟨(hpos x hx).1,by have:=(hpos x hx).2.1; omega,(hpos x hx).2.2⟩) hno
  refine ⟨⟨hF.sum,hpos,hno,by omega⟩,?_,hp.right,h.own.take hF hp.blks,?_⟩
  · obtain ⟨f,hf,e⟩:=h.eq
    cases f with
    | zero=>omega
    | succ f =>
      cases m with
      | zero=>omega
      | succ m =>
        refine ⟨f,by omega,?_⟩
        rw [e,growP,nblt.2 hk,cond_true,hl]
        simp only [ha]
  · intro j hj
    by_cases hin:k≤j∧j < k+m
    · omega
    · simp only [] at hj
      rw [hp.same j hin] at hj
      exact h.few j hj
theorem Take.part {n k m:Nat} (hn:n≤512) {g:Gr} {u:List Bool} {xs:List (Nat × Nat)} (t:Take n k m g u xs) (hr:rightX 0 g.all=true) (hfew:∀ j,(findP g.all j).isSome=true→j < 32) {q:Nat} {x:Nat × Nat} (hx:xs[q]?=some x) :
    rightX 0 (placeP k (xs.take q) g.all)=true∧(placeP k (xs.take q) g.all).length≤32∧XtOk 0 ⟨k+((xs.take q).map Prod.snd).sum,x.1,x.2⟩∧(∀ j,k+((xs.take q).map Prod.snd).sum≤j→j < k+((xs.take q).map Prod.snd).sum+x.2→findP (placeP k (xs.take q) g.all) j=Option.none) ∧
      k+((xs.take (q+1)).map Prod.snd).sum≤k+m∧((xs.take (q+1)).map Prod.snd).sum=((xs.take q).map Prod.snd).sum+x.2:=by
  have hd0:1≤datB n:=by unfold datB; omega
  have hsq:((xs.take (q+1)).map Prod.snd).sum=((xs.take q).map Prod.snd).sum+x.2:=by
    rw [List.take_add_one,hx]; simp
  have hle:((xs.take (q+1)).map Prod.snd).sum≤m:=by
    have:xs=xs.take (q+1)++xs.drop (q+1):=(List.take_append_drop _ _).symm
    rw [← t.sum]
    conv=>rhs; rw [this]
    rw [List.map_append,List.sum_append]; omega
  obtain ⟨p1,p2,p3⟩:=t.pos x (List.mem_of_getElem? hx)
  have hle2:=t.le
  have hp:=placeP_ok n hn (xs.take q) k ((xs.take q).map Prod.snd).sum g.all hr rfl (by omega) (fun y hy=>by
    obtain ⟨r1,r2,r3⟩:=t.pos y (List.mem_of_mem_take hy)
    exact ⟨r1,by omega,r3⟩) (fun j h1 h2=>t.none j h1 (by omega))
  refine ⟨hp.right,len_few hp.right ?_,⟨p1,Nat.zero_le _,by simp only []; omega,by simp only []; omega,by simp only []; omega,by simp only []; omega⟩,?_,by omega,hsq⟩
  · intro j hj
    by_cases hin:k≤j∧j < k+((xs.take q).map Prod.snd).sum
    · omega
    · rw [hp.same j hin] at hj; exact hfew j hj
  · intro j h1 h2
    rw [hp.same j (by omega)]
    exact t.none j (by omega) (by omega)
end Go.Proofs.YtklbcpofihgmlaaGreat

/- Texts of this claim laid together: Sl21, Sl22, Sl23, Sl24, Sl25, Sl26, Sl27, Sl28, Sl29, Sl30, Sl31, Sl32, Sl33, Sl34, Sl35. -/
import Derived.Test.YtklbcpofihgmlaaGreatBDataModel1
import Derived.Lib.BufferRead
import Derived.Deep.Strs
import Derived.Lib.Overlaps
namespace Go.Sl
open Go.RowKit
def IterR (r:Nat) (ob it:Obj) (seen:List Int):Prop:=∃ (es:Array MapEntry) (clk:Nat) (sb:Array Nat) (c0:Nat) (ms:List MapEntry),ob=.map es clk∧it=.mapIter (some r) clk sb c0∧clk≤c0∧c0≤clk∧sb.toList=ms.map MapEntry.born∧(∀ m ∈ ms,m ∈ es.toList)∧ms.map MapEntry.key=seen.map (Value.int .i64)
section
variable {P:Program} {T:Tab} {o:Oper} {ρ:Env} {I:Imm} {S:St} {K:Value→Imm→St→Prop}
theorem rangeMapD (hT:TabOk P T) {t kt et:TypeId} {m:Operand} {s1 b1:Nat} {z1:Value} (ho:o.op=.range t m) (ht:T.get t=some ⟨.map kt et,s1,z1,b1⟩) {r:Nat} (hm:ρ.ev m=.map (some r))
    (k:Nat) {ob:Obj} (hk:S[k]?=some [(r,ob)]) {l:List (Int × Value)} (hM:MapR ob l) (h:∀ b it,IterR r ob it []→K (.pointer (some ⟨b,0,none⟩)) I (S++[[(b,it)]])):AnyD P o ρ I S K:=by
  obtain ⟨es,clk,rfl,hE⟩:=hM
  have hu:P.underlying t=some (.map kt et):=by obtain ⟨_,_,hu,_⟩:=rowOf_info (hT _ _ ht); exact hu
  refine .mk ⟨fun w F hw=>?_⟩
  have hb:w.heap[r]?=some (.map es clk):=by
    refine In.heap (S:=S) (I:=I) (.own k ?_) hw
    rw [List.getD_eq_getElem?_getD,hk]; simp
  have hr:(execOp ρ.ev o).run P w=.ok (.value (.pointer (some ⟨w.heap.size,0,none⟩))) (w.alloc (.mapIter (some r) clk #[] clk)):=by
    simp only [execOp,ho,hm,Sem.run_bind,run_range_map w t kt et r es clk hu hb,Result.andThen_ok,Sem.run_pure]
  rw [hr]
  refine ⟨I,_,I.le_refl,h w.heap.size _ ⟨es,clk,#[],clk,[],rfl,rfl,Nat.le_refl _,Nat.le_refl _,rfl,by simp,rfl⟩,?_,Ext.alloc w _⟩
  refine (hw.alloc _).perm ?_
  simp only [List.flatten_append,List.flatten_cons,List.flatten_nil,List.append_nil,List.append_assoc,List.singleton_append]
  exact List.perm_middle.symm
theorem nextMapD {x:Operand} (ho:o.op=.next x false) {r b:Nat} (hx:ρ.ev x=.pointer (some ⟨b,0,none⟩)) (k k2:Nat) {ob it:Obj} (hk:S[k]?=some [(r,ob)]) (hk2:S[k2]?=some [(b,it)]) {l:List (Int × Value)} (hM:MapR ob l) {seen:List Int} (hI:IterR r ob it seen)
    (hdone:(∀ p ∈ l,p.1 ∈ seen)→K (.tuple #[.bool false]) I S)
    (hstep:∀ n v it',(n,v) ∈ l→n ∉ seen→IterR r ob it' (seen++[n])→K (.tuple #[.bool true,.int .i64 n,v]) I (S.set k2 [(b,it')])):AnyD P o ρ I S K:=by
  obtain ⟨es,clk,rfl,hE⟩:=hM
  obtain ⟨es',clk',sb,c0,ms,he,rfl,hc1,hc2,hsb,hms,hseen⟩:=hI
  obtain ⟨rfl,rfl⟩:es=es'∧clk=clk':=by injection he with h1 h2; exact ⟨h1,h2⟩
  obtain rfl:c0=clk:=by omega
  refine .mk ⟨fun w F hw=>?_⟩
  have hb:w.heap[r]?=some (.map es c0):=by
    refine In.heap (S:=S) (I:=I) (.own k ?_) hw
    rw [List.getD_eq_getElem?_getD,hk]; simp
  have hbi:w.heap[b]?=some (.mapIter (some r) c0 sb c0):=by
    refine In.heap (S:=S) (I:=I) (.own k2 ?_) hw
    rw [List.getD_eq_getElem?_getD,hk2]; simp
  have hg1:(getObj b).run P w=.ok (.mapIter (some r) c0 sb c0) w:=by simp [getObj,Sem.run,hbi]
  have hg2:(getObj r).run P w=.ok (.map es c0) w:=by simp [getObj,Sem.run,hb]
  have htest:=next_test_false sb es c0 c0 hE.old (Nat.le_refl _)
  obtain ⟨L,hL⟩:∃ L,L=Array.filter (fun e=>!sb.contains e.born) es:=⟨_,rfl⟩
  have hmemL:∀ e,e ∈ L.toList↔e ∈ es.toList∧e.born ∉ sb.toList:=by
    intro e; rw [hL]; simp
  have e1:L.filter (fun x=>decide (x.born < c0))=L:=Array.filter_eq_self.2 (fun x hx=>by
    have:=hE.old x ((hmemL x).1 (by simpa using hx)).1
    simpa using this)
  have e2:L.filter (fun x=>decide (x.born ≥ c0))=#[]:=by
    rw [Array.filter_eq_empty_iff]
    intro x hx
    have:=hE.old x ((hmemL x).1 (by simpa using hx)).1
    simp; omega
  have hinj:∀ x ∈ es.toList,∀ y ∈ es.toList,x.born=y.born→x=y:=by
    intro x hx y hy hxy
    obtain ⟨i,hi⟩:=List.mem_iff_getElem?.1 hx
    obtain ⟨j,hj⟩:=List.mem_iff_getElem?.1 hy
    have h1:(es.toList.map (·.born))[i]?=some x.born:=by rw [List.getElem?_map,hi]; rfl
    have h2:(es.toList.map (·.born))[j]?=some x.born:=by rw [List.getElem?_map,hj,hxy]; rfl
    have hil:i < (es.toList.map (·.born)).length:=by
      rcases Nat.lt_or_ge i (es.toList.map (·.born)).length with g | g
      · exact g
      · rw [List.getElem?_eq_none g] at h1; cases h1
    have:=(List.getElem?_inj hil hE.born).1 (h1.trans h2.symm)
    subst this
    rw [hi] at hj; exact Option.some.inj hj
  have hkeyinj:∀ x ∈ es.toList,∀ y ∈ es.toList,x.key=y.key→x=y:=by
    intro x hx y hy hxy
    obtain ⟨i,hi⟩:=List.mem_iff_getElem?.1 hx
    obtain ⟨j,hj⟩:=List.mem_iff_getElem?.1 hy
    obtain ⟨p,hp,hpk,_⟩:=hE.at' hi
    obtain ⟨q,hq,hqk,_⟩:=hE.at' hj
    have hpq:p.1=q.1:=by rw [hpk,hqk] at hxy; injection hxy
    have h1:(l.map Prod.fst)[i]?=some p.1:=by rw [List.getElem?_map,hp]; rfl
    have h2:(l.map Prod.fst)[j]?=some p.1:=by rw [List.getElem?_map,hq,hpq]; rfl
    have hil:i < (l.map Prod.fst).length:=by
      rcases Nat.lt_or_ge i (l.map Prod.fst).length with g | g
      · exact g
      · rw [List.getElem?_eq_none g] at h1; cases h1
    have:=(List.getElem?_inj hil hE.nodup).1 (h1.trans h2.symm)
    subst this
    rw [hi] at hj; exact Option.some.inj hj
  have hseenL:∀ e ∈ es.toList,e.born ∉ sb.toList→∀ n,e.key=.int .i64 n→n ∉ seen:=by
    intro e he hn n hk hm
    have:Value.int .i64 n ∈ ms.map MapEntry.key:=by rw [hseen]; exact List.mem_map_of_mem hm
    obtain ⟨m,hmm,hmk⟩:=List.mem_map.1 this
    have:=hkeyinj e he m (hms m hmm) (by rw [hk,hmk])
    subst this
    exact hn (by rw [hsb]; exact List.mem_map_of_mem hmm)
  have hexec:(execOp ρ.ev o).run P w=((Instr.next (.pointer (some ⟨b,0,none⟩)) false o.type).run P w).andThen (fun v w=>.ok (.value v) w):=by
    simp only [execOp,ho,hx,Sem.run_bind,Sem.run_pure]
  by_cases h0:L.size=0
  · have hL0:L=#[]:=Array.eq_empty_of_size_eq_zero h0
    have hrun:(Instr.next (.pointer (some ⟨b,0,none⟩)) false o.type).run P w=.ok (.tuple #[.bool false]) w:=by
      simp only [Instr.next,Sem.run_bind,hg1,hg2,Result.andThen_ok,htest,Bool.false_eq_true,if_false,← hL,e1,e2]
      rw [hL0]
      simp [choose,Sem.run,Question.forced]
    rw [hexec,hrun]
    refine ⟨I,S,I.le_refl,hdone ?_,hw,Ext.refl w⟩
    intro p hp
    obtain ⟨j,hj⟩:=List.mem_iff_getElem?.1 hp
    have hkvj:=congrArg (·[j]?) hE.kv
    simp only [List.getElem?_map,hj,Option.map_some] at hkvj
    cases he:es.toList[j]? with
    | none=>rw [he] at hkvj; cases hkvj
    | some e =>
      rw [he] at hkvj
      simp only [Option.map_some,Option.some.injEq,Prod.mk.injEq] at hkvj
      have hee:=List.mem_of_getElem? he
      have hbn:e.born ∈ sb.toList:=by
        by_cases hn:e.born ∈ sb.toList
        · exact hn
        · have:e ∈ L.toList:=(hmemL e).2 ⟨hee,hn⟩
          rw [hL0] at this; simp at this
      rw [hsb] at hbn
      obtain ⟨m,hm,hmb⟩:=List.mem_map.1 hbn
      have:=hinj m (hms m hm) e hee hmb
      subst this
      have h3:m.key ∈ seen.map (Value.int .i64):=by rw [← hseen]; exact List.mem_map_of_mem hm
      rw [hkvj.1] at h3
      obtain ⟨q,hqm,hqe⟩:=List.mem_map.1 h3
      injection hqe with _ hqe
      rw [← hqe]; exact hqm
  · have hne:L.isEmpty=false:=by simp [Array.isEmpty,h0]
    have hch:∃ (j:Nat) (w1:World),j < L.size∧(w1=w∨w1=w.drew)∧(choose (Question.mapNext L.size)).run P w=.ok j w1:=by
      by_cases hf:L.size≤1
      · exact ⟨0,w,by omega,.inl rfl,by simp [choose,Sem.run,Question.forced,hf]⟩
      · exact ⟨_,w.drew,Nat.mod_lt _ (by omega),.inr rfl,by
          simp only [choose,Sem.run,Question.forced,decide_eq_true_eq,hf,if_false,Question.cut]
          rfl⟩
    obtain ⟨j,w1,hj,hal,hcrun⟩:=hch
    have hw1:Has w1 I (S.flatten++F):=by
      rcases hal with rfl | rfl
      · exact hw
      · exact hw.drew
    have hbi1:w1.heap[b]?=some (.mapIter (some r) c0 sb c0):=by
      refine In.heap (S:=S) (I:=I) (.own k2 ?_) hw1
      rw [List.getD_eq_getElem?_getD,hk2]; simp
    have hlt:b < w1.heap.size:=lt_of_some hbi1
    have hset:(setObj b (.mapIter (some r) c0 (sb.push L[j].born) c0)).run P w1=.ok () { w1 with heap:=w1.heap.setIfInBounds b (.mapIter (some r) c0 (sb.push L[j].born) c0) }:=by simp [setObj,Sem.run,hbi1]
    have hrun:(Instr.next (.pointer (some ⟨b,0,none⟩)) false o.type).run P w=.ok (.tuple #[.bool true,L[j].key,L[j].val]) { w1 with heap:=w1.heap.setIfInBounds b (.mapIter (some r) c0 (sb.push L[j].born) c0) }:=by
      simp only [Instr.next,Sem.run_bind,hg1,hg2,Result.andThen_ok,htest,Bool.false_eq_true,if_false,← hL,e1,e2,Array.append_empty,hne,Array.empty_append,Array.size_map,hcrun,Array.getElem?_map,Array.getElem?_eq_getElem hj,Option.map_some,hset,Sem.run_pure]
    rw [hexec,hrun]
    have hmj:L[j] ∈ L.toList:=by simp
    obtain ⟨hme,hmn⟩:=(hmemL _).1 hmj
    obtain ⟨i,hi⟩:=List.mem_iff_getElem?.1 hme
    obtain ⟨p,hp,hpk,hpv⟩:=hE.at' hi
    obtain ⟨n,v⟩:=p
    have hst:=hstep n v (.mapIter (some r) c0 (sb.push L[j].born) c0) (List.mem_of_getElem? hp) (hseenL _ hme hmn n hpk) ⟨es,c0,_,c0,ms++[L[j]],rfl,rfl,Nat.le_refl _,Nat.le_refl _,by rw [Array.toList_push,hsb,List.map_append]; rfl,by
      intro m hm
      rcases List.mem_append.1 hm with hm | hm
      · exact hms m hm
      · simp only [List.mem_singleton] at hm; subst hm; exact hme,by rw [List.map_append,hseen,List.map_append]; simp [hpk]⟩
    rw [hpk,hpv]
    refine ⟨I,_,I.le_refl,hst,Has.turnAt (A:=[]) (B:=[]) hw1 hk2 (by simp [hlt]) (fun q hq=>by simp [Array.getElem?_setIfInBounds_ne (Ne.symm hq)]),?_⟩
    refine Ext.trans (b:=w1) ?_ ⟨rfl,rfl,rfl,by simp⟩
    rcases hal with rfl | rfl
    · exact Ext.refl _
    · exact Ext.drew _
theorem entryMapD {x:Operand} (ho:o.op=.entry x) {r b:Nat} (hx:ρ.ev x=.pointer (some ⟨b,0,none⟩)) (k k2:Nat) {ob it:Obj} (hk:S[k]?=some [(r,ob)]) (hk2:S[k2]?=some [(b,it)]) {l:List (Int × Value)} (hM:MapR ob l) {seen:List Int} {n:Int} (hI:IterR r ob it (seen++[n]))
    (h:∀ v,(n,v) ∈ l→K (.tuple #[.int .i64 n,v]) I S):AnyD P o ρ I S K:=by
  obtain ⟨es,clk,rfl,hE⟩:=hM
  obtain ⟨es',clk',sb,c0,ms,he,rfl,hc1,hc2,hsb,hms,hseen⟩:=hI
  obtain ⟨rfl,rfl⟩:es=es'∧clk=clk':=by injection he with h1 h2; exact ⟨h1,h2⟩
  obtain rfl:c0=clk:=by omega
  have hmsne:ms≠[]:=by rintro rfl; simp at hseen
  obtain ⟨ms0,m,rfl⟩:∃ ms0 m,ms=ms0++[m]:=⟨_,_,(List.dropLast_concat_getLast hmsne).symm⟩
  have hmk:m.key=.int .i64 n:=by
    rw [List.map_append,List.map_append] at hseen
    have:=congrArg List.getLast? hseen
    simpa using this
  have hme:m ∈ es.toList:=hms m (by simp)
  obtain ⟨i,hi⟩:=List.mem_iff_getElem?.1 hme
  obtain ⟨⟨n',v⟩,hp,hpk,hpv⟩:=hE.at' hi
  have:n'=n:=by rw [hmk] at hpk; injection hpk with _ hpk; exact hpk.symm
  subst this
  refine .mk (OpS.value _ (fun w F hw=>?_) (h v (List.mem_of_getElem? hp)))
  have hb:w.heap[r]?=some (.map es c0):=by
    refine In.heap (S:=S) (I:=I) (.own k ?_) hw
    rw [List.getD_eq_getElem?_getD,hk]; simp
  have hbi:w.heap[b]?=some (.mapIter (some r) c0 sb c0):=by
    refine In.heap (S:=S) (I:=I) (.own k2 ?_) hw
    rw [List.getD_eq_getElem?_getD,hk2]; simp
  have hg1:(getObj b).run P w=.ok (.mapIter (some r) c0 sb c0) w:=by simp [getObj,Sem.run,hbi]
  have hg2:(getObj r).run P w=.ok (.map es c0) w:=by simp [getObj,Sem.run,hb]
  have hback:sb.back?=some m.born:=by
    rw [← Array.getLast?_toList,hsb,List.map_append]; simp
  have hf:es.find? (·.born == m.born)=some m:=by rw [← Array.find?_toList]; exact find_born m es.toList hE.born hme
  simp only [execOp,ho,hx,Instr.entry,Sem.run_bind,hg1,hg2,Result.andThen_ok,hback,bne_self_eq_false,Bool.false_eq_true,if_false,hf,Sem.run_pure,hmk,hpv]
end
end Go.Sl
namespace Go.Sl
open Go.RowKit
theorem bytes_loop (bs:ByteArray):∀ (n i:Nat) (r:List UInt8),bs.size - i=n→ByteArray.toList.loop bs i r=r.reverse++bs.data.toList.drop i
  | 0,i,r,h=>by
    rw [ByteArray.toList.loop,if_neg (by omega),List.drop_of_length_le (by show bs.data.size≤i; have:bs.size=bs.data.size:=rfl; omega),List.append_nil]
  | n+1,i,r,h=>by
    have hi:i < bs.data.toList.length:=by show i < bs.data.size; have:bs.size=bs.data.size:=rfl; omega
    rw [ByteArray.toList.loop,if_pos (by omega),bytes_loop bs n (i+1) _ (by omega),List.drop_eq_getElem_cons hi]
    simp [ByteArray.get!]
    rw [getElem!_pos bs.data i (by simpa using hi)]
theorem bytes_toList (l:List UInt8):(ByteArray.mk l.toArray).toList=l:=by
  unfold ByteArray.toList
  rw [bytes_loop _ _ 0 [] rfl]; simp
section
variable {P:Program} {T:Tab} {o:Oper} {ρ:Env} {I:Imm} {S:St} {K:Value→Imm→St→Prop}
theorem convStrD (hT:TabOk P T) {src dst e:TypeId} {x:Operand} {s1 b1 s2 b2 s3 b3:Nat} {z1 z2 z3:Value} (ho:o.op=.convert src dst x) (hs:T.get src=some ⟨.slice e,s1,z1,b1⟩) (he:T.get e=some ⟨.int .u8,s2,z2,b2⟩) (hd:T.get dst=some ⟨.string,s3,z3,b3⟩)
    {a:Option Addr} {len cap:Nat} (hx:ρ.ev x=.slice a len cap) {l:List UInt8} (h:SlC I S a len (l.map fun b=>Value.int .u8 (b.toNat:Int))) (hK:K (.string ⟨l.toArray⟩) I S):AnyD P o ρ I S K:=by
  have hus:P.underlying src=some (.slice e):=by obtain ⟨_,_,hu,_⟩:=rowOf_info (hT _ _ hs); exact hu
  have hue:P.underlying e=some (.int .u8):=by obtain ⟨_,_,hu,_⟩:=rowOf_info (hT _ _ he); exact hu
  have hud:P.underlying dst=some .string:=by obtain ⟨_,_,hu,_⟩:=rowOf_info (hT _ _ hd); exact hu
  have hl:=h.len
  rw [List.length_map] at hl
  refine .mk (OpS.value _ (fun w F hw=>?_) hK)
  have hr:(convert src dst (.slice a len cap)).run P w=.ok (.string ⟨l.toArray⟩) w:=by
    rcases h.mem with h0 | ⟨b,off,rfl,hc⟩
    · subst h0
      have hl0:l=[]:=List.length_eq_zero_iff.1 hl
      subst hl0
      cases a with
      | none=>exact Lib.run_convert_nil_bytes w src dst e cap hus hue hud
      | some p=>exact run_convert_bytes_back w src dst e p cap [] hus hue hud (fun j hj=>by simp at hj)
    · rw [← hl]
      refine run_convert_bytes_back w src dst e _ cap l hus hue hud (fun j hj=>?_)
      rw [add_none]
      exact hc.cell hw j _ (by rw [List.getElem?_map,List.getElem?_eq_getElem hj]; rfl)
  simp only [execOp,ho,hx,Sem.run_bind,hr,Result.andThen_ok,Sem.run_pure]
theorem convMarkD (hT:TabOk P T) {t e:TypeId} {x:Operand} {s1 b1 s2 b2:Nat} {z1 z2:Value} (ho:o.op=.convert t t x) (hs:T.get t=some ⟨.slice e,s1,z1,b1⟩) (he:T.get e=some ⟨.int .u8,s2,z2,b2⟩)
    {b len cap:Nat} (hx:ρ.ev x=.slice (some ⟨b,0,none⟩) len cap) (k:Nat) {c:List Value} {Ty:TypeId} (hk:S[k]?=some [(b,row c Ty)]) (hK:K (.slice (some ⟨b,0,none⟩) len cap) I (S.set k [(b,row c Ty (c.length,c.length+1))])):AnyD P o ρ I S K:=by
  have hus:P.underlying t=some (.slice e):=by obtain ⟨_,_,hu,_⟩:=rowOf_info (hT _ _ hs); exact hu
  have hue:P.underlying e=some (.int .u8):=by obtain ⟨_,_,hu,_⟩:=rowOf_info (hT _ _ he); exact hu
  refine .mk ⟨fun w F hw=>?_⟩
  have hb:w.heap[b]?=some (row c Ty):=by
    refine In.heap (S:=S) (I:=I) (.own k ?_) hw
    rw [List.getD_eq_getElem?_getD,hk]; simp
  have hsh:w.shape? b=some (Ty,c.length):=by
    unfold World.shape?
    rw [hb]; simp [row]
  have hr:(convert t t (.slice (some ⟨b,0,none⟩) len cap)).run P w=.ok (.slice (some ⟨b,0,none⟩) len cap) (w.freeze ⟨b,c.length,none⟩ 1):=by
    simp [convert,run_underlying hus,run_underlying hue,markStringish,hsh]
  have hexec:(execOp ρ.ev o).run P w=.ok (.value (.slice (some ⟨b,0,none⟩) len cap)) (w.freeze ⟨b,c.length,none⟩ 1):=by
    simp only [execOp,ho,hx,Sem.run_bind,hr,Result.andThen_ok,Sem.run_pure]
  rw [hexec]
  have hf1:(w.freeze ⟨b,c.length,none⟩ 1).heap[b]?=some (row c Ty (c.length,c.length+1)):=by
    unfold World.freeze
    rw [if_neg (by decide)]
    simp only [Array.getElem?_modify,hb,if_true,Option.map_some,row]
    rfl
  have hf2:∀ j,j≠b→(w.freeze ⟨b,c.length,none⟩ 1).heap[j]?=w.heap[j]?:=by
    intro j hj
    unfold World.freeze
    rw [if_neg (by decide)]
    simp only [Array.getElem?_modify]
    rw [if_neg (Ne.symm hj)]
  exact ⟨I,_,I.le_refl,hK,Has.turnAt (A:=[]) (B:=[]) hw hk hf1 hf2,⟨rfl,rfl,rfl,by unfold World.freeze; rw [if_neg (by decide)]; simp⟩⟩
end
end Go.Sl
namespace Go.Sl
open Go.RowKit
inductive Sch where
  | nil
  | rd (i:Nat) (s:Sch)
  | ef (i:Nat) (s:Sch)
  | alt (a b:Sch)
def Sch.heads:Sch→List Nat
  | .nil=>[]
  | .rd _ _=>[]
  | .ef i _=>[i]
  | .alt a b=>a.heads++b.heads
noncomputable def denT (P:Program) (T:Tab) (ops:List Oper) (anc:List (List Nat)) (K:Env→Imm→St→Prop) (s:Sch):Prot→Env→Imm→St→Prop :=
  Sch.rec (motive:=fun _=>Prot→Env→Imm→St→Prop) (fun _ ρ I S=>K ρ I S) (fun i _ ih pr ρ I S=>schedS P T ops anc i ih pr ρ I S) (fun i _ ih pr ρ I S=>schedS P T ops anc i ih pr ρ I S) (fun _ _ a b pr ρ I S=>a pr ρ I S∧b pr ρ I S) s
def okT (T:Tab) (ops:List Oper) (anc:List (List Nat)):Sch→List Nat→List Nat→Bool
  | .nil,done,hs=>hs.isEmpty && (List.range ops.length).all fun k=>done.contains k
  | .rd i s,done,hs=>hs.isEmpty && (match ops[i]? with
    | none=>false
    | some o=>readyB ops (fun k=>done.contains k) o i && nowRead T o.op && ((List.range ops.length).all fun j=>Nat.beq j i || done.contains j || befOf anc j i || (match ops[j]? with | some oj=>o.apart ops.toArray oj | none=>true)) && okT T ops anc s (i :: done) [])
  | .ef i s,done,hs=>(match ops[i]? with
    | none=>false
    | some o=>readyB ops (fun k=>done.contains k) o i && !nowRead T o.op && ((List.range ops.length).all fun j=>Nat.beq j i || hs.contains j || (match ops[j]? with | some oj=>!readyB ops (fun k=>done.contains k) oj j | none=>true)) && okT T ops anc s (i :: done) [])
  | .alt a b,done,hs=>!a.heads.isEmpty && !b.heads.isEmpty && okT T ops anc a done (b.heads++hs) && okT T ops anc b done (a.heads++hs)
theorem denT_ok {P:Program} {T:Tab} (hT:TabOk P T) {ops:List Oper} {anc:List (List Nat)} (hk:okAnc ops anc=true) (hs:∀ (j:Nat) (oj:Oper),ops[j]?=some oj→noSelect oj.op=true) {K:Env→Imm→St→Prop} :
    ∀ (s:Sch) (done hds:List Nat) (pr:Prot) (ρ:Env) (I:Imm) (S:St) (f:Nat),okT T ops anc s done hds=true→denT P T ops anc K s pr ρ I S→DC ops (fun k=>done.contains k)→cnt ops (fun k=>done.contains k)≤f →
    (hds=[]→anyQ P ops (befOf anc) K f (fun k=>done.contains k) pr ρ I S) ∧
    (s.heads≠[]→∃ f',f=f'+1∧(∃ j oj,ops[j]?=some oj∧readyB ops (fun k=>done.contains k) oj j=true)∧(∀ j oj,ops[j]?=some oj→readyB ops (fun k=>done.contains k) oj j=true→j ∈ s.heads++hds) ∧
      ∀ j ∈ s.heads,∀ oj,ops[j]?=some oj→stepQ P ops oj ρ I S fun v J S'=>pres (befOf anc) pr j S S'∧anyQ P ops (befOf anc) K f' (put1 (fun k=>done.contains k) j) pr (ρ.put oj.dst v) J S')
  | .nil,done,hds,pr,ρ,I,S,f,ho,h,hd,hc=>by
    simp only [okT,Bool.and_eq_true] at ho
    refine ⟨fun _=>?_,fun hne=>absurd rfl hne⟩
    have hall:∀ i o,ops[i]?=some o→readyB ops (fun k=>done.contains k) o i=false:=by
      intro i o hio
      have hlt:i < ops.length:=by
        rcases Nat.lt_or_ge i ops.length with g | g
        · exact g
        · rw [List.getElem?_eq_none g] at hio; cases hio
      have:=List.all_eq_true.1 ho.2 i (List.mem_range.2 hlt)
      unfold readyB
      show (!(done.contains i) && _)=false
      rw [this]; rfl
    cases f with
    | zero=>exact fun _=>h
    | succ f=>exact ⟨fun _=>h,fun j o hj hr=>by rw [hall j o hj] at hr; cases hr⟩
  | .rd i s,done,hds,pr,ρ,I,S,f,ho,h,hd,hc=>by
    refine ⟨fun _=>?_,fun hne=>absurd rfl hne⟩
    simp only [okT,Bool.and_eq_true] at ho
    obtain ⟨_,ho⟩:=ho
    split at ho
    · cases ho
    · rename_i o hi
      simp only [Bool.and_eq_true] at ho
      obtain ⟨⟨⟨hr,hnow⟩,hmode⟩,hnext⟩:=ho
      have hcnt:=cnt_put ops (fun k=>done.contains k) hi (ready_preds hr).1
      obtain ⟨f,rfl⟩:∃ m,f=m+1:=⟨f - 1,by omega⟩
      have hd':=hd.put hi hr
      rw [← contains_put] at hd' hcnt
      have h:schedS P T ops anc i (denT P T ops anc K s) pr ρ I S:=h
      unfold schedS at h
      rw [hi] at h
      obtain ⟨dst,op,type,pos,after,guard⟩:=o
      simp only [] at h
      generalize hoe:(⟨dst,op,type,pos,after,guard⟩:Oper)=o at *
      have hod:o.dst=dst:=by rw [← hoe]
      have hop:o.op=op:=by rw [← hoe]
      have hog:o.guard=guard:=by rw [← hoe]
      have hsplit:(wantE ops ρ o=true∧(match isLoad op with
          | true=>loadP P T o ρ I S fun v ks=>putK ρ dst v fun ρ'=>denT P T ops anc K s (ks.map (fun k=>(i,k))++pr) ρ' I S
          | false=>(match pureOp T op with
            | true=>opD P T o ρ I S fun v _ _=>putK ρ dst v fun ρ'=>denT P T ops anc K s pr ρ' I S
            | false=>opD P T o ρ I S fun v J S'=>presK ((pr.filter fun p=>!befOf anc i p.1).map Prod.snd) S S' (putK ρ dst v fun ρ'=>denT P T ops anc K s pr ρ' J S')))) ∨
          (wantE ops ρ o=false∧denT P T ops anc K s pr (ρ.put dst undef) I S):=by
        cases hgd:guard with
        | none =>
          left
          subst hgd
          refine ⟨by unfold wantE; rw [hog],h⟩
        | some jw =>
          obtain ⟨j,want⟩:=jw
          subst hgd
          simp only [putK_eq ρ dst undef] at h
          exact guard_want hog h
      have hmode:=List.all_eq_true.1 hmode
      have fwd:∀ (v:Value) (ks:List Nat),(∀ (J:Imm) (S':St),I.le J→(∀ k ∈ ks,S'[k]?=S[k]?)→Yld P ops o ρ J S' v)→denT P T ops anc K s (ks.map (fun k=>(i,k))++pr) (ρ.put dst v) I S →
          anyQ P ops (befOf anc) K (f+1) (fun k=>done.contains k) pr ρ I S:=by
        intro v ks hy hn
        refine anyQ.ahead (v:=v) (ks:=ks) hk hi hs f _ ρ I S hd hr ?_ hc hy ?_
        · intro j oj hoj hji hjl hjb
          have hlt:j < ops.length:=by
            rcases Nat.lt_or_ge j ops.length with g | g
            · exact g
            · rw [List.getElem?_eq_none g] at hoj; cases hoj
          have:=hmode j (List.mem_range.2 hlt)
          rw [hoj] at this
          have hne:Nat.beq j i=false:=by
            cases hb:Nat.beq j i with
            | false=>rfl
            | true=>exact absurd (Nat.eq_of_beq_eq_true hb) hji
          have hjl':done.contains j=false:=hjl
          simp only [hne,hjl',hjb,Bool.false_or] at this
          exact this
        · rw [← contains_put,hod]
          exact (denT_ok hT hk hs s (i :: done) [] _ _ I S f hnext hn hd' (by omega)).1 rfl
      rcases hsplit with ⟨hw,h⟩ | ⟨hw,h⟩
      · rw [hop] at hnow
        split at h
        · obtain ⟨v,ks,hg,hrun⟩:=loadP_ok hT h
          rw [putK_eq] at hg
          refine fwd v ks ?_ hg
          intro J S' hJ hkk
          unfold Yld; rw [hw]
          exact fun w F hww=>hrun J S' hJ hkk w F hww
        · rename_i hl
          have hp:pureOp T op=true:=by simpa [nowRead,hl] using hnow
          rw [hp] at h
          obtain ⟨v,hrun,hg⟩:=opD_pure hT (by rw [hop]; exact hp) h
          rw [putK_eq] at hg
          refine fwd v [] ?_ (by simpa using hg)
          intro J S' hJ _
          unfold Yld; rw [hw]
          exact fun w F _=>hrun w
      · refine fwd undef [] ?_ (by simpa using h)
        intro J S' hJ _
        unfold Yld; rw [hw]
  | .ef i s,done,hds,pr,ρ,I,S,f,ho,h,hd,hc=>by
    simp only [okT] at ho
    split at ho
    · cases ho
    · rename_i o hi
      simp only [Bool.and_eq_true,Bool.not_eq_true'] at ho
      obtain ⟨⟨⟨hr,hnow⟩,hmode⟩,hnext⟩:=ho
      have hcnt:=cnt_put ops (fun k=>done.contains k) hi (ready_preds hr).1
      obtain ⟨f,rfl⟩:∃ m,f=m+1:=⟨f - 1,by omega⟩
      have hd':=hd.put hi hr
      rw [← contains_put] at hd' hcnt
      have h:schedS P T ops anc i (denT P T ops anc K s) pr ρ I S:=h
      unfold schedS at h
      rw [hi] at h
      have hmode:=List.all_eq_true.1 hmode
      have hcov:∀ j oj,ops[j]?=some oj→readyB ops (fun k=>done.contains k) oj j=true→j ∈ [i]++hds:=by
        intro j oj hoj hrj
        have hlt:j < ops.length:=by
          rcases Nat.lt_or_ge j ops.length with g | g
          · exact g
          · rw [List.getElem?_eq_none g] at hoj; cases hoj
        have:=hmode j (List.mem_range.2 hlt)
        rw [hoj] at this
        simp only [] at this
        rw [hrj] at this
        simp only [Bool.not_true,Bool.or_false,Bool.or_eq_true] at this
        rcases this with this | this
        · have:=Nat.eq_of_beq_eq_true this
          subst this; simp
        · simp only [List.mem_append,List.mem_singleton]
          right; simpa using this
      obtain ⟨dst,op,type,pos,after,guard⟩:=o
      simp only [] at h
      generalize hoe:(⟨dst,op,type,pos,after,guard⟩:Oper)=o at *
      have hod:o.dst=dst:=by rw [← hoe]
      have hop:o.op=op:=by rw [← hoe]
      have hog:o.guard=guard:=by rw [← hoe]
      have hl:isLoad op=false:=by
        cases hl:isLoad op with
        | false=>rfl
        | true=>rw [hop] at hnow; simp [nowRead,hl] at hnow
      have hp:pureOp T op=false:=by
        cases hp:pureOp T op with
        | false=>rfl
        | true=>rw [hop] at hnow; simp [nowRead,hp] at hnow
      rw [hl,hp] at h
      simp only [] at h
      have hsplit:(wantE ops ρ o=true∧opD P T o ρ I S fun v J S'=>presK ((pr.filter fun p=>!befOf anc i p.1).map Prod.snd) S S' (putK ρ dst v fun ρ'=>denT P T ops anc K s pr ρ' J S')) ∨
          (wantE ops ρ o=false∧denT P T ops anc K s pr (ρ.put dst undef) I S):=by
        cases hgd:guard with
        | none =>
          left
          subst hgd
          refine ⟨by unfold wantE; rw [hog],h⟩
        | some jw =>
          obtain ⟨j,want⟩:=jw
          subst hgd
          simp only [putK_eq ρ dst undef] at h
          exact guard_want hog h
      have step:stepQ P ops o ρ I S fun v J S'=>pres (befOf anc) pr i S S'∧anyQ P ops (befOf anc) K f (put1 (fun k=>done.contains k) i) pr (ρ.put o.dst v) J S':=by
        rw [← contains_put,hod]
        rcases hsplit with ⟨hw,h⟩ | ⟨hw,h⟩
        · unfold stepQ; rw [hw]
          refine OpS.mono (opD_ok hT h) ?_
          intro v J S' hle hv
          obtain ⟨hpres,hn⟩:=presK_ok hv
          rw [putK_eq] at hn
          refine ⟨?_,(denT_ok hT hk hs s (i :: done) [] pr _ J S' f hnext hn hd' (by omega)).1 rfl⟩
          intro p hp2 hb
          refine hpres p.2 (List.mem_map.2 ⟨p,List.mem_filter.2 ⟨hp2,by rw [hb]; rfl⟩,rfl⟩)
        · unfold stepQ; rw [hw]
          exact ⟨fun _ _ _=>rfl,(denT_ok hT hk hs s (i :: done) [] pr _ I S f hnext h hd' (by omega)).1 rfl⟩
      have second:∃ f',f+1=f'+1∧(∃ j oj,ops[j]?=some oj∧readyB ops (fun k=>done.contains k) oj j=true)∧(∀ j oj,ops[j]?=some oj→readyB ops (fun k=>done.contains k) oj j=true→j ∈ (Sch.ef i s).heads++hds) ∧
          ∀ j ∈ (Sch.ef i s).heads,∀ oj,ops[j]?=some oj→stepQ P ops oj ρ I S fun v J S'=>pres (befOf anc) pr j S S'∧anyQ P ops (befOf anc) K f' (put1 (fun k=>done.contains k) j) pr (ρ.put oj.dst v) J S':=by
        refine ⟨f,rfl,⟨i,o,hi,hr⟩,hcov,?_⟩
        intro j hj oj hoj
        simp only [Sch.heads,List.mem_singleton] at hj
        subst hj
        rw [hi] at hoj; cases hoj
        exact step
      refine ⟨fun hnil=>?_,fun _=>second⟩
      subst hnil
      refine ⟨fun hno=>absurd (hno i o hi) (by rw [hr]; simp),?_⟩
      intro j oj hoj hrj
      have:=hcov j oj hoj hrj
      simp only [List.append_nil,List.mem_singleton] at this
      subst this
      rw [hi] at hoj; cases hoj
      exact step
  | .alt a b,done,hds,pr,ρ,I,S,f,ho,h,hd,hc=>by
    simp only [okT,Bool.and_eq_true,Bool.not_eq_true',List.isEmpty_eq_false_iff] at ho
    obtain ⟨⟨⟨ha0,hb0⟩,ha⟩,hb⟩:=ho
    have h:denT P T ops anc K a pr ρ I S∧denT P T ops anc K b pr ρ I S:=h
    obtain ⟨f1,rfl,hex,hc1,hs1⟩:=(denT_ok hT hk hs a done _ pr ρ I S f ha h.1 hd hc).2 ha0
    obtain ⟨f2,e2,_,hc2,hs2⟩:=(denT_ok hT hk hs b done _ pr ρ I S (f1+1) hb h.2 hd hc).2 hb0
    obtain rfl:f1=f2:=by omega
    have hcov:∀ j oj,ops[j]?=some oj→readyB ops (fun k=>done.contains k) oj j=true→j ∈ (Sch.alt a b).heads++hds:=by
      intro j oj hoj hrj
      have:=hc1 j oj hoj hrj
      simpa [Sch.heads] using this
    have hst:∀ j ∈ (Sch.alt a b).heads,∀ oj,ops[j]?=some oj→stepQ P ops oj ρ I S fun v J S'=>pres (befOf anc) pr j S S'∧anyQ P ops (befOf anc) K f1 (put1 (fun k=>done.contains k) j) pr (ρ.put oj.dst v) J S':=by
      intro j hj oj hoj
      rcases List.mem_append.1 hj with hj | hj
      · exact hs1 j hj oj hoj
      · exact hs2 j hj oj hoj
    refine ⟨fun hnil=>?_,fun _=>⟨f1,rfl,hex,hcov,hst⟩⟩
    subst hnil
    obtain ⟨j0,o0,hj0,hr0⟩:=hex
    refine ⟨fun hno=>absurd (hno j0 o0 hj0) (by rw [hr0]; simp),?_⟩
    intro j oj hoj hrj
    have:=hcov j oj hoj hrj
    rw [List.append_nil] at this
    exact hst j this oj hoj
def okAllT (P:Program) (T:Tab) (ops:List Oper) (anc:List (List Nat)) (s:Sch):Bool :=
  P.follows .mixedOrders && okAnc ops anc && ops.all (fun o=>noSelect o.op) && okT T ops anc s [] []
theorem CodeF.schedT {P:Program} {T:Tab} {n id:Nat} {ops:Array Oper} {ρ:Env} {I:Imm} {S:St} {Q:Exit→Env→Imm→St→Prop} (anc:List (List Nat)) (s:Sch) (hok:okAllT P T ops.toList anc s=true)
    (h:denT P T ops.toList anc (fun ρ I S=>Q .normal ρ I S) s [] ρ I S):CodeF P T n (.region id ops true) ρ I S Q:=by
  simp only [okAllT,Bool.and_eq_true] at hok
  obtain ⟨⟨⟨hm,hk⟩,hsel⟩,hs⟩:=hok
  refine ⟨fun hT hf=>⟨fun rd ds a w F R hr hw _ hR=>?_⟩⟩
  have hf':∀ o ∈ ops.toList,fitsO n o=true:=List.all_eq_true.1 hf
  have hsel':∀ (j:Nat) (oj:Oper),ops.toList[j]?=some oj→noSelect oj.op=true:=fun j oj h=>List.all_eq_true.1 hsel oj (List.mem_of_getElem? h)
  have hcnt:cnt ops.toList (fun k=>([]:List Nat).contains k)≤ops.size:=by
    unfold cnt
    refine Nat.le_trans (List.length_filter_le _ _) ?_
    simp
  have hany:=(denT_ok hT hk hsel' s [] [] [] ρ I S ops.size hs h (fun j o _ hl=>by simp at hl) hcnt).1 rfl
  refine wpIn_region_any hm ?_
  have e:ops=ops.toList.toArray:=by simp
  have:=anyQ_ok hf' (Q:=R) (F:=markB ds++F) rd ops.size _ [] ρ I S a w.drew (Array.replicate ops.size false) hany hcnt hr hw.drew (by simp) (by
    intro i hi
    rw [Array.getD_eq_getD_getElem?]
    simp at hi
    simp [hi]) (by
    intro a' w' ρ' J S' r1 r2 r3 r4 r5
    exact hR _ _ _ _ _ _ ds (fun _=>rfl) r1 r2 r3 r4 ((Ext.drew w).trans r5))
  rw [← e] at this
  exact this
theorem CodeF.cutD {P:Program} {T:Tab} {n:Nat} {c:Code} {ρ:Env} {I:Imm} {S:St} {Q:Exit→Env→Imm→St→Prop} (sl:List Nat) (G:List Value→Imm→St→Prop)
    (h:CodeF P T n c ρ I S fun e ρ' J S'=>match e with | .normal=>∃ S0,Drop S' S0∧G (sl.map ρ') J S0 | _=>False)
    (rest:∀ vs g J S',I.le J→G vs J S'→Q .normal (Env.of (sl.zip vs) g) J S'):CodeF P T n c ρ I S Q:=by
  refine ⟨fun hT hf=>⟨fun rd ds a w F R hr hw hl hR=>?_⟩⟩
  refine (h.out hT hf).run rd ds a w F R hr hw hl ?_
  intro e a' w' ρ' J S' ds' r0 r1 r2 r3 r4 r5
  cases e with
  | normal =>
    obtain ⟨S0,hd,hg⟩:=r3
    have hq:=rest _ ρ' J S0 r2 hg
    rw [zip_map_self,Env.of_self] at hq
    exact hR _ _ _ _ _ _ ds' r0 r1 r2 hq (hd.has r4) r5
  | exit i=>exact r3.elim
  | goto l=>exact r3.elim
  | ret=>exact r3.elim
  | panic c=>exact r3.elim
  | outgrown=>exact r3.elim
end Go.Sl
namespace Go.Sl
open Go.RowKit
section
variable {P:Program} {T:Tab} {o:Oper} {ρ:Env} {I:Imm} {S:St} {K:Value→Imm→St→Prop}
theorem capD (hT:TabOk P T) {c:Call} {x:Operand} {t e:TypeId} {s1 b1:Nat} {z1:Value} (ho:o.op=.call c) (hc:c.callee=.builtin .cap) (hargs:c.args=#[x]) (hts:c.argTypes=#[t]) (ht:T.get t=some ⟨.slice e,s1,z1,b1⟩)
    {a:Option Addr} {len cap:Nat} (hx:ρ.ev x=.slice a len cap) (hK:K (.int .i64 cap) I S):AnyD P o ρ I S K:=by
  refine .mk (OpS.value _ (fun w F hw=>?_) hK)
  have hti:P.underlying t=some (.slice e):=by obtain ⟨_,_,hu,_⟩:=rowOf_info (hT _ _ ht); exact hu
  simp [execOp,ho,resolve,hc,hargs,hts,hx,invoke,builtin,Builtin.cap_,run_underlying hti,goInt]
end
theorem SlC.rds {I:Imm} {a:Option Addr} {n:Nat} {vs:List Value} (h:SlC I [] a n vs):Rds I a n vs:=by
  refine ⟨h.len,h.mem.imp id ?_⟩
  rintro ⟨b,off,e,c,T,fr,hin,h1,h2⟩
  refine ⟨b,off,c,T,fr,e,?_,h1⟩
  cases hin with
  | imm h=>exact h
  | own k h=>simp at h
end Go.Sl
namespace Go.Sl
open Go.RowKit Go.ChangeShapes Go.WideShapes
end Go.Sl
namespace Go.Sl
open Go.RowKit
theorem CodeF.fixD {P:Program} {T:Tab} {n:Nat} {c:Code} {ρ:Env} {I:Imm} {S:St} {Q:Exit→Env→Imm→St→Prop} (k:Nat) {ch:List Blk} (hk:S[k]?=some ch)
    (h:∀ I',I.le I'→(∀ x ∈ ch,I' x.1=some x.2)→CodeF P T n c ρ I' (S.set k []) Q):CodeF P T n c ρ I S Q:=by
  refine ⟨fun hT hf=>⟨fun rd ds a w F R hr hw hl hR=>?_⟩⟩
  obtain ⟨h1,h2,h3⟩:=hw.fix1 hk
  exact ((h _ h1 h2).out hT hf).run rd ds a w F R hr h3 hl fun e a' w' ρ' J S' ds' r0 r1 r2 r3 r4 r5=>hR e a' w' ρ' J S' ds' r0 r1 (Imm.le_trans h1 r2) r3 r4 r5
theorem CodeF.dropD {P:Program} {T:Tab} {n:Nat} {c:Code} {ρ:Env} {I:Imm} {S S0:St} {Q:Exit→Env→Imm→St→Prop} (hd:Drop S S0) (h:CodeF P T n c ρ I S0 Q):CodeF P T n c ρ I S Q :=
  ⟨fun hT hf=>⟨fun rd ds a w F R hr hw hl hR=>(h.out hT hf).run rd ds a w F R hr (hd.has hw) hl hR⟩⟩
theorem SlC.cells {I:Imm} {S:St} {a:Option Addr} {n:Nat} {vs:List Value} (h:SlC I S a n vs) (hn:n≠0):∃ b off,a=some ⟨b,off,none⟩∧Cells I S b off n vs:=by
  rcases h.mem with h0 | h
  · exact absurd h0 hn
  · exact h
end Go.Sl
namespace Go.Sl
open Go.RowKit
end Go.Sl
namespace Go.Sl
open Go.RowKit
section
variable {P:Program} {T:Tab} {o:Oper} {ρ:Env} {I:Imm} {S:St} {K:Value→Imm→St→Prop}
theorem appendK (hT:TabOk P T) {c:Call} {s x:Operand} {t tx e:TypeId} {s1 b1 size bytes:Nat} {z1 z:Value} {d:TypeDesc} (ho:o.op=.call c) (hc:c.callee=.builtin .append) (hargs:c.args=#[s,x]) (hts:c.argTypes=#[t,tx])
    (ht:T.get t=some ⟨.slice e,s1,z1,b1⟩) (he:T.get e=some ⟨d,size,z,bytes⟩) {a:Option Addr} {len cap:Nat} (hs:ρ.ev s=.slice a len cap) (k:Nat) {ch:List Blk} (hk:S[k]?=some ch) {vs:List Value} (hown:OwnC ch size a len cap vs)
    {n:Nat} {news:List Value} (hsrc:SrcOk P I S size tx (ρ.ev x) n news) (hz:z.cells.size=size) (hbytes:(len+n) * bytes≤140737488355328) (hmax:len+n≤9223372036854775807) (hn0:0 < n)
    (hroom:len+n≤cap→∀ ch',OwnC ch' size a (len+n) cap (vs++news)→K (.slice a (len+n) cap) I (S.set k ch'))
    (hgrow:cap < len+n→∀ a' cap' ch',OwnC ch' size a' (len+n) cap' (vs++news)→K (.slice a' (len+n) cap') I (S++[ch'])):AnyD P o ρ I S K:=by
  refine .mk ⟨fun w F hw=>?_⟩
  obtain ⟨i,hi,hu,hsize,hzero,hby⟩:=rowOf_info (hT _ _ he)
  have hti:P.underlying t=some (.slice e):=by obtain ⟨_,_,hu,_⟩:=rowOf_info (hT _ _ ht); exact hu
  have hS:=hsrc w F hw
  simp only at hsize hzero hby
  subst hsize; subst hby
  have hexec:∀ v w',(Builtin.append_ #[t,tx] o.type #[.slice a len cap,ρ.ev x]).run P w=.ok v w'→(execOp ρ.ev o).run P w=.ok (.value v) w':=by
    intro v w' hr
    simp [execOp,ho,resolve,hc,hargs,hts,hs,invoke,builtin,hr]
  have hlen:(vs++news).length=(len+n) * i.size:=by rw [List.length_append,hown.n,hS.newsLen,Nat.add_mul]
  rcases Nat.lt_or_ge cap (len+n) with hg | hroom'
  · have hold:(Builtin.firstCells i.size len (.slice a len cap)).run P w.drew=.ok vs.toArray w.drew:=by
      have:=(hown.slC (I:=I) k hk).run (P:=P) (c:=cap) hw.drew
      exact this
    have hr:=run_append_grow_src w t tx o.type e i z hti hi hzero a len cap vs hold (ρ.ev x) n news hS hg (by omega) (growslice_fits hg hbytes)
    rw [hexec _ _ hr]
    have hge:=grownCap_ge w (len+n) cap e
    refine ⟨I,_,I.le_refl,hgrow hg (some ⟨w.heap.size,0,none⟩) (grownCap w (len+n) cap e) [(w.heap.size,row ((vs++news)++(Builtin.zeroCells z.cells (grownCap w (len+n) cap e - (len+n))).toList) e)] ⟨hlen,hge,.inr ⟨w.heap.size,[],(Builtin.zeroCells z.cells (grownCap w (len+n) cap e - (len+n))).toList,e,rfl,by simp,?_⟩⟩,?_,?_⟩
    · rw [Array.length_toList,size_zeroCells,hz]
    · have h1:=hw.drew.alloc (row ((vs++news)++(Builtin.zeroCells z.cells (grownCap w (len+n) cap e - (len+n))).toList) e)
      have e1:(row ((vs++news)++(Builtin.zeroCells z.cells (grownCap w (len+n) cap e - (len+n))).toList) e)=Obj.cells ((vs++news).toArray++Builtin.zeroCells z.cells (grownCap w (len+n) cap e - (len+n))) e:=by
        unfold row
        congr 1
        apply Array.ext'
        simp
      rw [← e1]
      refine h1.perm ?_
      simp only [List.flatten_append,List.flatten_cons,List.flatten_nil,List.append_nil,List.append_assoc,List.singleton_append]
      exact List.perm_middle.symm
    · exact (Ext.drew w).trans (Ext.alloc _ _)
  · rcases hown.at' with h0 | ⟨b,pre,post,Ty,rfl,rfl,hp⟩
    · exfalso; omega
    · have hb:w.heap[b]?=some (row (pre++vs++post) Ty):=by
        refine In.heap (S:=S) (I:=I) (.own k ?_) hw
        rw [List.getD_eq_getElem?_getD,hk]; simp
      have hnl:=hS.newsLen
      have hpl:news.length≤post.length:=by
        rw [hp,hnl]; exact Nat.mul_le_mul_right _ (by omega)
      have hvl:=hown.n
      obtain ⟨w',hrun,hb',hk',hx'⟩:=run_storeCells (P:=P) news 0 (pre++vs++post) w b (pre.length+len * i.size) Ty (0,0) hb (by simp; omega) hS.one (by right; right; exact Nat.le_refl _)
      have hcell:∀ j,j < news.length→(w.cell? ⟨b,pre.length+len * i.size+j,none⟩).isSome=true:=by
        intro j hj
        rw [cell_of_row hb,List.getElem?_eq_getElem (by simp; omega)]; rfl
      have hfr:∀ j,j < news.length→w.frozen? ⟨b,pre.length+len * i.size+j,none⟩=false:=by
        intro j hj
        rw [frozen_of_row hb]; simp
      have hst:=run_storeCells_cells (P:=P) b (pre.length+len * i.size) news 0 w (by simpa using hcell) (by simpa using hfr) hS.one
      rw [hrun] at hst
      simp only [Nat.add_zero,Result.ok.injEq,true_and] at hst
      have hr:=run_append_room_src w t tx o.type e i hti hi b pre.length len cap (ρ.ev x) n news hS hroom' hcell hfr
      rw [← hst] at hr
      rw [hexec _ _ hr]
      have hsp:splice (pre++vs++post) (pre.length+len * i.size+0) news=pre++(vs++news)++post.drop news.length:=by
        unfold splice
        rw [Nat.add_zero,← hvl,← List.length_append,List.take_left,← List.drop_drop,List.drop_left]
        simp
      rw [hsp] at hb'
      refine ⟨I,_,I.le_refl,hroom hroom' [(b,row (pre++(vs++news)++post.drop news.length) Ty)] ⟨hlen,hroom',.inr ⟨b,pre,_,Ty,rfl,rfl,?_⟩⟩,Has.turnAt (A:=[]) (B:=[]) hw hk hb' hk',hx'⟩
      rw [List.length_drop,hp,hnl,← Nat.sub_mul]; congr 1; omega
end
end Go.Sl
namespace Go.Sl
open Go.RowKit
section
variable {P:Program} {T:Tab} {n:Nat} {ρ:Env} {I:Imm} {S:St} {Q:Exit→Env→Imm→St→Prop}
theorem CodeF.den {c:Code} (h:denC P T n c ρ I S Q):CodeF P T n c ρ I S Q:=⟨fun hT hf=>denC_ok hT c ρ I S Q hf h⟩
theorem CodeF.mono {c:Code} {Q':Exit→Env→Imm→St→Prop} (h:CodeF P T n c ρ I S Q) (hq:∀ e ρ' J S',I.le J→Q e ρ' J S'→Q' e ρ' J S'):CodeF P T n c ρ I S Q' :=
  ⟨fun hT hf=>(h.out hT hf).mono hq⟩
theorem CodeF.seqF {x y:Code} (h:CodeF P T n x ρ I S (seqQ Q fun ρ I S=>CodeF P T n y ρ I S Q)):CodeF P T n (.seq x y) ρ I S Q:=by
  refine ⟨fun hT hf=>⟨fun rd ds a w F R hr hw hl hR=>wpIn_seq ?_⟩⟩
  simp only [fitsC,Bool.and_eq_true] at hf
  refine (h.out hT hf.1).run rd ds a w F _ hr hw hl ?_
  intro e a' w' ρ' J S' ds' r0 r1 r2 r3 r4 r5
  cases e with
  | normal =>
    have hy:=CodeF.out r3 hT hf.2
    exact hy.run rd ds' a' w' F R r1 r4 hl fun e a'' w'' ρ'' J' S'' ds'' s0 s1 s2 s3 s4 s5=>hR e a'' w'' ρ'' J' S'' ds'' (fun h=>(s0 h).trans (r0 h)) s1 (Imm.le_trans r2 s2) s3 s4 (r5.trans s5)
  | exit i=>exact hR _ _ _ _ _ _ ds' r0 r1 r2 r3 r4 r5
  | goto l=>exact hR _ _ _ _ _ _ ds' r0 r1 r2 r3 r4 r5
  | ret=>exact hR _ _ _ _ _ _ ds' r0 r1 r2 r3 r4 r5
  | panic c=>exact hR _ _ _ _ _ _ ds' r0 r1 r2 r3 r4 r5
  | outgrown=>exact hR _ _ _ _ _ _ ds' r0 r1 r2 r3 r4 r5
theorem CodeF.stepD {x y:Code} (h:denC P T n x ρ I S (seqQ Q fun ρ I S=>CodeF P T n y ρ I S Q)):CodeF P T n (.seq x y) ρ I S Q:=.seqF (.den h)
theorem CodeF.blockF {id:Nat} {b:Code} {z:_} (h:CodeF P T n b ρ I S (blockQ id Q)) (hz:z=Code.block id b):CodeF P T n z ρ I S Q:=by
  subst hz
  refine ⟨fun hT hf=>⟨fun rd ds a w F R hr hw hl hR=>wpIn_block ?_⟩⟩
  refine (h.out hT hf).run rd ds a w F _ hr hw hl ?_
  intro e a' w' ρ' J S' ds' r0 r1 r2 r3 r4 r5
  cases e with
  | exit i =>
    simp only [blockQ] at r3
    simp only [Exit.inBlock]
    by_cases hi:i=id
    · subst hi
      rw [if_pos rfl]
      rw [show Nat.beq i i=true from Nat.beq_refl i] at r3
      exact hR _ _ _ _ _ _ ds' r0 r1 r2 r3 r4 r5
    · rw [if_neg hi]
      have:Nat.beq i id=false:=by
        cases hb:Nat.beq i id with
        | false=>rfl
        | true=>exact absurd (Nat.eq_of_beq_eq_true hb) hi
      rw [this] at r3
      exact hR _ _ _ _ _ _ ds' r0 r1 r2 r3 r4 r5
  | normal=>exact hR _ _ _ _ _ _ ds' r0 r1 r2 r3 r4 r5
  | goto l=>exact hR _ _ _ _ _ _ ds' r0 r1 r2 r3 r4 r5
  | ret=>exact hR _ _ _ _ _ _ ds' r0 r1 r2 r3 r4 r5
  | panic c=>exact hR _ _ _ _ _ _ ds' r0 r1 r2 r3 r4 r5
  | outgrown=>exact hR _ _ _ _ _ _ ds' r0 r1 r2 r3 r4 r5
theorem CodeF.join {x y:Code} (sl:List Nat) (G:List Value→Imm→St→Prop) (h1:CodeF P T n x ρ I S (seqQ Q fun ρ I S=>∃ S0,Drop S S0∧G (sl.map ρ) I S0))
    (h2:∀ vs g J S',I.le J→G vs J S'→CodeF P T n y (Env.of (sl.zip vs) g) J S' Q):CodeF P T n (.seq x y) ρ I S Q:=by
  refine .seqF (h1.mono ?_)
  intro e ρ' J S' hJ h
  cases e with
  | normal =>
    obtain ⟨S0,hd,hg⟩:=h
    have:=h2 (sl.map ρ') ρ' J S0 hJ hg
    rw [zip_map_self,Env.of_self] at this
    exact CodeF.dropD hd this
  | exit i=>exact h
  | goto l=>exact h
  | ret=>exact h
  | panic c=>exact h
  | outgrown=>exact h
end
theorem CodeF.loopF {P:Program} {T:Tab} {n:Nat} {c:Code} {ρ:Env} {I:Imm} {S:St} {Q:Exit→Env→Imm→St→Prop}
    (sl:List Nat) (G:List Value→Imm→St→Prop) (μ:List Value→Imm→St→Nat) (h0:∃ S0,Drop S S0∧G (sl.map ρ) I S0)
    (round:∀ vs g J S',I.le J→G vs J S'→CodeF P T n c (Env.of (sl.zip vs) g) J S' (fun e ρ' J' S''=>match e with
      | .normal=>∃ S0,Drop S'' S0∧G (sl.map ρ') J' S0∧μ (sl.map ρ') J' S0 < μ vs J S'
      | e=>Q e ρ' J' S'')):CodeF P T n (.loop c) ρ I S Q:=by
  refine ⟨fun hT hf=>⟨fun rd ds a w F R hr hw hl hR=>?_⟩⟩
  have hround:∀ m,∀ (ρ:Env) (J:Imm) (S':St) (ds':List Nat) (a:Act) (w':World),μ (sl.map ρ) J S'=m→G (sl.map ρ) J S'→I.le J→(rd≠none→ds'=ds)→Rel n (marks ds') a ρ→Has w' J (S'.flatten++(markB ds'++F))→Ext w w' →
      ∀ (b:Frame) (k:List Item) (cs:List Frame),b.roundOf=(wR rd).round→(wR rd).fn b.fn→(wR rd).room (cs.length+1+0)→∃ e a₁ w₁,R e a₁ w₁∧ArrivesIn (Machine.fenced P (wR rd)) P (lone (b.atR a (.code c :: .inLoop c :: k)) cs w') b k cs e a₁ w₁:=by
    intro m
    induction m using Nat.strongRecOn with
    | _ m ih =>
      intro ρ J S' ds' a w' hm hG hle hds hr hw hx b k cs hro hb hroom
      have hd:=round (sl.map ρ) ρ J S' hle hG
      rw [zip_map_self,Env.of_self] at hd
      have hc:=CodeF.out hd hT hf
      have hwp:=hc.run rd ds' a w' F (fun e a' w''=>match e with
        | .normal=>∃ ρ' J' S'' ds'',(rd≠none→ds''=ds)∧Rel n (marks ds'') a' ρ'∧I.le J'∧G (sl.map ρ') J' S''∧μ (sl.map ρ') J' S'' < m∧Has w'' J' (S''.flatten++(markB ds''++F))∧Ext w w''
        | e=>R e a' w'') hr hw hl (by
          intro e a' w'' ρ' J' S'' ds'' r0 r1 r2 r3 r4 r5
          have r0:rd≠none→ds''=ds:=fun h=>(r0 h).trans (hds h)
          cases e with
          | normal =>
            obtain ⟨S0,hd0,hg0,hm0⟩:=r3
            exact ⟨ρ',J',S0,ds'',r0,r1,Imm.le_trans hle r2,hg0,hm ▸ hm0,hd0.has r4,hx.trans r5⟩
          | exit i=>exact hR _ _ _ _ _ _ ds'' r0 r1 (Imm.le_trans hle r2) r3 r4 (hx.trans r5)
          | goto l=>exact hR _ _ _ _ _ _ ds'' r0 r1 (Imm.le_trans hle r2) r3 r4 (hx.trans r5)
          | ret=>exact hR _ _ _ _ _ _ ds'' r0 r1 (Imm.le_trans hle r2) r3 r4 (hx.trans r5)
          | panic c=>exact hR _ _ _ _ _ _ ds'' r0 r1 (Imm.le_trans hle r2) r3 r4 (hx.trans r5)
          | outgrown=>exact hR _ _ _ _ _ _ ds'' r0 r1 (Imm.le_trans hle r2) r3 r4 (hx.trans r5))
      obtain ⟨e,a₁,w₁,hq,harr⟩:=hwp b (.inLoop c :: k) cs hro hb hroom
      cases e with
      | normal =>
        obtain ⟨ρ',J',S'',ds'',r0,r1,r2,r3,r4,r5,r6⟩:=hq
        obtain ⟨e₂,a₂,w₂,hq₂,harr₂⟩:=ih _ r4 ρ' J' S'' ds'' a₁ w₁ rfl r3 r2 r0 r1 r5 r6 b k cs hro hb hroom
        exact ⟨e₂,a₂,w₂,hq₂,.of_steps (StepsIn.trans harr (.one (fenced_calm hb hroom rfl) stepR_inLoop)) harr₂⟩
      | exit id=>exact ⟨_,a₁,w₁,hq,.pass (x:=.inLoop c) rfl (fun _ _=>.inl (by simp)) harr⟩
      | goto l=>exact ⟨_,a₁,w₁,hq,.pass (x:=.inLoop c) rfl (fun _ _=>.inl (by simp)) harr⟩
      | ret=>exact ⟨_,a₁,w₁,hq,.pass (x:=.inLoop c) rfl (fun _ _=>.inl (by simp)) harr⟩
      | panic ch=>exact ⟨_,a₁,w₁,hq,.pass (x:=.inLoop c) rfl (fun _ _=>.inl (by simp)) harr⟩
      | outgrown=>exact ⟨_,a₁,w₁,hq,.pass (x:=.inLoop c) rfl (fun _ _=>.inl (by simp)) harr⟩
  intro b k cs hro hb hroom
  obtain ⟨S0,hd0,h0⟩:=h0
  obtain ⟨e,a',w',hq,harr⟩:=hround _ ρ I S0 ds a w rfl h0 I.le_refl (fun _=>rfl) hr (hd0.has hw) (Ext.refl w) b k cs hro hb hroom
  exact ⟨e,a',w',hq,.of_steps (.one (fenced_calm hb hroom rfl) stepR_loop) harr⟩
theorem Tri.ofF {P:Program} {T:Tab} {f:FuncId} {fn:Func} {c:Code} {args:List Value} {I:Imm} {S:St} {Q:Value→Imm→St→Prop} (hT:TabOk P T)
    (hf : P.funcs[f]? = some fn) (hb : fn.body = some c) (hn : (fn.name == "runtime.NumGoroutine") = false) (hfit : (fitsC fn.ntmps c && Nat.ble args.length fn.ntmps) = true)
    (h:CodeF P T fn.ntmps c (Env.init args) I S (retQ T fn.results.toList Q)):Tri P f args.toArray I S Q:=by
  simp only [Bool.and_eq_true] at hfit
  obtain ⟨hfit,hsz⟩:=hfit
  have hsz:=Nat.le_of_ble_eq_true hsz
  refine ⟨fun w _ _=>?_,fun w F hw=>?_⟩
  · have hn' : ¬ fn.name = "runtime.NumGoroutine" := by simpa using hn
    simp [callFunc,hf,hb,hn']
  · refine (callsIn_wide (n:=0)).1 (callsIn_of_wp_marks (F:=Fence.wide) hf hb trivial ?_)
    have hr:Rel fn.ntmps (marks []) { tmps:=args.toArray++Array.replicate (fn.ntmps - args.toArray.size) undef,defers:=[] } (Env.init args):=by
      refine ⟨rfl,by simp; omega,?_⟩
      intro t
      unfold Env.init
      rw [Array.getD_eq_getD_getElem?,Array.getElem?_append]
      simp only [List.size_toArray]
      split
      · rename_i hlt
        simp [List.getElem?_eq_getElem hlt]
      · rename_i hge
        rw [List.getElem?_eq_none (by omega)]
        simp only [Array.getElem?_replicate]
        split <;> rfl
    refine (CodeF.out h hT hfit).run none [] _ w F _ hr (by simpa [markB] using hw) (fun _ h=>by cases h) ?_
    intro e a' w' ρ' J S' ds' _ r1 r2 r3 r4 r5
    have fin:(resL T fn.results.toList ρ' J S' fun vs=>Done (Q (resV vs) J S'))→LeavesInM Fence.wide 0 P fn a'.tmps (fun e w'=>∃ v J S',e=.returned v∧I.le J∧Q v J S'∧Has w' J (S'.flatten++F)∧Ext w w') a'.defers .returning w':=by
      intro hres
      rw [r1.defers]
      have key:∀ (ds:List Nat) (w1:World),Has w1 J (S'.flatten++(markB ds++F))→Ext w w1→LeavesInM Fence.wide 0 P fn a'.tmps (fun e w'=>∃ v J S',e=.returned v∧I.le J∧Q v J S'∧Has w' J (S'.flatten++F)∧Ext w w') (marks ds) .returning w1:=by
        intro ds
        induction ds with
        | nil =>
          intro w1 hw1 hx1
          obtain ⟨vs,hv,⟨hk⟩⟩:=run_resL hT r1 (by simpa [markB] using hw1) _ _ hres
          exact ⟨_,run_results hv,_,J,S',rfl,r2,hk,by simpa [markB] using hw1,hx1⟩
        | cons d ds ih =>
          intro w1 hw1 hx1
          have hb:w1.heap[d]?=some (.deferred (some [])):=hw1.mem (d,.deferred (some [])) (by simp [markB])
          refine ⟨by simp,.inl ⟨d,w1.putObj d (.deferred none),rfl,?_,?_⟩⟩
          · exact run_takeDeferred hb
          · refine ih _ ?_ (hx1.trans ⟨rfl,rfl,rfl,by simp⟩)
            have hw2:Has w1 J ((S'.flatten)++(d,Obj.deferred (some [])) :: (markB ds++F)):=by simpa [markB] using hw1
            have:=hw2.turn (w':=w1.putObj d (.deferred none)) (o':=.deferred none) (World.putObj_heap_same (lt_of_some hb)) (fun k hk=>World.putObj_heap_other hk)
            refine this.sub ?_
            exact List.Sublist.append_left (List.sublist_cons_self _ _) _
      exact key ds' w' r4 r5
    cases e with
    | normal=>exact fin r3
    | ret=>exact fin r3
    | exit i=>exact r3.elim
    | goto l=>exact r3.elim
    | panic c=>exact r3.elim
    | outgrown=>exact r3.elim
end Go.Sl
namespace Go.Sl
open Go.RowKit
section
variable {P:Program} {T:Tab} {o:Oper} {ρ:Env} {I:Imm} {S:St} {K:Value→Imm→St→Prop}
end
end Go.Sl
namespace Go.Sl
open Go.RowKit
section
variable {P:Program} {T:Tab} {o:Oper} {ρ:Env} {I:Imm} {S:St} {K:Value→Imm→St→Prop}
end
end Go.Sl
namespace Go.Sl
open Go.RowKit
def Imm.less (J:Imm) (A:List Blk):Imm:=fun b=>if b ∈ A.map Prod.fst then none else J b
theorem Imm.less_le {J:Imm} {A:List Blk}:(J.less A).le J:=by
  intro b o h
  unfold Imm.less at h
  split at h
  · cases h
  · exact h
theorem Imm.le_less {I J:Imm} {A:List Blk} (h:I.le J) (hA:∀ x ∈ A,I x.1=none):I.le (J.less A):=by
  intro b o hb
  unfold Imm.less
  rw [if_neg]
  · exact h b o hb
  · intro hm
    obtain ⟨x,hx,rfl⟩:=List.mem_map.1 hm
    rw [hA x hx] at hb; cases hb
theorem Imm.less_none {J:Imm} {A:List Blk} {x:Blk} (hx:x ∈ A):J.less A x.1=none:=by
  unfold Imm.less
  rw [if_pos (List.mem_map_of_mem hx)]
theorem Has.lent {w:World} {J:Imm} {S:St} {F ch:List Blk} {k:Nat} (h:Has w J (S.flatten++F)) (hk:S[k]?=some []) (hJ:∀ x ∈ ch,J x.1=some x.2) (hn:(ch.map Prod.fst).Nodup):Has w (J.less ch) ((S.set k ch).flatten++F):=by
  have hlt:k < S.length:=by
    rcases Nat.lt_or_ge k S.length with g | g
    · exact g
    · rw [List.getElem?_eq_none g] at hk; cases hk
  have hp:=set_flatten_perm (S.set k ch) k (by rw [List.length_set]; exact hlt)
  have e1:(S.set k ch).getD k []=ch:=by simp [List.getD,hlt]
  have e2:(S.set k ch).set k []=S:=by
    rw [List.set_set]
    apply List.ext_getElem?
    intro j
    by_cases hj:k=j
    · subst hj; rw [List.getElem?_set_self hlt,hk]
    · rw [List.getElem?_set_ne hj]
  rw [e1,e2] at hp
  have h1:Has w (J.less ch) (ch++(S.flatten++F)):=by
    refine ⟨fun b o hb=>h.imm b o (Imm.less_le b o hb),?_,?_,?_⟩
    · intro x hx
      rcases List.mem_append.1 hx with hx | hx
      · exact h.imm _ _ (hJ x hx)
      · exact h.mem x hx
    · rw [List.map_append,List.nodup_append]
      refine ⟨hn,h.nodup,?_⟩
      intro a ha b hb e
      obtain ⟨x,hx,rfl⟩:=List.mem_map.1 ha
      obtain ⟨y,hy,rfl⟩:=List.mem_map.1 hb
      have:=h.disj y hy
      rw [← e,hJ x hx] at this; cases this
    · intro x hx
      rcases List.mem_append.1 hx with hx | hx
      · exact Imm.less_none hx
      · have:=h.disj x hx
        unfold Imm.less
        split
        · rfl
        · exact this
  refine h1.perm ?_
  rw [← List.append_assoc]
  exact List.Perm.append_right _ hp.symm
theorem Tri.lend {P:Program} {f:FuncId} {args:Array Value} {I:Imm} {S:St} {K:Value→Imm→St→Prop} (k:Nat) {ch:List Blk} (hk:S[k]?=some ch)
    (h:∀ I',I.le I'→(∀ x ∈ ch,I' x.1=some x.2)→(∀ x ∈ ch,I x.1=none)→Tri P f args I' (S.set k []) fun v J S'=>S'[k]?=some []∧((∀ x ∈ ch,J x.1=some x.2)→spineS (S'.set k ch) (K v (J.less ch)))):Tri P f args I S K:=by
  have key:∀ w F,Has w I (S.flatten++F)→(∀ x ∈ ch,I x.1=none)∧(ch.map Prod.fst).Nodup:=by
    intro w F hw
    have hlt:k < S.length:=by
      rcases Nat.lt_or_ge k S.length with g | g
      · exact g
      · rw [List.getElem?_eq_none g] at hk; cases hk
    have hp:=set_flatten_perm S k hlt
    rw [List.getD_eq_getElem?_getD,hk] at hp
    have h1:Has w I (ch++((S.set k []).flatten++F)):=by
      refine hw.perm ?_
      rw [← List.append_assoc]
      exact List.Perm.append_right _ hp
    refine ⟨fun x hx=>h1.disj x (by simp [hx]),?_⟩
    have:=h1.nodup
    rw [List.map_append] at this
    exact (List.nodup_append.1 this).1
  refine ⟨fun w F hw=>?_,fun w F hw=>?_⟩
  · obtain ⟨h1,h2,h3⟩:=hw.fix1 hk
    exact (h _ h1 h2 (key w F hw).1).ent w F h3
  · obtain ⟨h1,h2,h3⟩:=hw.fix1 hk
    obtain ⟨k1,k2⟩:=key w F hw
    refine ((h _ h1 h2 k1).run w F h3).mono ?_
    rintro e w' ⟨v,J,S',he,hl,⟨q1,q2⟩,hh,hx⟩
    have hJ:∀ x ∈ ch,J x.1=some x.2:=fun x hx=>hl _ _ (h2 x hx)
    have q3:=q2 hJ
    rw [spineS_eq] at q3
    exact ⟨v,_,_,he,Imm.le_less (Imm.le_trans h1 hl) k1,q3,hh.lent q1 hJ k2,hx⟩
end Go.Sl
namespace Go.Sl
open Go.RowKit
structure Leads (P:Program) (t:TypeId) (name:String) (f:FuncId):Prop where
  run:∀ (p:Option Addr) (w:World),(method (P.types.size+Made.depth) t (.pointer p) name).run P w=.ok (f,.pointer p) w
  ahead:∀ (p:Option Addr) (w:World),(nilAhead (P.types.size+Made.depth) t (.pointer p) name).run P w=.ok (some false) w
section
variable {P:Program} {T:Tab} {o:Oper} {ρ:Env} {I:Imm} {S:St} {K:Value→Imm→St→Prop}
theorem invokeD {c:Call} {r:Operand} {name:String} (ho:o.op=.call c) (hc:c.callee=.invoke r name) {t:TypeId} {p:Option Addr} (hr:ρ.ev r=.iface t (.pointer p)) {f:FuncId} (hl:Leads P t name f)
    {l:List Value} (ha:c.args.toList.map ρ.ev=l) (h:Tri P f (.pointer p :: l).toArray I S K):AnyD P o ρ I S K:=by
  subst ha
  refine .mk ⟨fun w F hw=>?_⟩
  have hent:=h.ent w F hw
  have hexec:(execOp ρ.ev o).run P w=.ok (.enter f (.pointer p :: c.args.toList.map ρ.ev).toArray) w:=by
    have e:((#[Value.iface t (.pointer p)]++c.args.map ρ.ev).extract 1 (#[Value.iface t (.pointer p)]++c.args.map ρ.ev).size)=c.args.map ρ.ev:=by
      apply Array.ext'
      simp only [Array.toList_extract,List.extract_eq_take_drop,Array.toList_append,Array.toList_map,Array.size_append,Array.size_map,List.drop_succ_cons,List.drop_zero,List.cons_append,List.nil_append]
      rw [List.take_of_length_le]
      simp
    have e2:#[Value.pointer p]++c.args.map ρ.ev=(.pointer p :: c.args.toList.map ρ.ev).toArray:=by apply Array.ext'; simp
    have e3:(#[Value.iface t (.pointer p)]++c.args.map ρ.ev)[0]?=some (.iface t (.pointer p)):=by rw [Array.getElem?_append_left (by simp)]; rfl
    simp only [execOp,ho,resolve,hc,hr,Sem.run_bind,Sem.run_pure,Result.andThen_ok,invoke,e3,callMethod,e,run_program,hl.run,e2]
    exact hent
  rw [hexec]
  show Calls P f _ w _
  refine (h.run w F hw).mono ?_
  rintro e w' ⟨v,J,S',rfl,hl,hk,hh,hx⟩
  exact ⟨v,rfl,J,S',hl,hk,hh,hx⟩
theorem nilMethD {K:Value→Prop} {x:Operand} (ho:o.op=.nilCheck x) {name:String} {t:TypeId} {p:Option Addr} {c:Array Value} (hx:ρ.ev x=.func (.method name) #[.iface t (.pointer p)] c) {f:FuncId} (hl:Leads P t name f)
    (h:K (.func (.method name) #[.iface t (.pointer p)] c)):PureD P o ρ K :=
  .mk _ (fun w=>by simp [execOp,ho,hx,run_program,hl.ahead]) h
theorem clearSlD (hT:TabOk P T) {c:Call} {x:Operand} {t e:TypeId} {s1 b1 size bytes:Nat} {z1 z:Value} {d:TypeDesc} (ho:o.op=.call c) (hc:c.callee=.builtin .clear) (hargs:c.args=#[x]) (hts:c.argTypes=#[t])
    (ht:T.get t=some ⟨.slice e,s1,z1,b1⟩) (he:T.get e=some ⟨d,size,z,bytes⟩) {b off len cap:Nat} (hs:ρ.ev x=.slice (some ⟨b,off,none⟩) len cap) (k:Nat) {cs:List Value} {Ty:TypeId} {fr:Nat × Nat} (hk:S[k]?=some [(b,row cs Ty fr)])
    (hz:z.cells.toList.length=size) (h0:0 < size) (hp:∀ v ∈ z.cells.toList,Plain v=true) (hl:off+len * size≤cs.length) (hf:fr.2≤fr.1)
    (h:K (.tuple #[]) I (S.set k [(b,row (splice cs off (rows len z.cells.toList)) Ty fr)])):AnyD P o ρ I S K:=by
  refine .mk ⟨fun w F hw=>?_⟩
  obtain ⟨i,hi,hu,hsize,hzero,hby⟩:=rowOf_info (hT _ _ he)
  have hti:P.underlying t=some (.slice e):=by obtain ⟨_,_,hu,_⟩:=rowOf_info (hT _ _ ht); exact hu
  have hb:w.heap[b]?=some (row cs Ty fr):=by
    refine In.heap (S:=S) (I:=I) (.own k ?_) hw
    rw [List.getD_eq_getElem?_getD,hk]; simp
  have hrl:(rows len z.cells.toList).length=len * size:=by rw [rows_length,hz]
  have hrp:∀ v ∈ rows len z.cells.toList,Plain v=true:=by
    intro v hv
    unfold rows at hv
    obtain ⟨l,hl,hv⟩:=List.mem_flatten.1 hv
    rw [List.eq_of_mem_replicate hl] at hv
    exact hp v hv
  obtain ⟨w',hrun,hb',hk',hx'⟩:=run_storeCells (P:=P) (rows len z.cells.toList) 0 cs w b off Ty fr hb (by rw [hrl]; omega) hrp (by right; right; exact hf)
  have hzc:(Builtin.zeroCells z.cells len).toList=rows len z.cells.toList:=by
    rw [zeroCells_rows _ _ (by rw [← Array.length_toList,hz]; exact h0)]
  cases len with
  | zero =>
    have hexec:(execOp ρ.ev o).run P w=.ok (.value (.tuple #[])) w:=by
      simp [execOp,ho,resolve,hc,hargs,hts,hs,invoke,builtin,Builtin.clear_,run_underlying hti]
    rw [hexec]
    have hsp:splice cs off (rows 0 z.cells.toList)=cs:=by simp [rows,splice]
    rw [hsp] at h
    have hS:S.set k [(b,row cs Ty fr)]=S:=by
      apply List.ext_getElem?
      intro j
      by_cases e:k=j
      · subst e
        rw [hk]
        rcases Nat.lt_or_ge k S.length with g | g
        · rw [List.getElem?_set_self g]
        · rw [List.getElem?_eq_none g] at hk; cases hk
      · rw [List.getElem?_set_ne e]
    rw [hS] at h
    exact ⟨I,S,I.le_refl,h,hw,Ext.refl w⟩
  | succ len =>
    have hexec:(execOp ρ.ev o).run P w=.ok (.value (.tuple #[])) w':=by
      simp [execOp,ho,resolve,hc,hargs,hts,hs,invoke,builtin,Builtin.clear_,run_underlying hti,run_zeroValue_row w (hT _ _ he),hzc,hrun]
    rw [hexec]
    exact ⟨I,_,I.le_refl,h,Has.turnAt (A:=[]) (B:=[]) hw hk (by simpa using hb') hk',hx'⟩
end
theorem forceL_to {l:List Value} {K:List Value→Prop} (h:K l):forceL l K:=by rw [forceL_eq]; exact h
theorem Tri.castA {P:Program} {f:FuncId} {args args':Array Value} {I:Imm} {S:St} {Q:Value→Imm→St→Prop} (e:args=args') (h:Tri P f args I S Q):Tri P f args' I S Q:=by subst e; exact h
end Go.Sl
namespace Go.Sl
open Go.RowKit
section
variable {P:Program} {T:Tab} {o:Oper} {ρ:Env} {I:Imm} {S:St} {K:Value→Imm→St→Prop}
theorem appendZG (hT:TabOk P T) {c:Call} {s x:Operand} {t tx e:TypeId} {s1 b1 size bytes s2 b2:Nat} {z1 z z2:Value} {d:TypeDesc} {kn:IntKind} (ho:o.op=.call c) (hc:c.callee=.builtin .append) (hargs:c.args=#[s,x]) (hts:c.argTypes=#[t,tx])
    (ht:T.get t=some ⟨.slice e,s1,z1,b1⟩) (htx:T.get tx=some ⟨.int kn,s2,z2,b2⟩) (he:T.get e=some ⟨d,size,z,bytes⟩) {a:Option Addr} {len cap:Nat} (hs:ρ.ev s=.slice a len cap) {vs:List Value} (hsl:SlC I S a (len * size) vs)
    (n:Nat) {kq:IntKind} (hx:ρ.ev x=.int kq (n:Int)) (hz:z.cells.size=size) (hsz:0 < size) (hg:cap < len+n) (hlc:len≤cap) (hbytes:(len+n) * bytes≤140737488355328) (hmax:len+n≤9223372036854775807)
    (h:∀ a' cap' ch',OwnC ch' size a' (len+n) cap' (vs++rows n z.cells.toList)→K (.slice a' (len+n) cap') I (S++[ch'])):AnyD P o ρ I S K:=by
  refine .mk ⟨fun w F hww=>?_⟩
  obtain ⟨i,hi,hu,hsize,hzero,hby⟩:=rowOf_info (hT _ _ he)
  have hti:P.underlying t=some (.slice e):=by obtain ⟨_,_,hu,_⟩:=rowOf_info (hT _ _ ht); exact hu
  have htn:P.underlying tx=some (.int kn):=by obtain ⟨_,_,hu,_⟩:=rowOf_info (hT _ _ htx); exact hu
  simp only at hsize hzero hby
  subst hsize; subst hby
  have hzc:0 < z.cells.size:=by omega
  have hexec:∀ v w',(Builtin.append_ #[t,tx] o.type #[.slice a len cap,.int kq n]).run P w=.ok v w'→(execOp ρ.ev o).run P w=.ok (.value v) w':=by
    intro v w' hr
    simp [execOp,ho,resolve,hc,hargs,hts,hs,hx,invoke,builtin,hr]
  have hrl:(rows n z.cells.toList).length=n * i.size:=by rw [rows_length,Array.length_toList,hz]
  have hvl:=hsl.len
  have hlen:(vs++rows n z.cells.toList).length=(len+n) * i.size:=by rw [List.length_append,hvl,hrl,Nat.add_mul]
  have hnb:n * i.bytes≤281474976710656:=by
    have:=Nat.mul_le_mul_right i.bytes (show n≤len+n by omega)
    omega
  have hold:(Builtin.firstCells i.size len (.slice a len cap)).run P w.drew=.ok vs.toArray w.drew:=hsl.run (P:=P) (c:=cap) hww.drew
  have hn0:0 < n:=by omega
  have hr:=Lib.run_append_grow_zeros w t tx o.type e i z kq kn hti htn hi hzero a len cap vs hold n hn0 hsz hg (by omega) hnb (growslice_fits hg hbytes)
  rw [hexec _ _ hr]
  have hge:=grownCap_ge w (len+n) cap e
  have e1:Obj.cells (vs.toArray++Builtin.zeroCells z.cells n++Builtin.zeroCells z.cells (grownCap w (len+n) cap e - (len+n))) e=row ((vs++rows n z.cells.toList)++rows (grownCap w (len+n) cap e - (len+n)) z.cells.toList) e:=by
    unfold row
    congr 1
    rw [zeroCells_rows _ _ hzc,zeroCells_rows _ _ hzc]
    apply Array.ext'
    simp
  rw [e1]
  refine ⟨I,_,I.le_refl,h (some ⟨w.heap.size,0,none⟩) (grownCap w (len+n) cap e) [(w.heap.size,row ((vs++rows n z.cells.toList)++rows (grownCap w (len+n) cap e - (len+n)) z.cells.toList) e)]
    ⟨hlen,hge,.inr ⟨w.heap.size,[],rows (grownCap w (len+n) cap e - (len+n)) z.cells.toList,e,rfl,by simp,by rw [rows_length,Array.length_toList,hz]⟩⟩,?_,(Ext.drew w).trans (Ext.alloc _ _)⟩
  have h1:=hww.drew.alloc (row ((vs++rows n z.cells.toList)++rows (grownCap w (len+n) cap e - (len+n)) z.cells.toList) e)
  refine h1.perm ?_
  simp only [List.flatten_append,List.flatten_cons,List.flatten_nil,List.append_nil,List.append_assoc,List.singleton_append]
  exact List.perm_middle.symm
theorem shape_of_row {w:World} {b:Nat} {c:List Value} {T:TypeId} {fr:Nat × Nat} (h:w.heap[b]?=some (row c T fr)):w.shape? b=some (T,c.length):=by
  unfold World.shape?
  simp only [h,row]
  simp
theorem overlapsD (hT:TabOk P T) {c:Call} {f:Operand} {g:FuncId} {fn:Func} {x y:Operand} {tS tR e:TypeId} {s1 b1 size bytes:Nat} {z1 z:Value} {d:TypeDesc} (ho:o.op=.call c) (hc:c.callee=.value f) (hf:ρ.ev f=.func (.func g) #[] #[]) (hargs:c.args=#[x,y])
    (hg : P.funcs[g]? = some fn) (hname : (fn.name == "runtime.NumGoroutine") = false) (hb : fn.body.isNone = true) (hn : Extern.findNext fn = none) (hfe : Extern.find fn = some (Extern.SlicesOverlaps.overlaps #[tS, tS] #[tR]))
    (ht:T.get tS=some ⟨.slice e,s1,z1,b1⟩) (he:T.get e=some ⟨d,size,z,bytes⟩) {ba oa la ca bb ob lb cb:Nat} (hx:ρ.ev x=.slice (some ⟨ba,oa,none⟩) la ca) (hy:ρ.ev y=.slice (some ⟨bb,ob,none⟩) lb cb)
    (ka kb:Nat) (hne:ka≠kb) {va vb:List Value} {Ta Tb:TypeId} (hka:S[ka]?=some [(ba,row va Ta)]) (hkb:S[kb]?=some [(bb,row vb Tb)]) (hvb:0 < vb.length)
    (h:K (.bool false) I S):AnyD P o ρ I S K:=by
  refine .mk (OpS.value _ (fun w F hw=>?_) h)
  have hti:P.underlying tS=some (.slice e):=by obtain ⟨_,_,hu,_⟩:=rowOf_info (hT _ _ ht); exact hu
  have hwa:w.heap[ba]?=some (row va Ta):=In.heap (S:=S) (I:=I) (.own ka (by rw [List.getD_eq_getElem?_getD,hka]; simp)) hw
  have hwb:w.heap[bb]?=some (row vb Tb):=In.heap (S:=S) (I:=I) (.own kb (by rw [List.getD_eq_getElem?_getD,hkb]; simp)) hw
  have hbb:ba≠bb:=by
    intro e
    subst e
    have hnd:=hw.nodup
    have hlt:ka < S.length:=by
      rcases Nat.lt_or_ge ka S.length with g | g
      · exact g
      · rw [List.getElem?_eq_none g] at hka; cases hka
    have hp:=set_flatten_perm S ka hlt
    rw [List.getD_eq_getElem?_getD,hka] at hp
    have hnd2:((([(ba,row va Ta)]++(S.set ka []).flatten)++F).map Prod.fst).Nodup:=((List.Perm.append_right F hp).map _).nodup_iff.1 hnd
    simp only [List.cons_append,List.nil_append,List.map_cons,List.nodup_cons] at hnd2
    apply hnd2.1
    have:(ba,row vb Tb) ∈ (S.set ka []).flatten:=by
      refine List.mem_flatten.2 ⟨[(ba,row vb Tb)],?_,by simp⟩
      have:(S.set ka [])[kb]?=some [(ba,row vb Tb)]:=by rw [List.getElem?_set_ne hne]; exact hkb
      exact List.mem_of_getElem? this
    exact List.mem_map.2 ⟨_,List.mem_append_left _ this,rfl⟩
  have hcall:(callFunc g #[.slice (some ⟨ba,oa,none⟩) la ca,.slice (some ⟨bb,ob,none⟩) lb cb]).run P w=.ok (.value (.bool false)) w:=by
    rw [run_callFunc_extern hg hname hb hn hfe,Lib.run_overlaps_apart w tS tR e hti size (fun w=>run_sizeOf_row w (hT _ _ he)) ⟨ba,oa,none⟩ ⟨bb,ob,none⟩ la ca lb cb hbb Ta Tb va.length vb.length (shape_of_row hwa) (shape_of_row hwb) (by omega)
      (by rw [frozen_of_row hwa]; simp) (by rw [frozen_of_row hwa]; simp)]
    rfl
  simp only [execOp,ho,resolve,hc,hf,Deferred.ofValue,Sem.run_bind,Sem.run_pure,Result.andThen_ok,invoke,hargs]
  simpa [hx,hy] using hcall
end
section
variable {P:Program} {T:Tab} {n:Nat}
def opX (P:Program) (T:Tab) (x:Nat) (o:Oper) (ρ:Env) (I:Imm) (S:St) (K:Value→Imm→St→Prop):Prop:=match o.dst with
  | some d=>(match Nat.beq d x with
    | true=>AnyD P o ρ I S K
    | false=>opD P T o ρ I S K)
  | none=>opD P T o ρ I S K
theorem opX_ok (hT:TabOk P T) {x:Nat} {o:Oper} {ρ:Env} {I:Imm} {S:St} {K:Value→Imm→St→Prop} (h:opX P T x o ρ I S K):OpS P o ρ I S K:=by
  unfold opX at h
  split at h
  · split at h
    · obtain ⟨h⟩:=h; exact h
    · exact opD_ok hT h
  · exact opD_ok hT h
def opStepX (P:Program) (T:Tab) (x:Nat) (ops:List Oper) (o:Oper) (next:Env→Imm→St→(Env→Imm→St→Prop)→Prop) (ρ:Env) (I:Imm) (S:St) (K:Env→Imm→St→Prop):Prop :=
  match o with
  | ⟨dst,op,type,pos,after,guard⟩=>match guard with
    | none=>opX P T x ⟨dst,op,type,pos,after,guard⟩ ρ I S fun v J S'=>putK ρ dst v fun ρ'=>next ρ' J S' K
    | some (j,want)=>guardD (dstAt ops j) want ρ (opX P T x ⟨dst,op,type,pos,after,guard⟩ ρ I S fun v J S'=>putK ρ dst v fun ρ'=>next ρ' J S' K) (putK ρ dst undef fun ρ'=>next ρ' I S K)
noncomputable def denX (P:Program) (T:Tab) (x:Nat) (ops:List Oper) (l:List Oper):Env→Imm→St→(Env→Imm→St→Prop)→Prop :=
  List.rec (motive:=fun _=>Env→Imm→St→(Env→Imm→St→Prop)→Prop) (fun ρ I S K=>K ρ I S) (fun o _ ih ρ I S K=>opStepX P T x ops o ih ρ I S K) l
theorem denX_nil (x:Nat) (ops:List Oper) (ρ:Env) (I:Imm) (S:St) (K:Env→Imm→St→Prop):denX P T x ops [] ρ I S K=K ρ I S:=rfl
theorem denX_cons (x:Nat) (ops:List Oper) (o:Oper) (l:List Oper) (ρ:Env) (I:Imm) (S:St) (K:Env→Imm→St→Prop):denX P T x ops (o :: l) ρ I S K=opStepX P T x ops o (denX P T x ops l) ρ I S K:=rfl
theorem denX_ok (hT:TabOk P T) {x:Nat} {ops:List Oper} {n:Nat} (hf:∀ o ∈ ops,fitsO n o=true) {K:Env→Imm→St→Prop} {Q:Exit→Act→World→Prop} {F:List Blk} {D:List Deferred} (rd:Option Nat) :
    ∀ (l:List Oper) (ρ:Env) (I:Imm) (S:St) (a:Act) (w:World),(∀ o ∈ l,fitsO n o=true)→denX P T x ops l ρ I S K→Rel n D a ρ→Has w I (S.flatten++F) →
    (∀ a' w' ρ' J S',Rel n D a' ρ'→I.le J→K ρ' J S'→Has w' J (S'.flatten++F)→Ext w w'→Q .normal a' w')→wpListIn (wR rd) 0 P ops.toArray Q l a w
  | [],ρ,I,S,a,w,_,h,hr,hw,hQ=>wpListIn_nil (hQ a w ρ I S hr I.le_refl (by rw [denX_nil] at h; exact h) hw (Ext.refl w))
  | ⟨dst,op,type,pos,after,guard⟩ :: l,ρ,I,S,a,w,hl,h,hr,hw,hQ=>by
    obtain ⟨o,hoe⟩:∃ o:Oper,o=⟨dst,op,type,pos,after,guard⟩:=⟨_,rfl⟩
    have hod:o.dst=dst:=by rw [hoe]
    have ho:fitsO n o=true:=by rw [hoe]; exact hl _ (by simp)
    have hl':∀ o ∈ l,fitsO n o=true:=fun x hx=>hl x (by simp [hx])
    have go:∀ (G:opX P T x o ρ I S fun v J S'=>putK ρ dst v fun ρ'=>denX P T x ops l ρ' J S' K),o.wpIn (wR rd) 0 P a w (wpListIn (wR rd) 0 P ops.toArray Q l) Q:=by
      intro G
      have:=(opX_ok hT G).wp hr hw rd Q
      refine Oper.wpIn_mono (P:=P) ?_ this
      rintro a' w' ⟨v,rfl,J,S',hle,hk,hh,hx⟩
      rw [putK_eq,← hod] at hk
      refine denX_ok hT hf rd l _ J S' _ w' hl' hk (hr.put o.dst (fitsO_lt ho) v) hh ?_
      intro a'' w'' ρ'' J' S'' r1 r2 r3 r4 r5
      exact hQ a'' w'' ρ'' J' S'' r1 (Imm.le_trans hle r2) r3 r4 (hx.trans r5)
    unfold wpListIn
    rw [denX_cons] at h
    unfold opStepX at h
    rw [← hoe]
    have hog:o.guard=guard:=by rw [hoe]
    cases hg:guard with
    | none =>
      subst hg
      simp only [← hoe] at h
      rw [if_pos (by simp [Region.wanted,hog])]
      exact go h
    | some jw =>
      obtain ⟨j,want⟩:=jw
      subst hg
      simp only [← hoe] at h
      rcases wanted_rel hr hf hog h with ⟨hw1,h⟩ | ⟨hw1,h⟩
      · rw [if_pos hw1]; exact go h
      · rw [if_neg (by simp [hw1])]
        rw [putK_eq,← hod] at h
        refine ⟨fun _ _=>trivial,?_⟩
        exact denX_ok hT hf rd l _ I S _ w hl' h (hr.put o.dst (fitsO_lt ho) undef) hw hQ
theorem CodeF.regionX (x:Nat) {id:Nat} {ops:Array Oper} {ρ:Env} {I:Imm} {S:St} {Q:QT} (h:denX P T x ops.toList ops.toList ρ I S fun ρ I S=>Q .normal ρ I S):CodeF P T n (.region id ops false) ρ I S Q:=by
  refine ⟨fun hT hf=>⟨fun rd ds a w F R hr hw hl hR=>?_⟩⟩
  have hf':∀ o ∈ ops.toList,fitsO n o=true:=List.all_eq_true.1 hf
  have:ops=ops.toList.toArray:=by simp
  rw [this]
  refine wpIn_region_lit (denX_ok hT hf' rd ops.toList ρ I S a w hf' h hr hw ?_)
  intro a' w' ρ' J S' r1 r2 r3 r4 r5
  exact hR _ _ _ _ _ _ ds (fun _=>rfl) r1 r2 r3 r4 r5
end
end Go.Sl
namespace Go.Sl
open Go.RowKit
section
variable {P:Program} {T:Tab} {o:Oper} {ρ:Env} {I:Imm} {S:St} {K:Value→Imm→St→Prop}
theorem copyS (hT:TabOk P T) {c:Call} {s x:Operand} {t tx e:TypeId} {s1 b1 size bytes:Nat} {z1 z:Value} {d:TypeDesc} (ho:o.op=.call c) (hc:c.callee=.builtin .copy) (hargs:c.args=#[s,x]) (hts:c.argTypes=#[t,tx])
    (ht:T.get t=some ⟨.slice e,s1,z1,b1⟩) (he:T.get e=some ⟨d,size,z,bytes⟩) {b off len cap:Nat} (hs:ρ.ev s=.slice (some ⟨b,off,none⟩) len cap) (k:Nat) {cs:List Value} {Ty:TypeId} {fr:Nat × Nat} (hk:S[k]?=some [(b,row cs Ty fr)])
    {a:Option Addr} {ns c2:Nat} (hx:ρ.ev x=.slice a ns c2) (m:Nat) (hm:m=min ns len) {news:List Value} (hsl:SlC I S a (m * size) news) (hone:∀ u ∈ news,Plain u=true) (hl:off+m * size≤cs.length) (hf:fr.2≤fr.1) (c':List Value) (hc':splice cs off news=c') (S':St) (hS:S.set k [(b,row c' Ty fr)]=S')
    (h:K (.int .i64 m) I S'):AnyD P o ρ I S K:=by
  subst hc'; subst hS
  refine .mk ⟨fun w F hw=>?_⟩
  obtain ⟨i,hi,hu,hsize,hzero,hby⟩:=rowOf_info (hT _ _ he)
  have hti:P.underlying t=some (.slice e):=by obtain ⟨_,_,hu,_⟩:=rowOf_info (hT _ _ ht); exact hu
  simp only at hsize
  subst hsize
  have hnl:=hsl.len
  have hb:w.heap[b]?=some (row cs Ty fr):=by
    refine In.heap (S:=S) (I:=I) (.own k ?_) hw
    rw [List.getD_eq_getElem?_getD,hk]; simp
  obtain ⟨w',hrun,hb',hk',hx'⟩:=run_storeCells (P:=P) news 0 cs w b off Ty fr hb (by rw [hnl]; omega) hone (by right; right; exact hf)
  have hmin:Nat.min ns len=m:=hm.symm
  have hcells:(Builtin.firstCells i.size m (.slice a ns c2)).run P w=.ok news.toArray w:=by
    have:=hsl.run (P:=P) (size:=i.size) (n:=m) (c:=c2) hw
    cases a with
    | none=>simpa [Builtin.firstCells] using this
    | some a=>simpa [Builtin.firstCells] using this
  have hexec:(execOp ρ.ev o).run P w=.ok (.value (.int .i64 m)) w':=by
    simp [execOp,ho,resolve,hc,hargs,hts,hs,hx,invoke,builtin,Builtin.copy_,run_underlying hti,Builtin.lenOf,hmin,sizeOf,typeInfo,hi,hcells,hrun,goInt]
  rw [hexec]
  exact ⟨I,_,I.le_refl,h,Has.turnAt (A:=[]) (B:=[]) hw hk (by simpa using hb') hk',hx'⟩
theorem appendR (hT:TabOk P T) {c:Call} {s x:Operand} {t tx e:TypeId} {s1 b1 size bytes:Nat} {z1 z:Value} {d:TypeDesc} (ho:o.op=.call c) (hc:c.callee=.builtin .append) (hargs:c.args=#[s,x]) (hts:c.argTypes=#[t,tx])
    (ht:T.get t=some ⟨.slice e,s1,z1,b1⟩) (he:T.get e=some ⟨d,size,z,bytes⟩) {a:Option Addr} {len cap:Nat} (hs:ρ.ev s=.slice a len cap) (k:Nat) {ch:List Blk} (hk:S[k]?=some ch) {vs:List Value} (hown:OwnC ch size a len cap vs)
    {n:Nat} {news:List Value} (hsrc:SrcOk P I S size tx (ρ.ev x) n news) (hz:z.cells.size=size) (hbytes:(len+n) * bytes≤140737488355328) (hmax:len+n≤9223372036854775807)
    (hroom:len+n≤cap) (h:∀ ch',OwnC ch' size a (len+n) cap (vs++news)→K (.slice a (len+n) cap) I (S.set k ch')):AnyD P o ρ I S K:=by
  rcases Nat.eq_zero_or_pos n with h0 | hn
  · subst h0
    refine .mk ⟨fun w F hw=>?_⟩
    obtain ⟨i,hi,hu,hsize,hzero,hby⟩:=rowOf_info (hT _ _ he)
    have hti:P.underlying t=some (.slice e):=by obtain ⟨_,_,hu,_⟩:=rowOf_info (hT _ _ ht); exact hu
    have hS:=hsrc w F hw
    simp only at hsize hzero hby
    subst hsize; subst hby
    have hlt:k < S.length:=by
      rcases Nat.lt_or_ge k S.length with g | g
      · exact g
      · rw [List.getElem?_eq_none g] at hk; cases hk
    have hexec:∀ v w',(Builtin.append_ #[t,tx] o.type #[.slice a len cap,ρ.ev x]).run P w=.ok v w'→(execOp ρ.ev o).run P w=.ok (.value v) w':=by
      intro v w' hr
      simp [execOp,ho,resolve,hc,hargs,hts,hs,invoke,builtin,hr]
    have hnil:news=[]:=List.length_eq_zero_iff.1 (by simpa using hS.newsLen)
    subst hnil
    have hr:=run_append_nothing w t tx o.type e i hti hi a len cap hown.le (ρ.ev x) hS
    rw [hexec _ _ hr]
    have hK:=h ch (by simpa using hown)
    rw [show S.set k ch=S from by
      apply List.ext_getElem?
      intro j
      by_cases hj:k=j
      · subst hj; rw [List.getElem?_set_self hlt,hk]
      · rw [List.getElem?_set_ne hj]] at hK
    exact ⟨I,S,I.le_refl,by simpa using hK,hw,Ext.refl w⟩
  · exact appendK hT ho hc hargs hts ht he hs k hk hown hsrc hz hbytes hmax hn (fun _=>h) (fun hg=>by omega)
end
end Go.Sl

/- Texts of this claim laid together: Sl21, Sl22, Sl23, Sl24, Sl25, Sl26, Sl27, Sl28, Sl29, Sl30, Sl31, Sl32. -/
import Derived.Test.YtegdcjnjnoeinaaGreatBCachePlays1
import Derived.Lib.BufferRead
import Derived.Deep.Strs
namespace Go.Sl
open Go.RowKit
def IterR (r:Nat) (ob it:Obj) (seen:List Int):Prop:=∃ (es:Array MapEntry) (clk:Nat) (sb:Array Nat) (c0:Nat) (ms:List MapEntry),ob=.map es clk∧it=.mapIter (some r) clk sb c0∧clk≤c0∧c0≤clk∧sb.toList=ms.map MapEntry.born∧(∀ m ∈ ms,m ∈ es.toList)∧ms.map MapEntry.key=seen.map (Value.int .i64)
section
variable {P:Program} {T:Tab} {o:Oper} {ρ:Env} {I:Imm} {S:St} {K:Value→Imm→St→Prop}
theorem rangeMapD (hT:TabOk P T) {t kt et:TypeId} {m:Operand} {s1 b1:Nat} {z1:Value} (ho:o.op=.range t m) (ht:T.get t=some ⟨.map kt et,s1,z1,b1⟩) {r:Nat} (hm:ρ.ev m=.map (some r))
    (k:Nat) {ob:Obj} (hk:S[k]?=some [(r,ob)]) {l:List (Int × Value)} (hM:MapR ob l) (h:∀ b it,IterR r ob it []→K (.pointer (some ⟨b,0,none⟩)) I (S++[[(b,it)]])):AnyD P o ρ I S K:=by
  obtain ⟨es,clk,rfl,hE⟩:=hM
  have hu:P.underlying t=some (.map kt et):=by obtain ⟨_,_,hu,_⟩:=rowOf_info (hT _ _ ht); exact hu
  refine .mk ⟨fun w F hw=>?_⟩
  have hb:w.heap[r]?=some (.map es clk):=by
    refine In.heap (S:=S) (I:=I) (.own k ?_) hw
    rw [List.getD_eq_getElem?_getD,hk]; simp
  have hr:(execOp ρ.ev o).run P w=.ok (.value (.pointer (some ⟨w.heap.size,0,none⟩))) (w.alloc (.mapIter (some r) clk #[] clk)):=by
    simp only [execOp,ho,hm,Sem.run_bind,run_range_map w t kt et r es clk hu hb,Result.andThen_ok,Sem.run_pure]
  rw [hr]
  refine ⟨I,_,I.le_refl,h w.heap.size _ ⟨es,clk,#[],clk,[],rfl,rfl,Nat.le_refl _,Nat.le_refl _,rfl,by simp,rfl⟩,?_,Ext.alloc w _⟩
  refine (hw.alloc _).perm ?_
  simp only [List.flatten_append,List.flatten_cons,List.flatten_nil,List.append_nil,List.append_assoc,List.singleton_append]
  exact List.perm_middle.symm
theorem nextMapD {x:Operand} (ho:o.op=.next x false) {r b:Nat} (hx:ρ.ev x=.pointer (some ⟨b,0,none⟩)) (k k2:Nat) {ob it:Obj} (hk:S[k]?=some [(r,ob)]) (hk2:S[k2]?=some [(b,it)]) {l:List (Int × Value)} (hM:MapR ob l) {seen:List Int} (hI:IterR r ob it seen)
    (hdone:(∀ p ∈ l,p.1 ∈ seen)→K (.tuple #[.bool false]) I S)
    (hstep:∀ n v it',(n,v) ∈ l→n ∉ seen→IterR r ob it' (seen++[n])→K (.tuple #[.bool true,.int .i64 n,v]) I (S.set k2 [(b,it')])):AnyD P o ρ I S K:=by
  obtain ⟨es,clk,rfl,hE⟩:=hM
  obtain ⟨es',clk',sb,c0,ms,he,rfl,hc1,hc2,hsb,hms,hseen⟩:=hI
  obtain ⟨rfl,rfl⟩:es=es'∧clk=clk':=by injection he with h1 h2; exact ⟨h1,h2⟩
  obtain rfl:c0=clk:=by omega
  refine .mk ⟨fun w F hw=>?_⟩
  have hb:w.heap[r]?=some (.map es c0):=by
    refine In.heap (S:=S) (I:=I) (.own k ?_) hw
    rw [List.getD_eq_getElem?_getD,hk]; simp
  have hbi:w.heap[b]?=some (.mapIter (some r) c0 sb c0):=by
    refine In.heap (S:=S) (I:=I) (.own k2 ?_) hw
    rw [List.getD_eq_getElem?_getD,hk2]; simp
  have hg1:(getObj b).run P w=.ok (.mapIter (some r) c0 sb c0) w:=by simp [getObj,Sem.run,hbi]
  have hg2:(getObj r).run P w=.ok (.map es c0) w:=by simp [getObj,Sem.run,hb]
  have htest:=next_test_false sb es c0 c0 hE.old (Nat.le_refl _)
  obtain ⟨L,hL⟩:∃ L,L=Array.filter (fun e=>!sb.contains e.born) es:=⟨_,rfl⟩
  have hmemL:∀ e,e ∈ L.toList↔e ∈ es.toList∧e.born ∉ sb.toList:=by
    intro e; rw [hL]; simp
  have e1:L.filter (fun x=>decide (x.born < c0))=L:=Array.filter_eq_self.2 (fun x hx=>by
    have:=hE.old x ((hmemL x).1 (by simpa using hx)).1
    simpa using this)
  have e2:L.filter (fun x=>decide (x.born ≥ c0))=#[]:=by
    rw [Array.filter_eq_empty_iff]
    intro x hx
    have:=hE.old x ((hmemL x).1 (by simpa using hx)).1
    simp; omega
  have hinj:∀ x ∈ es.toList,∀ y ∈ es.toList,x.born=y.born→x=y:=by
    intro x hx y hy hxy
    obtain ⟨i,hi⟩:=List.mem_iff_getElem?.1 hx
    obtain ⟨j,hj⟩:=List.mem_iff_getElem?.1 hy
    have h1:(es.toList.map (·.born))[i]?=some x.born:=by rw [List.getElem?_map,hi]; rfl
    have h2:(es.toList.map (·.born))[j]?=some x.born:=by rw [List.getElem?_map,hj,hxy]; rfl
    have hil:i < (es.toList.map (·.born)).length:=by
      rcases Nat.lt_or_ge i (es.toList.map (·.born)).length with g | g
      · exact g
      · rw [List.getElem?_eq_none g] at h1; cases h1
    have:=(List.getElem?_inj hil hE.born).1 (h1.trans h2.symm)
    subst this
    rw [hi] at hj; exact Option.some.inj hj
  have hkeyinj:∀ x ∈ es.toList,∀ y ∈ es.toList,x.key=y.key→x=y:=by
    intro x hx y hy hxy
    obtain ⟨i,hi⟩:=List.mem_iff_getElem?.1 hx
    obtain ⟨j,hj⟩:=List.mem_iff_getElem?.1 hy
    obtain ⟨p,hp,hpk,_⟩:=hE.at' hi
    obtain ⟨q,hq,hqk,_⟩:=hE.at' hj
    have hpq:p.1=q.1:=by rw [hpk,hqk] at hxy; injection hxy
    have h1:(l.map Prod.fst)[i]?=some p.1:=by rw [List.getElem?_map,hp]; rfl
    have h2:(l.map Prod.fst)[j]?=some p.1:=by rw [List.getElem?_map,hq,hpq]; rfl
    have hil:i < (l.map Prod.fst).length:=by
      rcases Nat.lt_or_ge i (l.map Prod.fst).length with g | g
      · exact g
      · rw [List.getElem?_eq_none g] at h1; cases h1
    have:=(List.getElem?_inj hil hE.nodup).1 (h1.trans h2.symm)
    subst this
    rw [hi] at hj; exact Option.some.inj hj
  have hseenL:∀ e ∈ es.toList,e.born ∉ sb.toList→∀ n,e.key=.int .i64 n→n ∉ seen:=by
    intro e he hn n hk hm
    have:Value.int .i64 n ∈ ms.map MapEntry.key:=by rw [hseen]; exact List.mem_map_of_mem hm
    obtain ⟨m,hmm,hmk⟩:=List.mem_map.1 this
    have:=hkeyinj e he m (hms m hmm) (by rw [hk,hmk])
    subst this
    exact hn (by rw [hsb]; exact List.mem_map_of_mem hmm)
  have hexec:(execOp ρ.ev o).run P w=((Instr.next (.pointer (some ⟨b,0,none⟩)) false o.type).run P w).andThen (fun v w=>.ok (.value v) w):=by
    simp only [execOp,ho,hx,Sem.run_bind,Sem.run_pure]
  by_cases h0:L.size=0
  · have hL0:L=#[]:=Array.eq_empty_of_size_eq_zero h0
    have hrun:(Instr.next (.pointer (some ⟨b,0,none⟩)) false o.type).run P w=.ok (.tuple #[.bool false]) w:=by
      simp only [Instr.next,Sem.run_bind,hg1,hg2,Result.andThen_ok,htest,Bool.false_eq_true,if_false,← hL,e1,e2]
      rw [hL0]
      simp [choose,Sem.run,Question.forced]
    rw [hexec,hrun]
    refine ⟨I,S,I.le_refl,hdone ?_,hw,Ext.refl w⟩
    intro p hp
    obtain ⟨j,hj⟩:=List.mem_iff_getElem?.1 hp
    have hkvj:=congrArg (·[j]?) hE.kv
    simp only [List.getElem?_map,hj,Option.map_some] at hkvj
    cases he:es.toList[j]? with
    | none=>rw [he] at hkvj; cases hkvj
    | some e =>
      rw [he] at hkvj
      simp only [Option.map_some,Option.some.injEq,Prod.mk.injEq] at hkvj
      have hee:=List.mem_of_getElem? he
      have hbn:e.born ∈ sb.toList:=by
        by_cases hn:e.born ∈ sb.toList
        · exact hn
        · have:e ∈ L.toList:=(hmemL e).2 ⟨hee,hn⟩
          rw [hL0] at this; simp at this
      rw [hsb] at hbn
      obtain ⟨m,hm,hmb⟩:=List.mem_map.1 hbn
      have:=hinj m (hms m hm) e hee hmb
      subst this
      have h3:m.key ∈ seen.map (Value.int .i64):=by rw [← hseen]; exact List.mem_map_of_mem hm
      rw [hkvj.1] at h3
      obtain ⟨q,hqm,hqe⟩:=List.mem_map.1 h3
      injection hqe with _ hqe
      rw [← hqe]; exact hqm
  · have hne:L.isEmpty=false:=by simp [Array.isEmpty,h0]
    have hch:∃ (j:Nat) (w1:World),j < L.size∧(w1=w∨w1=w.drew)∧(choose (Question.mapNext L.size)).run P w=.ok j w1:=by
      by_cases hf:L.size≤1
      · exact ⟨0,w,by omega,.inl rfl,by simp [choose,Sem.run,Question.forced,hf]⟩
      · exact ⟨_,w.drew,Nat.mod_lt _ (by omega),.inr rfl,by
          simp only [choose,Sem.run,Question.forced,decide_eq_true_eq,hf,if_false,Question.cut]
          rfl⟩
    obtain ⟨j,w1,hj,hal,hcrun⟩:=hch
    have hw1:Has w1 I (S.flatten++F):=by
      rcases hal with rfl | rfl
      · exact hw
      · exact hw.drew
    have hbi1:w1.heap[b]?=some (.mapIter (some r) c0 sb c0):=by
      refine In.heap (S:=S) (I:=I) (.own k2 ?_) hw1
      rw [List.getD_eq_getElem?_getD,hk2]; simp
    have hlt:b < w1.heap.size:=lt_of_some hbi1
    have hset:(setObj b (.mapIter (some r) c0 (sb.push L[j].born) c0)).run P w1=.ok () { w1 with heap:=w1.heap.setIfInBounds b (.mapIter (some r) c0 (sb.push L[j].born) c0) }:=by simp [setObj,Sem.run,hbi1]
    have hrun:(Instr.next (.pointer (some ⟨b,0,none⟩)) false o.type).run P w=.ok (.tuple #[.bool true,L[j].key,L[j].val]) { w1 with heap:=w1.heap.setIfInBounds b (.mapIter (some r) c0 (sb.push L[j].born) c0) }:=by
      simp only [Instr.next,Sem.run_bind,hg1,hg2,Result.andThen_ok,htest,Bool.false_eq_true,if_false,← hL,e1,e2,Array.append_empty,hne,Array.empty_append,Array.size_map,hcrun,Array.getElem?_map,Array.getElem?_eq_getElem hj,Option.map_some,hset,Sem.run_pure]
    rw [hexec,hrun]
    have hmj:L[j] ∈ L.toList:=by simp
    obtain ⟨hme,hmn⟩:=(hmemL _).1 hmj
    obtain ⟨i,hi⟩:=List.mem_iff_getElem?.1 hme
    obtain ⟨p,hp,hpk,hpv⟩:=hE.at' hi
    obtain ⟨n,v⟩:=p
    have hst:=hstep n v (.mapIter (some r) c0 (sb.push L[j].born) c0) (List.mem_of_getElem? hp) (hseenL _ hme hmn n hpk) ⟨es,c0,_,c0,ms++[L[j]],rfl,rfl,Nat.le_refl _,Nat.le_refl _,by rw [Array.toList_push,hsb,List.map_append]; rfl,by
      intro m hm
      rcases List.mem_append.1 hm with hm | hm
      · exact hms m hm
      · simp only [List.mem_singleton] at hm; subst hm; exact hme,by rw [List.map_append,hseen,List.map_append]; simp [hpk]⟩
    rw [hpk,hpv]
    refine ⟨I,_,I.le_refl,hst,Has.turnAt (A:=[]) (B:=[]) hw1 hk2 (by simp [hlt]) (fun q hq=>by simp [Array.getElem?_setIfInBounds_ne (Ne.symm hq)]),?_⟩
    refine Ext.trans (b:=w1) ?_ ⟨rfl,rfl,rfl,by simp⟩
    rcases hal with rfl | rfl
    · exact Ext.refl _
    · exact Ext.drew _
theorem entryMapD {x:Operand} (ho:o.op=.entry x) {r b:Nat} (hx:ρ.ev x=.pointer (some ⟨b,0,none⟩)) (k k2:Nat) {ob it:Obj} (hk:S[k]?=some [(r,ob)]) (hk2:S[k2]?=some [(b,it)]) {l:List (Int × Value)} (hM:MapR ob l) {seen:List Int} {n:Int} (hI:IterR r ob it (seen++[n]))
    (h:∀ v,(n,v) ∈ l→K (.tuple #[.int .i64 n,v]) I S):AnyD P o ρ I S K:=by
  obtain ⟨es,clk,rfl,hE⟩:=hM
  obtain ⟨es',clk',sb,c0,ms,he,rfl,hc1,hc2,hsb,hms,hseen⟩:=hI
  obtain ⟨rfl,rfl⟩:es=es'∧clk=clk':=by injection he with h1 h2; exact ⟨h1,h2⟩
  obtain rfl:c0=clk:=by omega
  have hmsne:ms≠[]:=by rintro rfl; simp at hseen
  obtain ⟨ms0,m,rfl⟩:∃ ms0 m,ms=ms0++[m]:=⟨_,_,(List.dropLast_concat_getLast hmsne).symm⟩
  have hmk:m.key=.int .i64 n:=by
    rw [List.map_append,List.map_append] at hseen
    have:=congrArg List.getLast? hseen
    simpa using this
  have hme:m ∈ es.toList:=hms m (by simp)
  obtain ⟨i,hi⟩:=List.mem_iff_getElem?.1 hme
  obtain ⟨⟨n',v⟩,hp,hpk,hpv⟩:=hE.at' hi
  have:n'=n:=by rw [hmk] at hpk; injection hpk with _ hpk; exact hpk.symm
  subst this
  refine .mk (OpS.value _ (fun w F hw=>?_) (h v (List.mem_of_getElem? hp)))
  have hb:w.heap[r]?=some (.map es c0):=by
    refine In.heap (S:=S) (I:=I) (.own k ?_) hw
    rw [List.getD_eq_getElem?_getD,hk]; simp
  have hbi:w.heap[b]?=some (.mapIter (some r) c0 sb c0):=by
    refine In.heap (S:=S) (I:=I) (.own k2 ?_) hw
    rw [List.getD_eq_getElem?_getD,hk2]; simp
  have hg1:(getObj b).run P w=.ok (.mapIter (some r) c0 sb c0) w:=by simp [getObj,Sem.run,hbi]
  have hg2:(getObj r).run P w=.ok (.map es c0) w:=by simp [getObj,Sem.run,hb]
  have hback:sb.back?=some m.born:=by
    rw [← Array.getLast?_toList,hsb,List.map_append]; simp
  have hf:es.find? (·.born == m.born)=some m:=by rw [← Array.find?_toList]; exact find_born m es.toList hE.born hme
  simp only [execOp,ho,hx,Instr.entry,Sem.run_bind,hg1,hg2,Result.andThen_ok,hback,bne_self_eq_false,Bool.false_eq_true,if_false,hf,Sem.run_pure,hmk,hpv]
end
end Go.Sl
namespace Go.Sl
open Go.RowKit
theorem bytes_loop (bs:ByteArray):∀ (n i:Nat) (r:List UInt8),bs.size - i=n→ByteArray.toList.loop bs i r=r.reverse++bs.data.toList.drop i
  | 0,i,r,h=>by
    rw [ByteArray.toList.loop,if_neg (by omega),List.drop_of_length_le (by show bs.data.size≤i; have:bs.size=bs.data.size:=rfl; omega),List.append_nil]
  | n+1,i,r,h=>by
    have hi:i < bs.data.toList.length:=by show i < bs.data.size; have:bs.size=bs.data.size:=rfl; omega
    rw [ByteArray.toList.loop,if_pos (by omega),bytes_loop bs n (i+1) _ (by omega),List.drop_eq_getElem_cons hi]
    simp [ByteArray.get!]
    rw [getElem!_pos bs.data i (by simpa using hi)]
theorem bytes_toList (l:List UInt8):(ByteArray.mk l.toArray).toList=l:=by
  unfold ByteArray.toList
  rw [bytes_loop _ _ 0 [] rfl]; simp
section
variable {P:Program} {T:Tab} {o:Oper} {ρ:Env} {I:Imm} {S:St} {K:Value→Imm→St→Prop}
theorem convStrD (hT:TabOk P T) {src dst e:TypeId} {x:Operand} {s1 b1 s2 b2 s3 b3:Nat} {z1 z2 z3:Value} (ho:o.op=.convert src dst x) (hs:T.get src=some ⟨.slice e,s1,z1,b1⟩) (he:T.get e=some ⟨.int .u8,s2,z2,b2⟩) (hd:T.get dst=some ⟨.string,s3,z3,b3⟩)
    {a:Option Addr} {len cap:Nat} (hx:ρ.ev x=.slice a len cap) {l:List UInt8} (h:SlC I S a len (l.map fun b=>Value.int .u8 (b.toNat:Int))) (hK:K (.string ⟨l.toArray⟩) I S):AnyD P o ρ I S K:=by
  have hus:P.underlying src=some (.slice e):=by obtain ⟨_,_,hu,_⟩:=rowOf_info (hT _ _ hs); exact hu
  have hue:P.underlying e=some (.int .u8):=by obtain ⟨_,_,hu,_⟩:=rowOf_info (hT _ _ he); exact hu
  have hud:P.underlying dst=some .string:=by obtain ⟨_,_,hu,_⟩:=rowOf_info (hT _ _ hd); exact hu
  have hl:=h.len
  rw [List.length_map] at hl
  refine .mk (OpS.value _ (fun w F hw=>?_) hK)
  have hr:(convert src dst (.slice a len cap)).run P w=.ok (.string ⟨l.toArray⟩) w:=by
    rcases h.mem with h0 | ⟨b,off,rfl,hc⟩
    · subst h0
      have hl0:l=[]:=List.length_eq_zero_iff.1 hl
      subst hl0
      cases a with
      | none=>exact Lib.run_convert_nil_bytes w src dst e cap hus hue hud
      | some p=>exact run_convert_bytes_back w src dst e p cap [] hus hue hud (fun j hj=>by simp at hj)
    · rw [← hl]
      refine run_convert_bytes_back w src dst e _ cap l hus hue hud (fun j hj=>?_)
      rw [add_none]
      exact hc.cell hw j _ (by rw [List.getElem?_map,List.getElem?_eq_getElem hj]; rfl)
  simp only [execOp,ho,hx,Sem.run_bind,hr,Result.andThen_ok,Sem.run_pure]
theorem convMarkD (hT:TabOk P T) {t e:TypeId} {x:Operand} {s1 b1 s2 b2:Nat} {z1 z2:Value} (ho:o.op=.convert t t x) (hs:T.get t=some ⟨.slice e,s1,z1,b1⟩) (he:T.get e=some ⟨.int .u8,s2,z2,b2⟩)
    {b len cap:Nat} (hx:ρ.ev x=.slice (some ⟨b,0,none⟩) len cap) (k:Nat) {c:List Value} {Ty:TypeId} (hk:S[k]?=some [(b,row c Ty)]) (hK:K (.slice (some ⟨b,0,none⟩) len cap) I (S.set k [(b,row c Ty (c.length,c.length+1))])):AnyD P o ρ I S K:=by
  have hus:P.underlying t=some (.slice e):=by obtain ⟨_,_,hu,_⟩:=rowOf_info (hT _ _ hs); exact hu
  have hue:P.underlying e=some (.int .u8):=by obtain ⟨_,_,hu,_⟩:=rowOf_info (hT _ _ he); exact hu
  refine .mk ⟨fun w F hw=>?_⟩
  have hb:w.heap[b]?=some (row c Ty):=by
    refine In.heap (S:=S) (I:=I) (.own k ?_) hw
    rw [List.getD_eq_getElem?_getD,hk]; simp
  have hsh:w.shape? b=some (Ty,c.length):=by
    unfold World.shape?
    rw [hb]; simp [row]
  have hr:(convert t t (.slice (some ⟨b,0,none⟩) len cap)).run P w=.ok (.slice (some ⟨b,0,none⟩) len cap) (w.freeze ⟨b,c.length,none⟩ 1):=by
    simp [convert,run_underlying hus,run_underlying hue,markStringish,hsh]
  have hexec:(execOp ρ.ev o).run P w=.ok (.value (.slice (some ⟨b,0,none⟩) len cap)) (w.freeze ⟨b,c.length,none⟩ 1):=by
    simp only [execOp,ho,hx,Sem.run_bind,hr,Result.andThen_ok,Sem.run_pure]
  rw [hexec]
  have hf1:(w.freeze ⟨b,c.length,none⟩ 1).heap[b]?=some (row c Ty (c.length,c.length+1)):=by
    unfold World.freeze
    rw [if_neg (by decide)]
    simp only [Array.getElem?_modify,hb,if_true,Option.map_some,row]
    rfl
  have hf2:∀ j,j≠b→(w.freeze ⟨b,c.length,none⟩ 1).heap[j]?=w.heap[j]?:=by
    intro j hj
    unfold World.freeze
    rw [if_neg (by decide)]
    simp only [Array.getElem?_modify]
    rw [if_neg (Ne.symm hj)]
  exact ⟨I,_,I.le_refl,hK,Has.turnAt (A:=[]) (B:=[]) hw hk hf1 hf2,⟨rfl,rfl,rfl,by unfold World.freeze; rw [if_neg (by decide)]; simp⟩⟩
end
end Go.Sl
namespace Go.Sl
open Go.RowKit
inductive Sch where
  | nil
  | rd (i:Nat) (s:Sch)
  | ef (i:Nat) (s:Sch)
  | alt (a b:Sch)
def Sch.heads:Sch→List Nat
  | .nil=>[]
  | .rd _ _=>[]
  | .ef i _=>[i]
  | .alt a b=>a.heads++b.heads
noncomputable def denT (P:Program) (T:Tab) (ops:List Oper) (anc:List (List Nat)) (K:Env→Imm→St→Prop) (s:Sch):Prot→Env→Imm→St→Prop :=
  Sch.rec (motive:=fun _=>Prot→Env→Imm→St→Prop) (fun _ ρ I S=>K ρ I S) (fun i _ ih pr ρ I S=>schedS P T ops anc i ih pr ρ I S) (fun i _ ih pr ρ I S=>schedS P T ops anc i ih pr ρ I S) (fun _ _ a b pr ρ I S=>a pr ρ I S∧b pr ρ I S) s
def okT (T:Tab) (ops:List Oper) (anc:List (List Nat)):Sch→List Nat→List Nat→Bool
  | .nil,done,hs=>hs.isEmpty && (List.range ops.length).all fun k=>done.contains k
  | .rd i s,done,hs=>hs.isEmpty && (match ops[i]? with
    | none=>false
    | some o=>readyB ops (fun k=>done.contains k) o i && nowRead T o.op && ((List.range ops.length).all fun j=>Nat.beq j i || done.contains j || befOf anc j i || (match ops[j]? with | some oj=>o.apart ops.toArray oj | none=>true)) && okT T ops anc s (i :: done) [])
  | .ef i s,done,hs=>(match ops[i]? with
    | none=>false
    | some o=>readyB ops (fun k=>done.contains k) o i && !nowRead T o.op && ((List.range ops.length).all fun j=>Nat.beq j i || hs.contains j || (match ops[j]? with | some oj=>!readyB ops (fun k=>done.contains k) oj j | none=>true)) && okT T ops anc s (i :: done) [])
  | .alt a b,done,hs=>!a.heads.isEmpty && !b.heads.isEmpty && okT T ops anc a done (b.heads++hs) && okT T ops anc b done (a.heads++hs)
theorem denT_ok {P:Program} {T:Tab} (hT:TabOk P T) {ops:List Oper} {anc:List (List Nat)} (hk:okAnc ops anc=true) (hs:∀ (j:Nat) (oj:Oper),ops[j]?=some oj→noSelect oj.op=true) {K:Env→Imm→St→Prop} :
    ∀ (s:Sch) (done hds:List Nat) (pr:Prot) (ρ:Env) (I:Imm) (S:St) (f:Nat),okT T ops anc s done hds=true→denT P T ops anc K s pr ρ I S→DC ops (fun k=>done.contains k)→cnt ops (fun k=>done.contains k)≤f →
    (hds=[]→anyQ P ops (befOf anc) K f (fun k=>done.contains k) pr ρ I S) ∧
    (s.heads≠[]→∃ f',f=f'+1∧(∃ j oj,ops[j]?=some oj∧readyB ops (fun k=>done.contains k) oj j=true)∧(∀ j oj,ops[j]?=some oj→readyB ops (fun k=>done.contains k) oj j=true→j ∈ s.heads++hds) ∧
      ∀ j ∈ s.heads,∀ oj,ops[j]?=some oj→stepQ P ops oj ρ I S fun v J S'=>pres (befOf anc) pr j S S'∧anyQ P ops (befOf anc) K f' (put1 (fun k=>done.contains k) j) pr (ρ.put oj.dst v) J S')
  | .nil,done,hds,pr,ρ,I,S,f,ho,h,hd,hc=>by
    simp only [okT,Bool.and_eq_true] at ho
    refine ⟨fun _=>?_,fun hne=>absurd rfl hne⟩
    have hall:∀ i o,ops[i]?=some o→readyB ops (fun k=>done.contains k) o i=false:=by
      intro i o hio
      have hlt:i < ops.length:=by
        rcases Nat.lt_or_ge i ops.length with g | g
        · exact g
        · rw [List.getElem?_eq_none g] at hio; cases hio
      have:=List.all_eq_true.1 ho.2 i (List.mem_range.2 hlt)
      unfold readyB
      show (!(done.contains i) && _)=false
      rw [this]; rfl
    cases f with
    | zero=>exact fun _=>h
    | succ f=>exact ⟨fun _=>h,fun j o hj hr=>by rw [hall j o hj] at hr; cases hr⟩
  | .rd i s,done,hds,pr,ρ,I,S,f,ho,h,hd,hc=>by
    refine ⟨fun _=>?_,fun hne=>absurd rfl hne⟩
    simp only [okT,Bool.and_eq_true] at ho
    obtain ⟨_,ho⟩:=ho
    split at ho
    · cases ho
    · rename_i o hi
      simp only [Bool.and_eq_true] at ho
      obtain ⟨⟨⟨hr,hnow⟩,hmode⟩,hnext⟩:=ho
      have hcnt:=cnt_put ops (fun k=>done.contains k) hi (ready_preds hr).1
      obtain ⟨f,rfl⟩:∃ m,f=m+1:=⟨f - 1,by omega⟩
      have hd':=hd.put hi hr
      rw [← contains_put] at hd' hcnt
      have h:schedS P T ops anc i (denT P T ops anc K s) pr ρ I S:=h
      unfold schedS at h
      rw [hi] at h
      obtain ⟨dst,op,type,pos,after,guard⟩:=o
      simp only [] at h
      generalize hoe:(⟨dst,op,type,pos,after,guard⟩:Oper)=o at *
      have hod:o.dst=dst:=by rw [← hoe]
      have hop:o.op=op:=by rw [← hoe]
      have hog:o.guard=guard:=by rw [← hoe]
      have hsplit:(wantE ops ρ o=true∧(match isLoad op with
          | true=>loadP P T o ρ I S fun v ks=>putK ρ dst v fun ρ'=>denT P T ops anc K s (ks.map (fun k=>(i,k))++pr) ρ' I S
          | false=>(match pureOp T op with
            | true=>opD P T o ρ I S fun v _ _=>putK ρ dst v fun ρ'=>denT P T ops anc K s pr ρ' I S
            | false=>opD P T o ρ I S fun v J S'=>presK ((pr.filter fun p=>!befOf anc i p.1).map Prod.snd) S S' (putK ρ dst v fun ρ'=>denT P T ops anc K s pr ρ' J S')))) ∨
          (wantE ops ρ o=false∧denT P T ops anc K s pr (ρ.put dst undef) I S):=by
        cases hgd:guard with
        | none =>
          left
          subst hgd
          refine ⟨by unfold wantE; rw [hog],h⟩
        | some jw =>
          obtain ⟨j,want⟩:=jw
          subst hgd
          simp only [putK_eq ρ dst undef] at h
          exact guard_want hog h
      have hmode:=List.all_eq_true.1 hmode
      have fwd:∀ (v:Value) (ks:List Nat),(∀ (J:Imm) (S':St),I.le J→(∀ k ∈ ks,S'[k]?=S[k]?)→Yld P ops o ρ J S' v)→denT P T ops anc K s (ks.map (fun k=>(i,k))++pr) (ρ.put dst v) I S →
          anyQ P ops (befOf anc) K (f+1) (fun k=>done.contains k) pr ρ I S:=by
        intro v ks hy hn
        refine anyQ.ahead (v:=v) (ks:=ks) hk hi hs f _ ρ I S hd hr ?_ hc hy ?_
        · intro j oj hoj hji hjl hjb
          have hlt:j < ops.length:=by
            rcases Nat.lt_or_ge j ops.length with g | g
            · exact g
            · rw [List.getElem?_eq_none g] at hoj; cases hoj
          have:=hmode j (List.mem_range.2 hlt)
          rw [hoj] at this
          have hne:Nat.beq j i=false:=by
            cases hb:Nat.beq j i with
            | false=>rfl
            | true=>exact absurd (Nat.eq_of_beq_eq_true hb) hji
          have hjl':done.contains j=false:=hjl
          simp only [hne,hjl',hjb,Bool.false_or] at this
          exact this
        · rw [← contains_put,hod]
          exact (denT_ok hT hk hs s (i :: done) [] _ _ I S f hnext hn hd' (by omega)).1 rfl
      rcases hsplit with ⟨hw,h⟩ | ⟨hw,h⟩
      · rw [hop] at hnow
        split at h
        · obtain ⟨v,ks,hg,hrun⟩:=loadP_ok hT h
          rw [putK_eq] at hg
          refine fwd v ks ?_ hg
          intro J S' hJ hkk
          unfold Yld; rw [hw]
          exact fun w F hww=>hrun J S' hJ hkk w F hww
        · rename_i hl
          have hp:pureOp T op=true:=by simpa [nowRead,hl] using hnow
          rw [hp] at h
          obtain ⟨v,hrun,hg⟩:=opD_pure hT (by rw [hop]; exact hp) h
          rw [putK_eq] at hg
          refine fwd v [] ?_ (by simpa using hg)
          intro J S' hJ _
          unfold Yld; rw [hw]
          exact fun w F _=>hrun w
      · refine fwd undef [] ?_ (by simpa using h)
        intro J S' hJ _
        unfold Yld; rw [hw]
  | .ef i s,done,hds,pr,ρ,I,S,f,ho,h,hd,hc=>by
    simp only [okT] at ho
    split at ho
    · cases ho
    · rename_i o hi
      simp only [Bool.and_eq_true,Bool.not_eq_true'] at ho
      obtain ⟨⟨⟨hr,hnow⟩,hmode⟩,hnext⟩:=ho
      have hcnt:=cnt_put ops (fun k=>done.contains k) hi (ready_preds hr).1
      obtain ⟨f,rfl⟩:∃ m,f=m+1:=⟨f - 1,by omega⟩
      have hd':=hd.put hi hr
      rw [← contains_put] at hd' hcnt
      have h:schedS P T ops anc i (denT P T ops anc K s) pr ρ I S:=h
      unfold schedS at h
      rw [hi] at h
      have hmode:=List.all_eq_true.1 hmode
      have hcov:∀ j oj,ops[j]?=some oj→readyB ops (fun k=>done.contains k) oj j=true→j ∈ [i]++hds:=by
        intro j oj hoj hrj
        have hlt:j < ops.length:=by
          rcases Nat.lt_or_ge j ops.length with g | g
          · exact g
          · rw [List.getElem?_eq_none g] at hoj; cases hoj
        have:=hmode j (List.mem_range.2 hlt)
        rw [hoj] at this
        simp only [] at this
        rw [hrj] at this
        simp only [Bool.not_true,Bool.or_false,Bool.or_eq_true] at this
        rcases this with this | this
        · have:=Nat.eq_of_beq_eq_true this
          subst this; simp
        · simp only [List.mem_append,List.mem_singleton]
          right; simpa using this
      obtain ⟨dst,op,type,pos,after,guard⟩:=o
      simp only [] at h
      generalize hoe:(⟨dst,op,type,pos,after,guard⟩:Oper)=o at *
      have hod:o.dst=dst:=by rw [← hoe]
      have hop:o.op=op:=by rw [← hoe]
      have hog:o.guard=guard:=by rw [← hoe]
      have hl:isLoad op=false:=by
        cases hl:isLoad op with
        | false=>rfl
        | true=>rw [hop] at hnow; simp [nowRead,hl] at hnow
      have hp:pureOp T op=false:=by
        cases hp:pureOp T op with
        | false=>rfl
        | true=>rw [hop] at hnow; simp [nowRead,hp] at hnow
      rw [hl,hp] at h
      simp only [] at h
      have hsplit:(wantE ops ρ o=true∧opD P T o ρ I S fun v J S'=>presK ((pr.filter fun p=>!befOf anc i p.1).map Prod.snd) S S' (putK ρ dst v fun ρ'=>denT P T ops anc K s pr ρ' J S')) ∨
          (wantE ops ρ o=false∧denT P T ops anc K s pr (ρ.put dst undef) I S):=by
        cases hgd:guard with
        | none =>
          left
          subst hgd
          refine ⟨by unfold wantE; rw [hog],h⟩
        | some jw =>
          obtain ⟨j,want⟩:=jw
          subst hgd
          simp only [putK_eq ρ dst undef] at h
          exact guard_want hog h
      have step:stepQ P ops o ρ I S fun v J S'=>pres (befOf anc) pr i S S'∧anyQ P ops (befOf anc) K f (put1 (fun k=>done.contains k) i) pr (ρ.put o.dst v) J S':=by
        rw [← contains_put,hod]
        rcases hsplit with ⟨hw,h⟩ | ⟨hw,h⟩
        · unfold stepQ; rw [hw]
          refine OpS.mono (opD_ok hT h) ?_
          intro v J S' hle hv
          obtain ⟨hpres,hn⟩:=presK_ok hv
          rw [putK_eq] at hn
          refine ⟨?_,(denT_ok hT hk hs s (i :: done) [] pr _ J S' f hnext hn hd' (by omega)).1 rfl⟩
          intro p hp2 hb
          refine hpres p.2 (List.mem_map.2 ⟨p,List.mem_filter.2 ⟨hp2,by rw [hb]; rfl⟩,rfl⟩)
        · unfold stepQ; rw [hw]
          exact ⟨fun _ _ _=>rfl,(denT_ok hT hk hs s (i :: done) [] pr _ I S f hnext h hd' (by omega)).1 rfl⟩
      have second:∃ f',f+1=f'+1∧(∃ j oj,ops[j]?=some oj∧readyB ops (fun k=>done.contains k) oj j=true)∧(∀ j oj,ops[j]?=some oj→readyB ops (fun k=>done.contains k) oj j=true→j ∈ (Sch.ef i s).heads++hds) ∧
          ∀ j ∈ (Sch.ef i s).heads,∀ oj,ops[j]?=some oj→stepQ P ops oj ρ I S fun v J S'=>pres (befOf anc) pr j S S'∧anyQ P ops (befOf anc) K f' (put1 (fun k=>done.contains k) j) pr (ρ.put oj.dst v) J S':=by
        refine ⟨f,rfl,⟨i,o,hi,hr⟩,hcov,?_⟩
        intro j hj oj hoj
        simp only [Sch.heads,List.mem_singleton] at hj
        subst hj
        rw [hi] at hoj; cases hoj
        exact step
      refine ⟨fun hnil=>?_,fun _=>second⟩
      subst hnil
      refine ⟨fun hno=>absurd (hno i o hi) (by rw [hr]; simp),?_⟩
      intro j oj hoj hrj
      have:=hcov j oj hoj hrj
      simp only [List.append_nil,List.mem_singleton] at this
      subst this
      rw [hi] at hoj; cases hoj
      exact step
  | .alt a b,done,hds,pr,ρ,I,S,f,ho,h,hd,hc=>by
    simp only [okT,Bool.and_eq_true,Bool.not_eq_true',List.isEmpty_eq_false_iff] at ho
    obtain ⟨⟨⟨ha0,hb0⟩,ha⟩,hb⟩:=ho
    have h:denT P T ops anc K a pr ρ I S∧denT P T ops anc K b pr ρ I S:=h
    obtain ⟨f1,rfl,hex,hc1,hs1⟩:=(denT_ok hT hk hs a done _ pr ρ I S f ha h.1 hd hc).2 ha0
    obtain ⟨f2,e2,_,hc2,hs2⟩:=(denT_ok hT hk hs b done _ pr ρ I S (f1+1) hb h.2 hd hc).2 hb0
    obtain rfl:f1=f2:=by omega
    have hcov:∀ j oj,ops[j]?=some oj→readyB ops (fun k=>done.contains k) oj j=true→j ∈ (Sch.alt a b).heads++hds:=by
      intro j oj hoj hrj
      have:=hc1 j oj hoj hrj
      simpa [Sch.heads] using this
    have hst:∀ j ∈ (Sch.alt a b).heads,∀ oj,ops[j]?=some oj→stepQ P ops oj ρ I S fun v J S'=>pres (befOf anc) pr j S S'∧anyQ P ops (befOf anc) K f1 (put1 (fun k=>done.contains k) j) pr (ρ.put oj.dst v) J S':=by
      intro j hj oj hoj
      rcases List.mem_append.1 hj with hj | hj
      · exact hs1 j hj oj hoj
      · exact hs2 j hj oj hoj
    refine ⟨fun hnil=>?_,fun _=>⟨f1,rfl,hex,hcov,hst⟩⟩
    subst hnil
    obtain ⟨j0,o0,hj0,hr0⟩:=hex
    refine ⟨fun hno=>absurd (hno j0 o0 hj0) (by rw [hr0]; simp),?_⟩
    intro j oj hoj hrj
    have:=hcov j oj hoj hrj
    rw [List.append_nil] at this
    exact hst j this oj hoj
def okAllT (P:Program) (T:Tab) (ops:List Oper) (anc:List (List Nat)) (s:Sch):Bool :=
  P.follows .mixedOrders && okAnc ops anc && ops.all (fun o=>noSelect o.op) && okT T ops anc s [] []
theorem CodeF.schedT {P:Program} {T:Tab} {n id:Nat} {ops:Array Oper} {ρ:Env} {I:Imm} {S:St} {Q:Exit→Env→Imm→St→Prop} (anc:List (List Nat)) (s:Sch) (hok:okAllT P T ops.toList anc s=true)
    (h:denT P T ops.toList anc (fun ρ I S=>Q .normal ρ I S) s [] ρ I S):CodeF P T n (.region id ops true) ρ I S Q:=by
  simp only [okAllT,Bool.and_eq_true] at hok
  obtain ⟨⟨⟨hm,hk⟩,hsel⟩,hs⟩:=hok
  refine ⟨fun hT hf=>⟨fun rd ds a w F R hr hw _ hR=>?_⟩⟩
  have hf':∀ o ∈ ops.toList,fitsO n o=true:=List.all_eq_true.1 hf
  have hsel':∀ (j:Nat) (oj:Oper),ops.toList[j]?=some oj→noSelect oj.op=true:=fun j oj h=>List.all_eq_true.1 hsel oj (List.mem_of_getElem? h)
  have hcnt:cnt ops.toList (fun k=>([]:List Nat).contains k)≤ops.size:=by
    unfold cnt
    refine Nat.le_trans (List.length_filter_le _ _) ?_
    simp
  have hany:=(denT_ok hT hk hsel' s [] [] [] ρ I S ops.size hs h (fun j o _ hl=>by simp at hl) hcnt).1 rfl
  refine wpIn_region_any hm ?_
  have e:ops=ops.toList.toArray:=by simp
  have:=anyQ_ok hf' (Q:=R) (F:=markB ds++F) rd ops.size _ [] ρ I S a w.drew (Array.replicate ops.size false) hany hcnt hr hw.drew (by simp) (by
    intro i hi
    rw [Array.getD_eq_getD_getElem?]
    simp at hi
    simp [hi]) (by
    intro a' w' ρ' J S' r1 r2 r3 r4 r5
    exact hR _ _ _ _ _ _ ds (fun _=>rfl) r1 r2 r3 r4 ((Ext.drew w).trans r5))
  rw [← e] at this
  exact this
theorem CodeF.cutD {P:Program} {T:Tab} {n:Nat} {c:Code} {ρ:Env} {I:Imm} {S:St} {Q:Exit→Env→Imm→St→Prop} (sl:List Nat) (G:List Value→Imm→St→Prop)
    (h:CodeF P T n c ρ I S fun e ρ' J S'=>match e with | .normal=>∃ S0,Drop S' S0∧G (sl.map ρ') J S0 | _=>False)
    (rest:∀ vs g J S',I.le J→G vs J S'→Q .normal (Env.of (sl.zip vs) g) J S'):CodeF P T n c ρ I S Q:=by
  refine ⟨fun hT hf=>⟨fun rd ds a w F R hr hw hl hR=>?_⟩⟩
  refine (h.out hT hf).run rd ds a w F R hr hw hl ?_
  intro e a' w' ρ' J S' ds' r0 r1 r2 r3 r4 r5
  cases e with
  | normal =>
    obtain ⟨S0,hd,hg⟩:=r3
    have hq:=rest _ ρ' J S0 r2 hg
    rw [zip_map_self,Env.of_self] at hq
    exact hR _ _ _ _ _ _ ds' r0 r1 r2 hq (hd.has r4) r5
  | exit i=>exact r3.elim
  | goto l=>exact r3.elim
  | ret=>exact r3.elim
  | panic c=>exact r3.elim
  | outgrown=>exact r3.elim
end Go.Sl
namespace Go.Sl
open Go.RowKit
section
variable {P:Program} {T:Tab} {o:Oper} {ρ:Env} {I:Imm} {S:St} {K:Value→Imm→St→Prop}
theorem capD (hT:TabOk P T) {c:Call} {x:Operand} {t e:TypeId} {s1 b1:Nat} {z1:Value} (ho:o.op=.call c) (hc:c.callee=.builtin .cap) (hargs:c.args=#[x]) (hts:c.argTypes=#[t]) (ht:T.get t=some ⟨.slice e,s1,z1,b1⟩)
    {a:Option Addr} {len cap:Nat} (hx:ρ.ev x=.slice a len cap) (hK:K (.int .i64 cap) I S):AnyD P o ρ I S K:=by
  refine .mk (OpS.value _ (fun w F hw=>?_) hK)
  have hti:P.underlying t=some (.slice e):=by obtain ⟨_,_,hu,_⟩:=rowOf_info (hT _ _ ht); exact hu
  simp [execOp,ho,resolve,hc,hargs,hts,hx,invoke,builtin,Builtin.cap_,run_underlying hti,goInt]
end
theorem SlC.rds {I:Imm} {a:Option Addr} {n:Nat} {vs:List Value} (h:SlC I [] a n vs):Rds I a n vs:=by
  refine ⟨h.len,h.mem.imp id ?_⟩
  rintro ⟨b,off,e,c,T,fr,hin,h1,h2⟩
  refine ⟨b,off,c,T,fr,e,?_,h1⟩
  cases hin with
  | imm h=>exact h
  | own k h=>simp at h
theorem OwnC.cellsP {ch:List Blk} {size:Nat} {a:Option Addr} {len cap:Nat} {vs:List Value} (h:OwnC ch size a len cap vs) {I:Imm} {S:St} (k:Nat) (hk:S[k]?=some ch) (hp:0 < len * size):∃ b off,a=some ⟨b,off,none⟩∧Cells I [S.getD k []] b off (len * size) vs:=by
  have e:S.getD k []=ch:=by rw [List.getD_eq_getElem?_getD,hk]; rfl
  rcases (h.slC (I:=I) (S:=[S.getD k []]) 0 (by rw [e]; rfl)).mem with h0 | h
  · omega
  · exact h
end Go.Sl
namespace Go.Sl
open Go.RowKit Go.ChangeShapes Go.WideShapes
theorem flat_get (vs:Nat→List Value) (k:Nat) (hk:0 < k):∀ (n:Nat),(∀ i,i < n→(vs i).length=k)→∀ j,j < n * k→((List.range n).flatMap vs)[j]?=(vs (j / k))[j % k]?:=by
  intro n
  induction n with
  | zero=>intro _ j hj; omega
  | succ n ih =>
    intro h j hj
    have hl:((List.range n).flatMap vs).length=n * k:=by
      clear ih hj
      have h':∀ i,i < n→(vs i).length=k:=fun i hi=>h i (by omega)
      clear h
      induction n with
      | zero=>simp
      | succ n ih2=>rw [List.range_succ,List.flatMap_append,List.length_append,ih2 (fun i hi=>h' i (by omega))]; simp [h' n (by omega),Nat.add_mul]
    rw [List.range_succ,List.flatMap_append]
    rcases Nat.lt_or_ge j (n * k) with g | g
    · rw [List.getElem?_append_left (by omega)]
      exact ih (fun i hi=>h i (by omega)) j g
    · rw [List.getElem?_append_right (by omega),hl]
      have e:j / k=n:=by
        have h1:n≤j / k:=(Nat.le_div_iff_mul_le hk).2 g
        have h2:j / k < n+1:=(Nat.div_lt_iff_lt_mul hk).2 hj
        omega
      have e2:j % k=j - n * k:=by
        have:=Nat.div_add_mod j k
        rw [e] at this
        rw [Nat.mul_comm k n] at this
        omega
      rw [e,e2]
      simp
theorem flat_length (vs:Nat→List Value) (k n:Nat) (h:∀ i,i < n→(vs i).length=k):((List.range n).flatMap vs).length=n * k:=by
  induction n with
  | zero=>simp
  | succ n ih=>rw [List.range_succ,List.flatMap_append,List.length_append,ih (fun i hi=>h i (by omega))]; simp [h n (by omega),Nat.add_mul]
theorem open_elems {H:Type} {enc:TypeId × Value→H} {P:Program} {W:World} {held:Bool} {t e:TypeId} {fuel k:Nat} (ht:P.underlying t=some (.slice e)) (hk:P.cellsOf e=k) (hk0:0 < k) {c0:Value} {x:DataW H × List MemPlace}
    (h:DataW.trod enc P W 0 (fun _=>true) held fuel t [c0]=some x) :
    ∃ (a:Option Addr) (len cap:Nat) (vs:Nat→List Value) (D:Nat→DataW H),c0=.slice a len cap∧len≤cap∧cap≤maxLen∧(∀ i,i < len→(vs i).length=k∧∃ n Pl,DataW.trod enc P W 0 (fun _=>true) held n e (vs i)=some (D i,Pl)) ∧
      Rds (base W) a (len * k) ((List.range len).flatMap vs)∧((x.1=.nil∧len=0)∨∃ R,x.1=.slice ((List.range len).map D) R):=by
  rcases Go.Deep.open_slice ht h with ⟨hcs,rfl⟩ | ⟨a,len,cap,m,n,D,Pl,hcs,hb,hl,hm,hmm,rfl,hx⟩
  · simp only [List.cons.injEq,and_true] at hcs
    exact ⟨none,0,0,fun _=>[],fun _=>.nil,hcs,Nat.le_refl _,Nat.zero_le _,fun i hi=>absurd hi (Nat.not_lt_zero _),⟨by simp,.inl (by simp)⟩,.inl ⟨rfl,rfl⟩⟩
  simp only [List.cons.injEq,and_true] at hcs
  simp only [if_true] at hmm
  subst hmm
  obtain ⟨vs,hvs⟩:=Go.Deep.choose_lt (α:=List Value) (p:=fun i cs'=>W.cells? 0 (a.add (i * P.cellsOf e)) (P.cellsOf e)=some cs'∧DataW.trod enc P W 0 (fun _=>true) held n e cs'=some (D i,Pl i)) hx
  have hlen:∀ i,i < len→(vs i).length=k:=fun i hi=>by
    obtain ⟨_,h2,_⟩:=World.cells?_some (hvs i (by omega)).1
    rw [h2,hk]
  refine ⟨some a,len,m,vs,D,hcs,hl,hm,fun i hi=>⟨hlen i hi,n,Pl i,(hvs i (by omega)).2⟩,⟨flat_length _ _ _ hlen,?_⟩,.inr ⟨_,rfl⟩⟩
  rcases Nat.eq_zero_or_pos (len * k) with h0 | h0
  · exact .inl h0
  right
  have hl0:0 < len:=Nat.pos_of_mul_pos_right h0
  have cell:∀ j,j < len * k→W.cell? (a.add j)=((List.range len).flatMap vs)[j]?:=by
    intro j hj
    have hdl:j / k < len:=(Nat.div_lt_iff_lt_mul hk0).2 hj
    obtain ⟨_,_,hc⟩:=World.cells?_some (hvs (j / k) (by omega)).1
    have hmod:=Nat.mod_lt j hk0
    have:=hc (j % k) (by rw [hk]; exact hmod)
    rw [hk,Go.Deep.add_add,show j / k * k+j % k=j from by have:=Nat.div_add_mod j k; rw [Nat.mul_comm] at this; exact this] at this
    rw [this,flat_get vs k hk0 len hlen j hj]
  have h00:=cell 0 h0
  rw [Addr.add_zero'] at h00
  have hsome:∃ v,W.cell? a=some v:=by
    rw [h00,List.getElem?_eq_getElem (by rw [flat_length _ _ _ hlen]; exact h0)]; exact ⟨_,rfl⟩
  obtain ⟨v0,hv0⟩:=hsome
  obtain ⟨b,off,sp⟩:=a
  have hb':∃ cs T fr,W.heap[b]?=some (.cells cs T fr)∧sp=none:=by
    unfold World.cell? at hv0
    split at hv0
    · rename_i cs T fr hh
      refine ⟨cs,T,fr,hh,?_⟩
      cases sp with
      | none=>rfl
      | some s=>simp at hv0
    · cases hv0
  obtain ⟨cs,T,fr,hh,rfl⟩:=hb'
  refine ⟨b,off,cs.toList,T,fr,rfl,by simpa [base,row] using hh,?_⟩
  apply List.ext_getElem?
  intro i
  by_cases hi:i < len * k
  · have:=cell i hi
    rw [add_none] at this
    rw [show W.cell? ⟨b,off+i,none⟩=cs[off+i]? from by unfold World.cell?; simp [hh]] at this
    rw [List.getElem?_take,if_pos hi,List.getElem?_drop,Array.getElem?_toList,this]
  · rw [List.getElem?_eq_none (by simp; omega),List.getElem?_eq_none (by rw [flat_length _ _ _ hlen]; omega)]
end Go.Sl
namespace Go.Sl
open Go.RowKit
theorem CodeF.fixD {P:Program} {T:Tab} {n:Nat} {c:Code} {ρ:Env} {I:Imm} {S:St} {Q:Exit→Env→Imm→St→Prop} (k:Nat) {ch:List Blk} (hk:S[k]?=some ch)
    (h:∀ I',I.le I'→(∀ x ∈ ch,I' x.1=some x.2)→CodeF P T n c ρ I' (S.set k []) Q):CodeF P T n c ρ I S Q:=by
  refine ⟨fun hT hf=>⟨fun rd ds a w F R hr hw hl hR=>?_⟩⟩
  obtain ⟨h1,h2,h3⟩:=hw.fix1 hk
  exact ((h _ h1 h2).out hT hf).run rd ds a w F R hr h3 hl fun e a' w' ρ' J S' ds' r0 r1 r2 r3 r4 r5=>hR e a' w' ρ' J S' ds' r0 r1 (Imm.le_trans h1 r2) r3 r4 r5
theorem CodeF.dropD {P:Program} {T:Tab} {n:Nat} {c:Code} {ρ:Env} {I:Imm} {S S0:St} {Q:Exit→Env→Imm→St→Prop} (hd:Drop S S0) (h:CodeF P T n c ρ I S0 Q):CodeF P T n c ρ I S Q :=
  ⟨fun hT hf=>⟨fun rd ds a w F R hr hw hl hR=>(h.out hT hf).run rd ds a w F R hr (hd.has hw) hl hR⟩⟩
theorem SlC.cells {I:Imm} {S:St} {a:Option Addr} {n:Nat} {vs:List Value} (h:SlC I S a n vs) (hn:n≠0):∃ b off,a=some ⟨b,off,none⟩∧Cells I S b off n vs:=by
  rcases h.mem with h0 | h
  · exact absurd h0 hn
  · exact h
end Go.Sl
namespace Go.Sl
open Go.RowKit
def SeqJ (P:Program) (gf:FuncId) (lb:Array Value) (I:Imm) (Sit:St) {σ:Type} (s0:σ) (E:Imm→σ→List Value→σ→Prop) (fin:σ→Imm→St→Prop) (bs:Imm→St→Prop):Prop :=
  ∀ (l:Nat) (inv:σ→Imm→List Blk→Prop) (stp:Imm→List Blk→Prop) (J:Imm) (c:List Blk),I.le J→(∀ s J1 J2 c',J1.le J2→inv s J1 c'→inv s J2 c') →
    (∀ s xs s' J' c',J.le J'→E J' s xs s'→inv s J' c'→YieldT P l xs.toArray J' c' fun b J'' c''=>(b=true∧inv s' J'' c'')∨(b=false∧stp J'' c'')) →
    inv s0 J c→Tri P gf (#[.func (.yield l) #[] #[]]++lb) J (c :: Sit) fun _ J' S'=>∃ c' R,S'=c' :: R∧((∃ s,fin s J' R∧inv s J' c')∨(stp J' c'∧bs J' R))
theorem CodeF.rangeJ {P:Program} {T:Tab} {n:Nat} {g:Operand} {ps:Array Tmp} {assign body:Code} {ρ:Env} {I:Imm} {S:St} {Q:QT} {gf:FuncId} {lb:Array Value} (hg:ρ.ev g=.func (.func gf) #[] lb)
    (S1 Sit:St) (hS:Drop S (S1++Sit)) {σ:Type} {s0:σ} {E:Imm→σ→List Value→σ→Prop} {fin:σ→Imm→St→Prop} {bs:Imm→St→Prop} (hseq:SeqJ P gf lb I Sit s0 E fin bs) (hlen:∀ J s xs s',E J s xs s'→xs.length=ps.size) (G:σ→Imm→St→Prop) (mono:∀ s J1 J2 S',J1.le J2→G s J1 S'→G s J2 S') (X:Exit→Imm→St→Prop) (h0:G s0 I S1)
    (round:∀ s xs s' J S',I.le J→E J s xs s'→G s J S'→denC P T n assign (ρ.puts ps.toList xs) J S' (assignQ fun ρ1 J1 S2=>denC P T n body ρ1 J1 S2 (roundQ (G s') X)))
    (done:∀ i J S' R,I.le J→fin i J R→G i J S'→Q .normal ρ J (S'++R)) (stop:∀ e J S' R,I.le J→X e J S'→bs J R→Q e ρ J (S'++R)):CodeF P T n (.rangeFunc g ps assign body) ρ I S Q:=by
  refine ⟨fun hT hf=>⟨fun rd ds a w F R hr hw hl hR=>?_⟩⟩
  simp only [fitsC,Bool.and_eq_true] at hf
  obtain ⟨⟨hps,hfa⟩,hfb⟩:=hf
  have hp:∀ p ∈ ps.toList,p < n:=fun p hq=>by have:=List.all_eq_true.1 hps p hq; simpa [Nat.blt_eq] using this
  refine wpIn_rangeFunc ?_
  intro fn _
  obtain ⟨l,mark,w1,dfb,ds1,henter,hmark,hds,hb1,hx1⟩:∃ (l:Nat) (mark:List Deferred) (w1:World) (dfb:Nat) (ds1:List Nat),(Instr.enterLoop fn a.tmps ps assign body (wR rd).round).run P w=.ok (l,mark) w1∧mark++marks ds=marks ds1∧(rd≠none→ds1=ds) ∧
      Has w1 I ((l,.loop { state:=.ready,pending:=none,fn,tmps:=a.tmps,params:=ps,assign,body,defers:=dfb }) :: (S.flatten++(markB ds1++F)))∧Ext w w1:=by
    cases hrd:rd with
    | none =>
      refine ⟨_,_,_,w.heap.size,w.heap.size :: ds,run_enterLoop_outer _ _ _ _ _,rfl,fun h=>absurd rfl h,?_,(Ext.alloc w _).trans (Ext.alloc _ _)⟩
      have h1:=(hw.alloc (.deferred (some []))).alloc (.loop { state:=.ready,pending:=none,fn,tmps:=a.tmps,params:=ps,assign,body,defers:=w.heap.size })
      rw [World.size_alloc] at h1
      refine h1.perm (List.Perm.cons _ ?_)
      simp only [markB,List.map_cons,List.cons_append]
      exact List.perm_middle.symm
    | some l0 =>
      obtain ⟨r0,hr0⟩:=hl l0 hrd
      have hb0:w.heap[l0]?=some (.loop r0):=hw.mem (l0,.loop r0) (by simp [hr0])
      refine ⟨w.heap.size,[],w.alloc (.loop { state:=.ready,pending:=none,fn,tmps:=a.tmps,params:=ps,assign,body,defers:=r0.defers }),r0.defers,ds,?_,rfl,fun _=>rfl,hw.alloc _,Ext.alloc w _⟩
      show (Instr.enterLoop fn a.tmps ps assign body (some l0)).run P w=_
      unfold Instr.enterLoop
      simp only [Sem.run_bind,run_getLoop hb0,run_newObj_alloc,Result.andThen,Sem.run_pure]
  obtain ⟨rec,hrec⟩:∃ rec:LoopState→Option Code→Loop,rec=fun st pe=>{ state:=st,pending:=pe,fn,tmps:=a.tmps,params:=ps,assign,body,defers:=dfb }:=⟨_,rfl⟩
  have hb1:Has w1 I ((l,.loop (rec .ready none)) :: (S.flatten++(markB ds1++F))):=by rw [hrec]; exact hb1
  have fP:∀ st pe,(rec st pe).params=ps:=by subst hrec; intros; rfl
  have fT:∀ st pe,(rec st pe).tmps=a.tmps:=by subst hrec; intros; rfl
  have fF:∀ st pe,(rec st pe).fn=fn:=by subst hrec; intros; rfl
  have fA:∀ st pe,(rec st pe).assign=assign:=by subst hrec; intros; rfl
  have fB:∀ st pe,(rec st pe).body=body:=by subst hrec; intros; rfl
  have fS:∀ st pe,(rec st pe).state=st:=by subst hrec; intros; rfl
  have fE:∀ st pe,(rec st pe).pending=pe:=by subst hrec; intros; rfl
  have fU:∀ st pe st',({ rec st pe with state:=st' }:Loop)=rec st' pe:=by subst hrec; intros; rfl
  have fV:∀ st pe st' pe',({ rec st pe with state:=st',pending:=pe' }:Loop)=rec st' pe':=by subst hrec; intros; rfl
  clear hrec
  have hag:a.eval g=.func (.func gf) #[] lb:=by rw [hr.eval]; exact hg
  let inv:σ→Imm→List Blk→Prop:=fun i J c=>∃ S',c=S'.flatten++[(l,.loop (rec .ready none))]∧G i J S'
  let stp:Imm→List Blk→Prop:=fun J c=>∃ S' e cd,c=S'.flatten++[(l,.loop (rec .done (some cd)))]∧jumpC e=some cd∧X e J S'
  have hseq':=hseq l inv stp I (S1.flatten++[(l,.loop (rec .ready none))]) I.le_refl (fun s J1 J2 c' hJ ⟨S',he,hg⟩=>⟨S',he,mono s J1 J2 S' hJ hg⟩) ?yield ⟨S1,rfl,h0⟩
  case yield =>
    rintro i xs i' J c hJ hE ⟨S',rfl,hG⟩
    have hxl:=hlen J i xs i' hE
    refine ⟨fun w F0 hw=>?_⟩
    have hw:Has w J (S'.flatten++(l,.loop (rec .ready none)) :: F0):=by simpa using hw
    have hlb:w.heap[l]?=some (.loop (rec .ready none)):=hw.mem (l,_) (by simp)
    rw [run_yield hlb (by rw [fP]; simp [hxl])]
    rw [fP,fT,fF,fA,fB]
    have htm:((ps.zip xs.toArray).foldl (fun (tmps:Array Value) (y:Tmp × Value)=>match y with | (t,a)=>tmps.setIfInBounds t a) a.tmps)=(ps.toList.zip xs).foldl (fun (tmps:Array Value) (y:Nat × Value)=>match y with | (t,a)=>tmps.setIfInBounds t a) a.tmps:=by
      rw [← Array.foldl_toList,Array.toList_zip]
    rw [htm]
    show RoundIn Fence.wide 0 P l fn _ assign body w _
    refine roundIn_of_wpIn (F:=Fence.wide) trivial ?_
    have hden:=round i xs i' J S' hJ hE hG
    have hA:=denC_ok hT assign (ρ.puts ps.toList xs) J S' _ hfa hden
    have hrel:=rel_puts ps.toList xs a.tmps ρ ⟨rfl,hr.size,hr.get⟩ hp
    refine hA.run (some l) [] _ w ((l,.loop (rec .ready none)) :: F0) _ hrel (by simpa [markB] using hw) (fun l' hl'=>by cases hl'; exact ⟨_,List.mem_cons_self⟩) ?_
    intro e a1 w2 ρ1 J1 S2 ds2 r0 r1 r2 r3 r4 r5
    obtain rfl:=r0 (by simp)
    cases e with
    | normal =>
      have r3:denC P T n body ρ1 J1 S2 (roundQ (G i') X):=r3
      have r4:Has w2 J1 (S2.flatten++(l,.loop (rec .ready none)) :: F0):=by simpa [markB] using r4
      have hlb2:w2.heap[l]?=some (.loop (rec .ready none)):=r4.mem (l,_) (by simp)
      refine ⟨_,run_beginRound hlb2 (fS _ _),?_⟩
      rw [fU]
      have r6:=r4.putAt (.loop (rec .busy none))
      have hB:=denC_ok hT body ρ1 J1 S2 _ hfb r3
      refine hB.run (some l) [] _ _ ((l,.loop (rec .busy none)) :: F0) _ r1 (by simpa [markB] using r6) (fun l' hl'=>by cases hl'; exact ⟨_,List.mem_cons_self⟩) ?_
      intro e a2 w3 ρ2 J2 S3 ds3 q0 q1 q2 q3 q4 q5
      obtain rfl:=q0 (by simp)
      have hext:Ext w w3:=r5.trans ((Ext.putObj _ _ _).trans q5)
      have hle:J.le J2:=Imm.le_trans r2 q2
      have fin':∀ (jump:Option Code) (S0:St),Drop S3 S0→∃ v w',(Instr.endRound l jump).run P w3=.ok v w'∧v=.bool jump.isNone∧Has w' J2 ((S0.flatten++[(l,.loop (rec (if jump.isNone then .ready else .done) jump))])++F0)∧Ext w w':=by
        intro jump S0 hd
        have q4:Has w3 J2 (S3.flatten++((l,.loop (rec .busy none)) :: F0)):=by simpa [markB] using q4
        have q6:=hd.has q4
        have hlb3:w3.heap[l]?=some (.loop (rec .busy none)):=q6.mem (l,_) (by simp)
        have hrun:=run_endRound (P:=P) jump hlb3
        rw [fV] at hrun
        refine ⟨_,_,hrun,rfl,?_,hext.trans (Ext.putObj _ _ _)⟩
        have:=q6.putAt (.loop (rec (if jump.isNone then .ready else .done) jump))
        simpa using this
      cases e with
      | normal =>
        obtain ⟨S0,hd,hg⟩:=q3
        obtain ⟨v,w',hrun,rfl,hh,hx⟩:=fin' none S0 hd
        exact ⟨_,w',hrun,_,rfl,true,J2,_,rfl,hle,.inl ⟨rfl,S0,rfl,hg⟩,hh,hx⟩
      | ret =>
        obtain ⟨S0,hd,hg⟩:=q3
        obtain ⟨v,w',hrun,rfl,hh,hx⟩:=fin' (some .ret) S0 hd
        exact ⟨_,w',hrun,_,rfl,false,J2,_,rfl,hle,.inr ⟨rfl,S0,.ret,_,rfl,rfl,hg⟩,hh,hx⟩
      | exit id =>
        obtain ⟨S0,hd,hg⟩:=q3
        obtain ⟨v,w',hrun,rfl,hh,hx⟩:=fin' (some (.exit id)) S0 hd
        exact ⟨_,w',hrun,_,rfl,false,J2,_,rfl,hle,.inr ⟨rfl,S0,.exit id,_,rfl,rfl,hg⟩,hh,hx⟩
      | goto t =>
        obtain ⟨S0,hd,hg⟩:=q3
        obtain ⟨v,w',hrun,rfl,hh,hx⟩:=fin' (some (.goto t)) S0 hd
        exact ⟨_,w',hrun,_,rfl,false,J2,_,rfl,hle,.inr ⟨rfl,S0,.goto t,_,rfl,rfl,hg⟩,hh,hx⟩
      | panic c=>exact q3.elim
      | outgrown=>exact q3.elim
    | ret=>exact r3.elim
    | exit id=>exact r3.elim
    | goto t=>exact r3.elim
    | panic c=>exact r3.elim
    | outgrown=>exact r3.elim
  have hw1:Has w1 I ((((S1.flatten++[(l,.loop (rec .ready none))]) :: Sit).flatten)++(markB ds1++F)):=by
    obtain ⟨R0,hp0⟩:=hS
    refine (hb1.perm (L':=R0++((((S1.flatten++[(l,.loop (rec .ready none))]) :: Sit).flatten)++(markB ds1++F))) ?_).sub (List.sublist_append_right _ _)
    classical
    refine List.perm_iff_count.2 fun x=>?_
    have:=List.perm_iff_count.1 hp0 x
    simp only [List.flatten_append,List.count_append,List.count_cons,List.flatten_cons,List.count_nil] at this ⊢
    omega
  refine ⟨l,mark,w1,{ target:=.fn (.func gf) lb,args:=#[.func (.yield l) #[] #[]] },w1,gf,#[.func (.yield l) #[] #[]]++lb,w1,henter,?_,fun _ _=>trivial,?_,(by intro h; cases h),?_⟩
  · simp only [resolve,hag]
    simp [go_sem]
  · exact hseq'.ent w1 _ hw1
  · refine callsIn_wR ?_
    refine (hseq'.run w1 _ hw1).mono ?_
    rintro e w2 ⟨v,J,S',rfl,hle,⟨c',R',rfl,hc⟩,hh,hx⟩
    have hh:Has w2 J (c'++(R'.flatten++(markB ds1++F))):=by simpa using hh
    have hrel:Rel n (marks ds1) { a with defers:=mark++a.defers } ρ:=⟨by rw [← hmark,← hr.defers],hr.size,hr.get⟩
    rcases hc with ⟨i,hfin,S',rfl,hG⟩ | ⟨⟨S',e,cd,rfl,hj,hX⟩,hbs⟩
    · have hh:Has w2 J (S'.flatten++(l,.loop (rec .ready none)) :: (R'.flatten++(markB ds1++F))):=by simpa using hh
      have hlb:w2.heap[l]?=some (.loop (rec .ready none)):=hh.mem (l,_) (by simp)
      have hend:=run_endLoop (P:=P) hlb (by rw [fS]; simp)
      rw [fU,fE] at hend
      refine ⟨none,_,hend,?_⟩
      have h3:=hh.putAt (.loop (rec .exhausted none))
      exact hR .normal _ _ ρ J (S'++R') ds1 hds hrel hle (done i J S' R' hle hfin hG) (by rw [List.flatten_append,List.append_assoc]; exact h3.sub (List.Sublist.append_left (List.sublist_cons_self _ _) _)) (hx1.trans (hx.trans (Ext.putObj _ _ _)))
    · have hh:Has w2 J (S'.flatten++(l,.loop (rec .done (some cd))) :: (R'.flatten++(markB ds1++F))):=by simpa using hh
      have hlb:w2.heap[l]?=some (.loop (rec .done (some cd))):=hh.mem (l,_) (by simp)
      have hend:=run_endLoop (P:=P) hlb (by rw [fS]; simp)
      rw [fU,fE] at hend
      refine ⟨some cd,_,hend,?_⟩
      have h3:=hh.putAt (.loop (rec .exhausted (some cd)))
      have fin':R e { a with defers:=mark++a.defers } _:=hR e _ _ ρ J (S'++R') ds1 hds hrel hle (stop e J S' R' hle hX hbs) (by rw [List.flatten_append,List.append_assoc]; exact h3.sub (List.Sublist.append_left (List.sublist_cons_self _ _) _)) (hx1.trans (hx.trans (Ext.putObj _ _ _)))
      cases e with
      | ret=>cases hj; exact wpIn_ret fin'
      | exit id=>cases hj; exact wpIn_exit fin'
      | goto t=>cases hj; exact wpIn_goto fin'
      | normal=>cases hj
      | panic c=>cases hj
      | outgrown=>cases hj
end Go.Sl
namespace Go.Sl
open Go.RowKit
section
variable {P:Program} {T:Tab} {o:Oper} {ρ:Env} {I:Imm} {S:St} {K:Value→Imm→St→Prop}
end
end Go.Sl
namespace Go.Sl
open Go.RowKit
section
variable {P:Program} {T:Tab} {n:Nat} {ρ:Env} {I:Imm} {S:St} {Q:Exit→Env→Imm→St→Prop}
theorem CodeF.den {c:Code} (h:denC P T n c ρ I S Q):CodeF P T n c ρ I S Q:=⟨fun hT hf=>denC_ok hT c ρ I S Q hf h⟩
theorem CodeF.mono {c:Code} {Q':Exit→Env→Imm→St→Prop} (h:CodeF P T n c ρ I S Q) (hq:∀ e ρ' J S',I.le J→Q e ρ' J S'→Q' e ρ' J S'):CodeF P T n c ρ I S Q' :=
  ⟨fun hT hf=>(h.out hT hf).mono hq⟩
theorem CodeF.seqF {x y:Code} (h:CodeF P T n x ρ I S (seqQ Q fun ρ I S=>CodeF P T n y ρ I S Q)):CodeF P T n (.seq x y) ρ I S Q:=by
  refine ⟨fun hT hf=>⟨fun rd ds a w F R hr hw hl hR=>wpIn_seq ?_⟩⟩
  simp only [fitsC,Bool.and_eq_true] at hf
  refine (h.out hT hf.1).run rd ds a w F _ hr hw hl ?_
  intro e a' w' ρ' J S' ds' r0 r1 r2 r3 r4 r5
  cases e with
  | normal =>
    have hy:=CodeF.out r3 hT hf.2
    exact hy.run rd ds' a' w' F R r1 r4 hl fun e a'' w'' ρ'' J' S'' ds'' s0 s1 s2 s3 s4 s5=>hR e a'' w'' ρ'' J' S'' ds'' (fun h=>(s0 h).trans (r0 h)) s1 (Imm.le_trans r2 s2) s3 s4 (r5.trans s5)
  | exit i=>exact hR _ _ _ _ _ _ ds' r0 r1 r2 r3 r4 r5
  | goto l=>exact hR _ _ _ _ _ _ ds' r0 r1 r2 r3 r4 r5
  | ret=>exact hR _ _ _ _ _ _ ds' r0 r1 r2 r3 r4 r5
  | panic c=>exact hR _ _ _ _ _ _ ds' r0 r1 r2 r3 r4 r5
  | outgrown=>exact hR _ _ _ _ _ _ ds' r0 r1 r2 r3 r4 r5
theorem CodeF.stepD {x y:Code} (h:denC P T n x ρ I S (seqQ Q fun ρ I S=>CodeF P T n y ρ I S Q)):CodeF P T n (.seq x y) ρ I S Q:=.seqF (.den h)
theorem CodeF.blockF {id:Nat} {b:Code} {z:_} (h:CodeF P T n b ρ I S (blockQ id Q)) (hz:z=Code.block id b):CodeF P T n z ρ I S Q:=by
  subst hz
  refine ⟨fun hT hf=>⟨fun rd ds a w F R hr hw hl hR=>wpIn_block ?_⟩⟩
  refine (h.out hT hf).run rd ds a w F _ hr hw hl ?_
  intro e a' w' ρ' J S' ds' r0 r1 r2 r3 r4 r5
  cases e with
  | exit i =>
    simp only [blockQ] at r3
    simp only [Exit.inBlock]
    by_cases hi:i=id
    · subst hi
      rw [if_pos rfl]
      rw [show Nat.beq i i=true from Nat.beq_refl i] at r3
      exact hR _ _ _ _ _ _ ds' r0 r1 r2 r3 r4 r5
    · rw [if_neg hi]
      have:Nat.beq i id=false:=by
        cases hb:Nat.beq i id with
        | false=>rfl
        | true=>exact absurd (Nat.eq_of_beq_eq_true hb) hi
      rw [this] at r3
      exact hR _ _ _ _ _ _ ds' r0 r1 r2 r3 r4 r5
  | normal=>exact hR _ _ _ _ _ _ ds' r0 r1 r2 r3 r4 r5
  | goto l=>exact hR _ _ _ _ _ _ ds' r0 r1 r2 r3 r4 r5
  | ret=>exact hR _ _ _ _ _ _ ds' r0 r1 r2 r3 r4 r5
  | panic c=>exact hR _ _ _ _ _ _ ds' r0 r1 r2 r3 r4 r5
  | outgrown=>exact hR _ _ _ _ _ _ ds' r0 r1 r2 r3 r4 r5
theorem CodeF.join {x y:Code} (sl:List Nat) (G:List Value→Imm→St→Prop) (h1:CodeF P T n x ρ I S (seqQ Q fun ρ I S=>∃ S0,Drop S S0∧G (sl.map ρ) I S0))
    (h2:∀ vs g J S',I.le J→G vs J S'→CodeF P T n y (Env.of (sl.zip vs) g) J S' Q):CodeF P T n (.seq x y) ρ I S Q:=by
  refine .seqF (h1.mono ?_)
  intro e ρ' J S' hJ h
  cases e with
  | normal =>
    obtain ⟨S0,hd,hg⟩:=h
    have:=h2 (sl.map ρ') ρ' J S0 hJ hg
    rw [zip_map_self,Env.of_self] at this
    exact CodeF.dropD hd this
  | exit i=>exact h
  | goto l=>exact h
  | ret=>exact h
  | panic c=>exact h
  | outgrown=>exact h
end
theorem CodeF.loopF {P:Program} {T:Tab} {n:Nat} {c:Code} {ρ:Env} {I:Imm} {S:St} {Q:Exit→Env→Imm→St→Prop}
    (sl:List Nat) (G:List Value→Imm→St→Prop) (μ:List Value→Imm→St→Nat) (h0:∃ S0,Drop S S0∧G (sl.map ρ) I S0)
    (round:∀ vs g J S',I.le J→G vs J S'→CodeF P T n c (Env.of (sl.zip vs) g) J S' (fun e ρ' J' S''=>match e with
      | .normal=>∃ S0,Drop S'' S0∧G (sl.map ρ') J' S0∧μ (sl.map ρ') J' S0 < μ vs J S'
      | e=>Q e ρ' J' S'')):CodeF P T n (.loop c) ρ I S Q:=by
  refine ⟨fun hT hf=>⟨fun rd ds a w F R hr hw hl hR=>?_⟩⟩
  have hround:∀ m,∀ (ρ:Env) (J:Imm) (S':St) (ds':List Nat) (a:Act) (w':World),μ (sl.map ρ) J S'=m→G (sl.map ρ) J S'→I.le J→(rd≠none→ds'=ds)→Rel n (marks ds') a ρ→Has w' J (S'.flatten++(markB ds'++F))→Ext w w' →
      ∀ (b:Frame) (k:List Item) (cs:List Frame),b.roundOf=(wR rd).round→(wR rd).fn b.fn→(wR rd).room (cs.length+1+0)→∃ e a₁ w₁,R e a₁ w₁∧ArrivesIn (Machine.fenced P (wR rd)) P (lone (b.atR a (.code c :: .inLoop c :: k)) cs w') b k cs e a₁ w₁:=by
    intro m
    induction m using Nat.strongRecOn with
    | _ m ih =>
      intro ρ J S' ds' a w' hm hG hle hds hr hw hx b k cs hro hb hroom
      have hd:=round (sl.map ρ) ρ J S' hle hG
      rw [zip_map_self,Env.of_self] at hd
      have hc:=CodeF.out hd hT hf
      have hwp:=hc.run rd ds' a w' F (fun e a' w''=>match e with
        | .normal=>∃ ρ' J' S'' ds'',(rd≠none→ds''=ds)∧Rel n (marks ds'') a' ρ'∧I.le J'∧G (sl.map ρ') J' S''∧μ (sl.map ρ') J' S'' < m∧Has w'' J' (S''.flatten++(markB ds''++F))∧Ext w w''
        | e=>R e a' w'') hr hw hl (by
          intro e a' w'' ρ' J' S'' ds'' r0 r1 r2 r3 r4 r5
          have r0:rd≠none→ds''=ds:=fun h=>(r0 h).trans (hds h)
          cases e with
          | normal =>
            obtain ⟨S0,hd0,hg0,hm0⟩:=r3
            exact ⟨ρ',J',S0,ds'',r0,r1,Imm.le_trans hle r2,hg0,hm ▸ hm0,hd0.has r4,hx.trans r5⟩
          | exit i=>exact hR _ _ _ _ _ _ ds'' r0 r1 (Imm.le_trans hle r2) r3 r4 (hx.trans r5)
          | goto l=>exact hR _ _ _ _ _ _ ds'' r0 r1 (Imm.le_trans hle r2) r3 r4 (hx.trans r5)
          | ret=>exact hR _ _ _ _ _ _ ds'' r0 r1 (Imm.le_trans hle r2) r3 r4 (hx.trans r5)
          | panic c=>exact hR _ _ _ _ _ _ ds'' r0 r1 (Imm.le_trans hle r2) r3 r4 (hx.trans r5)
          | outgrown=>exact hR _ _ _ _ _ _ ds'' r0 r1 (Imm.le_trans hle r2) r3 r4 (hx.trans r5))
      obtain ⟨e,a₁,w₁,hq,harr⟩:=hwp b (.inLoop c :: k) cs hro hb hroom
      cases e with
      | normal =>
        obtain ⟨ρ',J',S'',ds'',r0,r1,r2,r3,r4,r5,r6⟩:=hq
        obtain ⟨e₂,a₂,w₂,hq₂,harr₂⟩:=ih _ r4 ρ' J' S'' ds'' a₁ w₁ rfl r3 r2 r0 r1 r5 r6 b k cs hro hb hroom
        exact ⟨e₂,a₂,w₂,hq₂,.of_steps (StepsIn.trans harr (.one (fenced_calm hb hroom rfl) stepR_inLoop)) harr₂⟩
      | exit id=>exact ⟨_,a₁,w₁,hq,.pass (x:=.inLoop c) rfl (fun _ _=>.inl (by simp)) harr⟩
      | goto l=>exact ⟨_,a₁,w₁,hq,.pass (x:=.inLoop c) rfl (fun _ _=>.inl (by simp)) harr⟩
      | ret=>exact ⟨_,a₁,w₁,hq,.pass (x:=.inLoop c) rfl (fun _ _=>.inl (by simp)) harr⟩
      | panic ch=>exact ⟨_,a₁,w₁,hq,.pass (x:=.inLoop c) rfl (fun _ _=>.inl (by simp)) harr⟩
      | outgrown=>exact ⟨_,a₁,w₁,hq,.pass (x:=.inLoop c) rfl (fun _ _=>.inl (by simp)) harr⟩
  intro b k cs hro hb hroom
  obtain ⟨S0,hd0,h0⟩:=h0
  obtain ⟨e,a',w',hq,harr⟩:=hround _ ρ I S0 ds a w rfl h0 I.le_refl (fun _=>rfl) hr (hd0.has hw) (Ext.refl w) b k cs hro hb hroom
  exact ⟨e,a',w',hq,.of_steps (.one (fenced_calm hb hroom rfl) stepR_loop) harr⟩
theorem Tri.ofF {P:Program} {T:Tab} {f:FuncId} {fn:Func} {c:Code} {args:List Value} {I:Imm} {S:St} {Q:Value→Imm→St→Prop} (hT:TabOk P T)
    (hf : P.funcs[f]? = some fn) (hb : fn.body = some c) (hn : (fn.name == "runtime.NumGoroutine") = false) (hfit : (fitsC fn.ntmps c && Nat.ble args.length fn.ntmps) = true)
    (h:CodeF P T fn.ntmps c (Env.init args) I S (retQ T fn.results.toList Q)):Tri P f args.toArray I S Q:=by
  simp only [Bool.and_eq_true] at hfit
  obtain ⟨hfit,hsz⟩:=hfit
  have hsz:=Nat.le_of_ble_eq_true hsz
  refine ⟨fun w _ _=>?_,fun w F hw=>?_⟩
  · have hn' : ¬ fn.name = "runtime.NumGoroutine" := by simpa using hn
    simp [callFunc,hf,hb,hn']
  · refine (callsIn_wide (n:=0)).1 (callsIn_of_wp_marks (F:=Fence.wide) hf hb trivial ?_)
    have hr:Rel fn.ntmps (marks []) { tmps:=args.toArray++Array.replicate (fn.ntmps - args.toArray.size) undef,defers:=[] } (Env.init args):=by
      refine ⟨rfl,by simp; omega,?_⟩
      intro t
      unfold Env.init
      rw [Array.getD_eq_getD_getElem?,Array.getElem?_append]
      simp only [List.size_toArray]
      split
      · rename_i hlt
        simp [List.getElem?_eq_getElem hlt]
      · rename_i hge
        rw [List.getElem?_eq_none (by omega)]
        simp only [Array.getElem?_replicate]
        split <;> rfl
    refine (CodeF.out h hT hfit).run none [] _ w F _ hr (by simpa [markB] using hw) (fun _ h=>by cases h) ?_
    intro e a' w' ρ' J S' ds' _ r1 r2 r3 r4 r5
    have fin:(resL T fn.results.toList ρ' J S' fun vs=>Done (Q (resV vs) J S'))→LeavesInM Fence.wide 0 P fn a'.tmps (fun e w'=>∃ v J S',e=.returned v∧I.le J∧Q v J S'∧Has w' J (S'.flatten++F)∧Ext w w') a'.defers .returning w':=by
      intro hres
      rw [r1.defers]
      have key:∀ (ds:List Nat) (w1:World),Has w1 J (S'.flatten++(markB ds++F))→Ext w w1→LeavesInM Fence.wide 0 P fn a'.tmps (fun e w'=>∃ v J S',e=.returned v∧I.le J∧Q v J S'∧Has w' J (S'.flatten++F)∧Ext w w') (marks ds) .returning w1:=by
        intro ds
        induction ds with
        | nil =>
          intro w1 hw1 hx1
          obtain ⟨vs,hv,⟨hk⟩⟩:=run_resL hT r1 (by simpa [markB] using hw1) _ _ hres
          exact ⟨_,run_results hv,_,J,S',rfl,r2,hk,by simpa [markB] using hw1,hx1⟩
        | cons d ds ih =>
          intro w1 hw1 hx1
          have hb:w1.heap[d]?=some (.deferred (some [])):=hw1.mem (d,.deferred (some [])) (by simp [markB])
          refine ⟨by simp,.inl ⟨d,w1.putObj d (.deferred none),rfl,?_,?_⟩⟩
          · exact run_takeDeferred hb
          · refine ih _ ?_ (hx1.trans ⟨rfl,rfl,rfl,by simp⟩)
            have hw2:Has w1 J ((S'.flatten)++(d,Obj.deferred (some [])) :: (markB ds++F)):=by simpa [markB] using hw1
            have:=hw2.turn (w':=w1.putObj d (.deferred none)) (o':=.deferred none) (World.putObj_heap_same (lt_of_some hb)) (fun k hk=>World.putObj_heap_other hk)
            refine this.sub ?_
            exact List.Sublist.append_left (List.sublist_cons_self _ _) _
      exact key ds' w' r4 r5
    cases e with
    | normal=>exact fin r3
    | ret=>exact fin r3
    | exit i=>exact r3.elim
    | goto l=>exact r3.elim
    | panic c=>exact r3.elim
    | outgrown=>exact r3.elim
end Go.Sl
namespace Go.Sl
open Go.RowKit
section
variable {P:Program} {T:Tab} {o:Oper} {ρ:Env} {I:Imm} {S:St} {K:Value→Imm→St→Prop}
theorem clearMapD (hT:TabOk P T) {c:Call} {x:Operand} {t kt et:TypeId} {s1 b1:Nat} {z1:Value} (ho:o.op=.call c) (hc:c.callee=.builtin .clear) (hargs:c.args=#[x]) (hts:c.argTypes=#[t]) (ht:T.get t=some ⟨.map kt et,s1,z1,b1⟩)
    {r:Nat} (hm:ρ.ev x=.map (some r)) (k:Nat) {ob:Obj} (hk:S[k]?=some [(r,ob)]) {l:List (Int × Value)} (hM:MapR ob l)
    (h:∀ ob',MapR ob' []→K (.tuple #[]) I (S.set k [(r,ob')])):AnyD P o ρ I S K:=by
  obtain ⟨es,clk,rfl,hE⟩:=hM
  have hu:P.underlying t=some (.map kt et):=by obtain ⟨_,_,hu,_⟩:=rowOf_info (hT _ _ ht); exact hu
  refine .mk ⟨fun w F hw=>?_⟩
  have hb:w.heap[r]?=some (.map es clk):=by
    refine In.heap (S:=S) (I:=I) (.own k ?_) hw
    rw [List.getD_eq_getElem?_getD,hk]; simp
  have hr:(Builtin.clear_ #[t] o.type #[.map (some r)]).run P w=.ok (.tuple #[]) { w with heap:=w.heap.setIfInBounds r (.map #[] clk) }:=by
    simp [Builtin.clear_,run_underlying hu,MapKept.run_getObj_map hb,MapKept.run_setObj_map _ hb]
  have hexec:(execOp ρ.ev o).run P w=.ok (.value (.tuple #[])) { w with heap:=w.heap.setIfInBounds r (.map #[] clk) }:=by
    simp [execOp,ho,resolve,hc,hargs,hts,hm,invoke,builtin,hr]
  rw [hexec]
  obtain ⟨h1,h2⟩:=MapKept.heap_set (o':=.map #[] clk) hb
  exact ⟨I,_,I.le_refl,h (.map #[] clk) ⟨#[],clk,rfl,⟨rfl,by simp,by simp,by simp⟩⟩,Has.turnAt (A:=[]) (B:=[]) hw hk h1 h2,⟨rfl,rfl,rfl,by simp⟩⟩
theorem makeH (hT:TabOk P T) {x y:Operand} {t e:TypeId} {s1 b1 size bytes:Nat} {z1 z:Value} {d:TypeDesc} (ho:o.op=.makeSlice t x y) (ht:T.get t=some ⟨.slice e,s1,z1,b1⟩) (he:T.get e=some ⟨d,size,z,bytes⟩)
    {k1 k2:IntKind} (l c:Nat) (hx:ρ.ev x=.int k1 (l:Int)) (hy:ρ.ev y=.int k2 (c:Int)) (hlc:l≤c) (hb:bytes * c≤281474976710656) (h63:c≤9223372036854775807) (hsm:c * size≤16777216) (hz:z.cells.size=size) (hs:0 < size)
    (h:∀ (b:Nat) (NB:List Blk),NB=[(b,row (rows c z.cells.toList) e)]→K (.slice (some ⟨b,0,none⟩) l c) I (S++[NB])):AnyD P o ρ I S K :=
  makeD hT ho ht he l c hx hy hlc hb h63 hsm hz hs fun b=>h b _ rfl
end
end Go.Sl
namespace Go.Sl
open Go.RowKit
section
variable {P:Program} {T:Tab} {o:Oper} {ρ:Env} {I:Imm} {S:St} {K:Value→Imm→St→Prop}
theorem indexStrD (hT:TabOk P T) {t:TypeId} {x ix:Operand} {s1 b1:Nat} {z1:Value} (ho:o.op=.index t x ix) (ht:T.get t=some ⟨.string,s1,z1,b1⟩) {s:ByteArray} (hx:ρ.ev x=.string s) {k:IntKind} {i:Nat} (hix:ρ.ev ix=.int k (i:Int)) (hi:i < s.size)
    (h:∀ b:UInt8,s[i]?=some b→K (.int .u8 b.toNat) I S):AnyD P o ρ I S K:=by
  have hb:s[i]?=some s[i]:=getElem?_pos s i hi
  refine .mk (OpS.value _ (fun w F hw=>?_) (h _ hb))
  have hu:P.underlying t=some .string:=by obtain ⟨_,_,hu,_⟩:=rowOf_info (hT _ _ ht); exact hu
  simp [execOp,ho,hx,hix,Instr.index,asIntOf,run_underlying hu,hb]
end
end Go.Sl
namespace Go.Sl
open Go.RowKit
theorem Tri.fixedN {P:Program} {f:FuncId} {args:Array Value} {I:Imm} {S:St} {Q:Value→Imm→St→Prop} {K:Value→Imm→St→Prop} (h:Tri P f args I S Q)
    (hK:∀ v J S',I.le J→Q v J S'→∃ k ch,S'[k]?=some ch∧∀ J',J.le J'→(∀ x ∈ ch,J' x.1=some x.2∧I x.1=none)→K v J' (S'.set k [])):Tri P f args I S K:=by
  refine ⟨h.ent,fun w F hw=>(h.run w F hw).mono ?_⟩
  rintro e w' ⟨v,J,S',he,hl,q,hh,hx⟩
  obtain ⟨k,ch,hk,hK⟩:=hK v J S' hl q
  obtain ⟨h1,h2,h3⟩:=hh.fix1 hk
  refine ⟨v,_,_,he,Imm.le_trans hl h1,hK _ h1 (fun x hx=>⟨h2 x hx,?_⟩),h3,hx⟩
  have hm:x ∈ S'.flatten++_:=List.mem_append_left F (List.mem_flatten.2 ⟨ch,List.mem_of_getElem? hk,hx⟩)
  have hd:=hh.disj x hm
  cases hi:I x.1 with
  | none=>rfl
  | some o=>rw [hl _ _ hi] at hd; cases hd
end Go.Sl

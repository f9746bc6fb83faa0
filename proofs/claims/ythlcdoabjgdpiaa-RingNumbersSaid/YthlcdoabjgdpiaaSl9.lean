/- The own logic, ninth part: arguments opened. -/
import Derived.Test.YthlcdoabjgdpiaaSl8
namespace Go.Sl
open Go.RowKit Go.ChangeShapes Go.WideShapes Go.ChangeAt
def In64 (n : Int) : Prop := -9223372036854775808 ≤ n ∧ n ≤ 9223372036854775807
theorem int_of_wf {n : Int} (h : (Lit.int .i64 n).wf = true) : In64 n := by
  simp [Lit.wf, IntKind.min, IntKind.max, IntKind.signed, IntKind.bits] at h
  unfold In64; omega
/-- n cells behind an address read so, in what is fixed -/
structure Rds (I : Imm) (a : Option Addr) (n : Nat) (vs : List Value) : Prop where
  len : vs.length = n
  mem : n = 0 ∨ ∃ b off c T fr, a = some ⟨b, off, none⟩ ∧ I b = some (row c T fr) ∧ (c.drop off).take n = vs
theorem Rds.mono {I J : Imm} {a : Option Addr} {n : Nat} {vs : List Value} (h : Rds I a n vs) (hJ : I.le J) : Rds J a n vs :=
  ⟨h.len, h.mem.imp id fun ⟨b, off, c, T, fr, h1, h2, h3⟩ => ⟨b, off, c, T, fr, h1, hJ _ _ h2, h3⟩⟩
theorem open_sl_ints {H : Type} {enc : TypeId × Value → H} {P : Program} {t e : TypeId} {k : IntKind} (ht : P.underlying t = some (.slice e)) (he : P.underlying e = some (.int k)) (hc : P.cellsOf e = 1)
    {W : World} {a : Option Addr} {len cap : Nat} {d : DataW H} {p : List MemPlace} (h : DataW.Trod enc P W 0 (fun _ => true) true t (.slice a len cap) d p) :
    ∃ zs : List Int, zs.length = len ∧ Rds (base W) a len (zs.map (Value.int k)) ∧ ∀ z ∈ zs, (Lit.int k z).wf = true := by
  obtain ⟨fuel, hf⟩ := h
  rcases open_ints ht he hc hf with ⟨hcs, _⟩ | ⟨x, l, c, zs, hcs, _, hl, hm, hz, _, hcell, hwz⟩
  · simp [Value.cells] at hcs
    obtain ⟨rfl, rfl, rfl⟩ := hcs
    exact ⟨[], rfl, ⟨rfl, .inl rfl⟩, by simp⟩
  · simp [Value.cells] at hcs
    obtain ⟨rfl, rfl, rfl⟩ := hcs
    have hzl : zs.length = cap := by simpa using hz
    refine ⟨zs.take len, by simp; omega, ⟨by simp; omega, ?_⟩, fun z hz => hwz z (List.mem_of_mem_take hz)⟩
    rcases Nat.eq_zero_or_pos len with h0 | h0
    · exact .inl h0
    right
    have h00 := hcell 0 (by omega)
    rw [Addr.add_zero'] at h00
    obtain ⟨b, off, sp⟩ := x
    have hb : ∃ cs T fr, W.heap[b]? = some (.cells cs T fr) ∧ sp = none := by
      unfold World.cell? at h00
      split at h00
      · rename_i cs T fr hh
        refine ⟨cs, T, fr, hh, ?_⟩
        cases sp with
        | none => rfl
        | some s => simp at h00
      · cases h00
    obtain ⟨cs, T, fr, hh, rfl⟩ := hb
    refine ⟨b, off, cs.toList, T, fr, rfl, by simpa [base, row] using hh, ?_⟩
    apply List.ext_getElem?
    intro i
    by_cases hi : i < len
    · have := hcell i (by omega)
      rw [add_none] at this
      rw [show W.cell? ⟨b, off + i, none⟩ = cs[off + i]? from by unfold World.cell?; simp [hh]] at this
      rw [List.getElem?_take, if_pos hi, List.getElem?_drop]
      simp only [Array.getElem?_toList, this, List.getElem?_map, List.getElem?_take, if_pos hi]
      simp [List.getD, List.getElem?_eq_getElem (show i < zs.length by omega)]
    · rw [List.getElem?_eq_none (by simp; omega), List.getElem?_eq_none (by simp; omega)]
/-- a struct of integers, as an argument -/
theorem okWide_ints {P : Program} {W : World} {r : Reach} {b0 : Nat} {t : TypeId} {k : IntKind} {fs : Array Field} {ts : List TypeId} {n : Nat} {v : Value} (ht : P.underlying t = some (.struct fs)) (hts : P.cellTypes P.depth t = some ts)
    (hk : ts.all (fun u => match P.underlying u with | some (.int k') => k' == k | _ => false) = true) (hc : P.cellsOf t = n) (h : Value.okWide P W r b0 t v) :
    ∃ zs : List Int, v = .agg (zs.map (Value.int k)).toArray ∧ zs.length = n ∧ ∀ z ∈ zs, (Lit.int k z).wf = true := by
  simp only [Value.okWide, ht] at h
  obtain ⟨cs, rfl, h2, ts', hts', _, hcell⟩ := h
  rw [hts] at hts'; cases hts'
  have key : ∀ v ∈ cs.toList, ∃ z, v = .int k z ∧ (Lit.int k z).wf = true := by
    intro v hv
    obtain ⟨i, hi⟩ := List.mem_iff_getElem?.1 hv
    obtain ⟨u, hu, hw⟩ := hcell i v (by simpa using hi)
    have := List.all_eq_true.1 hk u (List.mem_of_getElem? hu)
    split at this
    · rename_i k' hu'
      have : k' = k := by simpa using this
      subst this
      cases v <;> simp_all [Cell.okWide, Cell.ok, Lit.wf, IntKind.has]
    · cases this
  have all : ∀ l : List Value, (∀ v ∈ l, ∃ z, v = .int k z ∧ (Lit.int k z).wf = true) → ∃ zs : List Int, l = zs.map (Value.int k) ∧ ∀ z ∈ zs, (Lit.int k z).wf = true := by
    intro l
    induction l with
    | nil => intro _; exact ⟨[], rfl, by simp⟩
    | cons a l ih =>
      intro h
      obtain ⟨z, rfl, hz⟩ := h a (by simp)
      obtain ⟨zs, rfl, hzs⟩ := ih fun v hv => h v (by simp [hv])
      exact ⟨z :: zs, rfl, by simpa using ⟨hz, hzs⟩⟩
  obtain ⟨zs, hzs, hw⟩ := all _ key
  refine ⟨zs, ?_, ?_, hw⟩
  · rw [← hzs]
  · rw [← hc, ← h2]
    have : cs.toList.length = zs.length := by rw [hzs]; simp
    simpa using this.symm
end Go.Sl

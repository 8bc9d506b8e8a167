/- How the rows of numbers that come in as arguments read, for the laws' statements. -/
import Derived.Test.YtofjgcbjpmgkdaaSl
set_option linter.unusedVariables false
set_option linter.unusedSimpArgs false
set_option linter.unusedSectionVars false
namespace Go.Proofs.Ytofjgcbjpmgkdaa
open Go Go.RowKit
/-- What the walk is told of a slice of integers that came in. -/
def IsRow (k : IntKind) (w : World) (a : Option Addr) (len cap : Nat) (zs : List Int) : Prop :=
  (a = none ∧ len = 0 ∧ cap = 0 ∧ zs = []) ∨
  ∃ x, a = some x ∧ len ≤ cap ∧ cap ≤ maxLen ∧ zs.length = cap ∧ (∀ i, i < zs.length → w.cell? (x.add i) = some (.int k (zs.getD i 0))) ∧ ∀ n ∈ zs, (Lit.int k n).wf = true

theorem addr_of_cell {w : World} {x : Addr} {v : Value} (h : w.cell? x = some v) : x = ⟨x.block, x.off, none⟩ := by
  obtain ⟨b, o, s⟩ := x
  unfold World.cell? at h
  cases s with
  | none => rfl
  | some s =>
    exfalso
    simp at h
    split at h <;> simp at h

/-- A row of numbers reads as its list. -/
theorem row_ev {k : IntKind} {w : World} {a : Option Addr} {len cap : Nat} {zs : List Int} {α : Type} (enc : α → List Value) (f : Int → α) (hf : ∀ z, (Lit.int k z).wf = true → enc (f z) = [.int k z]) (h : IsRow k w a len cap zs) :
    EV enc 1 w (.slice a len cap) ((zs.take len).map f) ∧ ((zs.take len).map f).length = len ∧ len ≤ maxLen ∧ ∀ z ∈ zs, (Lit.int k z).wf = true := by
  rcases h with ⟨rfl, rfl, rfl, rfl⟩ | ⟨x, rfl, h1, h2, h3, h4, h5⟩
  · exact ⟨.inl ⟨rfl, _, _, rfl⟩, rfl, by unfold maxLen; omega, by simp⟩
  · have hlen : ((zs.take len).map f).length = len := by simp; omega
    refine ⟨?_, hlen, by omega, h5⟩
    rcases Nat.eq_zero_or_pos len with rfl | h0
    · exact .inl ⟨by simp, _, _, rfl⟩
    · have hx : x = ⟨x.block, x.off, none⟩ := by
        have := h4 0 (by omega)
        rw [Addr.add_zero'] at this
        exact addr_of_cell this
      rw [hx] at h4 ⊢
      have := EV.mk (enc := enc) (k := 1) (w := w) (b := x.block) (off := x.off) (xs := (zs.take len).map f) (c := cap) (fun i y hy j u hu => ?_) (by omega)
      · rw [hlen] at this; exact this
      · have hi : i < len := by have := (List.getElem?_eq_some_iff.1 hy).1; rwa [hlen] at this
        have hz : zs[i]? = some zs[i] := List.getElem?_eq_getElem (by omega)
        rw [List.getElem?_map, List.getElem?_take_of_lt hi, hz] at hy
        simp at hy; subst hy
        have hw := h5 zs[i] (List.getElem_mem (by omega))
        rw [hf _ hw] at hu
        have hj : j = 0 := by
          have := (List.getElem?_eq_some_iff.1 hu).1
          simpa using this
        subst hj
        simp at hu; subst hu
        have := h4 i (by omega)
        rw [Addr.add_lit] at this
        simpa [List.getD, hz] using this
theorem wf_u8 {z : Int} (h : (Lit.int .u8 z).wf = true) : 0 ≤ z ∧ z ≤ 255 := by simpa [Lit.wf, IntKind.min, IntKind.max, IntKind.signed, IntKind.bits] using h
theorem wf_u16 {z : Int} (h : (Lit.int .u16 z).wf = true) : 0 ≤ z ∧ z ≤ 65535 := by simpa [Lit.wf, IntKind.min, IntKind.max, IntKind.signed, IntKind.bits] using h
theorem wf_i64 {z : Int} (h : (Lit.int .i64 z).wf = true) : -9223372036854775808 ≤ z ∧ z ≤ 9223372036854775807 := by simpa [Lit.wf, IntKind.min, IntKind.max, IntKind.signed, IntKind.bits] using h
end Go.Proofs.Ytofjgcbjpmgkdaa

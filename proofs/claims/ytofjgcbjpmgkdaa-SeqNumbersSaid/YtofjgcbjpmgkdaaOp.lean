/- How arguments of any shape read: a slice whose elements read, element by element; a struct of integers. -/
import Derived.Test.YtofjgcbjpmgkdaaFin
import Derived.Deep.Slices
import Derived.ChangeArms
set_option linter.unusedVariables false
set_option linter.unusedSimpArgs false
set_option linter.unusedSectionVars false
namespace Go.Proofs.Ytofjgcbjpmgkdaa
open Go Go.RowKit Go.Deep Go.ChangeShapes Go.WideShapes

theorem pick_list {α : Type} (f : Nat → Option α) : ∀ len : Nat, (∀ i, i < len → ∃ z, f i = some z) → ∃ xs : List α, xs.length = len ∧ ∀ i z, xs[i]? = some z → f i = some z := by
  intro len
  induction len with
  | zero => intro _; exact ⟨[], rfl, fun i z h => by simp at h⟩
  | succ m ih =>
    intro hs
    obtain ⟨xs, h1, h2⟩ := ih (fun i hi => hs i (by omega))
    obtain ⟨z, hz⟩ := hs m (by omega)
    refine ⟨xs ++ [z], by simp [h1], fun i y h => ?_⟩
    rcases Nat.lt_or_ge i xs.length with hi | hi
    · rw [List.getElem?_append_left hi] at h; exact h2 i y h
    · rw [List.getElem?_append_right hi] at h
      have h0 := (List.getElem?_eq_some_iff.1 h).1
      simp at h0
      obtain rfl : i = m := by omega
      simp [h1] at h
      rw [hz, h]
section
variable {H : Type} {encd : TypeId × Value → H} {P : Program} {w : World} {base : Nat} {spare : Nat → Bool} {held : Bool}

theorem open_rows {α : Type} {enc : α → List Value} {k : Nat} {Q : α → Prop} {t e : TypeId} {fuel : Nat} {v : Value} {x : DataW H × List MemPlace}
    (ht : P.underlying t = some (.slice e)) (ck : P.cellsOf e = k) (hk : 0 < k)
    (each : ∀ n cs y, DataW.trod encd P w base spare held n e cs = some y → ∃ a, cs = enc a ∧ Q a)
    (h : DataW.trod encd P w base spare held fuel t [v] = some x) :
    ∃ A len cap xs, v = .slice A len cap ∧ EV enc k w (.slice A len cap) xs ∧ xs.length = len ∧ len ≤ maxLen ∧ ∀ a ∈ xs, Q a := by
  rcases open_slice ht h with ⟨hv, _⟩ | ⟨a, len, cap, m, n, D, Pl, hv, hb, hl, hm, hmm, _, hx⟩
  · simp at hv
    exact ⟨_, _, _, [], hv, .inl ⟨rfl, _, _, rfl⟩, rfl, by unfold maxLen; omega, by simp⟩
  · simp at hv
    have hlm : len ≤ m := by rw [hmm]; split <;> omega
    have ex : ∀ i, i < len → ∃ z, (∀ j u, (enc z)[j]? = some u → w.cell? ((a.add (i * k)).add j) = some u) ∧ Q z := fun i hi => by
      obtain ⟨cs', h1, h2⟩ := hx i (by omega)
      rw [ck] at h1
      obtain ⟨_, hlen, hcell⟩ := World.cells?_some h1
      obtain ⟨z, rfl, hq⟩ := each _ _ _ h2
      refine ⟨z, fun j u hu => ?_, hq⟩
      have := (List.getElem?_eq_some_iff.1 hu).1
      exact (hcell j (by omega)).trans hu
    have hlens : ∀ i, i < len → ∀ z, (∃ cs', w.cells? base (a.add (i * k)) k = some cs' ∧ cs' = enc z) → (enc z).length = k := fun i hi z ⟨cs', h1, h2⟩ => by
      subst h2; exact (World.cells?_some h1).2.1
    obtain ⟨f, hf⟩ : ∃ f : Nat → Option α, ∀ i, i < len → ∃ z, f i = some z ∧ (∀ j u, (enc z)[j]? = some u → w.cell? ((a.add (i * k)).add j) = some u) ∧ Q z :=
      ⟨fun i => if hi : i < len then some (Classical.choose (ex i hi)) else none, fun i hi => ⟨Classical.choose (ex i hi), by simp [hi], (Classical.choose_spec (ex i hi)).1, (Classical.choose_spec (ex i hi)).2⟩⟩
    obtain ⟨xs, hxl, hxs⟩ := pick_list f len (fun i hi => by obtain ⟨z, hz, _⟩ := hf i hi; exact ⟨z, hz⟩)
    have hq : ∀ z ∈ xs, Q z := fun z hz => by
      obtain ⟨i, hi⟩ := List.getElem?_of_mem hz
      have hil : i < len := by have := (List.getElem?_eq_some_iff.1 hi).1; omega
      obtain ⟨z', h1, _, h3⟩ := hf i hil
      rw [hxs i z hi] at h1; cases h1; exact h3
    refine ⟨some a, len, cap, xs, hv, ?_, hxl, by omega, hq⟩
    rcases Nat.eq_zero_or_pos len with h0 | h0
    · exact .inl ⟨List.eq_nil_of_length_eq_zero (by omega), _, _, by rw [h0]⟩
    · have ha : a = ⟨a.block, a.off, none⟩ := by
        obtain ⟨cs', h1, _⟩ := hx 0 (by omega)
        rw [ck] at h1
        obtain ⟨_, hlen, hcell⟩ := World.cells?_some h1
        have h2 := hcell 0 hk
        rw [Nat.zero_mul, Addr.add_zero', Addr.add_zero', List.getElem?_eq_getElem (by omega)] at h2
        exact addr_of_cell h2
      rw [ha] at hf ⊢
      subst hxl
      refine EV.mk (fun i z hz j u hu => ?_) hl
      have hil : i < xs.length := (List.getElem?_eq_some_iff.1 hz).1
      obtain ⟨z', h1, h2, _⟩ := hf i hil
      rw [hxs i z hz] at h1; cases h1
      have := h2 j u hu
      rwa [Addr.add_lit, Addr.add_lit] at this

/-- A struct of integers. -/
theorem flat_ints {t : TypeId} {fs : Array Field} {n : Nat} {cs : List Value} {x : DataW H × List MemPlace} (ht : P.underlying t = some (.struct fs)) (ct : P.cellsOf t = fs.size)
    (hf : ∀ (i : Nat) (f : Field), fs[i]? = some f → f.offset = i ∧ P.cellsOf f.type = 1 ∧ P.underlying f.type = some (.int .i64))
    (h : DataW.trod encd P w base spare held n t cs = some x) : ∃ zs : List Int, cs = zs.map (Value.int .i64) ∧ zs.length = fs.size ∧ ∀ z ∈ zs, (Lit.int .i64 z).wf = true := by
  obtain ⟨xs, m, _, _, hcl, hxl, he⟩ := DataW.trod_struct ht h
  have ex : ∀ i, i < cs.length → ∃ z, cs[i]? = some (.int .i64 z) ∧ (Lit.int .i64 z).wf = true := fun i hi => by
    have hi' : i < fs.size := by omega
    obtain ⟨h1, h2, h3⟩ := hf i fs[i] (Array.getElem?_eq_getElem hi')
    have h4 := he i fs[i] (Array.getElem?_eq_getElem hi')
    rw [h1, h2, List.getElem?_eq_getElem (by omega)] at h4
    obtain ⟨z, h5, _, h6⟩ := DataW.trod_int h3 h4
    refine ⟨z, ?_, h6⟩
    have h7 : ((cs.drop i).take 1)[0]? = some (Value.int .i64 z) := by rw [h5]; rfl
    rwa [List.getElem?_take_of_lt (by omega), List.getElem?_drop, Nat.add_zero] at h7
  have go : ∀ l : List Value, (∀ i, i < l.length → ∃ z, l[i]? = some (.int .i64 z) ∧ (Lit.int .i64 z).wf = true) → ∃ zs : List Int, l = zs.map (Value.int .i64) ∧ zs.length = l.length ∧ ∀ z ∈ zs, (Lit.int .i64 z).wf = true := by
    intro l
    induction l with
    | nil => intro _; exact ⟨[], rfl, rfl, by simp⟩
    | cons a r ih =>
      intro hl
      obtain ⟨z, hz, hw⟩ := hl 0 (by simp)
      simp at hz
      obtain ⟨zs, h1, h2, h3⟩ := ih (fun i hi => by simpa using hl (i + 1) (by simpa using hi))
      exact ⟨z :: zs, by rw [hz, h1]; rfl, by simp [h2], fun y hy => (List.mem_cons.1 hy).elim (fun e => e ▸ hw) (h3 y)⟩
  obtain ⟨zs, h1, h2, h3⟩ := go cs ex
  exact ⟨zs, h1, by omega, h3⟩
theorem flat_two {t : TypeId} {f0 f1 : Field} {n : Nat} {cs : List Value} {x : DataW H × List MemPlace} (ht : P.underlying t = some (.struct #[f0, f1])) (ct : P.cellsOf t = 2)
    (o0 : f0.offset = 0) (o1 : f1.offset = 1) (c0 : P.cellsOf f0.type = 1) (c1 : P.cellsOf f1.type = 1) (u0 : P.underlying f0.type = some (.int .i64)) (u1 : P.underlying f1.type = some (.int .i64))
    (h : DataW.trod encd P w base spare held n t cs = some x) : ∃ g : Int × Int, cs = [.int .i64 g.1, .int .i64 g.2] ∧ ((Lit.int .i64 g.1).wf = true ∧ (Lit.int .i64 g.2).wf = true) := by
  obtain ⟨zs, h1, h2, h3⟩ := flat_ints ht ct (fun i f hi => by
    rcases i with _ | _ | i <;> simp at hi <;> subst hi
    · exact ⟨o0, c0, u0⟩
    · exact ⟨o1, c1, u1⟩) h
  rcases zs with _ | ⟨p, _ | ⟨q, _ | ⟨r, zs⟩⟩⟩ <;> simp at h2
  exact ⟨(p, q), h1, h3 p (by simp), h3 q (by simp)⟩
end
end Go.Proofs.Ytofjgcbjpmgkdaa

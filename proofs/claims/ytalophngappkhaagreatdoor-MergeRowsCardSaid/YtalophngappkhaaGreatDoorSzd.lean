/- How arguments read where each slice is bounded by what it weighs. -/
import Derived.SizedLaws
import Derived.Test.YtalophngappkhaaGreatDoorZ3
import Derived.Test.YtalophngappkhaaGreatDoorZ27
set_option linter.unusedVariables false
set_option linter.unusedSimpArgs false
set_option linter.unusedSectionVars false
namespace Go.Proofs.YtalophngappkhaaGreatDoor
open Go Go.RowKit Go.Deep Go.ChangeShapes Go.WideShapes

theorem reach_le : reachBytes ≤ 140737488355328 := by decide
section
variable {H : Type} {P : Program}
/-- Each slice in it is within what an argument may weigh. -/
def Szd (P : Program) (t : TypeId) (d : DataW H) : Prop := ∀ n ∈ DataW.weights P t d, n ≤ reachBytes
theorem szd_agg {t : TypeId} {fs : Array Field} {xs : List (DataW H × List MemPlace)} {i : Nat} {f : Field} {y : DataW H × List MemPlace} (ht : P.underlying t = some (.struct fs)) (hz : Szd P t (.agg (xs.map (·.1)))) (hi : fs[i]? = some f) (hy : xs[i]? = some y) : Szd P f.type y.1 := fun n hn => by
  refine hz n ?_
  rw [DataW.weights, ht]
  exact DataW.weights_mem_each (j := i) (t := f.type) (d := y.1) (by simp [hi]) (by simp [hy]) n hn
theorem mem_weightsAll {e : TypeId} : ∀ {l : List (DataW H)} {d : DataW H}, d ∈ l → ∀ n ∈ DataW.weights P e d, n ∈ DataW.weightsAll P e l
  | [], _, h, _, _ => by simp at h
  | a :: r, d, h, n, hn => by
    rw [DataW.weightsAll, List.mem_append]
    rcases List.mem_cons.1 h with rfl | h
    · exact .inl hn
    · exact .inr (mem_weightsAll h n hn)
theorem szd_slice {t e : TypeId} {elems sp : List (DataW H)} (ht : P.underlying t = some (.slice e)) (hz : Szd P t (.slice elems sp)) : (elems.length + sp.length) * P.bytesOf e ≤ reachBytes ∧ ∀ d ∈ elems, Szd P e d := by
  unfold Szd at hz
  rw [DataW.weights, ht] at hz
  exact ⟨hz _ (by simp), fun d hd n hn => hz n (by simp only [List.mem_cons, List.mem_append]; exact .inr (.inl (mem_weightsAll hd n hn)))⟩
variable {encd : TypeId × Value → H} {w : World} {base : Nat} {spare : Nat → Bool} {held : Bool}

/-- Rows of a slice, element by element, with the bound on its bytes. -/
theorem open_rowsS {α : Type} {enc : α → List Value} {k by' : Nat} {Q : α → Prop} {t e : TypeId} {fuel : Nat} {cs : List Value} {x : DataW H × List MemPlace} (hz : Szd P t x.1) (hby : P.bytesOf e = by')
    (ht : P.underlying t = some (.slice e)) (ck : P.cellsOf e = k) (hk : 0 < k)
    (each : ∀ n cs y, Szd P e y.1 → DataW.trod encd P w base spare held n e cs = some y → ∃ a, cs = enc a ∧ Q a)
    (h : DataW.trod encd P w base spare held fuel t cs = some x) :
    ∃ A len cap xs, cs = [.slice A len cap] ∧ EV enc k w (.slice A len cap) xs ∧ xs.length = len ∧ len * by' ≤ reachBytes ∧ ∀ a ∈ xs, Q a := by
  rcases open_slice ht h with ⟨hv, _⟩ | ⟨a, len, cap, m, n, D, Pl, hv, hb, hl, hm, hmm, hxx, hx⟩
  · exact ⟨_, _, _, [], hv, .inl ⟨rfl, _, _, rfl⟩, rfl, by omega, by simp⟩
  · have hlm : len ≤ m := by rw [hmm]; split <;> omega
    rw [hxx] at hz
    obtain ⟨hz1, hz2⟩ := szd_slice ht hz
    have hbk : ∀ i, i < len → Szd P e (D i) := fun i hi => hz2 _ (List.mem_map.2 ⟨i, List.mem_range.2 hi, rfl⟩)
    have hln : len * by' ≤ reachBytes := by
      rw [List.length_map, List.length_range, hby] at hz1
      exact Nat.le_trans (Nat.mul_le_mul_right _ (Nat.le_add_right _ _)) hz1
    have ex : ∀ i, i < len → ∃ z, (∀ j u, (enc z)[j]? = some u → w.cell? ((a.add (i * k)).add j) = some u) ∧ Q z := fun i hi => by
      obtain ⟨cs', h1, h2⟩ := hx i (by omega)
      rw [ck] at h1
      obtain ⟨_, hlen, hcell⟩ := World.cells?_some h1
      obtain ⟨z, rfl, hq⟩ := each _ _ _ (hbk i hi) h2
      refine ⟨z, fun j u hu => ?_, hq⟩
      have := (List.getElem?_eq_some_iff.1 hu).1
      exact (hcell j (by omega)).trans hu
    obtain ⟨f, hf⟩ : ∃ f : Nat → Option α, ∀ i, i < len → ∃ z, f i = some z ∧ (∀ j u, (enc z)[j]? = some u → w.cell? ((a.add (i * k)).add j) = some u) ∧ Q z :=
      ⟨fun i => if hi : i < len then some (Classical.choose (ex i hi)) else none, fun i hi => ⟨Classical.choose (ex i hi), by simp [hi], (Classical.choose_spec (ex i hi)).1, (Classical.choose_spec (ex i hi)).2⟩⟩
    obtain ⟨xs, hxl, hxs⟩ := pick_list f len (fun i hi => by obtain ⟨z, hz, _⟩ := hf i hi; exact ⟨z, hz⟩)
    have hq : ∀ z ∈ xs, Q z := fun z hz => by
      obtain ⟨i, hi⟩ := List.getElem?_of_mem hz
      have hil : i < len := by have := (List.getElem?_eq_some_iff.1 hi).1; omega
      obtain ⟨z', h1, _, h3⟩ := hf i hil
      rw [hxs i z hi] at h1; cases h1; exact h3
    refine ⟨some a, len, cap, xs, hv, ?_, hxl, hln, hq⟩
    rcases Nat.eq_zero_or_pos len with h0 | h0
    · exact .inl ⟨List.eq_nil_of_length_eq_zero (by omega), _, _, by rw [h0]⟩
    · have ha : a = ⟨a.block, a.off, none⟩ := by
        obtain ⟨cs', h1, _⟩ := hx 0 (by omega)
        rw [ck] at h1
        obtain ⟨_, hlen, hcell⟩ := World.cells?_some h1
        have h2 := hcell 0 hk
        rw [Nat.zero_mul, Addr.add_zero', Addr.add_zero', List.getElem?_eq_getElem (by omega)] at h2
        exact addr_of_cell h2
      rw [ha] at hf ⊢
      subst hxl
      refine EV.mk (fun i z hz j u hu => ?_) hl
      have hil : i < xs.length := (List.getElem?_eq_some_iff.1 hz).1
      obtain ⟨z', h1, h2, _⟩ := hf i hil
      rw [hxs i z hz] at h1; cases h1
      have := h2 j u hu
      rwa [Addr.add_lit, Addr.add_lit] at this

/-- A struct of one cell a field, with the bounds. -/
theorem flat_oneS {t : TypeId} {fs : Array Field} {n : Nat} {cs : List Value} {x : DataW H × List MemPlace} (ht : P.underlying t = some (.struct fs)) (ct : P.cellsOf t = fs.size)
    (hf : (fs.toList.zipIdx.all fun (f, i) => f.offset == i && P.cellsOf f.type == 1) = true)
    (h : DataW.trod encd P w base spare held n t cs = some x) : cs.length = fs.size ∧ ∃ m, ∀ (i : Nat) (f : Field) (c : Value), fs[i]? = some f → cs[i]? = some c → ∃ y, DataW.trod encd P w base spare held m f.type [c] = some y ∧ (Szd P t x.1 → Szd P f.type y.1) := by
  obtain ⟨xs, m, _, hx, hcl, hxl, he⟩ := DataW.trod_struct ht h
  refine ⟨by omega, m, fun i f c hi hc => ?_⟩
  have h1 := List.all_eq_true.1 hf (f, i) (by
    rw [List.mem_zipIdx_iff_getElem?]
    simpa using hi)
  simp only [Bool.and_eq_true, beq_iff_eq] at h1
  have h2 := he i f hi
  have hil := (List.getElem?_eq_some_iff.1 hc)
  obtain ⟨hil, hcv⟩ := hil
  have h3 : (cs.drop i).take 1 = [c] := by
    rw [List.drop_eq_getElem_cons hil, hcv]; rfl
  rw [h1.1, h1.2, h3, List.getElem?_eq_getElem (show i < xs.length by omega)] at h2
  refine ⟨_, h2, ?_⟩
  exact fun hz => szd_agg ht (by rw [hx] at hz; exact hz) hi (List.getElem?_eq_getElem (by omega))
end

end Go.Proofs.YtalophngappkhaaGreatDoor

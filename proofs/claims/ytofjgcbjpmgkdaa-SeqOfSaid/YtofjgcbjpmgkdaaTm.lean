/- For the laws' comparisons: lengths of results; rows written over beside others; spoil at a call with one list, or two. -/
import Derived.Test.YtofjgcbjpmgkdaaSy
import Derived.Test.YtofjgcbjpmgkdaaSp
set_option linter.unusedVariables false
set_option linter.unusedSimpArgs false
set_option linter.unusedSectionVars false
namespace Go.Proofs.Ytofjgcbjpmgkdaa
open Go.RowKit Go.Shelf

theorem St.cnt_le : ∀ (f : Nat) (s : St), s.cnt f ≤ f
  | 0, _ => Nat.le_refl _
  | f + 1, s => by
    unfold St.cnt
    split
    · omega
    · have := St.cnt_le f s.step; omega
theorem bothL_len {tk : Bool → Bool → Bool} (a b : List (Int × Int)) : (bothL tk a b).length ≤ 2 * a.length + 2 * b.length := by
  unfold bothL boN
  exact Nat.le_trans (boIt_len _ _) (St.cnt_le _ _)
theorem missL_len (l : List (Int × Int)) (f n : Int) : (missL l f n).length ≤ 2 * l.length + 2 := by
  unfold missL
  split
  · simp
  · split
    · simp
    · have := bothL_len (tk := tkW) [(f, n - f)] l; simp at this; omega
theorem bothI_len {tk : Bool → Bool → Bool} {c : Prop} [Decidable c] (a b : List (Int × Int)) : (if c then bothL tk a b else []).length ≤ 2 * a.length + 2 * b.length := by
  split
  · exact bothL_len a b
  · simp
theorem of_lens (ns : List Int) : (ofL ns).length ≤ ns.length ∧ (ofT ns).length ≤ ns.length := by
  unfold ofL ofT
  split
  · rename_i h
    have hk : ∀ n ∈ srtI ns, okN n = true := by
      unfold ofE at h
      split at h
      · cases h
      · split at h
        · rename_i h2; exact fun n hn => List.all_eq_true.1 h2 n ((srt_mem ns n).1 hn)
        · cases h
    have := ofS_ok _ (srt_pw ns) hk
    have h1 := this.slen
    have h2 := this.tlen
    rw [srtI_len] at h1 h2
    exact ⟨h1, h2⟩
  · simp

section
variable {α : Type} {enc : α → List Value} {k base : Nat} {e : TypeId} {w0 w w' : World} {v : Value} {xs : List α} {T : Nat → Prop}
theorem EV.mod_new (h : EV enc k w0 v xs) (hb : Below w0.heap.size w0 w) (hm : Mod T w w') (hT : ∀ g, T g → w0.heap.size ≤ g) : EV enc k w' v xs := by
  rcases h with h | ⟨h1, b, off, c, rfl, h3, h4⟩
  · exact .inl h
  · exact .inr ⟨h1, b, off, c, rfl, h3, h4.keep fun p u hp hc => hm.cell (below_cell hb hc) (fun t => by have := hT _ t; have := cell_lt hc; omega)⟩
theorem OV.mod_old (h : OV enc k e base w v xs) (hm : Mod T w w') (hT : ∀ g, T g → g < base) : OV enc k e base w' v xs :=
  h.mod hm (fun g hg ht => by have := (h.block g hg).1; have := hT g ht; omega)
end
theorem spoil_one (w : World) (v : Value) (n m : Nat) (hm : w.heap.size = m) (hw : Wrt 2 w v n) (hn : n ≤ 1000000000) (hb : ∀ g, v.ownBlock = some g → g < w.heap.size) :
    Calls Try.prog 39 #[.slice (some ⟨m, 0, none⟩) 1 1] (w.alloc (.cells #[v] 22)) fun e w' => e = .returned (.tuple #[]) ∧ Mod (fun k => v.ownBlock = some k) w w' := by
  subst hm
  refine (spoil_ok _ _ [(v, n)] (EV.newL encW_len rfl rfl (Nat.le_refl _)) (by simp) (fun r hr => ?_) (fun b o n' c hv r hr he => ?_)).mono fun e w' h => ⟨h.1, (Mod.alloc _).trans_new h.2 (fun k hk t => ?_)⟩
  · simp at hr; subst hr; exact ⟨hw.below ((Below.refl _ _).alloc (Nat.le_refl _) _), hn⟩
  · simp at hr; subst hr
    have := hb _ he
    simp only [Value.slice.injEq, Option.some.injEq, Addr.mk.injEq, and_true] at hv
    omega
  · obtain ⟨r, hr, t⟩ := t
    simp at hr; subst hr; exact t
theorem spoil_two (w : World) (v u : Value) (n n2 m : Nat) (hm : w.heap.size = m) (hw : Wrt 2 w v n) (hw2 : Wrt 2 w u n2) (hn : n ≤ 1000000000) (hn2 : n2 ≤ 1000000000) (hb : ∀ g, v.ownBlock = some g → g < w.heap.size) (hb2 : ∀ g, u.ownBlock = some g → g < w.heap.size) :
    Calls Try.prog 39 #[.slice (some ⟨m, 0, none⟩) 2 2] (w.alloc (.cells #[v, u] 22)) fun e w' => e = .returned (.tuple #[]) ∧ Mod (fun k => v.ownBlock = some k ∨ u.ownBlock = some k) w w' := by
  subst hm
  refine (spoil_ok _ _ [(v, n), (u, n2)] (EV.newL encW_len rfl rfl (Nat.le_refl _)) (by simp) (fun r hr => ?_) (fun b o n' c hv r hr he => ?_)).mono fun e w' h => ⟨h.1, (Mod.alloc _).trans_new h.2 (fun k hk t => ?_)⟩
  · simp at hr
    rcases hr with rfl | rfl
    · exact ⟨hw.below ((Below.refl _ _).alloc (Nat.le_refl _) _), hn⟩
    · exact ⟨hw2.below ((Below.refl _ _).alloc (Nat.le_refl _) _), hn2⟩
  · simp only [Value.slice.injEq, Option.some.injEq, Addr.mk.injEq, and_true] at hv
    simp at hr
    rcases hr with rfl | rfl
    · have := hb _ he; omega
    · have := hb2 _ he; omega
  · obtain ⟨r, hr, t⟩ := t
    simp at hr
    rcases hr with rfl | rfl
    · exact .inl t
    · exact .inr t
end Go.Proofs.Ytofjgcbjpmgkdaa

/- slices.Values, slices.Sorted; plain laws for package seq's Of. -/
import Derived.Test.YtofjgcbjpmgkdaaSf
import Derived.Test.YtofjgcbjpmgkdaaSort
set_option linter.unusedVariables false
set_option linter.unusedSimpArgs false
set_option linter.unusedSectionVars false
namespace Go.Proofs.Ytofjgcbjpmgkdaa
open Go.RowKit Go.Shelf

def valS (B : Nat) (v : Value) (xs : List Int) (k : Nat) : Prop := k = B ∨ (xs ≠ [] ∧ ∃ o n c, v = .slice (some ⟨k, o, none⟩) n c)

set_option maxHeartbeats 400000 in
theorem values1_iter (w : World) (B : Nat) (v : Value) (xs : List Int) (h1 : w.cell? ⟨B, 0, none⟩ = some v) (hv : EV encI 1 w v xs) (hlen : xs.length ≤ 1000000000) :
    Iter Try.prog 66 #[.pointer (some ⟨B, 0, none⟩)] (fun k => #[.int .i64 (xs[k]?.getD 0)]) xs.length (valS B v xs) (fun _ => False) w := by
  intro l J Jx W hsz hW hJ hJx hY h0
  have H1 : W.cell? ⟨B, 0, none⟩ = some v := by
    obtain ⟨o, ho, _⟩ := cells_of_cell h1
    exact (World.cell?_of_block (w := w) (by rw [hW _ o ho (.inl rfl), ho])).trans h1
  have HV : EV encI 1 W v xs := by
    rcases hv with h | ⟨k1, b1, off, c, rfl, k3, k4⟩
    · exact .inl h
    · refine .inr ⟨k1, b1, off, c, rfl, k3, k4.keep fun p u hp hc => ?_⟩
      obtain ⟨o, ho, _⟩ := cells_of_cell hc
      exact (World.cell?_of_block (w := w) (by rw [hW _ o ho (.inr ⟨k1, off, _, c, by rw [hp]⟩), ho])).trans hc
  clear h1 hv hW hsz
  have hd0 : W0.depth = none := rfl
  have hfn : ∀ f, W0.fn f := fun _ => trivial
  obtain ⟨A, c, rfl⟩ := HV.shape
  refine callsIn_of_wp Try.func66 rfl trivial ?_ rfl
  simp only [Try.ntmps66, List.size_toArray, List.length_cons, List.length_nil, Nat.reduceAdd, Nat.reduceSub, Array.replicate_succ, Array.replicate_zero, List.push_toArray, List.append_toArray, List.nil_append, List.cons_append]
  gi_wp2
  have HY := Lib.hid hY
  clear hY
  gi_loopg [4, 7] xs.length (fun g _ i wr => ∃ j : Nat, j + g = xs.length ∧ i = .int .i64 j ∧ J j wr ∧ EV encI 1 wr (.slice A xs.length c) xs)
  case atStart => exact ⟨0, by omega, rfl, h0, HV⟩
  case round =>
    clear HV H1 h0
    obtain ⟨j, hj, rfl, hjj, hev⟩ := hrel
    have HJ := Lib.hid hj
    clear hj
    by_cases hlt : j < xs.length
    · obtain ⟨b, off, c', hvv, -, rr⟩ := hev.row (by omega)
      simp only [Value.slice.injEq] at hvv
      obtain ⟨rfl, -, rfl⟩ := hvv
      obtain ⟨x, hx, cx⟩ := rr.get1 hlt
      have hYk := HY.out j wr hlt hjj
      simp only [hx, Option.getD_some] at hYk
      obtain ⟨fn, tmps, assign, body, hy, hR⟩ := hYk
      have HEV := Lib.hid hev
      clear hx rr hev
      gi_wp2
      refine hR.mono ?_
      rintro e W' ⟨hsz, hS, hres⟩
      have hev' : EV encI 1 W' (.slice (some ⟨b, off, none⟩) xs.length c) xs := by
        rcases HEV.out with h | ⟨k1, b1, off1, c1, hv1, k3, k4⟩
        · exact .inl h
        · refine .inr ⟨k1, b1, off1, c1, hv1, k3, k4.keep fun p u hp hc => ?_⟩
          obtain ⟨o, ho, _⟩ := cells_of_cell hc
          exact (World.cell?_of_block (w := wr) (by rw [hS _ o ho (.inr ⟨k1, off1, _, c1, by rw [hp]; exact hv1⟩), ho])).trans hc
      clear hy hR hS cx HEV
      rcases hres with ⟨rfl, hj'⟩ | ⟨rfl, hjx⟩
      · gi_wp2
        gi_roundg (gk - 1)
        case measure => have := HJ.out; omega
        case rel => exact ⟨j + 1, by have := HJ.out; omega, by go_num, hj', hev'⟩
      · gi_wp2
        refine bodyPost_ret (results_none rfl _ _ _) rfl ?_
        exact ⟨⟨_, rfl⟩, .inr hjx⟩
    · obtain rfl : j = xs.length := by have := HJ.out; omega
      gi_wp2
      go_end0
      exact ⟨⟨_, rfl⟩, .inl hjj⟩

set_option maxHeartbeats 400000 in
theorem values_ok (w : World) (A : Option Addr) (n c : Nat) :
    Calls Try.prog 48 #[.slice A n c] w fun e w' => e = .returned (.func (.func 66) #[] #[.pointer (some ⟨w.heap.size, 0, none⟩)]) ∧ w.alloc (Obj.cells #[.slice A n c] 38) = w' := by
  go_enter Try.func48, Try.ntmps48
  go_wp2
  go_ret
  exact ⟨rfl, rfl⟩

/-- slices.Sorted of the values of a slice. -/
theorem sorted_vals (w : World) (A : Option Addr) (n c : Nat) (xs : List Int) (hv : EV encI 1 w (.slice A n c) xs) (hlen : xs.length ≤ 1000000) :
    Calls Try.prog 47 #[.func (.func 66) #[] #[.pointer (some ⟨w.heap.size, 0, none⟩)]] (w.alloc (Obj.cells #[.slice A n c] 38)) fun e w' =>
      ∃ r, e = .returned r ∧ OV encI 1 3 w.heap.size w' r (srtI xs) ∧ Below w.heap.size w w' := by
  have b0 : Below w.heap.size w (w.alloc (Obj.cells #[.slice A n c] 38)) := (Below.refl _ _).alloc (Nat.le_refl _) _
  have bx : Boxed (w.alloc (Obj.cells #[.slice A n c] 38)) w.heap.size 38 (.slice A n c) := Boxed.new _ _ _
  have hz : (w.alloc (Obj.cells #[.slice A n c] 38)).heap.size = w.heap.size + 1 := World.size_alloc _ _
  have hev := hv.below b0
  have rowlt : ∀ k o m d, xs ≠ [] → Value.slice A n c = .slice (some ⟨k, o, none⟩) m d → k < w.heap.size := fun k o m d h1 h2 => by
    have hp : 0 < xs.length := by cases xs with | nil => exact absurd rfl h1 | cons r l => simp
    obtain ⟨b', o', c', hv', _, r⟩ := hv.row hp
    rw [hv'] at h2
    simp only [Value.slice.injEq, Option.some.injEq, Addr.mk.injEq, and_true] at h2
    rw [← h2.1.1]
    exact r.lt hp (fun _ => by simp [encI_len])
  generalize w.alloc (Obj.cells #[.slice A n c] 38) = w1 at b0 bx hz hev ⊢
  have C := Lib.hid (collect_int w1 _ #[.pointer (some ⟨w.heap.size, 0, none⟩)] (fun k => xs[k]?.getD 0) xs.length (valS w.heap.size (.slice A n c) xs) (fun _ => False) (enters_of Try.func66 (by kernel_rfl) rfl)
    (values1_iter w1 w.heap.size _ xs bx.cell hev (by omega)) (fun k h => h.elim) (fun k h => by
      rcases h with h | ⟨h0, o, m, d, h⟩
      · omega
      · have := rowlt _ _ _ _ h0 h; omega) hlen)
  rw [upto_list] at C
  have s0 := b0.size
  have B0 := Lib.hid b0
  clear bx hev rowlt hv hz b0
  go_enter Try.func47, Try.ntmps47
  go_wp2_with fail
  refine C.out.mono ?_
  rintro e w2 ⟨r, rfl, o2, m2⟩
  have b2 : Below w.heap.size w w2 := B0.out.trans (m2.below (fun k _ h => h) s0)
  have o2 := o2.base_le s0
  have SO := Lib.hid (sort_int w2 r xs _ o2 (by omega))
  have hbk := o2.block
  clear m2 C
  go_wp2_with fail
  refine SO.out.mono ?_
  rintro e w3 ⟨rfl, o3, g3⟩
  have b3 := b2.grown g3 b2.size (fun k hk => (hbk k hk).1)
  clear SO hbk g3
  go_wp2
  go_ret
  exact ⟨_, rfl, o3, b3⟩
end Go.Proofs.Ytofjgcbjpmgkdaa

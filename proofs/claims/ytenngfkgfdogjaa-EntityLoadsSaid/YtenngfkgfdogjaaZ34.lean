/- The contract of slices.Sort at []int, laid by the kit's tool, and in the words of these texts | EntityLoads' plain law: the ready tasks, parted by groups and by CPUs | The walk of the law EntityLoads, behind its great loop. -/
import Derived.Shelf.Sort.Plain
import Derived.Shelf.Slices.In.SortNone
import Derived.Test.YtenngfkgfdogjaaRows
import Derived.Sort.OwnSortedInts
import Derived.Test.YtenngfkgfdogjaaZ1
import Derived.Test.YtenngfkgfdogjaaZ27
import Derived.Test.YtenngfkgfdogjaaZ30
set_option linter.unusedVariables false
set_option linter.unusedSimpArgs false
set_option linter.unusedSectionVars false
namespace Go.Proofs
open Go.Shelf
def Try.lays189_ren : Go.Shelf.Ren := ⟨fun | 189 => 35 | 125 => 76 | 257 => 75 | 128 => 113 | 129 => 114 | 294 => 104 | 295 => 105 | 296 => 106 | 297 => 107 | 298 => 108 | 299 => 109 | 216 => 110 | 300 => 111 | 301 => 112 | 328 => 124 | 329 => 125 | 330 => 126 | 331 => 127 | 332 => 128 | 215 => 92 | 343 => 137 | n => n, fun | 28 => 34 | 3 => 3 | 46 => 83 | 0 => 0 | 51 => 49 | 53 => 22 | 4 => 4 | 183 => 163 | 182 => 162 | 131 => 114 | 5 => 5 | 9 => 9 | 218 => 177 | 222 => 181 | 228 => 188 | 229 => 131 | n => n, fun | n => n⟩
theorem Try.lays189 : Go.Proofs.Lays.n189 Try.prog Try.lays189_ren := {
  mixed := by kernel_rfl
  f125 := Try.func76.trans (congrArg some (by kernel_rfl))
  f128 := Try.func113.trans (congrArg some (by kernel_rfl))
  f129 := Try.func114.trans (congrArg some (by kernel_rfl))
  f189 := Try.func35.trans (congrArg some (by kernel_rfl))
  f215 := Try.func92.trans (congrArg some (by kernel_rfl))
  f216 := Try.func110.trans (congrArg some (by kernel_rfl))
  f257 := Try.func75.trans (congrArg some (by kernel_rfl))
  f294 := Try.func104.trans (congrArg some (by kernel_rfl))
  f295 := Try.func105.trans (congrArg some (by kernel_rfl))
  f296 := Try.func106.trans (congrArg some (by kernel_rfl))
  f297 := Try.func107.trans (congrArg some (by kernel_rfl))
  f298 := Try.func108.trans (congrArg some (by kernel_rfl))
  f299 := Try.func109.trans (congrArg some (by kernel_rfl))
  f300 := Try.func111.trans (congrArg some (by kernel_rfl))
  f301 := Try.func112.trans (congrArg some (by kernel_rfl))
  f328 := Try.func124.trans (congrArg some (by kernel_rfl))
  f329 := Try.func125.trans (congrArg some (by kernel_rfl))
  f330 := Try.func126.trans (congrArg some (by kernel_rfl))
  f331 := Try.func127.trans (congrArg some (by kernel_rfl))
  f332 := Try.func128.trans (congrArg some (by kernel_rfl))
  f343 := Try.func137.trans (congrArg some (by kernel_rfl))
  t0 := Try.underlying0
  a0 := Try.isAgg0
  z0 := Try.sizeOf0
  v0 := Try.zeroValue0
  t3 := Try.underlying3
  a3 := Try.isAgg3
  z3 := Try.sizeOf3
  v3 := Try.zeroValue3
  t4 := Try.underlying4
  a4 := Try.isAgg4
  z4 := Try.sizeOf4
  v4 := Try.zeroValue4
  t5 := Try.underlying5
  a5 := Try.isAgg5
  z5 := Try.sizeOf5
  v5 := Try.zeroValue5
  t9 := Try.underlying9
  a9 := Try.isAgg9
  z9 := Try.sizeOf9
  v9 := Try.zeroValue9
  t28 := Try.underlying34
  a28 := Try.isAgg34
  z28 := Try.sizeOf34
  v28 := Try.zeroValue34
  t46 := Try.underlying83
  a46 := Try.isAgg83
  z46 := Try.sizeOf83
  v46 := Try.zeroValue83
  t51 := Try.underlying49
  a51 := Try.isAgg49
  z51 := Try.sizeOf49
  v51 := Try.zeroValue49
  t53 := Try.underlying22
  a53 := Try.isAgg22
  z53 := Try.sizeOf22
  v53 := Try.zeroValue22
  t131 := Try.underlying114
  a131 := Try.isAgg114
  z131 := Try.sizeOf114
  v131 := Try.zeroValue114
  t182 := Try.underlying162
  a182 := Try.isAgg162
  z182 := Try.sizeOf162
  v182 := Try.zeroValue162
  t183 := Try.underlying163
  a183 := Try.isAgg163
  z183 := Try.sizeOf163
  v183 := Try.zeroValue163
  t218 := Try.underlying177
  a218 := Try.isAgg177
  z218 := Try.sizeOf177
  v218 := Try.zeroValue177
  t222 := Try.underlying181
  a222 := Try.isAgg181
  z222 := Try.sizeOf181
  v222 := Try.zeroValue181
  t228 := Try.underlying188
  a228 := Try.isAgg188
  z228 := Try.sizeOf188
  v228 := Try.zeroValue188
  t229 := Try.underlying131
  a229 := Try.isAgg131
  z229 := Try.sizeOf131
  v229 := Try.zeroValue131 }
open Go.Sort Go.RowKit in
theorem Try.slices_Sort_int (blk off cap : Nat) (zs : List Int) (w : World) (hH : Holds (Value.int .i64) w blk off zs.toArray) (hblk : blk < w.heap.size) (hsz : zs.length < 4611686018427387904) :
    Calls Try.prog 35 #[.slice (some ⟨blk, off, none⟩) zs.length cap] w fun e w' =>
      e = .returned (.tuple #[]) ∧ ∃ n os, w' = grow (putRow (Value.int .i64) (Sort.ahead w n) blk off (zs.mergeSort fun x y => decide (x ≤ y)).toArray) os := Any.slices_Sort_int Try.lays189 blk off cap zs w hH hblk hsz
open Go.RowKit Go.Sort in
theorem Try.slices_Sort_int_none (p : Option Addr) (cap : Nat) (w : World) :
    Calls Try.prog 35 #[.slice p 0 cap] w fun e w' => e = .returned (.tuple #[]) ∧ w' = w := Any.slices_Sort_int_none Try.lays189 p cap w
end Go.Proofs

namespace Go.Proofs.Ytenngfkgfdogjaa
open Go Go.RowKit Go.Sort
def srtI (xs : List Int) : List Int := xs.mergeSort fun x y => decide (x ≤ y)
theorem srtI_len (xs : List Int) : (srtI xs).length = xs.length := List.length_mergeSort xs
theorem sort_int (w : World) (v : Value) (xs : List Int) (base : Nat) (h : OV encI 1 3 base w v xs) (hb : xs.length ≤ 1000000000) :
    Calls Try.prog 35 #[v] w fun e w' => e = .returned (.tuple #[]) ∧ OV encI 1 3 base w' v (srtI xs) ∧ w.grownBy w' v.ownBlock := by
  have h' := h
  rcases h'.2 with ⟨rfl, h0⟩ | ⟨g, cap, cur, rfl, hbg, hg, hnc, hcm, hcs, htake⟩
  · obtain rfl : xs = [] := List.eq_nil_of_length_eq_zero h0
    refine (Try.slices_Sort_int_none none 0 w).mono ?_
    rintro e w' ⟨rfl, rfl⟩
    exact ⟨rfl, by simpa [srtI] using h, ⟨rfl, rfl, rfl, Nat.le_refl _, fun _ _ _ => rfl⟩⟩
  · rw [encI_flat] at htake
    refine (Try.slices_Sort_int g 0 cap xs w (holds_of_blockI hg (by simpa using htake)) (Array.getElem?_eq_some_iff.1 hg).1 (by omega)).mono ?_
    rintro e w' ⟨rfl, n, os, rfl⟩
    refine ⟨rfl, ?_, grownBy_sortedI _⟩
    have := ownsRow_sortedI (w := w) (n := n) (os := os) (srtI_len xs) hbg hg hnc hcm hcs
    unfold OV
    rw [srtI_len, encI_flat]
    exact this
end Go.Proofs.Ytenngfkgfdogjaa
namespace Go.Proofs.Ytenngfkgfdogjaa
open Go Go.RowKit Go.Shelf

theorem flatMap_two {α β : Type} (a b : α → List β) : ∀ l : List α, (l.flatMap fun x => a x ++ b x).Perm (l.flatMap a ++ l.flatMap b)
  | [] => List.Perm.refl _
  | x :: r => by
    simp only [List.flatMap_cons]
    have ih := flatMap_two a b r
    have h1 : (a x ++ b x ++ r.flatMap fun x => a x ++ b x).Perm (a x ++ b x ++ (r.flatMap a ++ r.flatMap b)) := List.Perm.append_left _ ih
    refine h1.trans ?_
    rw [List.append_assoc, List.append_assoc]
    refine List.Perm.append_left _ ?_
    rw [← List.append_assoc, ← List.append_assoc]
    exact List.Perm.append_right _ List.perm_append_comm
theorem one_at {β : Type} (y : β) (f G : Nat) (h : f < G) : ((List.range G).flatMap fun g => if f = g then [y] else []) = [y] := by
  have key : ∀ n, ((List.range n).flatMap fun g => if f = g then [y] else []) = if f < n then [y] else [] := by
    intro n
    induction n with
    | zero => simp
    | succ n ih =>
      rw [List.range_succ, List.flatMap_append, ih]
      simp only [List.flatMap_cons, List.flatMap_nil, List.append_nil]
      rcases Nat.lt_trichotomy f n with h1 | h1 | h1
      · rw [if_pos h1, if_neg (by omega), if_pos (by omega)]; rfl
      · rw [if_neg (by omega), if_pos h1, if_pos (by omega)]; rfl
      · rw [if_neg (by omega), if_neg (by omega), if_neg (by omega)]; rfl
  rw [key, if_pos h]
/-- What is parted by a number is, together, what it was. -/
theorem part_perm {α β : Type} (f : α → Nat) (m : α → β) (G : Nat) : ∀ l : List α, (∀ x ∈ l, f x < G) → ((List.range G).flatMap fun g => (l.filter fun x => decide (f x = g)).map m).Perm (l.map m)
  | [], _ => by simp
  | x :: r, h => by
    have ih := part_perm f m G r (fun y hy => h y (List.mem_cons_of_mem _ hy))
    have e : (fun g => ((x :: r).filter fun y => decide (f y = g)).map m) = fun g => (if f x = g then [m x] else []) ++ (r.filter fun y => decide (f y = g)).map m := by
      funext g
      rw [List.filter_cons]
      by_cases hg : f x = g
      · rw [if_pos (by simpa using hg), if_pos hg]; rfl
      · rw [if_neg (by simpa using hg), if_neg hg]; rfl
    rw [e]
    refine (flatMap_two _ _ _).trans ?_
    rw [one_at _ _ _ (h x (List.mem_cons_self ..))]
    exact List.Perm.append_left [m x] ih
def hereL (s : St) (cpu : Int) (g : Nat) : List Int := ((memL s (g : Nat) cpu).filter fun k => !k.sp).map Ky.id
theorem hereL_perm (s : St) (cpu : Int) (g : Nat) : (hereL s cpu g).Perm (((rdyL s cpu).filter fun t => decide (t.g = ((g : Nat) : Int))).map Tk.id) := by
  unfold hereL memL srtK
  refine (((List.mergeSort_perm _ _).filter _).map _).trans ?_
  rw [List.filter_append, List.map_append]
  have h2 : (grpK s (g : Nat) cpu).filter (fun k => !k.sp) = [] := by
    rw [List.filter_eq_nil_iff]
    intro k hk
    unfold grpK at hk
    obtain ⟨x, _, rfl⟩ := List.mem_map.1 hk
    simp [spKey]
  have h1 : (tksK s (g : Nat) cpu).filter (fun k => !k.sp) = tksK s (g : Nat) cpu := by
    rw [List.filter_eq_self]
    intro k hk
    unfold tksK at hk
    obtain ⟨x, _, rfl⟩ := List.mem_map.1 hk
    rfl
  rw [h2, h1, List.map_nil, List.append_nil]
  unfold tksK
  rw [List.map_map]
  exact List.Perm.refl _
def hereA (s : St) (cpu : Int) (n : Nat) : List Int := (List.range n).flatMap (hereL s cpu)
theorem hereA_succ (s : St) (cpu : Int) (n : Nat) : hereA s cpu (n + 1) = hereA s cpu n ++ hereL s cpu n := by
  unfold hereA
  rw [List.range_succ, List.flatMap_append, List.flatMap_cons, List.flatMap_nil, List.append_nil]
theorem flatMap_perm {α β : Type} {a b : α → List β} : ∀ l : List α, (∀ x ∈ l, (a x).Perm (b x)) → (l.flatMap a).Perm (l.flatMap b)
  | [], _ => List.Perm.refl _
  | x :: r, h => by
    rw [List.flatMap_cons, List.flatMap_cons]
    exact (h x (List.mem_cons_self ..)).append (flatMap_perm r fun y hy => h y (List.mem_cons_of_mem _ hy))
theorem hereA_perm {s : St} (h : Shp s) (cpu : Int) : (hereA s cpu s.gs.length).Perm ((rdyL s cpu).map Tk.id) := by
  unfold hereA
  refine (flatMap_perm (b := fun g => ((rdyL s cpu).filter fun t => decide (t.g.toNat = g)).map Tk.id) _ fun g _ => ?_).trans (part_perm (fun t => t.g.toNat) Tk.id s.gs.length (rdyL s cpu) fun t ht => ?_)
  · refine (hereL_perm s cpu g).trans (List.Perm.of_eq ?_)
    congr 1
    refine List.filter_congr fun t ht => ?_
    have := (tks_g h.tks t (List.mem_filter.1 ht).1).1
    exact decide_eq_decide.2 (by omega)
  · have := (tks_g h.tks t (List.mem_filter.1 ht).1).1
    omega
theorem ids_pw {s : St} (h : Shp s) : (s.ts.map Tk.id).Pairwise (· < ·) := List.pairwise_map.2 (tks_pw h.tks)
theorem rdy_ids_pw {s : St} (h : Shp s) (p : Tk → Bool) : ((s.ts.filter p).map Tk.id).Pairwise (· < ·) := List.pairwise_map.2 ((tks_pw h.tks).filter p)
theorem srt_perm {a b : List Int} (hp : a.Perm b) (hs : b.Pairwise (fun x y => x < y)) : srtI a = b := by
  have hb : b.Pairwise (fun x y => decide (x ≤ y) = true) := hs.imp (fun h => by simp; omega)
  have ha : (srtI a).Pairwise (fun x y => decide (x ≤ y) = true) := List.pairwise_mergeSort (fun a b c h1 h2 => by simp at *; omega) (fun a b => by simp; omega) a
  exact ((List.mergeSort_perm a _).trans hp).eq_of_pairwise (fun x y _ _ h1 h2 => by simp at h1 h2; omega) ha hb
/-- In one queue after the other: the ready tasks of a CPU. -/
theorem here_sort {s : St} (h : Shp s) (cpu : Int) : srtI (hereA s cpu s.gs.length) = (rdyL s cpu).map Tk.id := srt_perm (hereA_perm h cpu) (rdy_ids_pw h _)
theorem here_len {s : St} (h : Shp s) (cpu : Int) : (hereA s cpu s.gs.length).length ≤ 65535 := by
  rw [(hereA_perm h cpu).length_eq, List.length_map]
  have h1 : (rdyL s cpu).length ≤ s.ts.length := List.length_filter_le ..
  have := h.len
  omega
def allL (s : St) (n : Nat) : List Int := (List.range n).flatMap fun c => (rdyL s (c : Nat)).map Tk.id
theorem allL_succ (s : St) (n : Nat) : allL s (n + 1) = allL s n ++ (rdyL s (n : Nat)).map Tk.id := by
  unfold allL
  rw [List.range_succ, List.flatMap_append, List.flatMap_cons, List.flatMap_nil, List.append_nil]
theorem rdyL_eq {s : St} (h : Shp s) (c : Nat) : rdyL s (c : Nat) = (s.ts.filter Tk.rdy).filter fun t => decide (t.cpu.toNat = c) := by
  unfold rdyL
  rw [List.filter_filter]
  refine List.filter_congr fun t ht => ?_
  have := (tks_g h.tks t ht).2
  unfold rdyB
  rw [Bool.and_comm]
  congr 1
  exact decide_eq_decide.2 (by omega)
theorem allL_perm {s : St} (h : Shp s) {N : Nat} (hN : s.n = (N : Nat)) : (allL s N).Perm ((s.ts.filter Tk.rdy).map Tk.id) := by
  unfold allL
  refine (flatMap_perm (b := fun c => ((s.ts.filter Tk.rdy).filter fun t => decide (t.cpu.toNat = c)).map Tk.id) _ fun c _ => List.Perm.of_eq (by rw [rdyL_eq h])).trans (part_perm (fun t => t.cpu.toNat) Tk.id N (s.ts.filter Tk.rdy) fun t ht => ?_)
  have := (tks_g h.tks t (List.mem_filter.1 ht).1).2
  omega
theorem all_sort {s : St} (h : Shp s) {N : Nat} (hN : s.n = (N : Nat)) : srtI (allL s N) = (s.ts.filter Tk.rdy).map Tk.id := srt_perm (allL_perm h hN) (rdy_ids_pw h _)
theorem all_len {s : St} (h : Shp s) {N : Nat} (hN : s.n = (N : Nat)) : (allL s N).length ≤ 65535 := by
  rw [(allL_perm h hN).length_eq, List.length_map]
  have h1 : (s.ts.filter Tk.rdy).length ≤ s.ts.length := List.length_filter_le ..
  have := h.len
  omega
def sumL (s : St) (n : Nat) : Int := ((List.range n).map fun c => loadL (rdyL s (c : Nat))).sum
theorem sumL_succ (s : St) (n : Nat) : sumL s (n + 1) = sumL s n + loadL (rdyL s (n : Nat)) := by
  unfold sumL
  rw [List.range_succ, List.map_append, List.sum_append]; simp
theorem sum_flat (l : List Nat) (f : Nat → List Int) : (l.map fun c => (f c).sum).sum = (l.flatMap f).sum := by
  induction l with
  | nil => rfl
  | cons x r ih => simp only [List.map_cons, List.sum_cons, List.flatMap_cons, List.sum_append, ih]
theorem sum_perm {a b : List Int} (h : a.Perm b) : a.sum = b.sum := by
  induction h with
  | nil => rfl
  | cons x _ ih => simp [ih]
  | swap x y l => simp; omega
  | trans _ _ h1 h2 => exact h1.trans h2
def wantL (l : List Tk) : Int := loadL (l.filter Tk.rdy)
theorem sum_want {s : St} (h : Shp s) {N : Nat} (hN : s.n = (N : Nat)) : sumL s N = wantL s.ts := by
  unfold sumL wantL loadL
  rw [sum_flat]
  refine sum_perm ((flatMap_perm (b := fun c => ((s.ts.filter Tk.rdy).filter fun t => decide (t.cpu.toNat = c)).map Tk.wt) _ fun c _ => List.Perm.of_eq (by rw [rdyL_eq h])).trans (part_perm (fun t => t.cpu.toNat) Tk.wt N (s.ts.filter Tk.rdy) fun t ht => ?_))
  have := (tks_g h.tks t (List.mem_filter.1 ht).1).2
  omega
theorem wantL_snoc {l : List Tk} {j : Nat} {t : Tk} (ht : l[j]? = some t) : wantL (l.take (j + 1)) = wantL (l.take j) + if t.rdy then t.wt else 0 := by
  obtain ⟨hj, he⟩ := List.getElem?_eq_some_iff.1 ht
  unfold wantL loadL
  rw [List.take_succ_eq_append_getElem hj, he, List.filter_append, List.map_append, List.sum_append]
  cases h : t.rdy with
  | false => rw [List.filter_cons, if_neg (by rw [h]; simp)]; simp
  | true => rw [List.filter_cons, if_pos h]; simp
theorem all_mem {s : St} (h : Shp s) {N : Nat} (hN : s.n = (N : Nat)) {t : Tk} (ht : t ∈ s.ts) : t.id ∈ srtI (allL s N) ↔ t.rdy = true := by
  rw [all_sort h hN]
  constructor
  · intro hm
    obtain ⟨u, hu, e⟩ := List.mem_map.1 hm
    obtain ⟨h1, h2⟩ := List.mem_filter.1 hu
    have : u = t := by
      obtain ⟨i, hi⟩ := List.getElem?_of_mem h1
      obtain ⟨j, hj⟩ := List.getElem?_of_mem ht
      obtain ⟨l1, e1⟩ := List.getElem?_eq_some_iff.1 hi
      obtain ⟨l2, e2⟩ := List.getElem?_eq_some_iff.1 hj
      have hp := tks_pw h.tks
      rcases Nat.lt_trichotomy i j with k | rfl | k
      · have := List.pairwise_iff_getElem.1 hp i j l1 l2 k
        rw [e1, e2] at this; omega
      · rw [← e1, ← e2]
      · have := List.pairwise_iff_getElem.1 hp j i l2 l1 k
        rw [e1, e2] at this; omega
    rw [← this]; exact h2
  · intro hr
    exact List.mem_map.2 ⟨t, List.mem_filter.2 ⟨ht, hr⟩, rfl⟩
theorem all_next {s : St} (h : Shp s) {N : Nat} (hN : s.n = (N : Nat)) {i : Nat} {a b : Int} (ha : (srtI (allL s N))[i]? = some a) (hb : (srtI (allL s N))[i + 1]? = some b) : a < b := by
  rw [all_sort h hN] at ha hb
  obtain ⟨l1, e1⟩ := List.getElem?_eq_some_iff.1 ha
  obtain ⟨l2, e2⟩ := List.getElem?_eq_some_iff.1 hb
  have := List.pairwise_iff_getElem.1 (rdy_ids_pw h Tk.rdy) i (i + 1) l1 l2 (by omega)
  rw [e1, e2] at this; exact this
end Go.Proofs.Ytenngfkgfdogjaa
namespace Go.Proofs.Ytenngfkgfdogjaa
open Go Go.RowKit Go.Shelf
attribute [local go_sem] Oper.semAt_some

theorem findR_in {s : St} (h : Shp s) {id : Int} {t : Tk} (ht : t ∈ s.ts) (he : t.id = id) : (findR s id).2 = 0 := by
  unfold findR
  rw [if_pos (shp_iff.2 h)]
  cases hf : s.ts.findIdx? (fun t => t.id == id) with
  | none =>
    rw [List.findIdx?_eq_none_iff] at hf
    have := hf t ht
    simp [he] at this
  | some i => rfl
theorem findR_out {s : St} (h : Shp s) {id : Int} (ht : ∀ t ∈ s.ts, t.id ≠ id) : (findR s id).2 = 6 := by
  unfold findR
  rw [if_pos (shp_iff.2 h)]
  cases hf : s.ts.findIdx? (fun t => t.id == id) with
  | none => rfl
  | some i =>
    obtain ⟨hi, h1, _⟩ := List.findIdx?_eq_some_iff_getElem.1 hf
    exact absurd (eq_of_beq h1) (ht _ (List.getElem_mem hi))
theorem findR_at {s : St} (h : Shp s) {i : Nat} {t : Tk} (ht : s.ts[i]? = some t) : findR s t.id = ((i : Int), 0) := by
  refine findR_some (shp_iff.2 h) ht rfl fun x hx e => ?_
  obtain ⟨j, hj⟩ := List.getElem?_of_mem hx
  have hp := tks_pw h.tks
  obtain ⟨h1, e1⟩ := List.getElem?_eq_some_iff.1 ht
  rw [List.getElem?_take] at hj
  split at hj
  · obtain ⟨h2, e2⟩ := List.getElem?_eq_some_iff.1 hj
    have := List.pairwise_iff_getElem.1 hp j i h2 h1 (by assumption)
    rw [e1, e2] at this; omega
  · cases hj
/-- The law's own search, in one form. -/
theorem task_one {s : St} (h : Shp s) (w : World) (c : StC) (id : Int) (hat : StAt w c s) :
    Calls Try.prog 26 #[c.val s, .int .i64 id] w fun e w' => (∃ (t : Tk) (b : Bool), e = .returned (.tuple #[.agg #[.int .i64 t.id, .int .i64 t.g, .int .i64 t.wt, .int .i64 t.cpu, .int .u64 t.mask, .bool t.rdy, .int .u64 t.v, .int .u32 t.r], .bool b]) ∧ (b = true → t ∈ s.ts ∧ t.id = id) ∧ (b = false → ∀ u ∈ s.ts, u.id ≠ id)) ∧ Below w.heap.size w w' := by
  refine (task_ok w c s id hat h.len).mono ?_
  rintro e w' ⟨⟨t, h1, h2, rfl⟩ | ⟨h1, rfl⟩, b⟩
  · exact ⟨⟨t, true, rfl, (fun _ => ⟨h1, h2⟩), (fun h => by cases h)⟩, b⟩
  · exact ⟨⟨⟨0, 0, 0, 0, 0, false, 0, 0⟩, false, rfl, (fun h => by cases h), (fun _ => h1)⟩, b⟩
set_option maxRecDepth 100000 in
set_option maxHeartbeats 6400000 in
theorem loads_t53 (w w0 : World) (X : Nat) (c : StC) (s : St) (id S : Int) {u0 u1 u2 u4 u5 u6 u7 u8 u12 u13 u14 u15 u16 u17 u18 u19 u20 u21 u22 u23 u24 u25 u26 u27 u28 u29 u30 u31 u32 u33 u34 u35 u36 u37 u38 u39 u40 u41 u42 u43 u44 u45 u46 u47 u48 u49 u50 u51 u52 u53 u54 u55 u56 u57 u58 u59 u60 u61 u62 u63 u64 u65 u66 u67 u68 u69 u70 u71 u72 u73 u74 u75 u76 u77 u78 u79 u80 u81 u82 u83 u84 u85 u86 u87 u88 u89 u90 u91 u92 u93 u94 u95 u96 u97 u98 u99 u100 u101 u102 u103 u104 u105 u106 u107 u108 u109 u110 u111 u112 u113 u114 u115 u116 u117 u118 u119 u120 u121 u122 u123 u124 u125 u126 u127 u128 u129 u130 u131 u132 u133 u134 u135 u136 u137 u138 u139 u140 u141 u142 u143 u144 u145 u146 u147 u148 u149 u150 u151 u152 u153 u154 u155 u156 u157 u158 u159 u160 u161 u162 u163 u164 u165 u166 u167 u168 u169 u170 u171 u172 u173 u174 u175 u176 u177 u178 u179 u180 u181 u182 u183 u184 u185 u186 u187 u188 u189 u190 u191 u192 u193 u194 u195 u196 u197 u198 u199 u200 u201 u202 u203 u204 u205 u206 u207 u208 u209 u210 u211 u212 u213 u214 u215 u216 u217 u218 u219 u220 u221 u222 u223 u224 u225 : Value} (hat : StAt w0 c s) (bx : StBox w0 X c s) (hb : Below w.heap.size w w0) (hs : Shp s) :
    Code.wp Try.prog (tailR Try.f11 53) (bodyPost Try.prog Try.f11 fun e w' => e = .returned (.bool true) ∧ Below w.heap.size w w')
      ⟨#[u0, u1, u2, .int .i64 id, u4, u5, u6, u7, u8, .pointer (some ⟨X, 0, none⟩), .int .i64 S, .int .i64 S, u12, u13, u14, u15, u16, u17, u18, u19, u20, u21, u22, u23, u24, u25, u26, u27, u28, u29, u30, u31, u32, u33, u34, u35, u36, u37, u38, u39, u40, u41, u42, u43, u44, u45, u46, u47, u48, u49, u50, u51, u52, u53, u54, u55, u56, u57, u58, u59, u60, u61, u62, u63, u64, u65, u66, u67, u68, u69, u70, u71, u72, u73, u74, u75, u76, u77, u78, u79, u80, u81, u82, u83, u84, u85, u86, u87, u88, u89, u90, u91, u92, u93, u94, u95, u96, u97, u98, u99, u100, u101, u102, u103, u104, u105, u106, u107, u108, u109, u110, u111, u112, u113, u114, u115, u116, u117, u118, u119, u120, u121, u122, u123, u124, u125, u126, u127, u128, u129, u130, u131, u132, u133, u134, u135, u136, u137, u138, u139, u140, u141, u142, u143, u144, u145, u146, u147, u148, u149, u150, u151, u152, u153, u154, u155, u156, u157, u158, u159, u160, u161, u162, u163, u164, u165, u166, u167, u168, u169, u170, u171, u172, u173, u174, u175, u176, u177, u178, u179, u180, u181, u182, u183, u184, u185, u186, u187, u188, u189, u190, u191, u192, u193, u194, u195, u196, u197, u198, u199, u200, u201, u202, u203, u204, u205, u206, u207, u208, u209, u210, u211, u212, u213, u214, u215, u216, u217, u218, u219, u220, u221, u222, u223, u224, u225], []⟩ w0 := by
  conv => arg 2; whnf
  conv => arg 4; dsimp only
  have F : Facts w0 [sSA c s, sSB X c s, sB w] := ⟨hat, bx, hb, trivial⟩
  have TA := Lib.hid (task_one hs w0 c id hat)
  have HS := Lib.hid hs
  unfold StC.val StC.cells at TA
  obtain ⟨b0, b1, b2, b3, b4, b5, b6⟩ := bx.cell
  clear hat bx hb hs
  go_wp2_with fail
  refine TA.out.mono ?_
  rintro e w2 ⟨⟨t, b, rfl, h1, h2⟩, bb⟩
  have HF := Lib.hid (show (findR s id).2 = (if b then 0 else 6) from by
    cases b
    · exact findR_out HS.out (h2 rfl)
    · exact findR_in HS.out (h1 rfl).1 (h1 rfl).2)
  replace F := F.below bb
  clear bb b0 b1 b2 b3 b4 b5 b6 h1 h2 TA
  go_upto_region 54 with fail
  have A1 := bel_alloc w2 (.cells #[.int .i64 t.id, .int .i64 t.g, .int .i64 t.wt, .int .i64 t.cpu, .int .u64 t.mask, .bool t.rdy, .int .u64 t.v, .int .u32 t.r] 61)
  replace F := F.below A1
  generalize w2.alloc (.cells #[.int .i64 t.id, .int .i64 t.g, .int .i64 t.wt, .int .i64 t.cpu, .int .u64 t.mask, .bool t.rdy, .int .u64 t.v, .int .u32 t.r] 61) = w3 at F ⊢
  clear A1
  have FI := Lib.hid (find_pub2 w3 c s id (F.get 0) HS.out.stb)
  rw [HF.out] at FI
  unfold StC.val StC.cells at FI
  generalize (findR s id).1 = z at FI
  obtain ⟨b0, b1, b2, b3, b4, b5, b6⟩ := (F.get 1 : StBox w3 X c s).cell
  cases b
  all_goals
    simp only [Bool.false_eq_true, if_false, if_true] at FI
    go_wp2_with fail
    refine FI.out.mono ?_
    rintro e w4 ⟨rfl, bb⟩
    have BF := Lib.hid (F.below bb |>.get 2 : Below w.heap.size w w4)
    clear bb F FI b0 b1 b2 b3 b4 b5 b6
    go_wp2
    go_ret
    exact ⟨rfl, BF.out⟩
set_option maxRecDepth 100000 in
set_option maxHeartbeats 6400000 in
theorem loads_t46 (w w0 : World) (X N : Nat) (c : StC) (s : St) (id S : Int) (va : Value) {u0 u1 u2 u4 u5 u6 u7 u8 u12 u13 u15 u16 u17 u18 u19 u20 u21 u22 u23 u24 u25 u26 u27 u28 u29 u30 u31 u32 u33 u34 u35 u36 u37 u38 u39 u40 u41 u42 u43 u44 u45 u46 u47 u48 u49 u50 u51 u52 u53 u54 u55 u56 u57 u58 u59 u60 u61 u62 u63 u64 u65 u66 u67 u68 u69 u70 u71 u72 u73 u74 u75 u76 u77 u78 u79 u80 u81 u82 u83 u84 u85 u86 u87 u88 u89 u90 u91 u92 u93 u94 u95 u96 u97 u98 u99 u100 u101 u102 u103 u104 u105 u106 u107 u108 u109 u110 u111 u112 u113 u114 u115 u116 u117 u118 u119 u120 u121 u122 u123 u124 u125 u126 u127 u128 u129 u130 u131 u132 u133 u134 u135 u136 u137 u138 u139 u140 u141 u142 u143 u144 u145 u146 u147 u148 u149 u150 u151 u152 u153 u154 u155 u156 u157 u158 u159 u160 u161 u162 u163 u164 u165 u166 u167 u168 u169 u170 u171 u172 u173 u174 u175 u176 u177 u178 u179 u180 u181 u182 u183 u184 u185 u186 u187 u188 u189 u190 u191 u192 u193 u194 u195 u196 u197 u198 u199 u200 u201 u202 u203 u204 u205 u206 u207 u208 u209 u210 u211 u212 u213 u214 u215 u216 u217 u218 u219 u220 u221 u222 u223 u224 u225 : Value} (hat : StAt w0 c s) (bx : StBox w0 X c s) (hb : Below w.heap.size w w0) (hs : Shp s) (hN : s.n = (N : Nat)) (ha : EV encI 1 w0 va (srtI (allL s N))) :
    Code.wp Try.prog (tailR Try.f11 46) (bodyPost Try.prog Try.f11 fun e w' => e = .returned (.bool true) ∧ Below w.heap.size w w')
      ⟨#[u0, u1, u2, .int .i64 id, u4, u5, u6, u7, u8, .pointer (some ⟨X, 0, none⟩), .int .i64 S, .int .i64 S, u12, u13, va, u15, u16, u17, u18, u19, u20, u21, u22, u23, u24, u25, u26, u27, u28, u29, u30, u31, u32, u33, u34, u35, u36, u37, u38, u39, u40, u41, u42, u43, u44, u45, u46, u47, u48, u49, u50, u51, u52, u53, u54, u55, u56, u57, u58, u59, u60, u61, u62, u63, u64, u65, u66, u67, u68, u69, u70, u71, u72, u73, u74, u75, u76, u77, u78, u79, u80, u81, u82, u83, u84, u85, u86, u87, u88, u89, u90, u91, u92, u93, u94, u95, u96, u97, u98, u99, u100, u101, u102, u103, u104, u105, u106, u107, u108, u109, u110, u111, u112, u113, u114, u115, u116, u117, u118, u119, u120, u121, u122, u123, u124, u125, u126, u127, u128, u129, u130, u131, u132, u133, u134, u135, u136, u137, u138, u139, u140, u141, u142, u143, u144, u145, u146, u147, u148, u149, u150, u151, u152, u153, u154, u155, u156, u157, u158, u159, u160, u161, u162, u163, u164, u165, u166, u167, u168, u169, u170, u171, u172, u173, u174, u175, u176, u177, u178, u179, u180, u181, u182, u183, u184, u185, u186, u187, u188, u189, u190, u191, u192, u193, u194, u195, u196, u197, u198, u199, u200, u201, u202, u203, u204, u205, u206, u207, u208, u209, u210, u211, u212, u213, u214, u215, u216, u217, u218, u219, u220, u221, u222, u223, u224, u225], []⟩ w0 := by
  conv => arg 2; whnf
  conv => arg 4; dsimp only
  have F : Facts w0 [sSA c s, sSB X c s] := ⟨hat, bx, trivial⟩
  have hla := all_len hs hN
  have AM := Lib.hid (fun (t : Tk) (ht : t ∈ s.ts) => all_mem hs hN ht)
  obtain ⟨l, hl⟩ : ∃ l, srtI (allL s N) = l := ⟨_, rfl⟩
  have hll : l.length ≤ 65535 := by rw [← hl, srtI_len]; exact hla
  rw [hl] at AM ha
  have HA := Lib.hid ha
  obtain ⟨Aa, ca, hva⟩ := ha.shape
  obtain ⟨T, hT⟩ : ∃ T, s.ts.length = T := ⟨_, rfl⟩
  obtain ⟨At, ct, hvt⟩ := hat.et.shape
  rw [hT] at hvt
  have hT1 : T ≤ 65535 := by have := hs.len; omega
  have HF := Lib.hid F
  have HB := Lib.hid hb
  have HS := Lib.hid hs
  have HT := Lib.hid hT
  have HVT := Lib.hid hvt
  have HLL := Lib.hid hll
  obtain ⟨b0, b1, b2, b3, b4, b5, b6⟩ := bx.cell
  rw [hvt] at b5
  subst hva
  have hsz := hb.size
  clear F hat bx hb hs hN ha hla hl hT hvt hll b0 b1 b2 b3 b4 b6
  go_upto_block 10 with fail
  go_cut [] (fun wx => Below w0.heap.size w0 wx)
  case first =>
    go_wp2_with fail
    go_loopg [167] T (fun k i wr => ∃ j : Nat, j + k = T ∧ i = .int .i64 j ∧ Below w0.heap.size w0 wr)
    case atStart => exact ⟨0, by omega, rfl, Below.refl _ _⟩
    case round =>
      obtain ⟨j, hj, rfl, hbr⟩ := hrel
      have HJ := Lib.hid hj
      have HBR := Lib.hid hbr
      have hsw := hbr.size
      clear hj b5
      by_cases hlt : j < T
      · have hd : decide ((j : Int) < (T : Int)) = true := by rw [decide_eq_true_eq]; omega
        obtain ⟨t, ht⟩ : ∃ t, s.ts[j]? = some t := ⟨_, List.getElem?_eq_getElem (by rw [HT.out]; exact hlt)⟩
        have ER := ((HF.out.below hbr).get 0 : StAt wr c s).et
        rw [HVT.out] at ER
        obtain ⟨b, off, c', hv, _, r⟩ := ER.row (by rw [HT.out]; omega)
        rw [HT.out] at hv
        simp only [Value.slice.injEq] at hv
        obtain ⟨rfl, _, rfl⟩ := hv
        obtain ⟨c0, c1, c2, c3, c4, c5, c6, c7⟩ := r.tk ht
        have FI := Lib.hid (fun W (h : StAt W c s) => find_pub2 W c s t.id h HS.out.stb)
        rw [findR_at HS.out ht] at FI
        have CO := Lib.hid (fun W (h : Below w0.heap.size w0 W) => contains_int W (.slice Aa l.length ca) l t.id (HA.out.below h) (by have := HLL.out; omega))
        have hmem := AM.out t (List.mem_of_getElem? ht)
        have hcr : l.contains t.id = t.rdy := by
          rcases hrd : t.rdy with _ | _
          · cases hx : l.contains t.id with
            | false => rfl
            | true =>
              have := hmem.1 (by simpa using hx)
              rw [hrd] at this; cases this
          · have := hmem.2 hrd
            simpa using this
        rw [hcr] at CO
        unfold StC.val StC.cells at FI
        clear ER r ht hbr hmem hcr
        go_upto_region 49 with fail
        have A1 := bel_alloc wr (.cells #[.int .i64 t.id, .int .i64 t.g, .int .i64 t.wt, .int .i64 t.cpu, .int .u64 t.mask, .bool t.rdy, .int .u64 t.v, .int .u32 t.r] 61)
        have K := newTk wr t rfl
        generalize wr.alloc (.cells #[.int .i64 t.id, .int .i64 t.g, .int .i64 t.wt, .int .i64 t.cpu, .int .u64 t.mask, .bool t.rdy, .int .u64 t.v, .int .u32 t.r] 61) = w1 at A1 K ⊢
        obtain ⟨Z, hZ⟩ : ∃ Z, wr.heap.size = Z := ⟨_, rfl⟩
        rw [hZ] at K ⊢
        have HK := Lib.hid K
        have B1 := Lib.hid (HBR.out.trans (A1.mono hsw))
        obtain ⟨d0, d1, d2, d3, d4, d5, d6, d7⟩ := K.tk (i := 0) rfl
        simp only [Nat.zero_mul, Nat.add_zero, Nat.zero_add] at d0 d1 d2 d3 d4 d5 d6 d7
        obtain ⟨b0, b1, b2, b3, b4, b5, b6⟩ := ((HF.out.below B1.out).get 1 : StBox w1 X c s).cell
        clear c0 c1 c2 c3 c4 c5 c6 c7 A1 K hZ
        go_wp2_with fail
        refine (FI.out w1 ((HF.out.below B1.out).get 0)).mono ?_
        rintro e w2 ⟨rfl, bb⟩
        have B2 := Lib.hid (B1.out.trans (bb.mono B1.out.size))
        have K2 := HK.out.below bb
        clear d0 d1 d2 d3 d4 d5 d6 d7 b0 b1 b2 b3 b4 b5 b6 bb FI
        obtain ⟨d0, d1, d2, d3, d4, d5, d6, d7⟩ := K2.tk (i := 0) rfl
        simp only [Nat.zero_mul, Nat.add_zero, Nat.zero_add] at d0 d1 d2 d3 d4 d5 d6 d7
        clear K2 d1 d2 d3 d4 d6 d7
        have CQ := Lib.hid (fun n => (CO.out (w2.drewN n) (below_drewN B2.out n)).mono (fun e w' h => (⟨h.1, 0, h.2.symm⟩ : e = .returned (.bool t.rdy) ∧ ∃ q, w' = (w2.drewN n).drewN q)))
        generalize t.rdy = rd at CQ d5
        clear CO HK
        go_upto_region 50 with fail
        cases rd
        all_goals
          go_quiet ((go_at_call 37; exact Calls.quiet_of (CQ.out _)))
          have B3 := Lib.hid (below_drewN B2.out nq)
          generalize w2.drewN nq = w3 at B3 ⊢
          clear d0 d5 CQ
          go_wp2
          go_roundg (gk - 1)
          case measure => have := HJ.out; omega
          case rel => exact ⟨j + 1, by have := HJ.out; omega, by go_num, B3.out⟩
      · have hd : decide ((j : Int) < (T : Int)) = false := by rw [decide_eq_false_iff_not]; omega
        clear hbr
        go_wp2
        go_meet
        exact HBR.out
  case rest =>
    have F := HF.out.below hcut
    refine (‹∀ (a : Act) (w : World), Code.wp _ _ _ a w → _› : ∀ (a : Act) (w : World), _ → _) _ _ (loads_t53 w _ X c s id S (F.get 0) (F.get 1) (HB.out.trans (hcut.mono hsz)) HS.out)
set_option maxRecDepth 100000 in
set_option maxHeartbeats 6400000 in
theorem loads_t40 (w w0 : World) (X N base : Nat) (c : StC) (s : St) (id S : Int) (va : Value) {u0 u1 u2 u4 u5 u6 u7 u8 u12 u13 u15 u16 u17 u18 u19 u20 u21 u22 u23 u24 u25 u26 u27 u28 u29 u30 u31 u32 u33 u34 u35 u36 u37 u38 u39 u40 u41 u42 u43 u44 u45 u46 u47 u48 u49 u50 u51 u52 u53 u54 u55 u56 u57 u58 u59 u60 u61 u62 u63 u64 u65 u66 u67 u68 u69 u70 u71 u72 u73 u74 u75 u76 u77 u78 u79 u80 u81 u82 u83 u84 u85 u86 u87 u88 u89 u90 u91 u92 u93 u94 u95 u96 u97 u98 u99 u100 u101 u102 u103 u104 u105 u106 u107 u108 u109 u110 u111 u112 u113 u114 u115 u116 u117 u118 u119 u120 u121 u122 u123 u124 u125 u126 u127 u128 u129 u130 u131 u132 u133 u134 u135 u136 u137 u138 u139 u140 u141 u142 u143 u144 u145 u146 u147 u148 u149 u150 u151 u152 u153 u154 u155 u156 u157 u158 u159 u160 u161 u162 u163 u164 u165 u166 u167 u168 u169 u170 u171 u172 u173 u174 u175 u176 u177 u178 u179 u180 u181 u182 u183 u184 u185 u186 u187 u188 u189 u190 u191 u192 u193 u194 u195 u196 u197 u198 u199 u200 u201 u202 u203 u204 u205 u206 u207 u208 u209 u210 u211 u212 u213 u214 u215 u216 u217 u218 u219 u220 u221 u222 u223 u224 u225 : Value} (hat : StAt w0 c s) (bx : StBox w0 X c s) (hb : Below w.heap.size w w0) (hs : Shp s) (hN : s.n = (N : Nat)) (ha : OV encI 1 3 base w0 va (allL s N))
    (wb : World) (hab : StAt wb c s) (bxb : StBox wb X c s) (hbb : Below w.heap.size w wb) (hw0 : Below wb.heap.size wb w0) (hbase : base = wb.heap.size) :
    Code.wp Try.prog (tailR Try.f11 40) (bodyPost Try.prog Try.f11 fun e w' => e = .returned (.bool true) ∧ Below w.heap.size w w')
      ⟨#[u0, u1, u2, .int .i64 id, u4, u5, u6, u7, u8, .pointer (some ⟨X, 0, none⟩), .int .i64 S, .int .i64 S, u12, u13, va, u15, u16, u17, u18, u19, u20, u21, u22, u23, u24, u25, u26, u27, u28, u29, u30, u31, u32, u33, u34, u35, u36, u37, u38, u39, u40, u41, u42, u43, u44, u45, u46, u47, u48, u49, u50, u51, u52, u53, u54, u55, u56, u57, u58, u59, u60, u61, u62, u63, u64, u65, u66, u67, u68, u69, u70, u71, u72, u73, u74, u75, u76, u77, u78, u79, u80, u81, u82, u83, u84, u85, u86, u87, u88, u89, u90, u91, u92, u93, u94, u95, u96, u97, u98, u99, u100, u101, u102, u103, u104, u105, u106, u107, u108, u109, u110, u111, u112, u113, u114, u115, u116, u117, u118, u119, u120, u121, u122, u123, u124, u125, u126, u127, u128, u129, u130, u131, u132, u133, u134, u135, u136, u137, u138, u139, u140, u141, u142, u143, u144, u145, u146, u147, u148, u149, u150, u151, u152, u153, u154, u155, u156, u157, u158, u159, u160, u161, u162, u163, u164, u165, u166, u167, u168, u169, u170, u171, u172, u173, u174, u175, u176, u177, u178, u179, u180, u181, u182, u183, u184, u185, u186, u187, u188, u189, u190, u191, u192, u193, u194, u195, u196, u197, u198, u199, u200, u201, u202, u203, u204, u205, u206, u207, u208, u209, u210, u211, u212, u213, u214, u215, u216, u217, u218, u219, u220, u221, u222, u223, u224, u225], []⟩ w0 := by
  conv => arg 2; whnf
  conv => arg 4; dsimp only
  subst hbase
  have hla := all_len hs hN
  have SO := Lib.hid (sort_int w0 va (allL s N) _ ha (by omega))
  have NX := Lib.hid (fun (a b : Int) (i : Nat) (h1 : (srtI (allL s N))[i]? = some a) (h2 : (srtI (allL s N))[i + 1]? = some b) => all_next hs hN h1 h2)
  have hll : (srtI (allL s N)).length ≤ 65535 := by rw [srtI_len]; exact hla
  have HLK := Lib.hid (fun k hk => (ha.block k hk).1)
  have HS := Lib.hid hs
  have HN := Lib.hid hN
  have HAB := Lib.hid hab
  have BXB := Lib.hid bxb
  have HBB := Lib.hid hbb
  have HW0 := Lib.hid hw0
  clear hat bx hb hs hN ha hab bxb hbb hw0 hla
  go_wp2_with fail
  refine SO.out.mono ?_
  rintro e w1 ⟨rfl, oa, gr⟩
  have B1 := Lib.hid (HW0.out.grown gr HW0.out.size HLK.out)
  have EA := Lib.hid (oa.ev encI_len)
  clear oa gr SO HLK
  obtain ⟨l, hl⟩ : ∃ l, srtI (allL s N) = l := ⟨_, rfl⟩
  rw [hl] at EA NX hll
  have EAX := Lib.hid hl
  clear hl
  obtain ⟨Aa, ca, hva⟩ := EA.out.shape
  obtain ⟨M, hM⟩ : ∃ M, l.length = M := ⟨_, rfl⟩
  have HM := Lib.hid hM
  rw [hM] at hva hll
  subst hva
  clear hM
  go_upto_block 8 with fail
  go_cut [] (fun wx => Below w1.heap.size w1 wx)
  case first =>
    go_wp2_with fail
    go_loopg [28] M (fun k i wr => ∃ j : Nat, j + k = M + 1 ∧ 1 ≤ j ∧ i = .int .i64 j ∧ Below w1.heap.size w1 wr)
    case atStart => exact ⟨1, by omega, by omega, rfl, Below.refl _ _⟩
    case round =>
      obtain ⟨j, hj, hj1, rfl, hbr⟩ := hrel
      have HJ := Lib.hid hj
      have HBR := Lib.hid hbr
      have hsw := hbr.size
      clear hj
      by_cases hlt : j < M
      · have hd : decide ((j : Int) < (M : Int)) = true := by rw [decide_eq_true_eq]; omega
        obtain ⟨r, hr⟩ : ∃ r, r + 1 = j := ⟨j - 1, by omega⟩
        obtain ⟨x, hx⟩ : ∃ x, l[r]? = some x := ⟨_, List.getElem?_eq_getElem (by rw [HM.out]; omega)⟩
        obtain ⟨y, hy⟩ : ∃ y, l[j]? = some y := ⟨_, List.getElem?_eq_getElem (by rw [HM.out]; omega)⟩
        have hxy := NX.out x y r hx (hr ▸ hy)
        have q1 : (y == x) = false := by rw [beq_eq_false_iff_ne]; omega
        have q2 : decide (y = x) = false := by rw [decide_eq_false_iff_not]; omega
        obtain ⟨b, off, c', hv, _, rr⟩ := (EA.out.below hbr).row (by rw [HM.out]; omega)
        rw [HM.out] at hv
        simp only [Value.slice.injEq] at hv
        obtain ⟨rfl, _, rfl⟩ := hv
        have p0 := rr.i1 hx
        have p1 := rr.i1 hy
        have w2 : IntKind.i64.wrap ((j : Int) - 1) = (r : Int) := by rw [IntWalk.i64_in _ (by omega)]; omega
        have i0 : (0 : Int) ≤ (r : Int) := by omega
        have i1 : (r : Int) < (M : Int) := by omega
        have i2 : r < M := by omega
        have i3 : (0 : Int) ≤ (j : Int) := by omega
        have i4 : (j : Int) < (M : Int) := by omega
        clear hx hy rr hbr hr hxy
        go_upto_region 44 with fail
        go_quiet (fail)
        have B3 := Lib.hid (below_drewN HBR.out nq)
        generalize wr.drewN nq = w3 at B3 ⊢
        clear p0 p1
        go_wp2
        go_roundg (M - j)
        case measure => have := HJ.out; omega
        case rel => exact ⟨j + 1, by omega, by omega, by go_num, B3.out⟩
      · have hd : decide ((j : Int) < (M : Int)) = false := by rw [decide_eq_false_iff_not]; omega
        clear hbr
        go_wp2
        go_meet
        exact HBR.out
  case rest =>
    have BF := B1.out.trans (hcut.mono B1.out.size)
    refine (‹∀ (a : Act) (w : World), Code.wp _ _ _ a w → _› : ∀ (a : Act) (w : World), _ → _) _ _ (loads_t46 w _ X N c s id S (.slice Aa M ca) (HAB.out.below BF) (BXB.out.below BF) (HBB.out.trans (BF.mono HBB.out.size)) HS.out HN.out (by rw [EAX.out]; exact EA.out.below hcut))
end Go.Proofs.Ytenngfkgfdogjaa

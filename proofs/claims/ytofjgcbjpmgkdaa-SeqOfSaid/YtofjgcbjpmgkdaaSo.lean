/- Plain laws for package seq's Of: a fold over the sorted numbers. -/
import Derived.Test.YtofjgcbjpmgkdaaSg
set_option linter.unusedVariables false
set_option linter.unusedSimpArgs false
set_option linter.unusedSectionVars false
namespace Go.Proofs.Ytofjgcbjpmgkdaa
open Go.RowKit Go.Shelf

structure Os where
  set : List (Int × Int)
  tw : List Int
  last : Int
  ag : Int
def Os.st (s : Os) (n : Int) : Os :=
  ⟨if n = s.last then s.set else addR s.set (n, 1), if n = s.last ∧ n ≠ s.ag then s.tw ++ [n] else s.tw, n, if n = s.last ∧ n ≠ s.ag then n else s.ag⟩
def os0 : Os := ⟨[], [], 0, 0⟩
def ofS (ns : List Int) : Os := ns.foldl Os.st os0
def okN (n : Int) : Bool := decide (1 ≤ n ∧ n ≤ 281474976710656)
def ofE (ns : List Int) : Int := if 65536 < ns.length then 5 else if ns.all okN then 0 else 2
def ofL (ns : List Int) : List (Int × Int) := if ofE ns = 0 then (ofS (srtI ns)).set else []
def ofT (ns : List Int) : List Int := if ofE ns = 0 then (ofS (srtI ns)).tw else []

theorem ofS_snoc (ns : List Int) (n : Int) : ofS (ns ++ [n]) = (ofS ns).st n := by unfold ofS; rw [List.foldl_append]; rfl

structure OsOk (pre : List Int) (s : Os) : Prop where
  can : Can 0 s.set
  has : ∀ n, hasR s.set n = decide (n ∈ pre)
  slen : s.set.length ≤ pre.length
  tlen : s.tw.length ≤ pre.length
  le : ∀ n ∈ pre, n ≤ s.last
  lastM : s.last ≠ 0 → s.last ∈ pre
  lo : 0 ≤ s.last
  hi : s.last ≤ 281474976710656
  e : endR 0 s.set ≤ s.last + 1
  pw : s.tw.Pairwise (· < ·)
  tm : ∀ n, n ∈ s.tw ↔ 2 ≤ pre.count n
  tle : ∀ n ∈ s.tw, n ≤ s.ag
  agM : s.ag ≠ 0 → s.ag ∈ s.tw
  agle : s.ag ≤ s.last
  aglo : 0 ≤ s.ag

theorem os0_ok : OsOk [] os0 := by
  refine ⟨can_nil _, fun n => by simp [os0, hasR_nil], by simp [os0], by simp [os0], by simp, fun h => absurd rfl h, by simp [os0], by simp [os0], by simp [os0, endR], by simp [os0], by simp [os0], by simp [os0], fun h => absurd rfl h, by simp [os0], by simp [os0]⟩

theorem OsOk.st {pre : List Int} {s : Os} {n : Int} (h : OsOk pre s) (h1 : 1 ≤ n) (h2 : n ≤ 281474976710656) (hs : s.last ≤ n) : OsOk (pre ++ [n]) (s.st n) := by
  have hle : ∀ m ∈ pre ++ [n], m ≤ n := fun m hm => by
    rcases List.mem_append.1 hm with hm | hm
    · exact Int.le_trans (h.le m hm) hs
    · simp at hm; omega
  by_cases he : n = s.last
  · have hin : n ∈ pre := by rw [he]; exact h.lastM (by omega)
    have hmem : ∀ m, (m ∈ pre ++ [n]) ↔ m ∈ pre := fun m => by
      rw [List.mem_append]
      exact ⟨fun hm => hm.elim id (fun hm => by simp at hm; rw [hm]; exact hin), .inl⟩
    have hc1 : 1 ≤ pre.count n := List.count_pos_iff.2 hin
    by_cases ha : n = s.ag
    · have hst : s.st n = ⟨s.set, s.tw, n, s.ag⟩ := by unfold Os.st; rw [if_pos he, if_neg (fun x => x.2 ha), if_neg (fun x => x.2 ha)]
      have htw : n ∈ s.tw := by rw [ha]; exact h.agM (by omega)
      have hc2 := (h.tm n).1 htw
      rw [hst]
      exact ⟨h.can, fun m => by rw [h.has m]; simp only [hmem], by simpa using Nat.le_succ_of_le h.slen, by simpa using Nat.le_succ_of_le h.tlen, hle, fun _ => by simp, by show 0 ≤ n; omega, h2, by show endR 0 s.set ≤ n + 1; have := h.e; omega, h.pw,
        fun m => by
          rw [show (m ∈ (⟨s.set, s.tw, n, s.ag⟩ : Os).tw) = (m ∈ s.tw) from rfl, h.tm m, List.count_append, List.count_singleton]
          by_cases hm : n = m
          · subst hm; simp only [beq_self_eq_true, if_true]; omega
          · rw [if_neg (by simpa using hm)]; rfl, h.tle, h.agM, by show s.ag ≤ n; omega, h.aglo⟩
    · have hst : s.st n = ⟨s.set, s.tw ++ [n], n, n⟩ := by unfold Os.st; rw [if_pos he, if_pos ⟨he, ha⟩, if_pos ⟨he, ha⟩]
      have hal := h.agle
      have hno : n ∉ s.tw := fun hm => by have := h.tle n hm; omega
      have hc2 : ¬ 2 ≤ pre.count n := fun hm => hno ((h.tm n).2 hm)
      rw [hst]
      exact ⟨h.can, fun m => by rw [h.has m]; simp only [hmem], by simpa using Nat.le_succ_of_le h.slen, by simpa using h.tlen, hle, fun _ => by simp, by show 0 ≤ n; omega, h2, by show endR 0 s.set ≤ n + 1; have := h.e; omega,
        by
          rw [show (⟨s.set, s.tw ++ [n], n, n⟩ : Os).tw = s.tw ++ [n] from rfl, List.pairwise_append]
          exact ⟨h.pw, List.pairwise_singleton _ _, fun a hm b hb => by simp at hb; subst hb; have := h.tle a hm; show a < b; omega⟩,
        fun m => by
          rw [show (m ∈ (⟨s.set, s.tw ++ [n], n, n⟩ : Os).tw) = (m ∈ s.tw ++ [n]) from rfl, List.mem_append, h.tm m, List.count_append, List.count_singleton]
          by_cases hm : n = m
          · subst hm; simp only [beq_self_eq_true, if_true, List.mem_singleton, or_true, true_iff]; omega
          · rw [if_neg (by simpa using hm), List.mem_singleton]
            exact ⟨fun x => x.elim id (fun x => absurd x.symm hm), .inl⟩,
        fun m hm => by
          rw [show (m ∈ (⟨s.set, s.tw ++ [n], n, n⟩ : Os).tw) = (m ∈ s.tw ++ [n]) from rfl, List.mem_append, List.mem_singleton] at hm
          show m ≤ n
          rcases hm with hm | hm
          · have := h.tle m hm; omega
          · omega,
        fun _ => by show n ∈ s.tw ++ [n]; simp, Int.le_refl _, by show 0 ≤ n; omega⟩
  · have hni : n ∉ pre := fun hm => by have := h.le n hm; omega
    have hc0 : pre.count n = 0 := List.count_eq_zero.2 hni
    have hst : s.st n = ⟨addR s.set (n, 1), s.tw, n, s.ag⟩ := by unfold Os.st; rw [if_neg he, if_neg (fun x => he x.1), if_neg (fun x => he x.1)]
    obtain ⟨a1, a2, a3⟩ := addR_spec h.can (p := n) (c := 1) (by have := h.e; omega) h1 (by omega) (by omega)
    rw [hst]
    exact ⟨a1, fun m => by
        rw [show hasR (⟨addR s.set (n, 1), s.tw, n, s.ag⟩ : Os).set m = hasR (addR s.set (n, 1)) m from rfl, a3 m, h.has m, Bool.eq_iff_iff]
        simp only [Bool.or_eq_true, decide_eq_true_eq, List.mem_append, List.mem_singleton]
        exact or_congr Iff.rfl ⟨fun x => by omega, fun x => by omega⟩,
      by have := addR_len s.set (n, 1); have := h.slen; show (addR s.set (n, 1)).length ≤ _; rw [List.length_append]; simp; omega, by simpa using Nat.le_succ_of_le h.tlen, hle, fun _ => by simp, by show 0 ≤ n; omega, h2,
      by show endR 0 (addR s.set (n, 1)) ≤ n + 1; omega, h.pw,
      fun m => by
        rw [show (m ∈ (⟨addR s.set (n, 1), s.tw, n, s.ag⟩ : Os).tw) = (m ∈ s.tw) from rfl, h.tm m, List.count_append, List.count_singleton]
        by_cases hm : n = m
        · subst hm; simp only [beq_self_eq_true, if_true]; omega
        · rw [if_neg (by simpa using hm)]; rfl, h.tle, h.agM, by show s.ag ≤ n; have := h.agle; omega, h.aglo⟩

theorem ofS_ok (pre : List Int) (hp : pre.Pairwise (· ≤ ·)) (hk : ∀ n ∈ pre, okN n = true) : OsOk pre (ofS pre) := by
  rcases List.eq_nil_or_concat pre with rfl | ⟨l, n, rfl⟩
  · exact os0_ok
  · rw [List.concat_eq_append] at *
    rw [ofS_snoc]
    have hp' := List.pairwise_append.1 hp
    have h := ofS_ok l hp'.1 (fun m hm => hk m (List.mem_append_left _ hm))
    have hn := hk n (by simp)
    unfold okN at hn
    rw [decide_eq_true_eq] at hn
    refine h.st hn.1 hn.2 ?_
    by_cases h0 : (ofS l).last = 0
    · omega
    · exact hp'.2.2 _ (h.lastM h0) n (by simp)
termination_by pre.length
decreasing_by all_goals (simp_all <;> omega)

/-- The sorted numbers. -/
theorem srt_pw (ns : List Int) : (srtI ns).Pairwise (· ≤ ·) := by
  unfold srtI
  have := List.pairwise_mergeSort (le := fun x y : Int => decide (x ≤ y)) (fun a b c h1 h2 => by simp at h1 h2 ⊢; omega) (fun a b => by simp; omega) ns
  exact this.imp (fun h => by simpa using h)
theorem srt_mem (ns : List Int) (n : Int) : n ∈ srtI ns ↔ n ∈ ns := by unfold srtI; exact List.mem_mergeSort
theorem srt_count (ns : List Int) (n : Int) : (srtI ns).count n = ns.count n := by unfold srtI; exact (List.mergeSort_perm _ _).count_eq n
theorem srt_all (ns : List Int) : (srtI ns).all okN = ns.all okN := by
  rw [Bool.eq_iff_iff, List.all_eq_true, List.all_eq_true]
  exact ⟨fun h x hx => h x ((srt_mem ns x).2 hx), fun h x hx => h x ((srt_mem ns x).1 hx)⟩
theorem ofS_pre (ns : List Int) (j : Nat) (h : ((srtI ns).take j).all okN = true) : OsOk ((srtI ns).take j) (ofS ((srtI ns).take j)) :=
  ofS_ok _ ((srt_pw ns).sublist (List.take_sublist _ _)) (fun n hn => List.all_eq_true.1 h n hn)
theorem ofS_take {ns : List Int} {j : Nat} {n : Int} (h : ns[j]? = some n) : ofS (ns.take (j + 1)) = (ofS (ns.take j)).st n := by
  rw [List.take_add_one, h, Option.toList_some, ofS_snoc]
end Go.Proofs.Ytofjgcbjpmgkdaa

/- MergeSplits, in plain words. -/
import Derived.Test.YtalophngappkhaaGreatDoorZ29
import Derived.Test.YtalophngappkhaaGreatDoorZ22
set_option linter.unusedVariables false
set_option linter.unusedSimpArgs false
set_option linter.unusedSectionVars false
namespace Go.Proofs.YtalophngappkhaaGreatDoor
open Go Go.RowKit Go.Shelf

theorem Tr.row {tr : List Ev} (h : Tr tr) : RowM tr := RowM.of (fun e he => (h.ok e he).2.1) h.srt'.srt
theorem RowM.sub {l m : List Ev} (h : RowM l) (hs : m.Sublist l) : RowM m := RowM.of (fun e he => h.chk e (hs.mem he)) (h.srt.sublist hs)
/-- The parts of a trace, with the values that hold them. -/
def partL (pv : Nat → Value) (tr : List Ev) (n : Nat) : List (Value × List Ev) := (List.range n).map fun q => (pv q, cpuL tr q)
theorem partL_len (pv : Nat → Value) (tr : List Ev) (n : Nat) : (partL pv tr n).length = n := by unfold partL; simp
theorem partL_at {pv : Nat → Value} {tr : List Ev} {n q : Nat} (h : q < n) : (partL pv tr n)[q]? = some (pv q, cpuL tr q) := by
  unfold partL
  rw [List.getElem?_map, List.getElem?_range h]; rfl
theorem partL_flat (pv : Nat → Value) (tr : List Ev) (n : Nat) : flatR (partL pv tr n) = cpusL tr n := by
  unfold flatR partL cpusL
  rw [List.flatMap_map]
theorem partL_mem {pv : Nat → Value} {tr : List Ev} {n : Nat} {x : Value × List Ev} (h : x ∈ partL pv tr n) : ∃ q, q < n ∧ x = (pv q, cpuL tr q) := by
  unfold partL at h
  obtain ⟨q, hq, rfl⟩ := List.mem_map.1 h
  exact ⟨q, List.mem_range.1 hq, rfl⟩
/-- The rows that are merged again. -/
def rowsP (pv : Nat → Value) (tr : List Ev) (k : Nat) (vr : Value) (rest : List Ev) : List (Value × List Ev) := (partL pv tr 64).drop k ++ (partL pv tr 64).take k ++ [(vr, rest)]
theorem rowsP_mem {pv : Nat → Value} {tr : List Ev} {k : Nat} {vr : Value} {rest : List Ev} {x : Value × List Ev} (h : x ∈ rowsP pv tr k vr rest) : (∃ q, q < 64 ∧ x = (pv q, cpuL tr q)) ∨ x = (vr, rest) := by
  unfold rowsP at h
  rcases List.mem_append.1 h with h | h
  · rcases List.mem_append.1 h with h | h
    · exact .inl (partL_mem (List.mem_of_mem_drop h))
    · exact .inl (partL_mem (List.mem_of_mem_take h))
  · exact .inr (by simpa using h)
theorem rowsP_flat {pv : Nat → Value} {tr : List Ev} (ht : Tr tr) {k : Nat} {vr : Value} {rest : List Ev} : (flatR (rowsP pv tr k vr rest)).Perm (tr ++ rest) := by
  have h1 : (flatR ((partL pv tr 64).drop k ++ (partL pv tr 64).take k)).Perm (flatR (partL pv tr 64)) := by
    unfold flatR
    refine List.Perm.flatMap_right _ (List.perm_append_comm.trans ?_)
    rw [List.take_append_drop]
  have h2 : (cpusL tr 64).Perm tr := cpus_perm fun e he => by have := ht.ok e he; omega
  rw [partL_flat] at h1
  unfold rowsP
  have e : flatR ((partL pv tr 64).drop k ++ (partL pv tr 64).take k ++ [(vr, rest)]) = flatR ((partL pv tr 64).drop k ++ (partL pv tr 64).take k) ++ rest := by
    unfold flatR
    rw [List.flatMap_append]; simp
  rw [e]
  exact (h1.trans h2).append_right rest
theorem cnt_srt {R : List Ev} (hs : R.Pairwise (fun a b => a.seq < b.seq)) (n : Int) : cntS R n = if n ∈ seqsL R then 1 else 0 := by
  have h1 := cntS_strict hs n
  by_cases hn : n ∈ seqsL R
  · rw [if_pos hn]
    obtain ⟨e, he, rfl⟩ := List.mem_map.1 hn
    have := cnt_pos he
    omega
  · rw [if_neg hn]
    exact cnt_zero fun x hx h => hn (List.mem_map.2 ⟨x, hx, h⟩)
theorem join_twice {l R T : List Ev} (hp : l.Perm (R ++ T)) (hs : R.Pairwise (fun a b => a.seq < b.seq)) (hT : T.Sublist R) (hl : l.length ≤ 65535) : JoinRes l R (seqsL T) 0 := by
  have hmem : ∀ e, e ∈ R ↔ e ∈ l := fun e => by
    rw [hp.mem_iff, List.mem_append]
    exact ⟨.inl, fun h => h.elim id (fun h => hT.mem h)⟩
  have hts := hs.sublist hT
  have hlen := hp.length_eq
  rw [List.length_append] at hlen
  refine .inr (.inr ⟨hl, ?_, rfl, hs, hmem, List.pairwise_map.2 hts, fun n => ?_, ⟨by omega, by unfold seqsL; rw [List.length_map]; omega⟩⟩)
  · rintro ⟨a, ha, b, hb, hab, hne⟩
    exact hne (seq_inj hs a ((hmem a).2 ha) b ((hmem b).2 hb) hab)
  · have h1 : cntS l n = cntS R n + cntS T n := by
      unfold cntS
      rw [hp.countP_eq, List.countP_append]
    rw [h1, cnt_srt hs, cnt_srt hts]
    by_cases hn : n ∈ seqsL T
    · have hr : n ∈ seqsL R := by
        obtain ⟨e, he, rfl⟩ := List.mem_map.1 hn
        exact List.mem_map.2 ⟨e, hT.mem he, rfl⟩
      rw [if_pos hn, if_pos hr]; simp [hn]
    · rw [if_neg hn]
      split <;> simp [hn]
theorem rowsP_res {pv : Nat → Value} {tr : List Ev} (ht : Tr tr) {k : Nat} {vr : Value} {rest : List Ev} (hr : rest.Sublist tr) {R : List Ev} {T : List Int} {c : Int} (h : RowsRes (rowsP pv tr k vr rest) R T c) : R = tr ∧ T = seqsL rest ∧ c = 0 := by
  have hrow := ht.row
  have hall : AllRow (rowsP pv tr k vr rest) := fun x hx => by
    rcases rowsP_mem hx with ⟨q, _, rfl⟩ | rfl
    · exact hrow.sub List.filter_sublist
    · exact hrow.sub hr
  have hp := rowsP_flat (pv := pv) ht (k := k) (vr := vr) (rest := rest)
  have hlen := hp.length_eq
  rw [List.length_append] at hlen
  have := hr.length_le
  have := ht.len
  rcases h with ⟨h, _⟩ | ⟨_, h⟩
  · exact absurd hall h
  · obtain ⟨a, b, c⟩ := h.unique (join_twice hp ht.srt'.srt hr (by omega))
    exact ⟨a, b, c⟩
theorem cnt_parts {tr : List Ev} (ht : Tr tr) : (cpusL tr 64).length = tr.length := (cpus_perm (c := 64) fun e he => by have := ht.ok e he; omega).length_eq
theorem cpus_len_succ (tr : List Ev) (c : Nat) : (cpusL tr (c + 1)).length = (cpusL tr c).length + (cpuL tr c).length := by rw [cpus_succ, List.length_append]
end Go.Proofs.YtalophngappkhaaGreatDoor

/- MergeWrong: plain facts. -/
import Derived.Test.YtalophngappkhaaGreatDoorZ29
import Derived.Test.YtalophngappkhaaGreatDoorZ27
import Derived.Test.YtalophngappkhaaGreatDoorMsa
set_option linter.unusedVariables false
set_option linter.unusedSimpArgs false
set_option linter.unusedSectionVars false
namespace Go.Proofs.YtalophngappkhaaGreatDoor
open Go Go.RowKit Go.Shelf

/-- A block that is not right. -/
structure BadB (b : Bck) : Prop where
  ok : BlkOk b
  chk : chkB b = 107
  len : b.evs.length ≤ 6
theorem not_fits {b : Bck} (h : ¬ FitsB b) : chkB b = 107 := by unfold chkB; rw [if_neg h]
theorem bad_lost (x : Int) (h1 : -9223372036854775808 ≤ x) (h2 : x ≤ 0) : BadB ⟨1, 3, x, 0, []⟩ :=
  ⟨⟨by dsimp only; omega, by dsimp only; omega, by dsimp only; omega, by dsimp only; omega, fun e he => by cases he⟩, not_fits fun h => by
    rcases h with ⟨_, _, _, _, _, _, h, _⟩ | ⟨h, _⟩
    · have := h rfl; dsimp only at this; omega
    · dsimp only at h; omega, Nat.zero_le _⟩
theorem bad_kind (x : Int) (h1 : 0 ≤ x) (h2 : x ≤ 255) : BadB ⟨x, 3, 0, 0, []⟩ :=
  ⟨⟨by dsimp only; omega, by dsimp only; omega, by dsimp only; omega, by dsimp only; omega, fun e he => by cases he⟩, not_fits fun h => by
    rcases h with ⟨_, _, _, _, _, _, h, _⟩ | ⟨_, _, _, h, _⟩
    · have := h rfl; dsimp only at this; omega
    · dsimp only at h; omega, Nat.zero_le _⟩
theorem bad_end (x : Int) (h1 : -9223372036854775808 ≤ x) (h2 : x ≤ 0) : BadB ⟨2, 0, 0, x, []⟩ :=
  ⟨⟨by dsimp only; omega, by dsimp only; omega, by dsimp only; omega, by dsimp only; omega, fun e he => by cases he⟩, not_fits fun h => by
    rcases h with ⟨h, _⟩ | ⟨_, h, _⟩
    · dsimp only at h; omega
    · dsimp only at h; omega, Nat.zero_le _⟩
theorem pick_ev2 (n c : Int) (h1 : 0 ≤ n) (h2 : n ≤ 1000) (h3 : 0 ≤ c) (h4 : c ≤ 255) : EvOk (pickE n c) := by
  constructor <;> (unfold pickE; dsimp only; omega)
theorem bad_evs : BadB ⟨1, 3, 0, 0, [pickE 0 3]⟩ :=
  ⟨⟨by dsimp only; omega, by dsimp only; omega, by dsimp only; omega, by dsimp only; omega, fun e he => by
      simp only [List.mem_cons, List.not_mem_nil, or_false] at he
      subst he; exact pick_ev2 0 3 (by omega) (by omega) (by omega) (by omega)⟩, not_fits fun h => by
    rcases h with ⟨_, h, _⟩ | ⟨h, _⟩
    · have h : chkEv (pickE 0 3) = 0 := h
      exact absurd h (by decide)
    · dsimp only at h; omega, by decide⟩
theorem wrong_mrg {L : List Bck} (h1 : ∀ x ∈ L, chkB x = 0 ∨ chkB x = 107) (h2 : ∃ x ∈ L, chkB x = 107) (hl : L.length ≤ 4096) : ∀ m c, MrgRes L m c → c = 107 ∧ m = mg0 := by
  intro m c h
  rcases h with ⟨h, _⟩ | ⟨_, ⟨i, b, hb, _, hn, hc⟩, hm⟩ | ⟨_, h, _⟩
  · omega
  · rcases h1 b (List.mem_of_getElem? hb) with h | h
    · exact absurd h hn
    · exact ⟨hc.trans h, hm⟩
  · obtain ⟨x, hx, h3⟩ := h2
    have := h x hx
    omega
/-- A list that is no row. -/
def rowW (tr : List Ev) : List Ev := tr ++ [pickE 1 0, pickE 1 0]
theorem rowW_not (tr : List Ev) : ¬ RowM (rowW tr) := fun h => by
  have := h.srt
  unfold rowW at this
  have h2 := (List.pairwise_append.1 this).2.1
  have h3 := (List.pairwise_cons.1 h2).1 (pickE 1 0) (by simp)
  omega
theorem rowW_ok {tr : List Ev} (h : Tr tr) : ∀ e ∈ rowW tr, EvOk e := fun e he => by
  rcases List.mem_append.1 he with he | he
  · exact (h.ok e he).1
  · simp only [List.mem_cons, List.not_mem_nil, or_false] at he
    rcases he with rfl | rfl <;> exact pick_ev2 1 0 (by omega) (by omega) (by omega) (by omega)
theorem rowW_len {tr : List Ev} (h : Tr tr) : (rowW tr).length ≤ 42 := by
  unfold rowW; rw [List.length_append]; have := h.len; simp; omega
theorem rows_wrong {v1 v2 : Value} {tr R : List Ev} {T : List Int} {c : Int} (h : RowsRes [(v1, tr), (v2, rowW tr)] R T c) : c = 121 := by
  rcases h with ⟨_, h, _⟩ | ⟨h, _⟩
  · exact h
  · exact absurd (h (v2, rowW tr) (by simp)) (rowW_not tr)
theorem frs_low {G : List (Int × Int)} {next fr : Int} {o : Bool} (hr : rightB G = true) (h : fr < 1 ∨ next < fr) : (frsE G next o fr).2 = 2 := by
  unfold frsE
  rw [if_neg (by rw [hr]; simp), if_pos (by omega)]
theorem canB_bad {r : Int × Int} (hr : rokB r = false) : ∀ (l : List (Int × Int)) (lo : Int), canB lo (l ++ [r]) = false
  | [], lo => by
    show ((decide (lo < r.1) && rokB r) && true) = false
    rw [hr]; simp
  | x :: l, lo => by
    show ((decide (lo < x.1) && rokB x) && canB (nxt x) (l ++ [r])) = false
    rw [canB_bad hr l]; simp
theorem frs_bad (G : List (Int × Int)) (next fr : Int) (o : Bool) : (frsE (G ++ [(1, 0)]) next o fr).2 = 90 := by
  have : rightB (G ++ [(1, 0)]) = false := by unfold rightB; rw [canB_bad (by decide)]; simp
  unfold frsE
  rw [if_pos this]
theorem ins_mem {l : List (Sl3 × Bck)} {x y : Sl3 × Bck} {i : Nat} (h : y ∈ l.take i ++ [x] ++ l.drop i) : y ∈ l ∨ y = x := by
  rcases List.mem_append.1 h with h | h
  · rcases List.mem_append.1 h with h | h
    · exact .inl (List.mem_of_mem_take h)
    · simp only [List.mem_cons, List.not_mem_nil, or_false] at h
      exact .inr h
  · exact .inl (List.mem_of_mem_drop h)
theorem ins_len (l : List (Sl3 × Bck)) (x : Sl3 × Bck) (i : Nat) : (l.take i ++ [x] ++ l.drop i).length = l.length + 1 := by
  rw [List.length_append, List.length_append, List.length_take, List.length_drop]; simp; omega
/-- Blocks, where a block is not right. -/
theorem blocks_bad (w : World) (v : Value) (l : List (Sl3 × Bck)) (x : Sl3 × Bck) (i : Nat) (hv : EV encSb 5 w v (l.take i ++ [x] ++ l.drop i)) (he : ∀ y ∈ l, EV encE 11 w (slV y.1) y.2.evs) (hx : EV encE 11 w (slV x.1) x.2.evs) (hg : ∀ y ∈ l, BlkOk y.2 ∧ chkB y.2 = 0 ∧ y.2.evs.length ≤ 6) (hb : BadB x.2) (hn : l.length ≤ 100) (hla : LaidAt w) :
    Calls Tryz.prog 23 #[v] w fun r w' => ∃ A1 n1 c1 A2 n2 c2 A3 n3 c3, r = .returned (.tuple #[mgA (.slice A1 n1 c1) (.slice A2 n2 c2) (.slice A3 n3 c3) 0 0 false, .int .i64 107]) ∧ OV encE 11 28 w.heap.size w' (.slice A1 n1 c1) [] ∧ OV encI 1 3 w.heap.size w' (.slice A2 n2 c2) [] ∧ OV encP 2 34 w.heap.size w' (.slice A3 n3 c3) [] ∧ Below w.heap.size w w' := by
  obtain ⟨L, hL⟩ : ∃ L, l.take i ++ [x] ++ l.drop i = L := ⟨_, rfl⟩
  have hlen : L.length = l.length + 1 := by rw [← hL]; exact ins_len l x i
  have hmem : ∀ y ∈ L, y ∈ l ∨ y = x := fun y hy => ins_mem (by rw [hL]; exact hy)
  have hxm : x ∈ L := by rw [← hL]; simp
  have hgen : ∀ y ∈ L, BlkOk y.2 ∧ y.2.evs.length ≤ 6 := fun y hy => by
    rcases hmem y hy with h | rfl
    · exact ⟨(hg y h).1, (hg y h).2.2⟩
    · exact ⟨hb.ok, hb.len⟩
  rw [hL] at hv
  have hm : ∀ y ∈ L.map sbV, ∃ z ∈ L, y.2 = z.2 := fun y hy => by
    obtain ⟨z, hz, rfl⟩ := List.mem_map.1 hy
    exact ⟨z, hz, rfl⟩
  refine blocks_good w v (L.map sbV) (BksS.of_sb hv fun y hy => ?_) (fun y hy => ?_) (fun y hy => ?_) (by rw [List.length_map]; omega) ?_ hla mg0 107 (fun m c' h => wrong_mrg ?_ ?_ ?_ m c' (by rwa [sb_snd] at h))
  · rcases hmem y hy with h | rfl
    · exact he y h
    · exact hx
  · obtain ⟨z, hz, e⟩ := hm y hy
    rw [e]; exact (hgen z hz).1
  · obtain ⟨z, hz, e⟩ := hm y hy
    rw [e]; have := (hgen z hz).2; omega
  · rw [flat_rows, sb_snd]
    have := flat_le6 (l := L.map Prod.snd) (fun b hb => by
      obtain ⟨z, hz, rfl⟩ := List.mem_map.1 hb
      exact (hgen z hz).2)
    rw [List.length_map] at this
    omega
  · intro y hy
    obtain ⟨z, hz, rfl⟩ := List.mem_map.1 hy
    rcases hmem z hz with h | rfl
    · exact .inl (hg z h).2.1
    · exact .inr hb.chk
  · exact ⟨x.2, List.mem_map.2 ⟨x, hxm, rfl⟩, hb.chk⟩
  · rw [List.length_map]; omega
end Go.Proofs.YtalophngappkhaaGreatDoor

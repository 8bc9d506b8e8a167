/- slices.Insert of one run, where there is room; all roads together. -/
import Derived.Test.YtofjgcbjpmgkdaaUa
import Derived.Test.YtofjgcbjpmgkdaaSc
set_option linter.unusedVariables false
set_option linter.unusedSimpArgs false
set_option linter.unusedSectionVars false
namespace Go.Proofs.Ytofjgcbjpmgkdaa
open Go Go.RowKit Go.Shelf

set_option maxRecDepth 100000 in
set_option maxHeartbeats 4000000 in
theorem insert_room (w : World) (g n cap i base : Nat) (l : List (Int × Int)) (p q : Int) (m : Nat) (hm : w.heap.size = m) (hv : OV encP 2 35 base w (.slice (some ⟨g, 0, none⟩) n cap) l) (hn : l.length = n) (hi : i < n) (hlen : n ≤ 1000) (hroom : n + 1 ≤ cap) :
    Calls Try.prog 36 #[.slice (some ⟨g, 0, none⟩) n cap, .int .i64 i, .slice (some ⟨m, 0, none⟩) 1 1] (w.alloc (.cells #[.int .i64 p, .int .i64 q] 35)) fun e w' =>
      ∃ v', e = .returned v' ∧ EV encP 2 w' v' (l.take i ++ [(p, q)] ++ l.drop i) ∧ Mod (fun k => k = g) w w' := by
  obtain ⟨cur, r1, r2, r3, r4, r5, r6⟩ := ov_raw hv hn
  unfold maxLen at r5
  have hgl := (Array.getElem?_eq_some_iff.1 r1).1
  have M1 := Lib.hid (Mod.alloc (T := fun k => k = g) (a := w) (.cells #[.int .i64 p, .int .i64 q] 35))
  have hvm := heap_alloc_new w (.cells #[.int .i64 p, .int .i64 q] 35)
  have r1 := (Below.heap_alloc w (.cells #[.int .i64 p, .int .i64 q] 35) g hgl).trans r1
  have hsz := World.size_alloc w (.cells #[.int .i64 p, .int .i64 q] 35)
  rw [hm] at hvm hsz hgl
  generalize w.alloc (.cells #[.int .i64 p, .int .i64 q] 35) = W at M1 hvm r1 hsz ⊢
  have hgm : ¬ g = m := by omega
  obtain ⟨F, hF⟩ : ∃ F, l.flatMap encP = F := ⟨_, rfl⟩
  have hFl : F.length = n * 2 := by rw [← hF, flat2_len, hn]
  have hF1 : ∀ u ∈ F, u.oneCell' = true := hF ▸ flat_one l
  rw [hF] at r3
  obtain ⟨ti, z, e1, e2, e3, e4, e5⟩ := elemR.hi
  have hov : ∀ lb cb, (callFunc 60 #[.slice (some ⟨m, 0, none⟩) 1 1, .slice (some ⟨g, (i + 1) * 2, none⟩) lb cb]).run Try.prog W = .ok (.value (.bool false)) W := fun lb cb => by
    rw [run_callFunc_extern Try.func60 (by kernel_rfl) (by kernel_rfl) (by kernel_rfl) (e := Extern.SlicesOverlaps.overlaps #[22, 22] #[4]) (by kernel_rfl),
      Lib.run_overlaps_apart W 22 4 35 elemR.ht 2 (fun w => by simp [sizeOf, typeInfo, e1, e3]) ⟨m, 0, none⟩ ⟨g, (i + 1) * 2, none⟩ 1 1 lb cb (fun h => hgm h.symm) 35 35 2 cur.length (by simp [World.shape?, hvm]) (by simp [World.shape?, r1]) (by omega) (Blk.frozen hvm 0) (Blk.frozen hvm 2)]
    rfl
  have hc1 : ∀ ty dc sc, (Builtin.copy_ #[22, 22] ty #[.slice (some ⟨g, (i + 1) * 2, none⟩) (n - i) dc, .slice (some ⟨g, i * 2, none⟩) (n + 1 - i) sc]).run Try.prog W.drew = .ok (goInt ((n - i : Nat) : Int)) (W.drew.setRow g (splice cur ((i + 1) * 2) (F.drop (i * 2))).toArray) := fun ty dc sc =>
    run_copy2 W.drew ty g ((i + 1) * 2) (n - i) dc ⟨g, i * 2, none⟩ (n + 1 - i) sc cur 35 (F.drop (i * 2)) (n - i) r1 (by show min (n + 1 - i) (n - i) = n - i; omega) (by rw [List.length_drop, hFl]; omega) (fun j v hj => by
      rw [Addr.add_lit]
      exact raw_cell (w := W.drew) r1 (take_drop_flat r3 (by omega) hj)) (by rw [List.length_drop, hFl, r2]; omega) (fun v hv => hF1 v (List.mem_of_mem_drop hv))
  have hX3 := setRow_heap W.drew g cur.toArray (splice cur ((i + 1) * 2) (F.drop (i * 2))).toArray 35 (0, 0) r1
  have hm3 := (setRow_other W.drew g m (splice cur ((i + 1) * 2) (F.drop (i * 2))).toArray (fun h => hgm h.symm)).trans hvm
  have M3 : Mod (fun k => k = g) w (W.drew.setRow g (splice cur ((i + 1) * 2) (F.drop (i * 2))).toArray) := (M1.out.trans Mod.drew).trans ⟨rfl, rfl, rfl, by simp [World.setRow], fun k hk ht => setRow_other _ _ _ _ ht⟩
  have hl1 : (splice cur ((i + 1) * 2) (F.drop (i * 2))).length = cur.length := length_splice _ _ _ (by rw [List.length_drop, hFl]; omega)
  have hct : cur.take (i * 2) = F.take (i * 2) := by rw [← r3, List.take_take, Nat.min_eq_left (by omega)]
  have SP := Lib.hid ((splice_ins (F := F) (C := cur) (A := [.int .i64 p, .int .i64 q]) (B := F.drop (i * 2)) rfl hFl hi hct (by omega) rfl).1)
  obtain ⟨C1, hC1⟩ : ∃ C1, splice cur ((i + 1) * 2) (F.drop (i * 2)) = C1 := ⟨_, rfl⟩
  rw [hC1] at hc1 hX3 hm3 M3 hl1 SP
  generalize hW3 : W.drew.setRow g C1.toArray = W3 at hc1 hX3 hm3 M3
  have hc2 : ∀ ty dc, (Builtin.copy_ #[22, 22] ty #[.slice (some ⟨g, i * 2, none⟩) (n + 1 - i) dc, .slice (some ⟨m, 0, none⟩) 1 1]).run Try.prog W3 = .ok (goInt 1) (W3.setRow g (splice C1 (i * 2) [.int .i64 p, .int .i64 q]).toArray) := fun ty dc =>
    run_copy2 W3 ty g (i * 2) (n + 1 - i) dc ⟨m, 0, none⟩ 1 1 C1 35 [.int .i64 p, .int .i64 q] 1 hX3 (Nat.min_eq_left (by omega)) rfl (fun j v hj => by
      rw [Addr.add_lit]
      exact raw_cell (cur := [.int .i64 p, .int .i64 q]) hm3 (i := 0) (by simpa using hj)) (by simp; omega) (by simp; exact ⟨rfl, rfl⟩)
  have FIN := Lib.hid (show EV encP 2 (W3.setRow g (splice C1 (i * 2) [.int .i64 p, .int .i64 q]).toArray) (.slice (some ⟨g, 0, none⟩) (n + 1) cap) (l.take i ++ [(p, q)] ++ l.drop i) ∧ Mod (fun k => k = g) w (W3.setRow g (splice C1 (i * 2) [.int .i64 p, .int .i64 q]).toArray) from by
    refine ⟨EV.of_row encP_len (setRow_heap W3 g C1.toArray _ 35 (0, 0) hX3) (SP.out.trans ?_) (by simp; omega) hroom, ?_⟩
    · rw [← hF, flat2_take _ _ (by omega), flat2_drop _ _ (by omega), List.flatMap_append, List.flatMap_append]; rfl
    · exact M3.trans ⟨rfl, rfl, rfl, by simp [World.setRow], fun k hk ht => setRow_other _ _ _ _ ht⟩)
  have w1 : IntKind.i64.wrap ((n : Int) + 1) = (n : Int) + 1 := IntWalk.i64_in _ (by omega)
  have w3 : IntKind.i64.wrap ((i : Int) + 1) = (i : Int) + 1 := IntWalk.i64_in _ (by omega)
  have w4 : (0 : Int) ≤ (i : Int) + 1 := by omega
  have w5 : ((i : Int) + 1).toNat = i + 1 := by omega
  have w6 : (0 : Int) ≤ (n : Int) + 1 := by omega
  have w7 : ((n : Int) + 1).toNat = n + 1 := by omega
  have w8 : (n : Int) + 1 ≤ (cap : Int) := by omega
  have w9 : decide ((cap : Int) < (n : Int) + 1) = false := by rw [decide_eq_false_iff_not]; omega
  have x1 : ¬ cap = i := by omega
  have x2 : ¬ cap = i + 1 := by omega
  have x4 : ((i : Int) == (n : Int)) = false := by simp; omega
  have x5 : (i : Int) ≤ (n : Int) := by omega
  have x6 : (i : Int) + 1 ≤ (n : Int) + 1 := by omega
  have x9 : (i : Int) ≤ (n : Int) + 1 := by omega
  have HC2 := Lib.hid hc2
  have HC1 := Lib.hid (fun ty => hc1 ty (cap - (i + 1)) (cap - i))
  clear hc1 hc2 hX3 hm3 M3 SP hC1 hl1 hct r1 r2 r3 r4 r5 r6 hgl M1 hvm hF hFl hF1 e1 e2 e3 e4 e5 hgm hsz hm hn hv
  go_enter Try.func36, Try.ntmps36
  go_wp2_with (simp only [hov])
  go_still_tail 8, (by kernel_rfl)
  change wpList _ _ _ _ _ W.drew
  go_wp2_with fail
  rw [HC1.out]
  go_wp2_with fail
  rw [HC2.out]
  go_wp2_with fail
  go_ret
  exact ⟨_, rfl, FIN.out⟩

/-- slices.Insert of one run, as the walk meets it. -/
theorem insert_run (w : World) (g n cap i base : Nat) (l : List (Int × Int)) (p q : Int) (m : Nat) (hm : w.heap.size = m) (hv : OV encP 2 35 base w (.slice (some ⟨g, 0, none⟩) n cap) l) (hn : l.length = n) (hi : i ≤ n) (hn1 : 1 ≤ n) (hlen : n ≤ 1000) (hbase : base ≤ w.heap.size) :
    Calls Try.prog 36 #[.slice (some ⟨g, 0, none⟩) n cap, .int .i64 i, .slice (some ⟨m, 0, none⟩) 1 1] (w.alloc (.cells #[.int .i64 p, .int .i64 q] 35)) fun e w' =>
      ∃ v', e = .returned v' ∧ EV encP 2 w' v' (l.take i ++ [(p, q)] ++ l.drop i) ∧ Mod (fun k => k = g) w w' := by
  obtain ⟨cur, r1, r2, r3, r4, r5, r6⟩ := ov_raw hv hn
  by_cases h : i = n
  · subst h
    have := insert_end w g i cap base l p q m hm hv hn hn1 hlen r4 hbase
    rwa [List.take_of_length_le (by omega), List.drop_eq_nil_of_le (by omega), List.append_nil]
  · by_cases h2 : n + 1 ≤ cap
    · exact insert_room w g n cap i base l p q m hm hv hn (by omega) hlen h2
    · obtain rfl : cap = n := by omega
      exact insert_grow w g cap i base l p q m hm hv hn (by omega) hlen
end Go.Proofs.Ytofjgcbjpmgkdaa

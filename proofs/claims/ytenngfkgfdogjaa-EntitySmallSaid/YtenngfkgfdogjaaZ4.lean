/- Contracts of entity: compare, Less | The iterator entity.ready. -/
import Derived.Test.YtenngfkgfdogjaaZ3
import Derived.Deep.RegionHeld3
import Derived.Deep.RegionLaw
import Derived.Sort.Grow
import Derived.Sort.LoopGhostIn
set_option linter.unusedVariables false
set_option linter.unusedSimpArgs false
set_option linter.unusedSectionVars false
namespace Go.Proofs.Ytenngfkgfdogjaa
open Go Go.RowKit Go.Shelf Go.Sort
attribute [local go_sem] Oper.semAt_some

/-- Draws and new blocks alone. -/
def Gro (w w' : World) : Prop := ∃ q os, w' = grow (w.drewN q) os
theorem Gro.refl (w : World) : Gro w w := ⟨0, #[], by simp [World.drewN]⟩
theorem Gro.alloc (w : World) (o : Obj) : Gro w (w.alloc o) := ⟨0, #[o], by rw [alloc_eq_grow]; rfl⟩
theorem Gro.drew (w : World) : Gro w w.drew := ⟨1, #[], by rw [grow_empty]; rfl⟩
theorem Gro.trans {a b c : World} (h : Gro a b) (k : Gro b c) : Gro a c := by
  obtain ⟨q, os, rfl⟩ := h
  obtain ⟨q', os', rfl⟩ := k
  exact ⟨q + q', os ++ os', by simp [grow, World.drewN, Nat.add_assoc]⟩
theorem Gro.below {w w' : World} (h : Gro w w') : Below w.heap.size w w' := by
  obtain ⟨q, os, rfl⟩ := h
  exact ⟨rfl, rfl, rfl, by simp [grow, World.drewN], fun k hk => by simp [grow, World.drewN, Array.getElem?_append, hk]⟩
set_option maxHeartbeats 800000 in
theorem cmpU_ok (w : World) (a b : Int) : Calls Try.prog 80 #[.int .u64 a, .int .u64 b] w fun e w' => e = .returned (.int .i64 (cmpI a b)) ∧ w = w' := by
  have na : (a != a) = false := by simp
  have nb : (b != b) = false := by simp
  by_cases h1 : a < b
  · have X := Lib.hid (show cmpI a b = -1 by unfold cmpI; rw [if_pos h1])
    go_enter Try.func80, Try.ntmps80
    go_wp2
    go_ret
    exact ⟨ret_int X.out.symm, rfl⟩
  · by_cases h2 : b < a
    · have X := Lib.hid (show cmpI a b = 1 by unfold cmpI; rw [if_neg h1, if_pos h2])
      go_enter Try.func80, Try.ntmps80
      go_wp2
      go_ret
      exact ⟨ret_int X.out.symm, rfl⟩
    · have X := Lib.hid (show cmpI a b = 0 by unfold cmpI; rw [if_neg h1, if_neg h2])
      go_enter Try.func80, Try.ntmps80
      go_wp2
      go_ret
      exact ⟨ret_int X.out.symm, rfl⟩
set_option maxHeartbeats 800000 in
theorem cmpI_ok (w : World) (a b : Int) : Calls Try.prog 60 #[.int .i64 a, .int .i64 b] w fun e w' => e = .returned (.int .i64 (cmpI a b)) ∧ w = w' := by
  have na : (a != a) = false := by simp
  have nb : (b != b) = false := by simp
  by_cases h1 : a < b
  · have X := Lib.hid (show cmpI a b = -1 by unfold cmpI; rw [if_pos h1])
    go_enter Try.func60, Try.ntmps60
    go_wp2
    go_ret
    exact ⟨ret_int X.out.symm, rfl⟩
  · by_cases h2 : b < a
    · have X := Lib.hid (show cmpI a b = 1 by unfold cmpI; rw [if_neg h1, if_pos h2])
      go_enter Try.func60, Try.ntmps60
      go_wp2
      go_ret
      exact ⟨ret_int X.out.symm, rfl⟩
    · have X := Lib.hid (show cmpI a b = 0 by unfold cmpI; rw [if_neg h1, if_neg h2])
      go_enter Try.func60, Try.ntmps60
      go_wp2
      go_ret
      exact ⟨ret_int X.out.symm, rfl⟩
theorem cmpI_range (a b : Int) : -1 ≤ cmpI a b ∧ cmpI a b ≤ 1 := by unfold cmpI; split <;> (try split) <;> omega
theorem kindI_range (b : Bool) : 0 ≤ kindI b ∧ kindI b ≤ 1 := by cases b <;> decide
set_option maxHeartbeats 800000 in
theorem kind_ok (w : World) (v : Int) (sp : Bool) (id : Int) : Calls Try.prog 78 #[.agg #[.int .u64 v, .bool sp, .int .i64 id]] w fun e w' => e = .returned (.int .i64 (kindI sp)) ∧ Gro w w' := by
  have BA := Lib.hid (fun sp => Gro.alloc w (.cells #[.int .u64 v, .bool sp, .int .i64 id] 24))
  cases sp
  all_goals
    go_enter Try.func78, Try.ntmps78
    go_wp2
    go_ret
    exact ⟨rfl, BA.out _⟩
set_option maxHeartbeats 1600000 in
/-- cmp.Or at a literal of three numbers. -/
theorem or3_ok (w : World) (m : Nat) (a b c R : Int) (hm : w.heap.size = m) (hR : (if a ≠ 0 then a else if b ≠ 0 then b else c) = R) :
    Calls Try.prog 79 #[.slice (some ⟨m, 0, none⟩) 3 3] (w.alloc (.cells #[.int .i64 a, .int .i64 b, .int .i64 c] 3)) fun e w' => e = .returned (.int .i64 R) ∧ w.alloc (.cells #[.int .i64 a, .int .i64 b, .int .i64 c] 3) = w' := by
  have r := ((EV.newL (w := w) (e := 3) (xs := [a, b, c]) (n := 3) (c := 3) (cs := #[.int .i64 a, .int .i64 b, .int .i64 c]) encI_len rfl rfl (Nat.le_refl _)).row3 (by simp))
  rw [hm] at r
  have c0 := r.int (i := 0) (by simp)
  have c1 := r.int (i := 1) (by simp)
  have c2 := r.int (i := 2) (by simp)
  simp only [Nat.zero_add, List.getElem?_cons_zero, List.getElem?_cons_succ, Option.getD_some] at c0 c1 c2
  generalize w.alloc (.cells #[.int .i64 a, .int .i64 b, .int .i64 c] 3) = w1 at c0 c1 c2 ⊢
  clear r hm
  have HR := Lib.hid hR
  clear hR
  by_cases ha : a = 0
  · have da : (a != 0) = false := by simp [ha]
    have HA := Lib.hid ha
    clear ha
    by_cases hb : b = 0
    · have db : (b != 0) = false := by simp [hb]
      have HB := Lib.hid hb
      clear hb
      by_cases hc : c = 0
      · have dc : (c != 0) = false := by simp [hc]
        have X := Lib.hid (show R = 0 by rw [← HR.out, if_neg (by simp [HA.out]), if_neg (by simp [HB.out]), hc])
        clear hc HR
        go_enter Try.func79, Try.ntmps79
        go_wp2
        refine wp_loop_rounds 4 ?_
        rw [rounds_succ]
        go_wp2
        rw [rounds_succ]
        go_wp2
        rw [rounds_succ]
        go_wp2
        rw [rounds_succ]
        go_wp2
        go_ret
        exact ⟨ret_int X.out.symm, rfl⟩
      · have dc : (c != 0) = true := by simp [hc]
        have X := Lib.hid (show R = c by rw [← HR.out, if_neg (by simp [HA.out]), if_neg (by simp [HB.out])])
        clear hc HR
        go_enter Try.func79, Try.ntmps79
        go_wp2
        refine wp_loop_rounds 3 ?_
        rw [rounds_succ]
        go_wp2
        rw [rounds_succ]
        go_wp2
        rw [rounds_succ]
        go_wp2
        go_ret
        exact ⟨ret_int X.out.symm, rfl⟩
    · have db : (b != 0) = true := by simp [hb]
      have X := Lib.hid (show R = b by rw [← HR.out, if_neg (by simp [HA.out]), if_pos hb])
      clear hb HR
      go_enter Try.func79, Try.ntmps79
      go_wp2
      refine wp_loop_rounds 2 ?_
      rw [rounds_succ]
      go_wp2
      rw [rounds_succ]
      go_wp2
      go_ret
      exact ⟨ret_int X.out.symm, rfl⟩
  · have da : (a != 0) = true := by simp [ha]
    have X := Lib.hid (show R = a by rw [← HR.out, if_pos ha])
    clear ha HR
    go_enter Try.func79, Try.ntmps79
    go_wp2
    refine wp_loop_rounds 1 ?_
    rw [rounds_succ]
    go_wp2
    go_ret
    exact ⟨ret_int X.out.symm, rfl⟩
theorem ER.ky {w : World} {b off : Nat} {ks : List Ky} (h : ER encY 3 w b off ks) {i : Nat} {k : Ky} (hi : ks[i]? = some k) :
    w.cell? ⟨b, off + i * 3, none⟩ = some (.int .u64 k.v) ∧ w.cell? ⟨b, off + i * 3 + 1, none⟩ = some (.bool k.sp) ∧ w.cell? ⟨b, off + i * 3 + 2, none⟩ = some (.int .i64 k.id) :=
  ⟨h i k hi 0 _ rfl, h i k hi 1 _ rfl, h i k hi 2 _ rfl⟩
theorem below_step {w a b : World} (h : Below w.heap.size w a) (k : Below a.heap.size a b) : Below w.heap.size w b := h.trans (k.mono h.size)
theorem below_step' {B : Nat} {w a b : World} (hB : B ≤ w.heap.size) (h : Below B w a) (k : Below a.heap.size a b) : Below B w b := h.trans (k.mono (Nat.le_trans hB h.size))
theorem held6 {w wz wz' : World} {p0 p1 p2 p3 p4 p5 : Addr} {u0 u1 u2 u3 u4 u5 : Value} (h : wz.cell? p0 = some u0 ∧ wz.cell? p1 = some u1 ∧ wz.cell? p2 = some u2 ∧ wz.cell? p3 = some u3 ∧ wz.cell? p4 = some u4 ∧ wz.cell? p5 = some u5 ∧ Gro w wz) (k : Gro wz wz') :
    wz'.cell? p0 = some u0 ∧ wz'.cell? p1 = some u1 ∧ wz'.cell? p2 = some u2 ∧ wz'.cell? p3 = some u3 ∧ wz'.cell? p4 = some u4 ∧ wz'.cell? p5 = some u5 ∧ Gro w wz' :=
  ⟨below_cell k.below h.1, below_cell k.below h.2.1, below_cell k.below h.2.2.1, below_cell k.below h.2.2.2.1, below_cell k.below h.2.2.2.2.1, below_cell k.below h.2.2.2.2.2.1, h.2.2.2.2.2.2.trans k⟩
def ValY (k : Ky) : Value := .agg #[.int .u64 k.v, .bool k.sp, .int .i64 k.id]
set_option maxRecDepth 100000 in
set_option maxHeartbeats 4000000 in
theorem compare_gro (w : World) (a b : Ky) :
    Calls Try.prog 38 #[.agg #[.int .u64 a.v, .bool a.sp, .int .i64 a.id], .agg #[.int .u64 b.v, .bool b.sp, .int .i64 b.id]] w fun e w' => e = .returned (.int .i64 (cmpK a b)) ∧ Gro w w' := by
  have r1 := ((EV.newL (w := w) (e := 24) (xs := [a]) (n := 1) (c := 1) (cs := #[.int .u64 a.v, .bool a.sp, .int .i64 a.id]) encY_len rfl rfl (Nat.le_refl _)).row3 (by simp))
  have r2 := ((EV.newL (w := w.alloc (.cells #[.int .u64 a.v, .bool a.sp, .int .i64 a.id] 24)) (e := 24) (xs := [b]) (n := 1) (c := 1) (cs := #[.int .u64 b.v, .bool b.sp, .int .i64 b.id]) encY_len rfl rfl (Nat.le_refl _)).row3 (by simp))
  have B2 := bel_alloc (w.alloc (.cells #[.int .u64 a.v, .bool a.sp, .int .i64 a.id] 24)) (.cells #[.int .u64 b.v, .bool b.sp, .int .i64 b.id] 24)
  obtain ⟨a0, a1, a2⟩ := (r1.below B2).ky (i := 0) rfl
  obtain ⟨b0, b1, b2⟩ := r2.ky (i := 0) rfl
  have BB := (Gro.alloc w (.cells #[.int .u64 a.v, .bool a.sp, .int .i64 a.id] 24)).trans (Gro.alloc (w.alloc (.cells #[.int .u64 a.v, .bool a.sp, .int .i64 a.id] 24)) (.cells #[.int .u64 b.v, .bool b.sp, .int .i64 b.id] 24))
  simp only [Nat.zero_mul, Nat.zero_add, World.size_alloc] at a0 a1 a2 b0 b1 b2
  obtain ⟨R, hR⟩ : ∃ R, (if cmpI a.v b.v ≠ 0 then cmpI a.v b.v else if kindI a.sp - kindI b.sp ≠ 0 then kindI a.sp - kindI b.sp else cmpI a.id b.id) = R := ⟨_, rfl⟩
  have HC := Lib.hid (show cmpK a b = R by unfold cmpK; exact hR)
  have HR := Lib.hid hR
  have k1 := kindI_range a.sp
  have k2 := kindI_range b.sp
  have ws : IntKind.i64.wrap (kindI a.sp - kindI b.sp) = kindI a.sp - kindI b.sp := IntWalk.i64_in _ (by omega)
  clear r1 r2 B2 hR k1 k2
  rw [HC.out]
  go_enter Try.func38, Try.ntmps38
  go_wp2_with fail
  generalize (w.alloc (.cells #[.int .u64 a.v, .bool a.sp, .int .i64 a.id] 24)).alloc (.cells #[.int .u64 b.v, .bool b.sp, .int .i64 b.id] 24) = w1 at a0 a1 a2 b0 b1 b2 BB ⊢
  obtain ⟨X, hX⟩ : ∃ X, w.heap.size = X := ⟨_, rfl⟩
  obtain ⟨Y, hY⟩ : ∃ Y, X + 1 = Y := ⟨_, rfl⟩
  simp only [hX, hY] at a0 a1 a2 b0 b1 b2 ⊢
  clear hX hY
  go_region_held3 (fun wz => wz.cell? ⟨X, 0, none⟩ = some (.int .u64 a.v) ∧ wz.cell? ⟨X, 1, none⟩ = some (.bool a.sp) ∧ wz.cell? ⟨X, 2, none⟩ = some (.int .i64 a.id) ∧ wz.cell? ⟨Y, 0, none⟩ = some (.int .u64 b.v) ∧ wz.cell? ⟨Y, 1, none⟩ = some (.bool b.sp) ∧ wz.cell? ⟨Y, 2, none⟩ = some (.int .i64 b.id) ∧ Gro w wz)
    (first
      | exact held6 (by assumption) hbz
      | exact held6 (by assumption) (Gro.alloc _ _)
      | assumption
      | exact ⟨a0, a1, a2, b0, b1, b2, BB.trans (Gro.drew _)⟩)
    (first
      | (go_at_call 80; refine (cmpU_ok _ _ _).mono ?_; rintro e wz ⟨rfl, rfl⟩)
      | (go_at_call 60; refine (cmpI_ok _ _ _).mono ?_; rintro e wz ⟨rfl, rfl⟩)
      | (go_at_call 78; refine (kind_ok _ _ _ _).mono ?_; rintro e wz ⟨rfl, hbz⟩)
      | (go_at_call 79; refine (or3_ok _ _ _ _ _ _ rfl HR.out).mono ?_; rintro e wz ⟨rfl, rfl⟩))
  all_goals
    rename_i hh
    have BF := Lib.hid hh.2.2.2.2.2.2
    clear hh hbz a0 a1 a2 b0 b1 b2 BB ws
    go_wp2
    go_ret
    exact ⟨rfl, BF.out⟩
theorem compare_ok (w : World) (a b : Ky) :
    Calls Try.prog 38 #[.agg #[.int .u64 a.v, .bool a.sp, .int .i64 a.id], .agg #[.int .u64 b.v, .bool b.sp, .int .i64 b.id]] w fun e w' => e = .returned (.int .i64 (cmpK a b)) ∧ Below w.heap.size w w' :=
  (compare_gro w a b).mono fun e w' h => ⟨h.1, h.2.below⟩
set_option maxRecDepth 100000 in
set_option maxHeartbeats 1600000 in
theorem less_ok (w : World) (a b : Ky) :
    Calls Try.prog 12 #[.agg #[.int .u64 a.v, .bool a.sp, .int .i64 a.id], .agg #[.int .u64 b.v, .bool b.sp, .int .i64 b.id]] w fun e w' => e = .returned (.bool (keyLt a b)) ∧ Below w.heap.size w w' := by
  have BB := below_step (bel_alloc w (.cells #[.int .u64 a.v, .bool a.sp, .int .i64 a.id] 24)) (bel_alloc (w.alloc (.cells #[.int .u64 a.v, .bool a.sp, .int .i64 a.id] 24)) (.cells #[.int .u64 b.v, .bool b.sp, .int .i64 b.id] 24))
  have CM := Lib.hid (compare_ok ((w.alloc (.cells #[.int .u64 a.v, .bool a.sp, .int .i64 a.id] 24)).alloc (.cells #[.int .u64 b.v, .bool b.sp, .int .i64 b.id] 24)) a b)
  have BB := Lib.hid BB
  have X := Lib.hid (cmpK_lt a b)
  go_enter Try.func12, Try.ntmps12
  go_wp2_with fail
  refine CM.out.mono ?_
  rintro e w2 ⟨rfl, bb⟩
  have hfin := Lib.hid (below_step BB.out bb)
  clear bb CM
  go_wp2
  go_ret
  exact ⟨ret_bool X.out, hfin.out⟩
end Go.Proofs.Ytenngfkgfdogjaa
namespace Go.Proofs.Ytenngfkgfdogjaa
open Go Go.RowKit Go.Shelf
attribute [local go_sem] Oper.semAt_some

def tk0 : Tk := ⟨0, 0, 0, 0, 0, false, 0, 0⟩
def ValT (t : Tk) : Value := .agg #[.int .i64 t.id, .int .i64 t.g, .int .i64 t.wt, .int .i64 t.cpu, .int .u64 t.mask, .bool t.rdy, .int .u64 t.v, .int .u32 t.r]
def rdyN (s : St) (cpu : Int) (j : Nat) : Nat := ((s.ts.take j).filter (rdyB cpu)).length
theorem rdyN_zero (s : St) (cpu : Int) : rdyN s cpu 0 = 0 := rfl
theorem rdyN_succ {s : St} {cpu : Int} {j : Nat} {t : Tk} (h : s.ts[j]? = some t) : rdyN s cpu (j + 1) = rdyN s cpu j + if rdyB cpu t then 1 else 0 := by
  unfold rdyN
  rw [List.take_add_one, h, Option.toList_some, List.filter_append, List.length_append]
  cases hb : rdyB cpu t <;> simp [hb]
theorem rdyN_all {s : St} {cpu : Int} {j : Nat} (h : s.ts.length ≤ j) : rdyN s cpu j = (rdyL s cpu).length := by unfold rdyN rdyL; rw [List.take_of_length_le h]
theorem rdy_get {s : St} {cpu : Int} {j : Nat} {t : Tk} (h : s.ts[j]? = some t) (hr : rdyB cpu t = true) : (rdyL s cpu)[rdyN s cpu j]? = some t := by
  have h1 : rdyL s cpu = (s.ts.take j).filter (rdyB cpu) ++ (t :: (s.ts.drop (j + 1)).filter (rdyB cpu)) := by
    have h2 := List.take_append_drop j s.ts
    rw [List.drop_eq_getElem_cons (List.getElem?_eq_some_iff.1 h).1, (List.getElem?_eq_some_iff.1 h).2] at h2
    conv => lhs; unfold rdyL; rw [← h2]
    rw [List.filter_append, List.filter_cons, if_pos hr]
  rw [h1]
  unfold rdyN
  rw [List.getElem?_append_right (Nat.le_refl _), Nat.sub_self]; rfl
/-- The blocks that the iterator reads. -/
def RdS (Bs Bc : Nat) (vt : Value) (ts : List Tk) (k : Nat) : Prop := k = Bs ∨ k = Bc ∨ (ts ≠ [] ∧ ∃ off n cap, vt = .slice (some ⟨k, off, none⟩) n cap)
theorem EV.keepS {α : Type} {enc : α → List Value} {k : Nat} {w w' : World} {v : Value} {xs : List α} (h : EV enc k w v xs) (hk : ∀ p u, (xs ≠ [] ∧ ∃ off n cap, v = .slice (some ⟨p.block, off, none⟩) n cap) → w.cell? p = some u → w'.cell? p = some u) : EV enc k w' v xs := by
  rcases h with h | ⟨h1, b, off, c, hv, h3, h4⟩
  · exact .inl h
  · exact .inr ⟨h1, b, off, c, hv, h3, h4.keep fun p u hp hc => hk p u ⟨h1, off, _, c, by rw [hp]; exact hv⟩ hc⟩
theorem cell_same {w w' : World} {p : Addr} {u : Value} (h : ∀ o, w.heap[p.block]? = some o → w'.heap[p.block]? = some o) (hc : w.cell? p = some u) : w'.cell? p = some u := by
  obtain ⟨o, ho, _⟩ := cells_of_cell hc
  exact (World.cell?_of_block (w := w) (by rw [h o ho, ho])).trans hc

set_option maxRecDepth 100000 in
set_option maxHeartbeats 1600000 in
theorem ready1_iter (w : World) (Bs Bc : Nat) (c : StC) (s : St) (cpu : Int) (hs : StBox w Bs c s) (hc : Boxed w Bc 3 (.int .i64 cpu)) (ht : EV encT 8 w c.vt s.ts) (hlen : s.ts.length ≤ 1000000) :
    Iter Try.prog 89 #[.pointer (some ⟨Bs, 0, none⟩), .pointer (some ⟨Bc, 0, none⟩)] (fun k => #[ValT ((rdyL s cpu)[k]?.getD tk0)]) (rdyL s cpu).length (RdS Bs Bc c.vt s.ts) (fun _ => False) w := by
  intro l J Jx W hsz hW hJ hJx hY h0
  have H1 : StBox W Bs c s := hW _ _ hs (.inl rfl)
  have H2 : Boxed W Bc 3 (.int .i64 cpu) := hW _ _ hc (.inr (.inl rfl))
  have H3 : EV encT 8 W c.vt s.ts := ht.keepS fun p u hp hcc => cell_same (fun o ho => hW _ o ho (.inr (.inr hp))) hcc
  obtain ⟨At, ct, hvt⟩ := ht.shape
  have HV := Lib.hid hvt
  have h5 := H1.cell.2.2.2.2.2.1
  rw [hvt] at h5
  have HX1 := Lib.hid H1
  have HX2 := Lib.hid H2
  have HX3 := Lib.hid H3
  clear hs hc ht hW hsz H1 H2 H3 hvt
  obtain ⟨L, hL⟩ : ∃ L, s.ts.length = L := ⟨_, rfl⟩
  have HL := Lib.hid hL
  rw [hL] at hlen h5
  clear hL
  refine callsIn_of_wp Try.func89 rfl trivial ?_ rfl
  simp only [Try.ntmps89, List.size_toArray, List.length_cons, List.length_nil, Nat.reduceAdd, Nat.reduceSub, Array.replicate_succ, Array.replicate_zero, List.push_toArray, List.append_toArray, List.nil_append, List.cons_append]
  gi_wp2
  gi_loopg [9] L (fun k i wr => ∃ j : Nat, j + k = L ∧ i = .int .i64 j ∧ J (rdyN s cpu j) wr ∧ StBox wr Bs c s ∧ Boxed wr Bc 3 (.int .i64 cpu) ∧ EV encT 8 wr c.vt s.ts)
  case atStart => exact ⟨0, by omega, rfl, h0, HX1.out, HX2.out, HX3.out⟩
  case round =>
    obtain ⟨j, hj, rfl, hJj, g1, g2, g3⟩ := hrel
    have HJ := Lib.hid hj
    have G1 := Lib.hid g1
    have G2 := Lib.hid g2
    have G3 := Lib.hid g3
    clear hj g1 g2 g3 HX1 HX2 HX3 h0 h5
    by_cases hlt : j < L
    · have hd : decide ((j : Int) < (L : Int)) = true := by rw [decide_eq_true_eq]; omega
      obtain ⟨t, htj⟩ : ∃ t, s.ts[j]? = some t := ⟨_, List.getElem?_eq_getElem (by rw [HL.out]; omega)⟩
      obtain ⟨b, off, c', hv, _, hr⟩ := G3.out.row (by rw [HL.out]; omega)
      have hv2 := HV.out.symm.trans hv
      simp only [Value.slice.injEq] at hv2
      obtain ⟨rfl, hz, rfl⟩ := hv2
      clear hz hv
      obtain ⟨c0, c1, c2, c3, c4, c5, c6, c7⟩ := hr.tk htj
      have n2 := G2.out.cell
      have NS := Lib.hid (rdyN_succ (cpu := cpu) htj)
      have hJa := hJ _ wr (wr.alloc (.cells #[.int .i64 t.id, .int .i64 t.g, .int .i64 t.wt, .int .i64 t.cpu, .int .u64 t.mask, .bool t.rdy, .int .u64 t.v, .int .u32 t.r] 61)) hJj (Mod.alloc _)
      have bA := bel_alloc wr (.cells #[.int .i64 t.id, .int .i64 t.g, .int .i64 t.wt, .int .i64 t.cpu, .int .u64 t.mask, .bool t.rdy, .int .u64 t.v, .int .u32 t.r] 61)
      have A1 := Lib.hid (G1.out.below bA)
      have A2 := Lib.hid (G2.out.below bA)
      have A3 := Lib.hid (G3.out.below bA)
      have TJ := Lib.hid htj
      clear hr htj G1 G2 G3 bA
      cases hrd : t.rdy with
      | false =>
        rw [hrd] at hJa A1 A2 A3 c5
        have X := Lib.hid (show rdyN s cpu (j + 1) = rdyN s cpu j by rw [NS.out, if_neg (by unfold rdyB; rw [hrd]; simp)]; rfl)
        have HJA := Lib.hid hJa
        clear hJa hJj NS hrd
        gi_wp2
        all_goals
          refine ⟨fun _ _ => trivial, ?_⟩
          gi_wp2
          gi_roundg (gk - 1)
          case measure => have := HJ.out; omega
          case rel => exact ⟨j + 1, by have := HJ.out; omega, by go_num, by rw [X.out]; exact HJA.out, A1.out, A2.out, A3.out⟩
      | true =>
        rw [hrd] at hJa A1 A2 A3 c5
        have n3 := A2.out.cell
        by_cases hcp : t.cpu = cpu
        · have hrb : rdyB cpu t = true := by unfold rdyB; rw [hrd]; simp [hcp]
          have X := Lib.hid (show rdyN s cpu (j + 1) = rdyN s cpu j + 1 by rw [NS.out, if_pos hrb])
          have hg := rdy_get TJ.out hrb
          have hk : rdyN s cpu j < (rdyL s cpu).length := (List.getElem?_eq_some_iff.1 hg).1
          have hYk := hY _ _ hk hJa
          simp only [hg, Option.getD_some, ValT, hrd] at hYk
          obtain ⟨fn, tmps, assign, body, hy, hR⟩ := hYk
          have HR := Lib.hid hR
          have hcpd : (t.cpu == cpu) = true := by simp [hcp]
          have HJX := Lib.hid hJx
          have HJ' := Lib.hid hJ
          have hd0 : W0.depth = none := rfl
          clear hJa hJj NS hrd hrb hg hk hR hY hJx hJ hcp
          gi_wp2
          refine HR.out.mono ?_
          rintro e W' ⟨hsz, hS, hres⟩
          have E1 := Lib.hid (show StBox W' Bs c s from hS _ _ A1.out (.inl rfl))
          have E2 := Lib.hid (show Boxed W' Bc 3 (.int .i64 cpu) from hS _ _ A2.out (.inr (.inl rfl)))
          have E3 := Lib.hid (show EV encT 8 W' c.vt s.ts from A3.out.keepS fun p u hp hcc => cell_same (fun o ho => hS _ o ho (.inr (.inr hp))) hcc)
          clear hS hsz hy HR A1 A2 A3 c0 c1 c2 c3 c4 c5 c6 c7 n2 n3
          rcases hres with ⟨rfl, hj'⟩ | ⟨rfl, hjx⟩
          · have HJ2 := Lib.hid hj'
            clear hj'
            gi_wp2
            gi_roundg (gk - 1)
            case measure => have := HJ.out; omega
            case rel => exact ⟨j + 1, by have := HJ.out; omega, by go_num, by rw [X.out]; exact HJ2.out, E1.out, E2.out, E3.out⟩
          · have HJ2 := Lib.hid hjx
            clear hjx
            gi_wp2
            refine bodyPost_ret (results_none rfl _ _ _) rfl ?_
            exact ⟨⟨_, rfl⟩, .inr HJ2.out⟩
        · have hrb : rdyB cpu t = false := by unfold rdyB; rw [hrd]; simp [hcp]
          have X := Lib.hid (show rdyN s cpu (j + 1) = rdyN s cpu j by rw [NS.out, if_neg (by rw [hrb]; simp)]; rfl)
          have HJA := Lib.hid hJa
          have hcpd : (t.cpu == cpu) = false := by simp [hcp]
          clear hJa hJj NS hrd hrb hcp
          gi_wp2
          all_goals
            refine ⟨fun _ _ => trivial, ?_⟩
            gi_wp2
            gi_roundg (gk - 1)
            case measure => have := HJ.out; omega
            case rel => exact ⟨j + 1, by have := HJ.out; omega, by go_num, by rw [X.out]; exact HJA.out, A1.out, A2.out, A3.out⟩
    · have hd : decide ((j : Int) < (L : Int)) = false := by rw [decide_eq_false_iff_not]; omega
      have X := Lib.hid (show J (rdyL s cpu).length wr by rw [← rdyN_all (s := s) (cpu := cpu) (j := j) (by rw [HL.out]; omega)]; exact hJj)
      clear hJj G1 G2 G3 hY hJx hJ
      gi_wp2
      go_end0
      exact ⟨⟨_, rfl⟩, .inl X.out⟩
end Go.Proofs.Ytenngfkgfdogjaa

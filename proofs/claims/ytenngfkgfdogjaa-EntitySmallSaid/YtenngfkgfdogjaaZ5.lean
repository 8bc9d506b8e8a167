/- entity.each, over an iterator of which a contract is known: tasks to keys | entity.each, over an iterator of which a contract is known: tasks to numbers | entity.each, over an iterator of which a contract is known: numbers to keys | The iterator entity.indices; the makers of iterators; the closures of Ready and members. -/
import Derived.Test.YtenngfkgfdogjaaZ4
import Derived.StillTailTactics
import Derived.Laws.ResultCell
set_option linter.unusedVariables false
set_option linter.unusedSimpArgs false
set_option linter.unusedSectionVars false
namespace Go.Proofs.Ytenngfkgfdogjaa
open Go Go.RowKit Go.Shelf
attribute [local go_sem] Oper.semAt_some

theorem elemY : ElemT Try.prog 40 24 3 24 := ⟨Try.underlying40, by
  have h : (Try.prog.info? 24).map (fun i => (i.zero, i.size, i.bytes)) = some (some (.agg #[.int .u64 0, .bool false, .int .i64 0]), 3, 24) := by kernel_rfl
  obtain ⟨i, h1, h2, h3, h4⟩ := info_parts h
  exact ⟨i, _, h1, h2, h3, h4, rfl⟩, by omega, by omega⟩
/-- What a function makes of the first k elements, if it makes something. -/
def made {β : Type} (f : Nat → β × Bool) : Nat → List β
  | 0 => []
  | k + 1 => made f k ++ if (f k).2 then [(f k).1] else []
theorem made_len {β : Type} (f : Nat → β × Bool) : ∀ k, (made f k).length ≤ k
  | 0 => Nat.le_refl _
  | k + 1 => by have := made_len f k; unfold made; rw [List.length_append]; split <;> simp <;> omega
theorem new_ky {w : World} {k : Ky} {e : TypeId} : EV encY 3 (w.alloc (.cells #[.int .u64 k.v, .bool k.sp, .int .i64 k.id] e)) (.slice (some ⟨w.heap.size, 0, none⟩) 1 1) [k] := EV.newL encY_len rfl rfl (Nat.le_refl _)
theorem new_ky' {w : World} {m : Nat} {k : Ky} {e : TypeId} (hm : w.heap.size = m) : EV encY 3 (w.alloc (.cells #[.int .u64 k.v, .bool k.sp, .int .i64 k.id] e)) (.slice (some ⟨m, 0, none⟩) 1 1) [k] := by subst hm; exact new_ky
theorem mod_below {w w' : World} (h : Mod (fun _ => False) w w') : Below w.heap.size w w' := ⟨h.os, h.tape, h.output, h.size, fun k hk => h.block k hk (fun t => t)⟩
theorem chg_below {B : Nat} {w w' : World} (h : Chg B (fun _ => False) w w') (hB : w.heap.size ≤ B) : Below w.heap.size w w' := ⟨h.os, h.tape, h.output, h.size, fun k hk => by
  have := h.block k _ (Array.getElem?_eq_getElem hk) (fun t => t) (.inl (by omega))
  rw [this, ← Array.getElem?_eq_getElem hk]⟩

set_option maxRecDepth 100000 in
set_option maxHeartbeats 3200000 in
theorem eachTK_ok (w : World) (gf : Nat) (lb : Array Value) (tk : Nat → Tk) (N : Nat) (S : Nat → Prop) (hf : Nat) (lf : Array Value) (f : Nat → Ky × Bool)
    (eg : ∀ args w, (callFunc gf args).run Try.prog w = .ok (.enter gf args) w) (eh : ∀ args w, (callFunc hf args).run Try.prog w = .ok (.enter hf args) w)
    (hit : Iter Try.prog gf lb (fun k => #[ValT (tk k)]) N S (fun _ => False) w) (hS : ∀ k, S k → k < w.heap.size) (hN : N ≤ 1000000)
    (hof : ∀ W k, k < N → Below w.heap.size w W → Calls Try.prog hf (#[ValT (tk k)] ++ lf) W fun e W' => e = .returned (.tuple #[.agg #[.int .u64 (f k).1.v, .bool (f k).1.sp, .int .i64 (f k).1.id], .bool (f k).2]) ∧ Below W.heap.size W W') :
    CallsIn W0 0 Try.prog 81 #[.func (.func gf) #[] lb, .func (.func hf) #[] lf] w fun e w' => ∃ v, e = .returned v ∧ OV encY 3 24 w.heap.size w' v (made f N) ∧ Below w.heap.size w w' := by
  have HIT := Lib.hid hit
  have HS := Lib.hid hS
  have HOF := Lib.hid hof
  clear hit hS hof
  have hfn : ∀ f, W0.fn f := fun _ => trivial
  have hd0 : W0.depth = none := rfl
  refine callsIn_of_wp_marks Try.func81 rfl trivial ?_ rfl
  simp only [Try.ntmps81, List.size_toArray, List.length_cons, List.length_nil, Nat.reduceAdd, Nat.reduceSub, Array.replicate_succ, Array.replicate_zero, List.push_toArray, List.append_toArray, List.nil_append, List.cons_append]
  gi_wp2
  obtain ⟨w1, hw1⟩ : ∃ w1, (w.alloc (.cells #[.func (.func hf) #[] lf] 143)).alloc (.cells #[.slice none 0 0] 40) = w1 := ⟨_, rfl⟩
  rw [hw1]
  have hz : w1.heap.size = w.heap.size + 1 + 1 := by rw [← hw1]; simp
  have bf : Boxed w1 w.heap.size 143 (.func (.func hf) #[] lf) := by rw [← hw1]; exact (Boxed.new _ _ _).below (bel_alloc _ _)
  have bx : Boxed w1 (w.heap.size + 1) 40 (.slice none 0 0) := by rw [← hw1]; have := Boxed.new (w.alloc (.cells #[.func (.func hf) #[] lf] 143)) 40 (.slice none 0 0); rwa [World.size_alloc] at this
  have m0 : Below w.heap.size w w1 := by rw [← hw1]; exact below_step (bel_alloc _ _) (bel_alloc _ _)
  have i1 : Iter Try.prog gf lb (fun k => #[ValT (tk k)]) N S (fun _ => False) w1 := HIT.out.later m0.size (fun k o ho hk => (m0.block k (HS.out k hk)).trans ho)
  clear hw1
  refine wp_range (xs := fun k => #[ValT (tk k)]) rfl eg i1
    (fun k e => e.elim) (fun k e => by have := HS.out k e; omega) (fun k => rfl)
    (fun k W => ∃ v, Boxed W (w.heap.size + 1) 40 v ∧ OV encY 3 24 w.heap.size W v (made f k) ∧ Boxed W w.heap.size 143 (.func (.func hf) #[] lf) ∧ Below w.heap.size w W ∧ w.heap.size + 1 + 1 ≤ W.heap.size) (fun _ _ => False)
    (fun k W1 W2 h hc => ?stab)
    (fun _ _ _ h _ => h) ⟨_, bx, OV.nil _ _, bf, m0, by omega⟩ ?round ?done (fun _ _ _ h => h.elim)
  case stab =>
    obtain ⟨v, h1, h3, h4, h5, h6⟩ := h
    exact ⟨v, h1.chg hc (fun t => t), h3.chg hc (fun g hg t => t), h4.chg hc (fun t => t), h5.trans ⟨hc.os, hc.tape, hc.output, hc.size, fun k hk => by
      have := hc.block k _ (Array.getElem?_eq_getElem (show k < W1.heap.size by omega)) (fun t => t) (.inl (by omega))
      rw [this, ← Array.getElem?_eq_getElem]⟩, Nat.le_trans h6 hc.size⟩
  case round =>
    rintro l k W hk hl hl2 ⟨v, h1, h3, h4, h5, h6⟩
    simp only [ValT]
    gi_wp2
    refine ⟨BK.alloc _, fun W2 hc hq => ?_⟩
    clear hq
    have bA := bel_alloc W (.cells #[.int .i64 (tk k).id, .int .i64 (tk k).g, .int .i64 (tk k).wt, .int .i64 (tk k).cpu, .int .u64 (tk k).mask, .bool (tk k).rdy, .int .u64 (tk k).v, .int .u32 (tk k).r] 61)
    have g1 := (h1.below bA).chg hc (fun t => t)
    have g3 := (h3.below bA).chg hc (fun _ _ t => t)
    have g4 := (h4.below bA).chg hc (fun t => t)
    have g5 : Below w.heap.size w W2 := (h5.trans (bA.mono (by omega))).trans ⟨hc.os, hc.tape, hc.output, hc.size, fun q hq => by
      have h := hc.block q _ (Array.getElem?_eq_getElem (show q < (W.alloc (.cells #[.int .i64 (tk k).id, .int .i64 (tk k).g, .int .i64 (tk k).wt, .int .i64 (tk k).cpu, .int .u64 (tk k).mask, .bool (tk k).rdy, .int .u64 (tk k).v, .int .u32 (tk k).r] 61)).heap.size by simp; omega)) (fun t => t) (.inl (by omega))
      rw [h, ← Array.getElem?_eq_getElem]⟩
    have g6 : w.heap.size + 1 + 1 ≤ W2.heap.size := by have := hc.size; have := bA.size; omega
    have rt := ((EV.newL (w := W) (e := 61) (xs := [tk k]) (n := 1) (c := 1) (cs := #[.int .i64 (tk k).id, .int .i64 (tk k).g, .int .i64 (tk k).wt, .int .i64 (tk k).cpu, .int .u64 (tk k).mask, .bool (tk k).rdy, .int .u64 (tk k).v, .int .u32 (tk k).r]) encT_len rfl rfl (Nat.le_refl _)).row3 (by simp))
    have rt2 : ER encT 8 W2 W.heap.size 0 [tk k] := rt.keep fun p u _ hcc => hc.cell hcc (fun t => t)
    obtain ⟨d0, d1, d2, d3, d4, d5, d6, d7⟩ := rt2.tk (i := 0) rfl
    simp only [Nat.zero_mul, Nat.zero_add] at d0 d1 d2 d3 d4 d5 d6 d7
    have HC := Lib.hid (HOF.out W2 k hk g5)
    simp only [ValT] at HC
    have g1c := g1.cell
    have g4c := g4.cell
    have hkl := made_len f k
    clear rt rt2 bA hc h1 h3 h4 h5 h6 i1 m0 bx bf HIT HOF hl hl2
    obtain ⟨P, hP⟩ : ∃ P, W.heap.size = P := ⟨_, rfl⟩
    rw [hP] at d0 d1 d2 d3 d4 d5 d6 d7 ⊢
    clear hP
    have MS := Lib.hid (show made f (k + 1) = made f k ++ if (f k).2 then [(f k).1] else [] from rfl)
    have G1 := Lib.hid g1
    have G3 := Lib.hid g3
    have G4 := Lib.hid g4
    have G5 := Lib.hid g5
    clear g1 g3 g4 g5
    gi_wp2
    refine (in_of HC.out).mono ?_
    rintro e W3 ⟨rfl, bb⟩
    have bK := bel_alloc W3 (.cells #[.int .u64 (f k).1.v, .bool (f k).1.sp, .int .i64 (f k).1.id] 24)
    have b4 := below_step bb bK
    have n1 := G1.out.below b4
    have n3 := G3.out.below b4
    have n4 := G4.out.below b4
    have n5 := G5.out.trans (b4.mono G5.out.size)
    have n6 : w.heap.size + 1 + 1 ≤ (W3.alloc (.cells #[.int .u64 (f k).1.v, .bool (f k).1.sp, .int .i64 (f k).1.id] 24)).heap.size := Nat.le_trans g6 b4.size
    have bk4 : BK S W2 (W3.alloc (.cells #[.int .u64 (f k).1.v, .bool (f k).1.sp, .int .i64 (f k).1.id] 24)) := BK.of_below b4
    have rk := ((EV.newL (w := W3) (e := 24) (xs := [(f k).1]) (n := 1) (c := 1) (cs := #[.int .u64 (f k).1.v, .bool (f k).1.sp, .int .i64 (f k).1.id]) encY_len rfl rfl (Nat.le_refl _)).row3 (by simp))
    obtain ⟨e0, e1, e2⟩ := rk.ky (i := 0) rfl
    simp only [Nat.zero_mul, Nat.zero_add] at e0 e1 e2
    clear rk bK HC d0 d1 d2 d3 d4 d5 d6 d7 g1c g4c G1 G3 G4 G5 bb b4
    generalize hfk : f k = fk at MS e0 e1 e2 n1 n3 n4 n5 n6 bk4 ⊢
    obtain ⟨y, is⟩ := fk
    dsimp only at MS e0 e1 e2 n1 n3 n4 n5 n6 bk4 ⊢
    cases is with
    | false =>
      have N1 := Lib.hid n1
      have N3 := Lib.hid n3
      have N4 := Lib.hid n4
      have N5 := Lib.hid n5
      have N6 := Lib.hid n6
      have N7 := Lib.hid bk4
      clear n1 n3 n4 n5 n6 bk4 e0 e1 e2 hfk
      gi_wp2
      exact ⟨N7.out, v, N1.out, by rw [MS.out]; simpa using N3.out, N4.out, N5.out, N6.out⟩
    | true =>
      have n1c := n1.cell
      gi_wp2_with (gi_at_builtin; refine wpListIn_app elemY encY_len encY_one rfl _ _ rfl _ _ rfl rfl (n3.alloc _) (new_ky' (by simp)) ?q1 ?q2 ?_)
      case q1 => (try simp only [List.length_cons, List.length_nil]); omega
      case q2 => (try simp only [World.size_alloc] at n6 ⊢); omega
      intro v' W5 hown hgrow
      obtain ⟨g, cap, hv', hg1, hg2⟩ := hown.form (by simp)
      obtain ⟨k1, k2, k3, k4, k5⟩ := Boxed.appended n1 (by decide) n3 (by omega) (by omega) hown hgrow
      have f5 := (n4.alloc (.cells #[.int .u64 y.v, .bool y.sp, .int .i64 y.id] 24)).kept hgrow (n4.not_row (by decide) n3)
      have f6 : Boxed (W5.setCell ⟨w.heap.size + 1, 0, none⟩ v') w.heap.size 143 (.func (.func hf) #[] lf) := f5.setOther (by show ¬ w.heap.size = w.heap.size + 1; omega)
      have k1c := k1.cell
      have k1f := k1.frozen
      have K6 : Below w.heap.size w (W5.setCell ⟨w.heap.size + 1, 0, none⟩ v') := n5.trans k5
      have K7 : BK S W2 (W5.setCell ⟨w.heap.size + 1, 0, none⟩ v') := bk4.trans ⟨k4.size, fun j o ho hs => by
        rcases hs with hs | hs
        · exact (k5.block j (HS.out j hs)).trans ho
        · exact k4.same j o ho (by cases o <;> simp_all [isBook, Obj.isCells])⟩
      have K8 : w.heap.size + 1 + 1 ≤ (W5.setCell ⟨w.heap.size + 1, 0, none⟩ v').heap.size := Nat.le_trans n6 k4.size
      have HK6 := Lib.hid K6
      have HK7 := Lib.hid K7
      have HK8 := Lib.hid K8
      have HF6 := Lib.hid f6
      have HK2 := Lib.hid k2
      obtain ⟨m, hm⟩ : ∃ m, (made f k ++ [y]).length = m := ⟨_, rfl⟩
      rw [hm] at hv'
      clear hm
      subst hv'
      have MS' := MS.out
      rw [if_pos trivial] at MS'
      rw [← MS'] at k3
      have HK3 := Lib.hid k3
      clear hown hgrow k1 k2 k3 k4 k5 n1 n3 n4 n5 n6 bk4 n1c e0 e1 e2 hfk MS' K6 K7 K8 f5 f6
      gi_wp2
      exact ⟨HK7.out, _, HK2.out, HK3.out, HF6.out, HK6.out, HK8.out⟩
  case done =>
    rintro D W ⟨v, h1, h3, h4, h5, h6⟩ hD hK
    have h1c := h1.cell
    clear bx bf
    gi_wp2
    refine post_mark hK (fun w' => results_tmp rfl _ _ w') ⟨_, rfl, h3.chg (Chg.putObj (B := 0) hK rfl (Nat.zero_le _)) (fun _ _ t => t), h5.trans (below_putObj (Below.refl _ _) (by omega) _)⟩
end Go.Proofs.Ytenngfkgfdogjaa
namespace Go.Proofs.Ytenngfkgfdogjaa
open Go Go.RowKit Go.Shelf
attribute [local go_sem] Oper.semAt_some

theorem new_one' {w : World} {m : Nat} {z : Int} {e : TypeId} (hm : w.heap.size = m) : EV encI 1 (w.alloc (.cells #[.int .i64 z] e)) (.slice (some ⟨m, 0, none⟩) 1 1) [z] := by subst hm; exact EV.new1 rfl (Nat.le_refl _)
set_option maxRecDepth 100000 in
set_option maxHeartbeats 3200000 in
theorem eachTI_ok (w : World) (gf : Nat) (lb : Array Value) (tk : Nat → Tk) (N : Nat) (S : Nat → Prop) (hf : Nat) (lf : Array Value) (f : Nat → Int × Bool)
    (eg : ∀ args w, (callFunc gf args).run Try.prog w = .ok (.enter gf args) w) (eh : ∀ args w, (callFunc hf args).run Try.prog w = .ok (.enter hf args) w)
    (hit : Iter Try.prog gf lb (fun k => #[ValT (tk k)]) N S (fun _ => False) w) (hS : ∀ k, S k → k < w.heap.size) (hN : N ≤ 1000000)
    (hof : ∀ W k, k < N → Below w.heap.size w W → Calls Try.prog hf (#[ValT (tk k)] ++ lf) W fun e W' => e = .returned (.tuple #[.int .i64 (f k).1, .bool (f k).2]) ∧ Below W.heap.size W W') :
    CallsIn W0 0 Try.prog 48 #[.func (.func gf) #[] lb, .func (.func hf) #[] lf] w fun e w' => ∃ v, e = .returned v ∧ OV encI 1 3 w.heap.size w' v (made f N) ∧ Below w.heap.size w w' := by
  have HIT := Lib.hid hit
  have HS := Lib.hid hS
  have HOF := Lib.hid hof
  clear hit hS hof
  have hfn : ∀ f, W0.fn f := fun _ => trivial
  have hd0 : W0.depth = none := rfl
  refine callsIn_of_wp_marks Try.func48 rfl trivial ?_ rfl
  simp only [Try.ntmps48, List.size_toArray, List.length_cons, List.length_nil, Nat.reduceAdd, Nat.reduceSub, Array.replicate_succ, Array.replicate_zero, List.push_toArray, List.append_toArray, List.nil_append, List.cons_append]
  gi_wp2
  obtain ⟨w1, hw1⟩ : ∃ w1, (w.alloc (.cells #[.func (.func hf) #[] lf] 104)).alloc (.cells #[.slice none 0 0] 34) = w1 := ⟨_, rfl⟩
  rw [hw1]
  have hz : w1.heap.size = w.heap.size + 1 + 1 := by rw [← hw1]; simp
  have bf : Boxed w1 w.heap.size 104 (.func (.func hf) #[] lf) := by rw [← hw1]; exact (Boxed.new _ _ _).below (bel_alloc _ _)
  have bx : Boxed w1 (w.heap.size + 1) 34 (.slice none 0 0) := by rw [← hw1]; have := Boxed.new (w.alloc (.cells #[.func (.func hf) #[] lf] 104)) 34 (.slice none 0 0); rwa [World.size_alloc] at this
  have m0 : Below w.heap.size w w1 := by rw [← hw1]; exact below_step (bel_alloc _ _) (bel_alloc _ _)
  have i1 : Iter Try.prog gf lb (fun k => #[ValT (tk k)]) N S (fun _ => False) w1 := HIT.out.later m0.size (fun k o ho hk => (m0.block k (HS.out k hk)).trans ho)
  clear hw1
  refine wp_range (xs := fun k => #[ValT (tk k)]) rfl eg i1
    (fun k e => e.elim) (fun k e => by have := HS.out k e; omega) (fun k => rfl)
    (fun k W => ∃ v, Boxed W (w.heap.size + 1) 34 v ∧ OV encI 1 3 w.heap.size W v (made f k) ∧ Boxed W w.heap.size 104 (.func (.func hf) #[] lf) ∧ Below w.heap.size w W ∧ w.heap.size + 1 + 1 ≤ W.heap.size) (fun _ _ => False)
    (fun k W1 W2 h hc => ?stab)
    (fun _ _ _ h _ => h) ⟨_, bx, OV.nil _ _, bf, m0, by omega⟩ ?round ?done (fun _ _ _ h => h.elim)
  case stab =>
    obtain ⟨v, h1, h3, h4, h5, h6⟩ := h
    exact ⟨v, h1.chg hc (fun t => t), h3.chg hc (fun g hg t => t), h4.chg hc (fun t => t), h5.trans ⟨hc.os, hc.tape, hc.output, hc.size, fun k hk => by
      have := hc.block k _ (Array.getElem?_eq_getElem (show k < W1.heap.size by omega)) (fun t => t) (.inl (by omega))
      rw [this, ← Array.getElem?_eq_getElem]⟩, Nat.le_trans h6 hc.size⟩
  case round =>
    rintro l k W hk hl hl2 ⟨v, h1, h3, h4, h5, h6⟩
    simp only [ValT]
    gi_wp2
    refine ⟨BK.alloc _, fun W2 hc hq => ?_⟩
    clear hq
    have bA := bel_alloc W (.cells #[.int .i64 (tk k).id, .int .i64 (tk k).g, .int .i64 (tk k).wt, .int .i64 (tk k).cpu, .int .u64 (tk k).mask, .bool (tk k).rdy, .int .u64 (tk k).v, .int .u32 (tk k).r] 61)
    have g1 := (h1.below bA).chg hc (fun t => t)
    have g3 := (h3.below bA).chg hc (fun _ _ t => t)
    have g4 := (h4.below bA).chg hc (fun t => t)
    have g5 : Below w.heap.size w W2 := (h5.trans (bA.mono (by omega))).trans ⟨hc.os, hc.tape, hc.output, hc.size, fun q hq => by
      have h := hc.block q _ (Array.getElem?_eq_getElem (show q < (W.alloc (.cells #[.int .i64 (tk k).id, .int .i64 (tk k).g, .int .i64 (tk k).wt, .int .i64 (tk k).cpu, .int .u64 (tk k).mask, .bool (tk k).rdy, .int .u64 (tk k).v, .int .u32 (tk k).r] 61)).heap.size by simp; omega)) (fun t => t) (.inl (by omega))
      rw [h, ← Array.getElem?_eq_getElem]⟩
    have g6 : w.heap.size + 1 + 1 ≤ W2.heap.size := by have := hc.size; have := bA.size; omega
    have rt := ((EV.newL (w := W) (e := 61) (xs := [tk k]) (n := 1) (c := 1) (cs := #[.int .i64 (tk k).id, .int .i64 (tk k).g, .int .i64 (tk k).wt, .int .i64 (tk k).cpu, .int .u64 (tk k).mask, .bool (tk k).rdy, .int .u64 (tk k).v, .int .u32 (tk k).r]) encT_len rfl rfl (Nat.le_refl _)).row3 (by simp))
    have rt2 : ER encT 8 W2 W.heap.size 0 [tk k] := rt.keep fun p u _ hcc => hc.cell hcc (fun t => t)
    obtain ⟨d0, d1, d2, d3, d4, d5, d6, d7⟩ := rt2.tk (i := 0) rfl
    simp only [Nat.zero_mul, Nat.zero_add] at d0 d1 d2 d3 d4 d5 d6 d7
    have HC := Lib.hid (HOF.out W2 k hk g5)
    simp only [ValT] at HC
    have g1c := g1.cell
    have g4c := g4.cell
    have hkl := made_len f k
    clear rt rt2 bA hc h1 h3 h4 h5 h6 i1 m0 bx bf HIT HOF hl hl2
    obtain ⟨P, hP⟩ : ∃ P, W.heap.size = P := ⟨_, rfl⟩
    rw [hP] at d0 d1 d2 d3 d4 d5 d6 d7 ⊢
    clear hP
    have MS := Lib.hid (show made f (k + 1) = made f k ++ if (f k).2 then [(f k).1] else [] from rfl)
    have G1 := Lib.hid g1
    have G3 := Lib.hid g3
    have G4 := Lib.hid g4
    have G5 := Lib.hid g5
    clear g1 g3 g4 g5
    gi_wp2
    refine (in_of HC.out).mono ?_
    rintro e W3 ⟨rfl, bb⟩
    have b4 := bb
    have n1 := G1.out.below b4
    have n3 := G3.out.below b4
    have n4 := G4.out.below b4
    have n5 := G5.out.trans (b4.mono G5.out.size)
    have n6 : w.heap.size + 1 + 1 ≤ W3.heap.size := Nat.le_trans g6 b4.size
    have bk4 : BK S W2 W3 := BK.of_below b4
    clear HC d0 d1 d2 d3 d4 d5 d6 d7 g1c g4c G1 G3 G4 G5 bb b4
    generalize hfk : f k = fk at MS ⊢
    obtain ⟨y, is⟩ := fk
    dsimp only at MS ⊢
    cases is with
    | false =>
      have N1 := Lib.hid n1
      have N3 := Lib.hid n3
      have N4 := Lib.hid n4
      have N5 := Lib.hid n5
      have N6 := Lib.hid n6
      have N7 := Lib.hid bk4
      clear n1 n3 n4 n5 n6 bk4 hfk
      gi_wp2
      exact ⟨N7.out, v, N1.out, by rw [MS.out]; simpa using N3.out, N4.out, N5.out, N6.out⟩
    | true =>
      have n1c := n1.cell
      gi_wp2_with (gi_at_builtin; refine wpListIn_app elemI encI_len encI_one rfl _ _ rfl _ _ rfl rfl (n3.alloc _) (new_one' rfl) ?q1 ?q2 ?_)
      case q1 => (try simp only [List.length_cons, List.length_nil]); omega
      case q2 => (try simp only [World.size_alloc] at n6 ⊢); omega
      intro v' W5 hown hgrow
      obtain ⟨g, cap, hv', hg1, hg2⟩ := hown.form (by simp)
      obtain ⟨k1, k2, k3, k4, k5⟩ := Boxed.appended n1 (by decide) n3 (by omega) (by omega) hown hgrow
      have f5 := (n4.alloc (.cells #[.int .i64 y] 3)).kept hgrow (n4.not_row (by decide) n3)
      have f6 : Boxed (W5.setCell ⟨w.heap.size + 1, 0, none⟩ v') w.heap.size 104 (.func (.func hf) #[] lf) := f5.setOther (by show ¬ w.heap.size = w.heap.size + 1; omega)
      have k1c := k1.cell
      have k1f := k1.frozen
      have K6 : Below w.heap.size w (W5.setCell ⟨w.heap.size + 1, 0, none⟩ v') := n5.trans k5
      have K7 : BK S W2 (W5.setCell ⟨w.heap.size + 1, 0, none⟩ v') := bk4.trans ⟨k4.size, fun j o ho hs => by
        rcases hs with hs | hs
        · exact (k5.block j (HS.out j hs)).trans ho
        · exact k4.same j o ho (by cases o <;> simp_all [isBook, Obj.isCells])⟩
      have K8 : w.heap.size + 1 + 1 ≤ (W5.setCell ⟨w.heap.size + 1, 0, none⟩ v').heap.size := Nat.le_trans n6 k4.size
      have HK6 := Lib.hid K6
      have HK7 := Lib.hid K7
      have HK8 := Lib.hid K8
      have HF6 := Lib.hid f6
      have HK2 := Lib.hid k2
      obtain ⟨m, hm⟩ : ∃ m, (made f k ++ [y]).length = m := ⟨_, rfl⟩
      rw [hm] at hv'
      clear hm
      subst hv'
      have MS' := MS.out
      rw [if_pos trivial] at MS'
      rw [← MS'] at k3
      have HK3 := Lib.hid k3
      clear hown hgrow k1 k2 k3 k4 k5 n1 n3 n4 n5 n6 bk4 n1c hfk MS' K6 K7 K8 f5 f6
      gi_wp2
      exact ⟨HK7.out, _, HK2.out, HK3.out, HF6.out, HK6.out, HK8.out⟩
  case done =>
    rintro D W ⟨v, h1, h3, h4, h5, h6⟩ hD hK
    have h1c := h1.cell
    clear bx bf
    gi_wp2
    refine post_mark hK (fun w' => results_tmp rfl _ _ w') ⟨_, rfl, h3.chg (Chg.putObj (B := 0) hK rfl (Nat.zero_le _)) (fun _ _ t => t), h5.trans (below_putObj (Below.refl _ _) (by omega) _)⟩
end Go.Proofs.Ytenngfkgfdogjaa
namespace Go.Proofs.Ytenngfkgfdogjaa
open Go Go.RowKit Go.Shelf
attribute [local go_sem] Oper.semAt_some

set_option maxRecDepth 100000 in
set_option maxHeartbeats 3200000 in
theorem eachIK_ok (w : World) (gf : Nat) (lb : Array Value) (zs : Nat → Int) (N : Nat) (S : Nat → Prop) (hf : Nat) (lf : Array Value) (f : Nat → Ky × Bool)
    (eg : ∀ args w, (callFunc gf args).run Try.prog w = .ok (.enter gf args) w) (eh : ∀ args w, (callFunc hf args).run Try.prog w = .ok (.enter hf args) w)
    (hit : Iter Try.prog gf lb (fun k => #[.int .i64 (zs k)]) N S (fun _ => False) w) (hS : ∀ k, S k → k < w.heap.size) (hN : N ≤ 1000000)
    (hof : ∀ W k, k < N → Below w.heap.size w W → Calls Try.prog hf (#[.int .i64 (zs k)] ++ lf) W fun e W' => e = .returned (.tuple #[.agg #[.int .u64 (f k).1.v, .bool (f k).1.sp, .int .i64 (f k).1.id], .bool (f k).2]) ∧ Below W.heap.size W W') :
    CallsIn W0 0 Try.prog 83 #[.func (.func gf) #[] lb, .func (.func hf) #[] lf] w fun e w' => ∃ v, e = .returned v ∧ OV encY 3 24 w.heap.size w' v (made f N) ∧ Below w.heap.size w w' := by
  have HIT := Lib.hid hit
  have HS := Lib.hid hS
  have HOF := Lib.hid hof
  clear hit hS hof
  have hfn : ∀ f, W0.fn f := fun _ => trivial
  have hd0 : W0.depth = none := rfl
  refine callsIn_of_wp_marks Try.func83 rfl trivial ?_ rfl
  simp only [Try.ntmps83, List.size_toArray, List.length_cons, List.length_nil, Nat.reduceAdd, Nat.reduceSub, Array.replicate_succ, Array.replicate_zero, List.push_toArray, List.append_toArray, List.nil_append, List.cons_append]
  gi_wp2
  obtain ⟨w1, hw1⟩ : ∃ w1, (w.alloc (.cells #[.func (.func hf) #[] lf] 146)).alloc (.cells #[.slice none 0 0] 40) = w1 := ⟨_, rfl⟩
  rw [hw1]
  have hz : w1.heap.size = w.heap.size + 1 + 1 := by rw [← hw1]; simp
  have bf : Boxed w1 w.heap.size 146 (.func (.func hf) #[] lf) := by rw [← hw1]; exact (Boxed.new _ _ _).below (bel_alloc _ _)
  have bx : Boxed w1 (w.heap.size + 1) 40 (.slice none 0 0) := by rw [← hw1]; have := Boxed.new (w.alloc (.cells #[.func (.func hf) #[] lf] 146)) 40 (.slice none 0 0); rwa [World.size_alloc] at this
  have m0 : Below w.heap.size w w1 := by rw [← hw1]; exact below_step (bel_alloc _ _) (bel_alloc _ _)
  have i1 : Iter Try.prog gf lb (fun k => #[.int .i64 (zs k)]) N S (fun _ => False) w1 := HIT.out.later m0.size (fun k o ho hk => (m0.block k (HS.out k hk)).trans ho)
  clear hw1
  refine wp_range (xs := fun k => #[.int .i64 (zs k)]) rfl eg i1
    (fun k e => e.elim) (fun k e => by have := HS.out k e; omega) (fun k => rfl)
    (fun k W => ∃ v, Boxed W (w.heap.size + 1) 40 v ∧ OV encY 3 24 w.heap.size W v (made f k) ∧ Boxed W w.heap.size 146 (.func (.func hf) #[] lf) ∧ Below w.heap.size w W ∧ w.heap.size + 1 + 1 ≤ W.heap.size) (fun _ _ => False)
    (fun k W1 W2 h hc => ?stab)
    (fun _ _ _ h _ => h) ⟨_, bx, OV.nil _ _, bf, m0, by omega⟩ ?round ?done (fun _ _ _ h => h.elim)
  case stab =>
    obtain ⟨v, h1, h3, h4, h5, h6⟩ := h
    exact ⟨v, h1.chg hc (fun t => t), h3.chg hc (fun g hg t => t), h4.chg hc (fun t => t), h5.trans ⟨hc.os, hc.tape, hc.output, hc.size, fun k hk => by
      have := hc.block k _ (Array.getElem?_eq_getElem (show k < W1.heap.size by omega)) (fun t => t) (.inl (by omega))
      rw [this, ← Array.getElem?_eq_getElem]⟩, Nat.le_trans h6 hc.size⟩
  case round =>
    rintro l k W hk hl hl2 ⟨v, h1, h3, h4, h5, h6⟩
    gi_wp2
    refine ⟨BK.refl _ _, fun W2 hc hq => ?_⟩
    clear hq
    have g1 := h1.chg hc (fun t => t)
    have g3 := h3.chg hc (fun _ _ t => t)
    have g4 := h4.chg hc (fun t => t)
    have g5 : Below w.heap.size w W2 := h5.trans ⟨hc.os, hc.tape, hc.output, hc.size, fun q hq => by
      have h := hc.block q _ (Array.getElem?_eq_getElem (show q < W.heap.size by omega)) (fun t => t) (.inl (by omega))
      rw [h, ← Array.getElem?_eq_getElem]⟩
    have g6 : w.heap.size + 1 + 1 ≤ W2.heap.size := by have := hc.size; omega
    have HC := Lib.hid (HOF.out W2 k hk g5)
    have g1c := g1.cell
    have g4c := g4.cell
    have hkl := made_len f k
    clear hc h1 h3 h4 h5 h6 i1 m0 bx bf HIT HOF hl hl2
    have MS := Lib.hid (show made f (k + 1) = made f k ++ if (f k).2 then [(f k).1] else [] from rfl)
    have G1 := Lib.hid g1
    have G3 := Lib.hid g3
    have G4 := Lib.hid g4
    have G5 := Lib.hid g5
    clear g1 g3 g4 g5
    gi_wp2
    refine (in_of HC.out).mono ?_
    rintro e W3 ⟨rfl, bb⟩
    have bK := bel_alloc W3 (.cells #[.int .u64 (f k).1.v, .bool (f k).1.sp, .int .i64 (f k).1.id] 24)
    have b4 := below_step bb bK
    have n1 := G1.out.below b4
    have n3 := G3.out.below b4
    have n4 := G4.out.below b4
    have n5 := G5.out.trans (b4.mono G5.out.size)
    have n6 : w.heap.size + 1 + 1 ≤ (W3.alloc (.cells #[.int .u64 (f k).1.v, .bool (f k).1.sp, .int .i64 (f k).1.id] 24)).heap.size := Nat.le_trans g6 b4.size
    have bk4 : BK S W2 (W3.alloc (.cells #[.int .u64 (f k).1.v, .bool (f k).1.sp, .int .i64 (f k).1.id] 24)) := BK.of_below b4
    have rk := ((EV.newL (w := W3) (e := 24) (xs := [(f k).1]) (n := 1) (c := 1) (cs := #[.int .u64 (f k).1.v, .bool (f k).1.sp, .int .i64 (f k).1.id]) encY_len rfl rfl (Nat.le_refl _)).row3 (by simp))
    obtain ⟨e0, e1, e2⟩ := rk.ky (i := 0) rfl
    simp only [Nat.zero_mul, Nat.zero_add] at e0 e1 e2
    clear rk bK HC g1c g4c G1 G3 G4 G5 bb b4
    generalize hfk : f k = fk at MS e0 e1 e2 n1 n3 n4 n5 n6 bk4 ⊢
    obtain ⟨y, is⟩ := fk
    dsimp only at MS e0 e1 e2 n1 n3 n4 n5 n6 bk4 ⊢
    cases is with
    | false =>
      have N1 := Lib.hid n1
      have N3 := Lib.hid n3
      have N4 := Lib.hid n4
      have N5 := Lib.hid n5
      have N6 := Lib.hid n6
      have N7 := Lib.hid bk4
      clear n1 n3 n4 n5 n6 bk4 e0 e1 e2 hfk
      gi_wp2
      exact ⟨N7.out, v, N1.out, by rw [MS.out]; simpa using N3.out, N4.out, N5.out, N6.out⟩
    | true =>
      have n1c := n1.cell
      gi_wp2_with (gi_at_builtin; refine wpListIn_app elemY encY_len encY_one rfl _ _ rfl _ _ rfl rfl (n3.alloc _) (new_ky' (by simp)) ?q1 ?q2 ?_)
      case q1 => (try simp only [List.length_cons, List.length_nil]); omega
      case q2 => (try simp only [World.size_alloc] at n6 ⊢); omega
      intro v' W5 hown hgrow
      obtain ⟨g, cap, hv', hg1, hg2⟩ := hown.form (by simp)
      obtain ⟨k1, k2, k3, k4, k5⟩ := Boxed.appended n1 (by decide) n3 (by omega) (by omega) hown hgrow
      have f5 := (n4.alloc (.cells #[.int .u64 y.v, .bool y.sp, .int .i64 y.id] 24)).kept hgrow (n4.not_row (by decide) n3)
      have f6 : Boxed (W5.setCell ⟨w.heap.size + 1, 0, none⟩ v') w.heap.size 146 (.func (.func hf) #[] lf) := f5.setOther (by show ¬ w.heap.size = w.heap.size + 1; omega)
      have k1c := k1.cell
      have k1f := k1.frozen
      have K6 : Below w.heap.size w (W5.setCell ⟨w.heap.size + 1, 0, none⟩ v') := n5.trans k5
      have K7 : BK S W2 (W5.setCell ⟨w.heap.size + 1, 0, none⟩ v') := bk4.trans ⟨k4.size, fun j o ho hs => by
        rcases hs with hs | hs
        · exact (k5.block j (HS.out j hs)).trans ho
        · exact k4.same j o ho (by cases o <;> simp_all [isBook, Obj.isCells])⟩
      have K8 : w.heap.size + 1 + 1 ≤ (W5.setCell ⟨w.heap.size + 1, 0, none⟩ v').heap.size := Nat.le_trans n6 k4.size
      have HK6 := Lib.hid K6
      have HK7 := Lib.hid K7
      have HK8 := Lib.hid K8
      have HF6 := Lib.hid f6
      have HK2 := Lib.hid k2
      obtain ⟨m, hm⟩ : ∃ m, (made f k ++ [y]).length = m := ⟨_, rfl⟩
      rw [hm] at hv'
      clear hm
      subst hv'
      have MS' := MS.out
      rw [if_pos trivial] at MS'
      rw [← MS'] at k3
      have HK3 := Lib.hid k3
      clear hown hgrow k1 k2 k3 k4 k5 n1 n3 n4 n5 n6 bk4 n1c e0 e1 e2 hfk MS' K6 K7 K8 f5 f6
      gi_wp2
      exact ⟨HK7.out, _, HK2.out, HK3.out, HF6.out, HK6.out, HK8.out⟩
  case done =>
    rintro D W ⟨v, h1, h3, h4, h5, h6⟩ hD hK
    have h1c := h1.cell
    clear bx bf
    gi_wp2
    refine post_mark hK (fun w' => results_tmp rfl _ _ w') ⟨_, rfl, h3.chg (Chg.putObj (B := 0) hK rfl (Nat.zero_le _)) (fun _ _ t => t), h5.trans (below_putObj (Below.refl _ _) (by omega) _)⟩
end Go.Proofs.Ytenngfkgfdogjaa
namespace Go.Proofs.Ytenngfkgfdogjaa
open Go Go.RowKit Go.Shelf
attribute [local go_sem] Oper.semAt_some

set_option maxRecDepth 100000 in
set_option maxHeartbeats 1600000 in
theorem indices1_iter (w : World) (Bn n : Nat) (hb : Boxed w Bn 3 (.int .i64 (n : Int))) (hlen : n ≤ 1000000) :
    Iter Try.prog 116 #[.pointer (some ⟨Bn, 0, none⟩)] (fun k => #[.int .i64 (k : Int)]) n (fun k => k = Bn) (fun _ => False) w := by
  intro l J Jx W hsz hW hJ hJx hY h0
  have H1 : Boxed W Bn 3 (.int .i64 (n : Int)) := hW _ _ hb rfl
  have h1c := H1.cell
  have HX1 := Lib.hid H1
  clear hb hW hsz H1
  refine callsIn_of_wp Try.func116 rfl trivial ?_ rfl
  simp only [Try.ntmps116, List.size_toArray, List.length_cons, List.length_nil, Nat.reduceAdd, Nat.reduceSub, Array.replicate_succ, Array.replicate_zero, List.push_toArray, List.append_toArray, List.nil_append, List.cons_append]
  gi_wp2
  gi_loopg [5] n (fun k i wr => ∃ j : Nat, j + k = n ∧ i = .int .i64 j ∧ J j wr)
  case atStart => exact ⟨0, by omega, rfl, h0⟩
  case round =>
    obtain ⟨j, hj, rfl, hJj⟩ := hrel
    have HJ := Lib.hid hj
    clear hj h0 HX1 h1c
    by_cases hlt : j < n
    · have hd : decide ((j : Int) < (n : Int)) = true := by rw [decide_eq_true_eq]; omega
      have hYk := hY _ _ hlt hJj
      obtain ⟨fn, tmps, assign, body, hy, hR⟩ := hYk
      have HR := Lib.hid hR
      have hd0 : W0.depth = none := rfl
      clear hJj hR hY hJx hJ
      gi_wp2
      refine HR.out.mono ?_
      rintro e W' ⟨hsz, hS, hres⟩
      clear hS hsz hy HR
      rcases hres with ⟨rfl, hj'⟩ | ⟨rfl, hjx⟩
      · have HJ2 := Lib.hid hj'
        clear hj'
        gi_wp2
        gi_roundg (gk - 1)
        case measure => have := HJ.out; omega
        case rel => exact ⟨j + 1, by have := HJ.out; omega, by go_num, HJ2.out⟩
      · have HJ2 := Lib.hid hjx
        clear hjx
        gi_wp2
        refine bodyPost_ret (results_none rfl _ _ _) rfl ?_
        exact ⟨⟨_, rfl⟩, .inr HJ2.out⟩
    · have hd : decide ((j : Int) < (n : Int)) = false := by rw [decide_eq_false_iff_not]; omega
      have X := Lib.hid (show J n wr by have hjn : j = n := (by have := HJ.out; omega); rw [← hjn]; exact hJj)
      clear hJj hY hJx hJ
      gi_wp2
      go_end0
      exact ⟨⟨_, rfl⟩, .inl X.out⟩
set_option maxHeartbeats 800000 in
theorem indices_ok (w : World) (n : Int) : Calls Try.prog 84 #[.int .i64 n] w fun e w' => e = .returned (.func (.func 116) #[] #[.pointer (some ⟨w.heap.size, 0, none⟩)]) ∧ w.alloc (.cells #[.int .i64 n] 3) = w' := by
  go_enter Try.func84, Try.ntmps84
  go_wp2
  go_ret
  exact ⟨rfl, rfl⟩
set_option maxHeartbeats 800000 in
theorem ready_mk (w : World) (c : StC) (s : St) (cpu : Int) : Calls Try.prog 49 #[c.val s, .int .i64 cpu] w fun e w' => e = .returned (.func (.func 89) #[] #[.pointer (some ⟨w.heap.size, 0, none⟩), .pointer (some ⟨w.heap.size + 1, 0, none⟩)]) ∧
    (w.alloc (.cells (c.cells s) 38)).alloc (.cells #[.int .i64 cpu] 3) = w' := by
  unfold StC.val StC.cells
  go_enter Try.func49, Try.ntmps49
  go_wp2
  go_ret
  exact ⟨rfl, rfl⟩
set_option maxHeartbeats 800000 in
theorem rdy1_ok (w : World) (t : Tk) : Calls Try.prog 50 #[ValT t] w fun e w' => e = .returned (.tuple #[.int .i64 t.id, .bool true]) ∧ Below w.heap.size w w' := by
  have BA := Lib.hid (bel_alloc w (.cells #[.int .i64 t.id, .int .i64 t.g, .int .i64 t.wt, .int .i64 t.cpu, .int .u64 t.mask, .bool t.rdy, .int .u64 t.v, .int .u32 t.r] 61))
  unfold ValT
  go_enter Try.func50, Try.ntmps50
  go_wp2
  go_ret2
  exact ⟨rfl, BA.out⟩
set_option maxHeartbeats 800000 in
theorem load_ky {w : World} {Y : Nat} {v i : Int} {b : Bool} (q0 : w.cell? ⟨Y, 0, none⟩ = some (.int .u64 v)) (q1 : w.cell? ⟨Y, 1, none⟩ = some (.bool b)) (q2 : w.cell? ⟨Y, 2, none⟩ = some (.int .i64 i)) :
    (loadVar 24 ⟨Y, 0, none⟩).run Try.prog w = .ok (.agg #[.int .u64 v, .bool b, .int .i64 i]) w := by
  have h1 : (isAgg 24).run Try.prog w = .ok true w := by kernel_rfl
  have h2 : (Go.sizeOf 24).run Try.prog w = .ok 3 w := by kernel_rfl
  unfold loadVar
  simp [Sem.run_bind, h1, h2, Result.andThen, loadCells, loadCellsFrom, go_sem, q0, q1, q2]
set_option maxHeartbeats 1600000 in
theorem mem1_ok (w : World) (Bg : Nat) (g : Int) (t : Tk) (hc : Boxed w Bg 3 (.int .i64 g)) : Calls Try.prog 82 #[ValT t, .pointer (some ⟨Bg, 0, none⟩)] w fun e w' => e = .returned (.tuple #[.agg #[.int .u64 t.v, .bool false, .int .i64 t.id], .bool (decide (t.g = g))]) ∧ Below w.heap.size w w' := by
  have bA := bel_alloc w (.cells #[.int .i64 t.id, .int .i64 t.g, .int .i64 t.wt, .int .i64 t.cpu, .int .u64 t.mask, .bool t.rdy, .int .u64 t.v, .int .u32 t.r] 61)
  have rt := ((EV.newL (w := w) (e := 61) (xs := [t]) (n := 1) (c := 1) (cs := #[.int .i64 t.id, .int .i64 t.g, .int .i64 t.wt, .int .i64 t.cpu, .int .u64 t.mask, .bool t.rdy, .int .u64 t.v, .int .u32 t.r]) encT_len rfl rfl (Nat.le_refl _)).row3 (by simp))
  have bB := bel_alloc (w.alloc (.cells #[.int .i64 t.id, .int .i64 t.g, .int .i64 t.wt, .int .i64 t.cpu, .int .u64 t.mask, .bool t.rdy, .int .u64 t.v, .int .u32 t.r] 61)) (.cells #[.int .u64 0, .bool false, .int .i64 0] 24)
  obtain ⟨d0, d1, _, _, _, _, d6, _⟩ := (rt.below bB).tk (i := 0) rfl
  simp only [Nat.zero_mul, Nat.zero_add] at d0 d1 d6
  have g1 := ((hc.below bA).below bB).cell
  have hX := heap_alloc_new (w.alloc (.cells #[.int .i64 t.id, .int .i64 t.g, .int .i64 t.wt, .int .i64 t.cpu, .int .u64 t.mask, .bool t.rdy, .int .u64 t.v, .int .u32 t.r] 61)) (.cells #[.int .u64 0, .bool false, .int .i64 0] 24)
  have bAB := below_step bA bB
  have hBg : Bg < w.heap.size := hc.lt
  rw [World.size_alloc] at hX
  unfold ValT
  go_enter Try.func82, Try.ntmps82
  go_wp2_with fail
  generalize (w.alloc (.cells #[.int .i64 t.id, .int .i64 t.g, .int .i64 t.wt, .int .i64 t.cpu, .int .u64 t.mask, .bool t.rdy, .int .u64 t.v, .int .u32 t.r] 61)).alloc (.cells #[.int .u64 0, .bool false, .int .i64 0] 24) = w1 at d0 d1 d6 g1 hX bAB ⊢
  obtain ⟨X, hXe⟩ : ∃ X, w.heap.size = X := ⟨_, rfl⟩
  obtain ⟨Y, hYe⟩ : ∃ Y, X + 1 = Y := ⟨_, rfl⟩
  simp only [hXe, hYe] at d0 d1 d6 hX ⊢
  clear rt bB bA hc
  have y0 := cell_of_row w1 Y 0 _ _ _ hX
  have y1 := cell_of_row w1 Y 1 _ _ _ hX
  have y2 := cell_of_row w1 Y 2 _ _ _ hX
  have y0 : w1.cell? ⟨Y, 0, none⟩ = some (.int .u64 0) := y0
  have y1 : w1.cell? ⟨Y, 1, none⟩ = some (.bool false) := y1
  have y2 : w1.cell? ⟨Y, 2, none⟩ = some (.int .i64 0) := y2
  have z0 : w1.frozen? ⟨Y, 0, none⟩ = false := by simp [World.frozen?, hX]
  have z1 : w1.frozen? ⟨Y, 1, none⟩ = false := by simp [World.frozen?, hX]
  have z2 : w1.frozen? ⟨Y, 2, none⟩ = false := by simp [World.frozen?, hX]
  have n1 : ¬ X = Y := by omega
  have n2 : ¬ Y = X := by omega
  have n3 : ¬ Bg = Y := by omega
  have n4 : ¬ Y = Bg := by omega
  have HB := Lib.hid bAB
  have hXY := Lib.hid (show w.heap.size ≤ Y by omega)
  clear hXe hYe hX hBg bAB
  go_region
  clear d0 d1 d6 g1 z0 z1 z2 n1 n2 n3 n4
  have q0 : (((w1.setCell ⟨Y, 0, none⟩ (.int .u64 t.v)).setCell ⟨Y, 1, none⟩ (.bool false)).setCell ⟨Y, 2, none⟩ (.int .i64 t.id)).drew.cell? ⟨Y, 0, none⟩ = some (.int .u64 t.v) := by go_simp
  have q1 : (((w1.setCell ⟨Y, 0, none⟩ (.int .u64 t.v)).setCell ⟨Y, 1, none⟩ (.bool false)).setCell ⟨Y, 2, none⟩ (.int .i64 t.id)).drew.cell? ⟨Y, 1, none⟩ = some (.bool false) := by go_simp
  have q2 : (((w1.setCell ⟨Y, 0, none⟩ (.int .u64 t.v)).setCell ⟨Y, 1, none⟩ (.bool false)).setCell ⟨Y, 2, none⟩ (.int .i64 t.id)).drew.cell? ⟨Y, 2, none⟩ = some (.int .i64 t.id) := by go_simp
  have B2 := Lib.hid (show Below w.heap.size w (((w1.setCell ⟨Y, 0, none⟩ (.int .u64 t.v)).setCell ⟨Y, 1, none⟩ (.bool false)).setCell ⟨Y, 2, none⟩ (.int .i64 t.id)).drew from below_drew (((HB.out.setCell (p := ⟨Y, 0, none⟩) hXY.out _).setCell (p := ⟨Y, 1, none⟩) hXY.out _).setCell (p := ⟨Y, 2, none⟩) hXY.out _))
  generalize (((w1.setCell ⟨Y, 0, none⟩ (.int .u64 t.v)).setCell ⟨Y, 1, none⟩ (.bool false)).setCell ⟨Y, 2, none⟩ (.int .i64 t.id)).drew = w2 at q0 q1 q2 B2 ⊢
  clear y0 y1 y2
  have hbq : (t.g == g) = decide (t.g = g) := rfl
  go_wp2
  refine bodyPost_ret (v := .tuple #[.agg #[.int .u64 t.v, .bool false, .int .i64 t.id], .bool (t.g == g)]) ((results_cell_tmp rfl _ _ _).trans ?_) rfl ⟨by rw [hbq], B2.out⟩
  have hl := load_ky q0 q1 q2
  simp [hl, asAddr, Result.andThen]
end Go.Proofs.Ytenngfkgfdogjaa

/- Contracts of slices.AppendSeq and slices.Collect at int, over an iterator of which a contract is known. -/
import Derived.Test.YtofjgcbjpmgkdaaSl
set_option linter.unusedVariables false
set_option linter.unusedSimpArgs false
set_option linter.unusedSectionVars false
namespace Go.Proofs.Ytofjgcbjpmgkdaa
open Go.RowKit Go.Shelf
attribute [local go_sem] Oper.semAt_some

def upto (zs : Nat → Int) (k : Nat) : List Int := (List.range k).map zs
theorem upto_succ (zs : Nat → Int) (k : Nat) : upto zs (k + 1) = upto zs k ++ [zs k] := by simp [upto, List.range_succ]
theorem upto_len (zs : Nat → Int) (k : Nat) : (upto zs k).length = k := by simp [upto]
theorem upto_list (l : List Int) : upto (fun k => l[k]?.getD 0) l.length = l := by
  apply List.ext_getElem (by simp [upto])
  intro i h1 h2
  simp [upto, h2]
theorem ov_shape {e : TypeId} {base : Nat} {w : World} {v : Value} {xs : List Int} (h : OV encI 1 e base w v xs) : ∃ A n c, v = .slice A n c := by
  obtain ⟨A, c, rfl⟩ := (h.ev encI_len).shape; exact ⟨A, _, c, rfl⟩

set_option maxHeartbeats 400000 in
theorem appendSeq_int (w : World) (gf : Nat) (lb : Array Value) (zs : Nat → Int) (N : Nat) (S T : Nat → Prop) (eg : ∀ args w, (callFunc gf args).run Try.prog w = .ok (.enter gf args) w)
    (hit : Iter Try.prog gf lb (fun k => #[.int .i64 (zs k)]) N S T w) (hT : ∀ k, T k → k < w.heap.size) (hS : ∀ k, S k → k < w.heap.size) (hN : N ≤ 1000000) :
    CallsIn W0 0 Try.prog 69 #[.slice none 0 0, .func (.func gf) #[] lb] w fun e w' => ∃ v, e = .returned v ∧ OV encI 1 3 w.heap.size w' v (upto zs N) ∧ Mod T w w' := by
  have HIT := Lib.hid hit
  have HT := Lib.hid hT
  have HS := Lib.hid hS
  clear hit hT hS
  have hfn : ∀ f, W0.fn f := fun _ => trivial
  have hd0 : W0.depth = none := rfl
  refine callsIn_of_wp_marks Try.func69 rfl trivial ?_ rfl
  simp only [Try.ntmps69, List.size_toArray, List.length_cons, List.length_nil, Nat.reduceAdd, Nat.reduceSub, Array.replicate_succ, Array.replicate_zero, List.push_toArray, List.append_toArray, List.nil_append, List.cons_append]
  gi_wp2
  obtain ⟨w1, hw1⟩ : ∃ w1, w.alloc (.cells #[.slice none 0 0] 38) = w1 := ⟨_, rfl⟩
  rw [hw1]
  have hz : w1.heap.size = w.heap.size + 1 := by rw [← hw1]; simp
  have bx : Boxed w1 w.heap.size 38 (.slice none 0 0) := by rw [← hw1]; exact Boxed.new _ _ _
  have m0 : Mod T w w1 := by rw [← hw1]; exact .alloc _
  have i1 : Iter Try.prog gf lb (fun k => #[.int .i64 (zs k)]) N S T w1 := HIT.out.later m0.size (fun k o ho _ => by rw [← hw1]; exact (Below.heap_alloc _ _ _ (Array.getElem?_eq_some_iff.1 ho).1).trans ho)
  clear hw1
  refine wp_range (xs := fun k => #[.int .i64 (zs k)]) rfl eg i1
    (fun k e => by have := HT.out k e; omega) (fun k e => by have := HS.out k e; omega) (fun k => rfl)
    (fun k W => ∃ v, Boxed W w.heap.size 38 v ∧ OV encI 1 3 w.heap.size W v (upto zs k) ∧ Mod T w W) (fun _ _ => False)
    (fun k W1 W2 h hc => ?stab)
    (fun _ _ _ h _ => h) ⟨_, bx, OV.nil _ _, m0⟩ ?round ?done (fun _ _ _ h => h.elim)
  case stab =>
    obtain ⟨v, h1, h3, h5⟩ := h
    exact ⟨v, h1.chg hc (fun t => by have := HT.out _ t; omega), h3.chg hc (fun g hg t => by have := HT.out _ t; have := (h3.block g hg).1; omega), hc.mod h5 (by omega)⟩
  case round =>
    rintro l k W hk hl hl2 ⟨v, h1, h3, h5⟩
    gi_wp2
    refine ⟨BK.refl _ _, fun W2 hc hq => ?_⟩
    clear hq
    have g1 := h1.chg hc (fun t => t)
    have g3 := h3.chg hc (fun _ _ t => t)
    have g5 : Mod T w W2 := Chg.mod (B := w1.heap.size) (T := T) ⟨hc.os, hc.tape, hc.output, hc.size, fun k o ho _ hb => hc.block k o ho (fun t => t) hb⟩ h5 (by omega)
    have hsz := g5.size
    clear h1 h3 h5 hc bx m0 i1
    have g1c := g1.cell
    have hnew : EV encI 1 (W2.alloc (.cells #[.int .i64 (zs k)] 3)) (.slice (some ⟨W2.heap.size, 0, none⟩) 1 1) [zs k] := EV.new1 rfl (Nat.le_refl _)
    gi_wp2_with (gi_at_builtin; refine wpListIn_app elemI encI_len encI_one rfl _ _ rfl _ _ rfl rfl (g3.alloc _) hnew ?q1 ?q2 ?_)
    case q1 => rw [upto_len]; simp; omega
    case q2 => simp; omega
    intro v' W3 hown hgrow
    obtain ⟨g, cap, hv', hg1, hg2⟩ := hown.form (by simp)
    obtain ⟨k1, k2, k3, k4, k5⟩ := Boxed.appended g1 (by decide) g3 hsz (Nat.le_refl _) hown hgrow
    have k1c := k1.cell
    have k1f := k1.frozen
    have K6 : Mod T w (W3.setCell ⟨w.heap.size, 0, none⟩ v') := g5.trans_new (T' := fun k => w.heap.size ≤ k) ⟨k5.os, k5.tape, k5.output, k5.size, fun k _ hn => k5.block k (by omega)⟩ (fun k hk h => by omega)
    have K7 : BK S W2 (W3.setCell ⟨w.heap.size, 0, none⟩ v') := ⟨k4.size, fun j o ho hs => by
      rcases hs with hs | hs
      · exact (k5.block j (by have := HS.out j hs; omega)).trans ho
      · exact k4.same j o ho (by cases o <;> simp_all [isBook, Obj.isCells])⟩
    obtain ⟨m, hm⟩ : ∃ m, (upto zs k ++ [zs k]).length = m := ⟨_, rfl⟩
    rw [hm] at hv'
    clear hm
    subst hv'
    rw [← upto_succ] at k3 
    clear hown hgrow k1 k4 k5 g1 g3 g5 g1c hnew
    gi_wp2
    exact ⟨K7, _, k2, k3, K6⟩
  case done =>
    rintro D W ⟨v, h1, h3, h5⟩ hD hK
    have h1c := h1.cell
    clear bx
    gi_wp2
    refine post_mark hK (fun w' => results_tmp rfl _ _ w') ⟨_, rfl, h3.chg (Chg.putObj (B := 0) hK rfl (Nat.zero_le _)) (fun _ _ t => t), ?_⟩
    exact Chg.mod (B := w1.heap.size) (T := T) (Chg.putObj hK rfl (by omega)) h5 (by omega)

set_option maxHeartbeats 400000 in
theorem collect_int (w : World) (gf : Nat) (lb : Array Value) (zs : Nat → Int) (N : Nat) (S T : Nat → Prop) (eg : ∀ args w, (callFunc gf args).run Try.prog w = .ok (.enter gf args) w)
    (hit : Iter Try.prog gf lb (fun k => #[.int .i64 (zs k)]) N S T w) (hT : ∀ k, T k → k < w.heap.size) (hS : ∀ k, S k → k < w.heap.size) (hN : N ≤ 1000000) :
    Calls Try.prog 64 #[.func (.func gf) #[] lb] w fun e w' => ∃ v, e = .returned v ∧ OV encI 1 3 w.heap.size w' v (upto zs N) ∧ Mod T w w' := by
  have H := Lib.hid (of_in (appendSeq_int w gf lb zs N S T eg hit hT hS hN))
  clear hit hT hS eg
  go_enter Try.func64, Try.ntmps64
  go_wp2_with fail
  refine H.out.mono ?_
  rintro e w' ⟨v, rfl, h1, h2⟩
  go_wp2
  go_ret
  exact ⟨v, rfl, h1, h2⟩
end Go.Proofs.Ytofjgcbjpmgkdaa

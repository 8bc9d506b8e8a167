/- The builtin append onto a row of the call's own, for slices that read as lists; with the rows that a call owns. -/
import Derived.Test.YtofjgcbjpmgkdaaBase
import Derived.OwnWalkIn
import Derived.Laws.AppendOwnNone
set_option linter.unusedVariables false
set_option linter.unusedSimpArgs false
set_option linter.unusedSectionVars false
namespace Go.Proofs.Ytofjgcbjpmgkdaa
open Go Go.RowKit

/-- What is asked of a slice type t with elements of type e, k cells and so many bytes each. -/
structure ElemT (P : Program) (t e : TypeId) (k bytes : Nat) : Prop where
  ht : P.underlying t = some (.slice e)
  hi : ∃ i z, P.info? e = some i ∧ i.zero = some z ∧ i.size = k ∧ i.bytes = bytes ∧ z.cells.size = k
  hk : 0 < k
  hb : bytes ≤ 140000

/-- The call owns the row that v names, and it reads as xs. -/
def OV {α : Type} (enc : α → List Value) (k : Nat) (e : TypeId) (base : Nat) (w : World) (v : Value) (xs : List α) : Prop :=
  w.ownsRow base e k v xs.length (xs.flatMap enc)

section
variable {P : Program} {α : Type} {enc : α → List Value} {k bytes base : Nat} {t e : TypeId} {w w' : World} {v sv : Value} {xs ys : List α}

theorem OV.ev (h : OV enc k e base w v xs) (hk : ∀ x, (enc x).length = k) : EV enc k w v xs := EV.of_own hk h
theorem OV.nil (w : World) (base : Nat) : OV enc k e base w (.slice none 0 0) [] := World.ownsRow_nil w base e k
theorem OV.made (w : World) (cap : Nat) (cs : Array Value) (hb : base ≤ w.heap.size) (hm : cap ≤ maxLen) (hs : cs.size = cap * k) :
    OV enc k e base (w.alloc (.cells cs e)) (.slice (some ⟨w.heap.size, 0, none⟩) 0 cap) [] := World.ownsRow_made w cs cap hb hm hs
theorem OV.lit (w : World) (cs : Array Value) (n : Nat) (hb : base ≤ w.heap.size) (hm : n ≤ maxLen) (hs : cs.size = n * k) (hx : cs.toList = xs.flatMap enc) (hn : xs.length = n) :
    OV enc k e base (w.alloc (.cells cs e)) (.slice (some ⟨w.heap.size, 0, none⟩) n n) xs := by
  unfold OV; rw [hn, ← hx]; exact World.ownsRow_lit w cs n hb hm hs
theorem OV.base_le {base' : Nat} (h : OV enc k e base w v xs) (hb : base' ≤ base) : OV enc k e base' w v xs := World.ownsRow.mono h hb
theorem OV.block (h : OV enc k e base w v xs) : ∀ g, v.ownBlock = some g → base ≤ g ∧ g < w.heap.size := World.ownsRow.lt h
theorem OV.form (h : OV enc k e base w v xs) (hn : 0 < xs.length) : ∃ g cap, v = .slice (some ⟨g, 0, none⟩) xs.length cap ∧ base ≤ g ∧ g < w.heap.size := World.ownsRow.form h hn
theorem OV.keep {row : Option Nat} (h : OV enc k e base w v xs) (hg : w.grownBy w' row) (hne : v.ownBlock = none ∨ v.ownBlock ≠ row) : OV enc k e base w' v xs := World.ownsRow.kept h hg hne
theorem OV.alloc (h : OV enc k e base w v xs) (o : Obj) : OV enc k e base (w.alloc o) v xs := World.ownsRow.alloc h o
theorem OV.drewN (h : OV enc k e base w v xs) (n : Nat) : OV enc k e base (w.drewN n) v xs := h
theorem OV.drew (h : OV enc k e base w v xs) : OV enc k e base w.drew v xs := h
theorem OV.same (h : OV enc k e base w v xs) (hk : ∀ g o, v.ownBlock = some g → w.heap[g]? = some o → w'.heap[g]? = some o) : OV enc k e base w' v xs := by
  refine ⟨h.1, ?_⟩
  rcases h.2 with hn | ⟨g, cap, cur, rfl, hb, hg, rest⟩
  · exact .inl hn
  · exact .inr ⟨g, cap, cur, rfl, hb, hk g _ rfl hg, rest⟩
theorem OV.below (h : OV enc k e base w v xs) (hb : Below w.heap.size w w') : OV enc k e base w' v xs :=
  h.same fun g o hg ho => (hb.block g (h.block g hg).2).trans ho
theorem OV.chg {B : Nat} {T : Nat → Prop} (h : OV enc k e base w v xs) (hc : Chg B T w w') (ht : ∀ g, v.ownBlock = some g → ¬ T g) : OV enc k e base w' v xs := by
  refine ⟨h.1, ?_⟩
  rcases h.2 with hn | ⟨g, cap, cur, rfl, hb, hg, rest⟩
  · exact .inl hn
  · exact .inr ⟨g, cap, cur, rfl, hb, hc.cells hg (ht g rfl), rest⟩
theorem OV.mod {T : Nat → Prop} (h : OV enc k e base w v xs) (hc : Mod T w w') (ht : ∀ g, v.ownBlock = some g → ¬ T g) : OV enc k e base w' v xs :=
  h.same fun g o hg ho => (hc.block g (h.block g hg).2 (ht g hg)).trans ho

theorem EV.new1 {x : α} {c : Nat} {cs : Array Value} (hcs : cs.toList = enc x) (hc : 1 ≤ c) : EV enc k (w.alloc (.cells cs e)) (.slice (some ⟨w.heap.size, 0, none⟩) 1 c) [x] := by
  refine EV.mk (xs := [x]) (fun i y hy j u hu => ?_) hc
  have hi : i = 0 := by
    have := (List.getElem?_eq_some_iff.1 hy).1
    simpa using this
  subst hi
  simp at hy; subst hy
  rw [← hcs] at hu
  have := cell_of_row (w.alloc (.cells cs e)) w.heap.size j cs e (0, 0) (heap_alloc_new w _)
  simp only [Nat.zero_mul, Nat.add_zero, Nat.zero_add]
  rw [this]; simpa using hu

theorem run_app (T : ElemT P t e k bytes) (hk : ∀ x, (enc x).length = k) (h1 : ∀ x, ∀ u ∈ enc x, u.oneCell' = true) (ty : TypeId)
    (hown : OV enc k e base w v xs) (hys : EV enc k w sv ys) (hn : xs.length + ys.length ≤ 1000000000) (hbase : base ≤ w.heap.size) :
    ∃ v' w', (Builtin.append_ #[t, t] ty #[v, sv]).run P w = .ok v' w' ∧ OV enc k e base w' v' (xs ++ ys) ∧ w.grownBy w' v.ownBlock := by
  obtain ⟨i, z, hi, hz, hsz, hby, hzs⟩ := T.hi
  have hbb : (xs.length + ys.length) * bytes ≤ 140737488355328 := Nat.le_trans (Nat.mul_le_mul hn T.hb) (by decide)
  have hml : xs.length + ys.length ≤ maxLen := by unfold maxLen; omega
  have own : ∀ {ad : Addr} {c : Nat}, sv = .slice (some ad) ys.length c → (∀ j u, (ys.flatMap enc)[j]? = some u → w.cell? (ad.add j) = some u) →
      ∃ v' w', (Builtin.append_ #[t, t] ty #[v, sv]).run P w = .ok v' w' ∧ OV enc k e base w' v' (xs ++ ys) ∧ w.grownBy w' v.ownBlock := by
    intro ad c hsv hc
    subst hsv
    obtain ⟨v', w', hr, ho, hg, _⟩ := run_append_own (P := P) w base t ty e i z k bytes T.ht hi hz hsz hby hzs T.hk v xs.length _ hown ad ys.length c (ys.flatMap enc)
      (flat_len hk ys) hc (fun u hu => by obtain ⟨x, _, hx⟩ := List.mem_flatMap.1 hu; exact h1 x u hx) hml hbb hbase
    refine ⟨v', w', hr, ?_, hg⟩
    unfold OV
    rw [List.length_append, List.flatMap_append]
    exact ho
  rcases hys with ⟨rfl, A, c, rfl⟩ | ⟨hne, b, off, c, rfl, hle, hr⟩
  · cases A with
    | some ad => exact own rfl (by simp)
    | none =>
      refine ⟨v, w, ?_, by simpa using hown, ⟨rfl, rfl, rfl, Nat.le_refl _, fun _ _ _ => rfl⟩⟩
      rcases hown.2 with ⟨rfl, _⟩ | ⟨g, cap, cur, rfl, _, _, hnc, _⟩
      · simp [Builtin.append_, run_underlying T.ht, sizeOf, typeInfo, hi, Builtin.lenOf, Builtin.firstCells]
      · simp [Builtin.append_, run_underlying T.ht, sizeOf, typeInfo, hi, Builtin.lenOf, Builtin.firstCells, hnc, storeCells]
  · refine own rfl fun j u hj => ?_
    rw [Addr.add_lit]
    have hkp := T.hk
    have hjl : j < ys.length * k := by
      have := (List.getElem?_eq_some_iff.1 hj).1
      rwa [flat_len hk] at this
    have hq : j / k < ys.length := Nat.div_lt_of_lt_mul (by rwa [Nat.mul_comm])
    have hdm : j / k * k + j % k = j := by rw [Nat.mul_comm]; exact Nat.div_add_mod j k
    have hm : j % k < (enc ys[j / k]).length := by rw [hk]; exact Nat.mod_lt _ hkp
    obtain ⟨u', hu'⟩ : ∃ u', (enc ys[j / k])[j % k]? = some u' := ⟨_, List.getElem?_eq_getElem hm⟩
    have h2 := flat_get hk ys (j / k) ys[j / k] (List.getElem?_eq_getElem hq) (j % k) u' hu'
    rw [hdm, hj] at h2
    cases h2
    have := hr (j / k) ys[j / k] (List.getElem?_eq_getElem hq) (j % k) u hu'
    rwa [Nat.add_assoc, hdm] at this

theorem wpList_app {ops : Array Oper} {rest : List Oper} {o : Oper} {a : Act} {Q : Exit → Act → World → Prop} (T : ElemT P t e k bytes) (hk : ∀ x, (enc x).length = k) (h1 : ∀ x, ∀ u ∈ enc x, u.oneCell' = true)
    (hgd : o.guard = none) (s x : Operand) (ho : o.op = .call { callee := .builtin .append, args := #[s, x], argTypes := #[t, t] })
    (v sv : Value) (hs : a.eval s = v) (hx : a.eval x = sv) (hown : OV enc k e base w v xs) (hys : EV enc k w sv ys) (hn : xs.length + ys.length ≤ 1000000000) (hbase : base ≤ w.heap.size)
    (h : ∀ v' w', OV enc k e base w' v' (xs ++ ys) → w.grownBy w' v.ownBlock → wpList P ops Q rest (a.put o.dst v') w') : wpList P ops Q (o :: rest) a w := by
  refine wpList_plain hgd fun _ hK => ?_
  obtain ⟨v', w', hr, h2, h3⟩ := run_app T hk h1 o.type hown hys hn hbase
  unfold Oper.wp execOp
  simp only [ho, resolve, invoke, builtin, Sem.run_bind, Sem.run_pure, Result.andThen_ok, List.map_toArray, List.map_cons, List.map_nil, hs, hx, hr]
  exact hK _ _ (h v' w' h2 h3)

theorem wpListIn_app {F : Fence} {n : Nat} {ops : Array Oper} {rest : List Oper} {o : Oper} {a : Act} {Q : Exit → Act → World → Prop} (T : ElemT P t e k bytes) (hk : ∀ x, (enc x).length = k) (h1 : ∀ x, ∀ u ∈ enc x, u.oneCell' = true)
    (hgd : o.guard = none) (s x : Operand) (ho : o.op = .call { callee := .builtin .append, args := #[s, x], argTypes := #[t, t] })
    (v sv : Value) (hs : a.eval s = v) (hx : a.eval x = sv) (hown : OV enc k e base w v xs) (hys : EV enc k w sv ys) (hn : xs.length + ys.length ≤ 1000000000) (hbase : base ≤ w.heap.size)
    (h : ∀ v' w', OV enc k e base w' v' (xs ++ ys) → w.grownBy w' v.ownBlock → wpListIn F n P ops Q rest (a.put o.dst v') w') : wpListIn F n P ops Q (o :: rest) a w := by
  refine wpListIn_plain hgd fun K hK' => ?_
  obtain ⟨v', w', hr, h2, h3⟩ := run_app T hk h1 o.type hown hys hn hbase
  unfold Oper.wpIn
  refine ⟨?_, ?_⟩
  · simp [Oper.about, ho, resolve, Target.leads, Sem.run_pure]
  · rw [Oper.semAt_plain F _ _ (by rw [ho]; intro c hc'; cases hc')]
    simp [execOp, ho, resolve, invoke, builtin, hs, hx, hr, Result.andThen]
    exact hK' _ _ (h v' w' h2 h3)
end
theorem encI_one (z : Int) : ∀ u ∈ encI z, u.oneCell' = true := by intro u hu; simp [encI] at hu; subst hu; rfl
end Go.Proofs.Ytofjgcbjpmgkdaa

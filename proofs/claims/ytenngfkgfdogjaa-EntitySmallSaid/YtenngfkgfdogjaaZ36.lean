/- A store of a value of the same kind keeps all rows readable, with their lengths | The example with one field at a limit: where a state that is bent stands | EntitySmall: the example with one field at a limit: its cases, in memory. -/
import Derived.Test.YtenngfkgfdogjaaZ27
import Derived.Test.YtenngfkgfdogjaaZ32
set_option linter.unusedVariables false
set_option linter.unusedSimpArgs false
set_option linter.unusedSectionVars false
namespace Go.Proofs.Ytenngfkgfdogjaa
open Go Go.RowKit Go.Shelf

/-- Values of one kind: two integers of a kind, or two truth values. -/
def Kin (u u' : Value) : Prop := (∃ k z z', u = .int k z ∧ u' = .int k z') ∨ ∃ b b', u = .bool b ∧ u' = .bool b'
def EncK {α : Type} (enc : α → List Value) : Prop := ∀ x j u u', (enc x)[j]? = some u → Kin u u' → ∃ y, enc y = (enc x).set j u'
theorem kin_int (k : IntKind) (z z' : Int) : Kin (.int k z) (.int k z') := .inl ⟨k, z, z', rfl, rfl⟩
theorem kin_bool (b b' : Bool) : Kin (.bool b) (.bool b') := .inr ⟨b, b', rfl, rfl⟩
theorem Kin.of_int {k : IntKind} {z : Int} {u' : Value} (h : Kin (.int k z) u') : ∃ z', u' = .int k z' := by
  rcases h with ⟨k', a, b, h1, h2⟩ | ⟨a, b, h1, _⟩
  · cases h1; exact ⟨b, h2⟩
  · cases h1
theorem Kin.of_bool {z : Bool} {u' : Value} (h : Kin (.bool z) u') : ∃ z', u' = .bool z' := by
  rcases h with ⟨k', a, b, h1, h2⟩ | ⟨a, b, h1, h2⟩
  · cases h1
  · exact ⟨b, h2⟩
theorem encI_kin : EncK encI := by
  intro x j u u' hj hk
  rcases j with _ | j
  · simp [encI] at hj; subst hj
    obtain ⟨z, rfl⟩ := hk.of_int
    exact ⟨z, rfl⟩
  · simp [encI] at hj
theorem encG_kin : EncK encG := by
  intro x j u u' hj hk
  rcases j with _ | _ | j <;> simp [encG] at hj
  · subst hj; obtain ⟨z, rfl⟩ := hk.of_int; exact ⟨(z, x.2), rfl⟩
  · subst hj; obtain ⟨z, rfl⟩ := hk.of_int; exact ⟨(x.1, z), rfl⟩
theorem encS_kin : EncK encS := by
  intro x j u u' hj hk
  rcases j with _ | _ | _ | j <;> simp [encS] at hj
  · subst hj; obtain ⟨z, rfl⟩ := hk.of_int; exact ⟨{ x with v := z }, rfl⟩
  · subst hj; obtain ⟨z, rfl⟩ := hk.of_int; exact ⟨{ x with r := z }, rfl⟩
  · subst hj; obtain ⟨z, rfl⟩ := hk.of_int; exact ⟨{ x with fl := z }, rfl⟩
theorem encT_kin : EncK encT := by
  intro x j u u' hj hk
  rcases j with _ | _ | _ | _ | _ | _ | _ | _ | j <;> simp [encT] at hj
  · subst hj; obtain ⟨z, rfl⟩ := hk.of_int; exact ⟨{ x with id := z }, rfl⟩
  · subst hj; obtain ⟨z, rfl⟩ := hk.of_int; exact ⟨{ x with g := z }, rfl⟩
  · subst hj; obtain ⟨z, rfl⟩ := hk.of_int; exact ⟨{ x with wt := z }, rfl⟩
  · subst hj; obtain ⟨z, rfl⟩ := hk.of_int; exact ⟨{ x with cpu := z }, rfl⟩
  · subst hj; obtain ⟨z, rfl⟩ := hk.of_int; exact ⟨{ x with mask := z }, rfl⟩
  · subst hj; obtain ⟨z, rfl⟩ := hk.of_bool; exact ⟨{ x with rdy := z }, rfl⟩
  · subst hj; obtain ⟨z, rfl⟩ := hk.of_int; exact ⟨{ x with v := z }, rfl⟩
  · subst hj; obtain ⟨z, rfl⟩ := hk.of_int; exact ⟨{ x with r := z }, rfl⟩
section
variable {α : Type} {enc : α → List Value} {k : Nat} {w : World} {v u u' : Value} {xs : List α} {p : Addr}
theorem EV.kin (hk : ∀ x, (enc x).length = k) (hK : EncK enc) (hc : w.cell? p = some u) (h : Kin u u') (e : EV enc k w v xs) : ∃ ys, ys.length = xs.length ∧ EV enc k (w.setCell p u') v ys := by
  rcases Nat.eq_zero_or_pos xs.length with h0 | h0
  · obtain rfl : xs = [] := List.eq_nil_of_length_eq_zero h0
    obtain ⟨A, c, rfl⟩ := e.shape
    exact ⟨[], rfl, EV.nil _ _⟩
  obtain ⟨b, off, c, rfl, hlc, r⟩ := e.row h0
  by_cases hin : ∃ i x j, xs[i]? = some x ∧ j < k ∧ p = ⟨b, off + i * k + j, none⟩
  · obtain ⟨i, x, j, hi, hj, rfl⟩ := hin
    have hil := (List.getElem?_eq_some_iff.1 hi).1
    have hju : (enc x)[j]? = some ((enc x)[j]'(by rw [hk]; exact hj)) := List.getElem?_eq_getElem _
    have := r i x hi j _ hju
    rw [hc] at this
    rw [← Option.some.inj this] at hju
    obtain ⟨y, hy⟩ := hK x j u u' hju h
    refine ⟨xs.set i y, by simp, ?_⟩
    have hl : (xs.set i y).length = xs.length := by simp
    rw [← hl]
    refine EV.mk (fun i' x' hx' j' u1 hu1 => ?_) (by omega)
    have hj' : j' < k := by have := (List.getElem?_eq_some_iff.1 hu1).1; rwa [hk] at this
    by_cases he : i' = i ∧ j' = j
    · obtain ⟨rfl, rfl⟩ := he
      rw [List.getElem?_set_self hil] at hx'
      cases hx'
      rw [hy, List.getElem?_set_self (by rw [hk]; exact hj)] at hu1
      cases hu1
      exact World.cell?_setCell_same _ _ _ hc
    · have hne : (⟨b, off + i * k + j, none⟩ : Addr) ≠ ⟨b, off + i' * k + j', none⟩ := by
        intro e2
        simp only [Addr.mk.injEq, true_and, and_true] at e2
        have e3 : i * k + j = i' * k + j' := by omega
        have hk0 : 0 < k := by omega
        have e4 : i = i' := by
          have := congrArg (· / k) e3
          simpa [Nat.add_comm, Nat.add_mul_div_right, Nat.div_eq_of_lt hj, Nat.div_eq_of_lt hj', hk0] using this
        subst e4
        exact he ⟨rfl, by omega⟩
      rw [World.cell?_setCell_other _ _ _ _ hne]
      by_cases hii : i' = i
      · subst hii
        rw [List.getElem?_set_self hil] at hx'
        cases hx'
        rw [hy, List.getElem?_set_ne (fun e5 => he ⟨rfl, e5.symm⟩)] at hu1
        exact r i' x hi j' u1 hu1
      · rw [List.getElem?_set_ne (fun e5 => hii e5.symm)] at hx'
        exact r i' x' hx' j' u1 hu1
  · refine ⟨xs, rfl, EV.mk (fun i' x' hx' j' u1 hu1 => ?_) hlc⟩
    have hj' : j' < k := by have := (List.getElem?_eq_some_iff.1 hu1).1; rwa [hk] at this
    rw [World.cell?_setCell_other _ _ _ _ (fun e2 => hin ⟨i', x', j', hx', hj', e2⟩)]
    exact r i' x' hx' j' u1 hu1
/-- A row whose cells are of another kind is not touched. -/
theorem EV.oth (hc : w.cell? p = some u) (hne : ∀ x ∈ xs, ∀ u1 ∈ enc x, u1 ≠ u) (e : EV enc k w v xs) : EV enc k (w.setCell p u') v xs := by
  rcases e with h | ⟨h1, b, off, c, h2, h3, h4⟩
  · exact .inl h
  · refine .inr ⟨h1, b, off, c, h2, h3, fun i x hx j u1 hu1 => ?_⟩
    have := h4 i x hx j u1 hu1
    rw [World.cell?_setCell_other _ _ _ _ (fun e2 => ?_)]
    · exact this
    · rw [← e2, hc] at this
      exact hne x (List.mem_of_getElem? hx) u1 (List.mem_of_getElem? hu1) (Option.some.inj this).symm
end
/-- A state that reads, and whose lists are short. -/
structure StG (w : World) (c : StC) (s : St) : Prop where
  at' : StAt w c s
  lg : s.gs.length ≤ 1000
  lc : s.cl.length ≤ 1000
  lu : s.cu.length ≤ 1000
  lt : s.ts.length ≤ 1000
  ls : s.ss.length ≤ 1000
  lr : ∀ x ∈ s.ss, x.2.length ≤ 1000
  n1 : -9223372036854775808 ≤ s.n
  n2 : s.n ≤ 9223372036854775807
theorem StG.stl {w : World} {c : StC} {s : St} (h : StG w c s) : StL s := ⟨by have := h.lg; omega, by have := h.lc; omega, by have := h.lu; omega, by have := h.lt; omega, by have := h.ls; omega, fun x hx => by have := h.lr x hx; omega⟩
theorem StG.stb {w : World} {c : StC} {s : St} (h : StG w c s) : StB s := ⟨by have := h.lg; omega, by have := h.lt; omega, h.n1, h.n2⟩
theorem StG.below {w w' : World} {c : StC} {s : St} (h : StG w c s) (hb : Below w.heap.size w w') : StG w' c s := ⟨h.at'.below hb, h.lg, h.lc, h.lu, h.lt, h.ls, h.lr, h.n1, h.n2⟩
theorem rows_kin {w w' : World} {B : Nat} : ∀ (l : List (Value × List Sp)), (∀ x ∈ l, ∃ ys : List Sp, ys.length = x.2.length ∧ EV encS 3 w' x.1 ys) → (∀ x ∈ l, x.2.length ≤ B) →
    ∃ l' : List (Value × List Sp), l'.map Prod.fst = l.map Prod.fst ∧ (∀ x ∈ l', EV encS 3 w' x.1 x.2) ∧ ∀ x ∈ l', x.2.length ≤ B
  | [], _, _ => ⟨[], rfl, by simp, by simp⟩
  | x :: r, h, hB => by
    obtain ⟨ys, h1, h2⟩ := h x (by simp)
    obtain ⟨l', g1, g2, g3⟩ := rows_kin (w := w) r (fun y hy => h y (by simp [hy])) (fun y hy => hB y (by simp [hy]))
    refine ⟨(x.1, ys) :: l', by simp [g1], fun y hy => ?_, fun y hy => ?_⟩
    · rcases List.mem_cons.1 hy with rfl | hy
      · exact h2
      · exact g2 y hy
    · rcases List.mem_cons.1 hy with rfl | hy
      · show ys.length ≤ B
        rw [h1]; exact hB x (by simp)
      · exact g3 y hy
theorem EV.encR_map {w : World} {v : Value} : ∀ {l l' : List (Value × List Sp)}, l'.map Prod.fst = l.map Prod.fst → EV encR 1 w v l → EV encR 1 w v l' := by
  intro l l' he h
  have hl : l'.length = l.length := by have := congrArg List.length he; simpa using this
  rcases h with ⟨rfl, h2⟩ | ⟨h1, b, off, c, h2, h3, h4⟩
  · simp at he; subst he; exact .inl ⟨rfl, h2⟩
  · refine .inr ⟨fun e => h1 (by rw [e] at hl; exact List.eq_nil_of_length_eq_zero hl.symm), b, off, c, by rw [hl]; exact h2, by omega, fun i x hx j u hu => ?_⟩
    have hm := congrArg (·[i]?) he
    simp only [List.getElem?_map, hx, Option.map_some] at hm
    obtain ⟨y, hy, e⟩ := Option.map_eq_some_iff.1 hm.symm
    refine h4 i y hy j u ?_
    unfold encR at hu ⊢
    rw [e]; exact hu
theorem StG.kin {w : World} {c : StC} {s : St} {p : Addr} {u u' : Value} (h : StG w c s) (hc : w.cell? p = some u) (hk : Kin u u') :
    ∃ s' : St, s'.n = s.n ∧ s'.cr = s.cr ∧ s'.ss.map Prod.fst = s.ss.map Prod.fst ∧ StG (w.setCell p u') c s' := by
  obtain ⟨gs, g1, g2⟩ := h.at'.eg.kin encG_len encG_kin hc hk
  obtain ⟨cl, c1, c2⟩ := h.at'.ec.kin encI_len encI_kin hc hk
  obtain ⟨cu, u1, u2⟩ := h.at'.eu.kin encI_len encI_kin hc hk
  obtain ⟨ts, t1, t2⟩ := h.at'.et.kin encT_len encT_kin hc hk
  obtain ⟨ss, s1, s2, s3⟩ := rows_kin (w := w) (w' := w.setCell p u') (B := 1000) s.ss (fun x hx => (h.at'.es.2 x hx).kin encS_len encS_kin hc hk) h.lr
  have hsl : ss.length = s.ss.length := by have := congrArg List.length s1; simpa using this
  have e1 : EV encR 1 (w.setCell p u') c.vs s.ss := h.at'.es.1.oth hc (fun x hx u1 hu1 => by
    obtain ⟨A, cc, hv⟩ := (h.at'.es.2 x hx).shape
    unfold encR at hu1
    rw [List.mem_singleton, hv] at hu1
    subst hu1
    rcases hk with ⟨_, _, _, rfl, _⟩ | ⟨_, _, rfl, _⟩ <;> simp)
  exact ⟨⟨s.n, s.cr, gs, cl, cu, ts, ss⟩, rfl, rfl, s1, ⟨g2, c2, u2, t2, EV.encR_map s1 e1, s2⟩, by have := h.lg; show gs.length ≤ _; omega, by have := h.lc; show cl.length ≤ _; omega, by have := h.lu; show cu.length ≤ _; omega, by have := h.lt; show ts.length ≤ _; omega, by have := h.ls; show ss.length ≤ _; omega, s3, h.n1, h.n2⟩
end Go.Proofs.Ytenngfkgfdogjaa
namespace Go.Proofs.Ytenngfkgfdogjaa
open Go Go.RowKit Go.Shelf

/-- A slice that is not in block Z. -/
def Aw (Z : Nat) (v : Value) : Prop := ∀ g o n c, v = .slice (some ⟨g, o, none⟩) n c → g ≠ Z
structure AwS (Z : Nat) (c : StC) (s : St) : Prop where
  g : Aw Z c.vg
  c' : Aw Z c.vc
  u : Aw Z c.vu
  t : Aw Z c.vt
  s' : Aw Z c.vs
  r : ∀ x ∈ s.ss.map Prod.fst, Aw Z x
theorem Aw.nil (Z n c : Nat) : Aw Z (.slice none n c) := by intro g o n' c' h; simp at h
theorem OV.aw {α : Type} {enc : α → List Value} {k base Z : Nat} {e : TypeId} {w : World} {v : Value} {xs : List α} (h : OV enc k e base w v xs) (hb : Z < base) : Aw Z v := by
  rintro g o n c rfl
  have := (h.block g rfl).1
  omega
theorem StO.aws {base Z : Nat} {w : World} {c : StC} {s : St} (h : StO base w c s) (hb : Z < base) : AwS Z c s :=
  ⟨h.og.aw hb, h.oc.aw hb, h.ou.aw hb, h.ot.aw hb, h.os.aw hb, fun x hx => by obtain ⟨y, hy, rfl⟩ := List.mem_map.1 hx; exact (h.orr y hy).aw hb⟩
theorem StG.modZ {w w' : World} {Z : Nat} {c : StC} {s : St} (h : StG w c s) (ha : AwS Z c s) (hm : Mod (fun k => k = Z) w w') : StG w' c s :=
  ⟨⟨h.at'.eg.mod hm ha.g, h.at'.ec.mod hm ha.c', h.at'.eu.mod hm ha.u, h.at'.et.mod hm ha.t, ⟨h.at'.es.1.mod hm ha.s', fun x hx => (h.at'.es.2 x hx).mod hm (ha.r x.1 (List.mem_map.2 ⟨x, hx, rfl⟩))⟩⟩, h.lg, h.lc, h.lu, h.lt, h.ls, h.lr, h.n1, h.n2⟩
/-- Where a state that is bent stands. -/
structure Bn (w : World) (X : Nat) (wx : World) : Prop where
  ex : ∃ c s, StBox wx X c s ∧ StG wx c s ∧ AwS w.heap.size c s
  zb : ZBox wx w.heap.size
  bel : Below w.heap.size w wx
theorem Bn.kin {w wx : World} {X : Nat} {p : Addr} {u u' : Value} (h : Bn w X wx) (hX : p.block ≠ X) (hZ : w.heap.size < p.block) (hc : wx.cell? p = some u) (hk : Kin u u') : Bn w X (wx.setCell p u') := by
  obtain ⟨c, s, hb, hg, ha⟩ := h.ex
  obtain ⟨s', e1, e2, e3, g⟩ := hg.kin hc hk
  refine ⟨⟨c, s', ?_, g, ⟨ha.g, ha.c', ha.u, ha.t, ha.s', by rw [e3]; exact ha.r⟩⟩, h.zb.other (by omega), h.bel.setCell (by omega) _⟩
  unfold StBox at *
  rw [show c.cells s' = c.cells s by unfold StC.cells; rw [e1, e2]]
  exact (Below.heap_setCell _ _ _ _ (fun e => hX e.symm)).trans hb
/-- Of the state in its box one cell is written. -/
theorem Bn.box {w wx : World} {X i : Nat} {c c' : StC} {s s' : St} {v : Value} (hb : StBox wx X c s) (hz : ZBox wx w.heap.size) (hbl : Below w.heap.size w wx) (hX : w.heap.size < X) (he : (c.cells s).setIfInBounds i v = c'.cells s') (hg : StG (wx.setCell ⟨X, i, none⟩ v) c' s') (ha : AwS w.heap.size c' s') : Bn w X (wx.setCell ⟨X, i, none⟩ v) :=
  ⟨⟨c', s', by unfold StBox; rw [← he]; exact heap_setCell_same wx X i _ _ v hb, hg, ha⟩, hz.other (by show X ≠ _; omega), hbl.setCell (p := ⟨X, i, none⟩) (by show _ ≤ X; omega) _⟩
/-- The example, in memory of the call's own. -/
structure Be (w : World) (X : Nat) (c : StC) (s : St) (wx : World) : Prop where
  o : StO (w.heap.size + 1) wx c s
  bx : StBox wx X c s
  sim : Sim exSt s
  zb : ZBox wx w.heap.size
  bel : Below w.heap.size w wx
  hX : w.heap.size < X
section
variable {w wx : World} {X : Nat} {c : StC} {s : St}
theorem Be.len (h : Be w X c s wx) : s.gs.length = 2 ∧ s.cl.length = 1 ∧ s.cu.length = 1 ∧ s.ts.length = 2 ∧ s.ss.length = 2 ∧ ∀ x ∈ s.ss, x.2.length = 1 := by
  have hm := h.sim
  refine ⟨by rw [← hm.gs]; rfl, by rw [← hm.cl]; rfl, by rw [← hm.cu]; rfl, by rw [← hm.ts]; rfl, by rw [← hm.len]; rfl, fun x hx => ?_⟩
  have : x.2 ∈ exSt.ss.map Prod.snd := by rw [hm.ss]; exact List.mem_map.2 ⟨x, hx, rfl⟩
  simp [exSt] at this
  rcases this with e | e <;> rw [e] <;> rfl
theorem Be.stg (h : Be w X c s wx) : StG wx c s := by
  obtain ⟨a, b, d, e, f, g⟩ := h.len
  exact ⟨h.o.at, by omega, by omega, by omega, by omega, by omega, fun x hx => by rw [g x hx]; omega, by rw [← h.sim.n]; decide, by rw [← h.sim.n]; decide⟩
theorem Be.aws (h : Be w X c s wx) : AwS w.heap.size c s := h.o.aws (by omega)
theorem Be.bn (h : Be w X c s wx) : Bn w X wx := ⟨⟨c, s, h.bx, h.stg, h.aws⟩, h.zb, h.bel⟩
/-- One of the slices that a state holds is put in the place of another one. -/
theorem StG.setbx {i : Nat} {v : Value} (h : StG wx c s) (o : StO (w.heap.size + 1) wx c s) (hb : StBox wx X c s) : StG (wx.setCell ⟨X, i, none⟩ v) c s :=
  ⟨(o.setbx hb i v).at, h.lg, h.lc, h.lu, h.lt, h.ls, h.lr, h.n1, h.n2⟩
end
end Go.Proofs.Ytenngfkgfdogjaa
namespace Go.Proofs.Ytenngfkgfdogjaa
open Go Go.RowKit Go.Shelf
attribute [local go_sem] Oper.semAt_some

set_option maxRecDepth 100000 in
set_option maxHeartbeats 3200000 in
theorem example_ok3 (w : World) : Calls Try.prog 39 #[] w fun e w' => ∃ c s, e = .returned (c.val s) ∧ StO w.heap.size w' c s ∧ Sim exSt s ∧ Below w.heap.size w w' ∧ c.vc.ownBlock ≠ c.vu.ownBlock ∧ RowsB s := by
  go_enter Try.func39, Try.ntmps39
  go_wp2
  generalize hw1 : w.alloc _ = w1
  generalize hw2 : w1.alloc _ = w2
  generalize hw3 : w2.alloc _ = w3
  generalize hw4 : w3.alloc _ = w4
  generalize hw5 : w4.alloc _ = w5
  generalize hw6 : w5.alloc _ = w6
  generalize hw7 : w6.alloc _ = w7
  generalize hw8 : w7.alloc _ = w8
  have s1 : w1.heap.size = w.heap.size + 1 := by rw [← hw1]; simp
  have s2 : w2.heap.size = w.heap.size + 1 + 1 := by rw [← hw2]; simp [s1]
  have s3 : w3.heap.size = w.heap.size + 1 + 1 + 1 := by rw [← hw3]; simp [s2]
  have s4 : w4.heap.size = w.heap.size + 1 + 1 + 1 + 1 := by rw [← hw4]; simp [s3]
  have s5 : w5.heap.size = w.heap.size + 1 + 1 + 1 + 1 + 1 := by rw [← hw5]; simp [s4]
  have s6 : w6.heap.size = w.heap.size + 1 + 1 + 1 + 1 + 1 + 1 := by rw [← hw6]; simp [s5]
  have s7 : w7.heap.size = w.heap.size + 1 + 1 + 1 + 1 + 1 + 1 + 1 := by rw [← hw7]; simp [s6]
  have b8 : Below w7.heap.size w7 w8 := by rw [← hw8]; exact bel_alloc _ _
  have b7 : Below w6.heap.size w6 w8 := below_step (by rw [← hw7]; exact bel_alloc _ _) b8
  have b6 : Below w5.heap.size w5 w8 := below_step (by rw [← hw6]; exact bel_alloc _ _) b7
  have b5 : Below w4.heap.size w4 w8 := below_step (by rw [← hw5]; exact bel_alloc _ _) b6
  have b4 : Below w3.heap.size w3 w8 := below_step (by rw [← hw4]; exact bel_alloc _ _) b5
  have b3 : Below w2.heap.size w2 w8 := below_step (by rw [← hw3]; exact bel_alloc _ _) b4
  have b2 : Below w1.heap.size w1 w8 := below_step (by rw [← hw2]; exact bel_alloc _ _) b3
  have b1 : Below w.heap.size w w8 := below_step (by rw [← hw1]; exact bel_alloc _ _) b2
  have og : OV encG 2 82 w.heap.size w2 (.slice (some ⟨w.heap.size + 1, 0, none⟩) 2 2) [(0, 1), (0, 9)] := by rw [← hw2]; exact OV.litM s1 (by omega) rfl rfl rfl (by omega)
  have oc : OV encI 1 3 w.heap.size w3 (.slice (some ⟨w.heap.size + 1 + 1, 0, none⟩) 1 1) [0] := by rw [← hw3]; exact OV.litM s2 (by omega) rfl rfl rfl (by omega)
  have ou : OV encI 1 3 w.heap.size w4 (.slice (some ⟨w.heap.size + 1 + 1 + 1, 0, none⟩) 1 1) [0] := by rw [← hw4]; exact OV.litM s3 (by omega) rfl rfl rfl (by omega)
  have ot : OV encT 8 61 w.heap.size w5 (.slice (some ⟨w.heap.size + 1 + 1 + 1 + 1, 0, none⟩) 2 2) [⟨5, 0, 1, 0, 1, true, 10, 0⟩, ⟨6, 1, 1, 0, 1, true, 3, 0⟩] := by rw [← hw5]; exact OV.litM s4 (by omega) rfl rfl rfl (by omega)
  have o0 : OV encS 3 51 w.heap.size w6 (.slice (some ⟨w.heap.size + 1 + 1 + 1 + 1 + 1, 0, none⟩) 1 1) [⟨0, 0, 4⟩] := by rw [← hw6]; exact OV.litM s5 (by omega) rfl rfl rfl (by omega)
  have o1 : OV encS 3 51 w.heap.size w7 (.slice (some ⟨w.heap.size + 1 + 1 + 1 + 1 + 1 + 1, 0, none⟩) 1 1) [⟨10, 0, 4⟩] := by rw [← hw7]; exact OV.litM s6 (by omega) rfl rfl rfl (by omega)
  have os : OV encR 1 52 w.heap.size w8 (.slice (some ⟨w.heap.size + 1 + 1 + 1 + 1 + 1 + 1 + 1, 0, none⟩) 2 2) [(.slice (some ⟨w.heap.size + 1 + 1 + 1 + 1 + 1, 0, none⟩) 1 1, [⟨0, 0, 4⟩]), (.slice (some ⟨w.heap.size + 1 + 1 + 1 + 1 + 1 + 1, 0, none⟩) 1 1, [⟨10, 0, 4⟩])] := by rw [← hw8]; exact OV.litM s7 (by omega) rfl rfl rfl (by omega)
  have hx := heap_alloc_new w (.cells #[.int .i64 1, .int .u64 0, .slice (some ⟨w.heap.size + 1, 0, none⟩) 2 2, .slice (some ⟨w.heap.size + 1 + 1, 0, none⟩) 1 1, .slice (some ⟨w.heap.size + 1 + 1 + 1, 0, none⟩) 1 1, .slice (some ⟨w.heap.size + 1 + 1 + 1 + 1, 0, none⟩) 2 2, .slice (some ⟨w.heap.size + 1 + 1 + 1 + 1 + 1 + 1 + 1, 0, none⟩) 2 2] 38)
  rw [hw1] at hx
  have hx8 := (b2.block w.heap.size (by omega)).trans hx
  refine bodyPost_ret (results_cell_row rfl _ _ w.heap.size _ _ _ _ rfl hx8 Try.underlying38 rfl (by kernel_rfl)) rfl ?_
  refine ⟨⟨_, _, _, _, _⟩, { exSt with ss := [(.slice (some ⟨w.heap.size + 1 + 1 + 1 + 1 + 1, 0, none⟩) 1 1, [⟨0, 0, 4⟩]), (.slice (some ⟨w.heap.size + 1 + 1 + 1 + 1 + 1 + 1, 0, none⟩) 1 1, [⟨10, 0, 4⟩])] }, rfl, ⟨og.below b3, oc.below b4, ou.below b5, ot.below b6, os, fun x hx => ?_⟩, ⟨rfl, rfl, rfl, rfl, rfl, rfl, rfl⟩, b1, by simp [Value.ownBlock], by unfold RowsB; simp [Value.ownBlock]⟩
  simp at hx
  rcases hx with rfl | rfl
  · exact o0.below b7
  · exact o1.below b8

/-- The example in memory of the call's own; what lies apart. -/
structure Bf (w : World) (X : Nat) (c : StC) (s : St) (wx : World) : Prop where
  e : Be w X c s wx
  ne : c.vc.ownBlock ≠ c.vu.ownBlock
  rb : RowsB s
section
variable {w wx : World} {X : Nat} {c : StC} {s : St}
theorem Bf.below {wy : World} (h : Bf w X c s wx) (hb : Below wx.heap.size wx wy) : Bf w X c s wy :=
  ⟨⟨h.e.o.below hb, h.e.bx.below hb, h.e.sim, h.e.zb.below hb, h.e.bel.trans (hb.mono h.e.bel.size), h.e.hX⟩, h.ne, h.rb⟩
theorem Bf.bn (h : Bf w X c s wx) : Bn w X wx := h.e.bn
/-- A slice of the state's box is put anew. -/
theorem Bf.box {i : Nat} {v : Value} (h : Bf w X c s wx) {c' : StC} {s' : St} (he : (c.cells s).setIfInBounds i v = c'.cells s') (hg : StG (wx.setCell ⟨X, i, none⟩ v) c s → StG (wx.setCell ⟨X, i, none⟩ v) c' s') (ha : AwS w.heap.size c s → AwS w.heap.size c' s') : Bn w X (wx.setCell ⟨X, i, none⟩ v) :=
  Bn.box h.e.bx h.e.zb h.e.bel h.e.hX he (hg (StG.setbx h.e.stg h.e.o h.e.bx)) (ha h.e.aws)
theorem bent_0 (h : Bf w X c s wx) (n : Int) (h1 : -9223372036854775808 ≤ n) (h2 : n ≤ 9223372036854775807) : Bn w X (wx.setCell ⟨X, 0, none⟩ (.int .i64 n)) :=
  h.box (c' := c) (s' := { s with n := n }) rfl (fun g => ⟨⟨g.at'.eg, g.at'.ec, g.at'.eu, g.at'.et, g.at'.es⟩, g.lg, g.lc, g.lu, g.lt, g.ls, g.lr, h1, h2⟩) (fun a => ⟨a.g, a.c', a.u, a.t, a.s', a.r⟩)
theorem Aw.same {Z g o n c n' c' : Nat} (h : Aw Z (.slice (some ⟨g, o, none⟩) n c)) : Aw Z (.slice (some ⟨g, o, none⟩) n' c') := by
  intro g2 o2 n2 c2 he
  simp only [Value.slice.injEq, Option.some.injEq, Addr.mk.injEq, and_true] at he
  obtain ⟨⟨rfl, rfl⟩, _⟩ := he
  exact h _ _ _ _ rfl
theorem bent_1 (h : Bf w X c s wx) {g n cp k : Nat} (hv : c.vg = .slice (some ⟨g, 0, none⟩) n cp) (hn : s.gs.length = n) (hk : k ≤ n) : Bn w X (wx.setCell ⟨X, 2, none⟩ (.slice (some ⟨g, 0, none⟩) k cp)) :=
  h.box (c' := { c with vg := .slice (some ⟨g, 0, none⟩) k cp }) (s' := { s with gs := s.gs.take k }) rfl
    (fun q => ⟨⟨(show EV encG 2 _ (.slice (some ⟨g, 0, none⟩) n cp) s.gs from hv ▸ q.at'.eg).row_take (by omega) hn.symm, q.at'.ec, q.at'.eu, q.at'.et, q.at'.es⟩, by have := q.lg; dsimp only; rw [List.length_take]; omega, q.lc, q.lu, q.lt, q.ls, q.lr, q.n1, q.n2⟩)
    (fun a => ⟨(show Aw _ (.slice (some ⟨g, 0, none⟩) n cp) from hv ▸ a.g).same, a.c', a.u, a.t, a.s', a.r⟩)
theorem bent_3 (h : Bf w X c s wx) : Bn w X (wx.setCell ⟨X, 4, none⟩ (.slice none 0 0)) :=
  h.box (c' := { c with vu := .slice none 0 0 }) (s' := { s with cu := [] }) rfl
    (fun q => ⟨⟨q.at'.eg, q.at'.ec, EV.nil _ _, q.at'.et, q.at'.es⟩, q.lg, q.lc, by simp, q.lt, q.ls, q.lr, q.n1, q.n2⟩)
    (fun a => ⟨a.g, a.c', Aw.nil _ _ _, a.t, a.s', a.r⟩)
theorem bent_17 (h : Bf w X c s wx) {g n cp k : Nat} (hv : c.vs = .slice (some ⟨g, 0, none⟩) n cp) (hn : s.ss.length = n) (hk : k ≤ n) : Bn w X (wx.setCell ⟨X, 6, none⟩ (.slice (some ⟨g, 0, none⟩) k cp)) :=
  h.box (c' := { c with vs := .slice (some ⟨g, 0, none⟩) k cp }) (s' := { s with ss := s.ss.take k }) rfl
    (fun q => ⟨⟨q.at'.eg, q.at'.ec, q.at'.eu, q.at'.et, ⟨(show EV encR 1 _ (.slice (some ⟨g, 0, none⟩) n cp) s.ss from hv ▸ q.at'.es.1).row_take (by omega) hn.symm, fun x hx => q.at'.es.2 x (List.mem_of_mem_take hx)⟩⟩, q.lg, q.lc, q.lu, q.lt, by have := q.ls; dsimp only; rw [List.length_take]; omega, fun x hx => q.lr x (List.mem_of_mem_take hx), q.n1, q.n2⟩)
    (fun a => ⟨a.g, a.c', a.u, a.t, (show Aw _ (.slice (some ⟨g, 0, none⟩) n cp) from hv ▸ a.s').same, fun x hx => by
      obtain ⟨y, hy, rfl⟩ := List.mem_map.1 hx
      exact a.r y.1 (List.mem_map.2 ⟨y, List.mem_of_mem_take hy, rfl⟩)⟩)
/-- A row of spots is put anew. -/
theorem Bf.row {u : Value} {ys : List Sp} {gs n cp i : Nat} {x : Value × List Sp} (h : Bf w X c s wx) (hv : c.vs = .slice (some ⟨gs, 0, none⟩) n cp) (hx : s.ss[i]? = some x) (hl : ys.length ≤ 1000) (hu : EV encS 3 (wx.setCell ⟨gs, i, none⟩ u) u ys) (ha : Aw w.heap.size u) : Bn w X (wx.setCell ⟨gs, i, none⟩ u) := by
  have os := h.e.o.os
  rw [hv] at os
  have hrl := (List.getElem?_eq_some_iff.1 hx).1
  have hn : s.ss.length = n := by
    obtain ⟨A, c9, h9⟩ := (os.ev encR_len).shape
    simp only [Value.slice.injEq] at h9
    exact h9.2.1.symm
  obtain ⟨o2, gr⟩ := os.setF encR_len hn hx (j := 0) (by omega) ((u, ys) : Value × List Sp) u rfl
  simp only [Nat.mul_one, Nat.add_zero] at o2 gr
  have nz : ∀ {α : Type} {enc : α → List Value} {k : Nat} {e : TypeId} {v : Value} {xs : List α}, OV enc k e (w.heap.size + 1) wx v xs → e ≠ 52 → OV enc k e (w.heap.size + 1) (wx.setCell ⟨gs, i, none⟩ u) v xs := fun h he => h.keep gr (h.ne2 os he)
  have o := h.e.o
  have hbl := (os.block gs rfl).1
  have g0 := h.e.stg
  refine ⟨⟨c, { s with ss := s.ss.set i (u, ys) }, h.e.bx.oth (os.ne_box h.e.bx (by decide)) rfl rfl,
    ⟨⟨(nz o.og (by decide)).ev encG_len, (nz o.oc (by decide)).ev encI_len, (nz o.ou (by decide)).ev encI_len, (nz o.ot (by decide)).ev encT_len, ⟨hv ▸ o2.ev encR_len, fun y hy => ?_⟩⟩, g0.lg, g0.lc, g0.lu, g0.lt, by simpa using g0.ls, fun y hy => ?_, g0.n1, g0.n2⟩, ⟨h.e.aws.g, h.e.aws.c', h.e.aws.u, h.e.aws.t, h.e.aws.s', fun y hy => ?_⟩⟩, h.e.zb.other (by show gs ≠ _; omega), h.e.bel.setCell (p := ⟨gs, i, none⟩) (by show _ ≤ gs; omega) _⟩
  · rcases List.mem_or_eq_of_mem_set hy with h1 | rfl
    · exact (nz (o.orr y h1) (by decide)).ev encS_len
    · exact hu
  · rcases List.mem_or_eq_of_mem_set hy with h1 | rfl
    · exact g0.lr y h1
    · exact hl
  · obtain ⟨z, hz, rfl⟩ := List.mem_map.1 hy
    rcases List.mem_or_eq_of_mem_set hz with h1 | rfl
    · exact h.e.aws.r z.1 (List.mem_map.2 ⟨z, h1, rfl⟩)
    · exact ha
/-- A task's cell is put anew. -/
theorem Bf.task {g n cp i j : Nat} {u' : Value} (h : Bf w X c s wx) (hv : c.vt = .slice (some ⟨g, 0, none⟩) n cp) (hi : i < s.ts.length) (hj : j < 8) (hk : ∀ u, wx.cell? ⟨g, i * 8 + j, none⟩ = some u → Kin u u') : Bn w X (wx.setCell ⟨g, i * 8 + j, none⟩ u') := by
  obtain ⟨t, ht⟩ : ∃ t, s.ts[i]? = some t := ⟨_, List.getElem?_eq_getElem hi⟩
  obtain ⟨⟨u, hc⟩, _⟩ := h.e.o.tcell hv ht hj
  have ot := h.e.o.ot
  rw [hv] at ot
  exact h.bn.kin (ot.ne_box h.e.bx (by decide)) (by have := (ot.block g rfl).1; show _ < g; omega) hc (hk u hc)
theorem bent_2 (h : Bf w X c s wx) {sv : Value} (hA : EV encI 1 wx sv [0]) (ty : TypeId) :
    ∃ v' w', (Builtin.append_ #[34, 34] ty #[c.vc, sv]).run Try.prog wx = .ok v' w' ∧ (∃ A m c, v' = .slice A m c) ∧ (∃ u, w'.cell? ⟨X, 3, none⟩ = some u) ∧ w'.frozen? ⟨X, 3, none⟩ = false ∧ Bn w X (w'.setCell ⟨X, 3, none⟩ v') := by
  have o := h.e.o
  have g0 := h.e.stg
  have hlc := g0.lc
  obtain ⟨v', w', hr, ho, hg⟩ := run_app elemI encI_len encI_one ty o.oc hA (by simp; omega) (Nat.succ_le_of_lt (Nat.lt_of_lt_of_le h.e.zb.lt (Nat.le_refl _)))
  have nz : ∀ {α : Type} {enc : α → List Value} {k : Nat} {e : TypeId} {v : Value} {xs : List α}, OV enc k e (w.heap.size + 1) wx v xs → e ≠ 3 → OV enc k e (w.heap.size + 1) w' v xs := fun h he => h.keep hg (h.ne2 o.oc he)
  have ou := o.ou.keep hg (.inr h.ne.symm)
  have bx2 : StBox w' X c s := by
    unfold StBox
    rw [hg.block X h.e.bx.lt (fun e => by
      rcases o.oc.ne_bx h.e.bx (by decide) with h1 | h1
      · rw [h1] at e; cases e
      · exact h1 e.symm)]
    exact h.e.bx
  have zb2 : ZBox w' w.heap.size := by
    unfold ZBox
    rw [hg.block w.heap.size h.e.zb.lt (fun e => by
      have := (o.oc.block _ e.symm).1
      omega)]
    exact h.e.zb
  have bb2 : Below w.heap.size w w' := h.e.bel.grown hg h.e.bel.size (fun k hk => by have := (o.oc.block _ hk).1; omega)
  refine ⟨v', w', hr, (by obtain ⟨A, c9, h9⟩ := (ho.ev encI_len).shape; exact ⟨A, _, c9, h9⟩), ⟨_, bx2.cell.2.2.2.1⟩, bx2.frz 3, Bn.box bx2 zb2 bb2 h.e.hX (c' := { c with vc := v' }) (s' := { s with cl := s.cl ++ [0] }) rfl ?_ ⟨h.e.aws.g, ho.aw (by omega), h.e.aws.u, h.e.aws.t, h.e.aws.s', h.e.aws.r⟩⟩
  have so : ∀ {α : Type} {enc : α → List Value} {k : Nat} {e : TypeId} {v : Value} {xs : List α}, OV enc k e (w.heap.size + 1) w' v xs → e ≠ 38 → OV enc k e (w.heap.size + 1) (w'.setCell ⟨X, 3, none⟩ v') v xs := fun h he => h.setbx bx2 he 3 v'
  exact ⟨⟨(so (nz o.og (by decide)) (by decide)).ev encG_len, (so ho (by decide)).ev encI_len, (so ou (by decide)).ev encI_len, (so (nz o.ot (by decide)) (by decide)).ev encT_len, ⟨(so (nz o.os (by decide)) (by decide)).ev encR_len, fun x hx => (so (nz (o.orr x hx) (by decide)) (by decide)).ev encS_len⟩⟩, g0.lg, (by have h9 := h.e.len.2.1; show (s.cl ++ [0]).length ≤ 1000; rw [List.length_append]; simp; omega), g0.lu, g0.lt, g0.ls, g0.lr, g0.n1, g0.n2⟩
theorem bent_4 (h : Bf w X c s wx) {p : SV} (hp : EV encS 3 wx p.v [⟨0, 0, 0⟩]) (hpo : OV encS 3 51 (w.heap.size + 1) wx p.v [⟨0, 0, 0⟩]) {sv : Value} (hA : EV encW 1 wx sv [(p, [⟨0, 0, 0⟩])]) (ty : TypeId) :
    ∃ v' w', (Builtin.append_ #[36, 36] ty #[c.vs, sv]).run Try.prog wx = .ok v' w' ∧ (∃ A m c, v' = .slice A m c) ∧ (∃ u, w'.cell? ⟨X, 6, none⟩ = some u) ∧ w'.frozen? ⟨X, 6, none⟩ = false ∧ Bn w X (w'.setCell ⟨X, 6, none⟩ v') := by
  have o := h.e.o
  have g0 := h.e.stg
  obtain ⟨ys, hys⟩ := rows_of s.ss fun x hx => by
    obtain ⟨A, c9, h⟩ := ((o.orr x hx).ev encS_len).shape
    exact ⟨(A, _, c9), h⟩
  have os := o.os
  rw [← hys] at os
  have hlen : ys.length ≤ 1000 := by have h1 := congrArg List.length hys; rw [List.length_map] at h1; have := g0.ls; omega
  obtain ⟨v', w', hr, ho, hg⟩ := run_app elemW encW_len encW_one ty os.rows' hA (by simp; omega) (Nat.succ_le_of_lt (Nat.lt_of_lt_of_le h.e.zb.lt (Nat.le_refl _)))
  have nz : ∀ {α : Type} {enc : α → List Value} {k : Nat} {e : TypeId} {v : Value} {xs : List α}, OV enc k e (w.heap.size + 1) wx v xs → e ≠ 52 → OV enc k e (w.heap.size + 1) w' v xs := fun h he => h.keep hg (h.ne2 o.os he)
  have bx2 : StBox w' X c s := by
    unfold StBox
    rw [hg.block X h.e.bx.lt (fun e => by
      rcases o.os.ne_bx h.e.bx (by decide) with h1 | h1
      · rw [h1] at e; cases e
      · exact h1 e.symm)]
    exact h.e.bx
  have zb2 : ZBox w' w.heap.size := by
    unfold ZBox
    rw [hg.block w.heap.size h.e.zb.lt (fun e => by
      have := (o.os.block _ e.symm).1
      omega)]
    exact h.e.zb
  have bb2 : Below w.heap.size w w' := h.e.bel.grown hg h.e.bel.size (fun k hk => by have := (o.os.block _ hk).1; omega)
  refine ⟨v', w', hr, (by obtain ⟨A, c9, h9⟩ := (ho.ev encW_len).shape; exact ⟨A, _, c9, h9⟩), ⟨_, bx2.cell.2.2.2.2.2.2⟩, bx2.frz 6, Bn.box bx2 zb2 bb2 h.e.hX (c' := { c with vs := v' }) (s' := { s with ss := (ys ++ [((p, [(⟨0, 0, 0⟩ : Sp)]) : SV × List Sp)]).map rowOf }) rfl ?_ ?_⟩
  · have so : ∀ {α : Type} {enc : α → List Value} {k : Nat} {e : TypeId} {v : Value} {xs : List α}, OV enc k e (w.heap.size + 1) w' v xs → e ≠ 38 → OV enc k e (w.heap.size + 1) (w'.setCell ⟨X, 6, none⟩ v') v xs := fun h he => h.setbx bx2 he 6 v'
    refine ⟨⟨(so (nz o.og (by decide)) (by decide)).ev encG_len, (so (nz o.oc (by decide)) (by decide)).ev encI_len, (so (nz o.ou (by decide)) (by decide)).ev encI_len, (so (nz o.ot (by decide)) (by decide)).ev encT_len, ⟨(so ho.rows (by decide)).ev encR_len, fun x hx => ?_⟩⟩, g0.lg, g0.lc, g0.lu, g0.lt, ?_, fun x hx => ?_, g0.n1, g0.n2⟩
    · rw [List.map_append, hys] at hx
      rcases List.mem_append.1 hx with h1 | h1
      · exact (so (nz (o.orr x h1) (by decide)) (by decide)).ev encS_len
      · simp at h1
        subst h1
        exact (so (nz hpo (by decide)) (by decide)).ev encS_len
    · rw [List.length_map, List.length_append]
      have h1 := congrArg List.length hys
      rw [List.length_map] at h1
      obtain ⟨_, _, _, _, h5, _⟩ := h.e.len
      simp; omega
    · rw [List.map_append, hys] at hx
      rcases List.mem_append.1 hx with h1 | h1
      · exact g0.lr x h1
      · simp at h1
        subst h1
        show [_].length ≤ 1000
        simp
  · refine ⟨h.e.aws.g, h.e.aws.c', h.e.aws.u, h.e.aws.t, ho.aw (by omega), fun x hx => ?_⟩
    obtain ⟨z, hz, rfl⟩ := List.mem_map.1 hx
    rw [List.map_append, hys] at hz
    rcases List.mem_append.1 hz with h1 | h1
    · exact h.e.aws.r z.1 (List.mem_map.2 ⟨z, h1, rfl⟩)
    · simp at h1
      subst h1
      exact hpo.aw (by omega)
/-- Spots[1] = append(Spots[1], Spot{}): what it leaves, and the store behind it. -/
theorem bent_5 (h : Bf w X c s wx) {gs n cp : Nat} (hv : c.vs = .slice (some ⟨gs, 0, none⟩) n cp) {x : Value × List Sp} (hx : s.ss[1]? = some x) {sv : Value} (hA : EV encS 3 wx sv [⟨0, 0, 0⟩]) (ty : TypeId) :
    ∃ v' w', (Builtin.append_ #[52, 52] ty #[x.1, sv]).run Try.prog wx = .ok v' w' ∧ (∃ A m c, v' = .slice A m c) ∧ w'.cell? ⟨gs, 1, none⟩ = some x.1 ∧ w'.frozen? ⟨gs, 1, none⟩ = false ∧ w'.cell? ⟨X, 6, none⟩ = some c.vs ∧ Bn w X (w'.setCell ⟨gs, 1, none⟩ v') := by
  have o := h.e.o
  have g0 := h.e.stg
  have hxm := List.mem_of_getElem? hx
  have oxr := o.orr x hxm
  obtain ⟨v', w', hr, ho, hg⟩ := run_app elemS encS_len encS_one ty oxr hA (by have := g0.lr x hxm; simp; omega) (Nat.succ_le_of_lt (Nat.lt_of_lt_of_le h.e.zb.lt (Nat.le_refl _)))
  have nz : ∀ {α : Type} {enc : α → List Value} {k : Nat} {e : TypeId} {v : Value} {xs : List α}, OV enc k e (w.heap.size + 1) wx v xs → e ≠ 51 → OV enc k e (w.heap.size + 1) w' v xs := fun h he => h.keep hg (h.ne2 oxr he)
  have bx2 : StBox w' X c s := by
    unfold StBox
    rw [hg.block X h.e.bx.lt (fun e => by
      rcases oxr.ne_bx h.e.bx (by decide) with h1 | h1
      · rw [h1] at e; cases e
      · exact h1 e.symm)]
    exact h.e.bx
  have zb2 : ZBox w' w.heap.size := by
    unfold ZBox
    rw [hg.block w.heap.size h.e.zb.lt (fun e => by
      have := (oxr.block _ e.symm).1
      omega)]
    exact h.e.zb
  have bb2 : Below w.heap.size w w' := h.e.bel.grown hg h.e.bel.size (fun k hk => by have := (oxr.block _ hk).1; omega)
  have os := nz o.os (by decide)
  have hl := (List.getElem?_eq_some_iff.1 hx).1
  have os2 := os
  rw [hv] at os2
  have hn : s.ss.length = n := by
    obtain ⟨A, c9, h9⟩ := (os2.ev encR_len).shape
    simp only [Value.slice.injEq] at h9
    exact h9.2.1.symm
  have hc1 := ((os2.ev encR_len).row3 (by omega)) 1 x hx 0 _ rfl
  simp only [Nat.mul_one, Nat.add_zero, Nat.zero_add] at hc1
  have hf : w'.frozen? ⟨gs, 1, none⟩ = false := by
    have := os2
    unfold OV at this
    rw [hn] at this
    exact World.ownsRow.frozenAt this _
  -- the other row is as it was
  have h5 : s.ss.length = 2 := h.e.len.2.2.2.2.1
  obtain ⟨y, hy⟩ : ∃ y, s.ss[0]? = some y := ⟨_, List.getElem?_eq_getElem (by omega)⟩
  have hne : y.1.ownBlock ≠ x.1.ownBlock := by
    have h6 := List.pairwise_iff_getElem.1 h.rb 0 1 (by omega) (by omega) (by omega)
    obtain ⟨l1, e1⟩ := List.getElem?_eq_some_iff.1 hy
    obtain ⟨l2, e2⟩ := List.getElem?_eq_some_iff.1 hx
    rwa [e1, e2] at h6
  have oy := (o.orr y (List.mem_of_getElem? hy)).keep hg (.inr hne)
  have hss : s.ss = [y, x] := by
    match hs2 : s.ss, h5 with
    | [a, b], _ =>
      rw [hs2] at hx hy
      simp at hx hy
      rw [hx, hy]
  refine ⟨v', w', hr, (by obtain ⟨A, c9, h9⟩ := (ho.ev encS_len).shape; exact ⟨A, _, c9, h9⟩), hc1, hf, bx2.cell.2.2.2.2.2.2, ?_⟩
  obtain ⟨o2, gr2⟩ := os2.setF encR_len hn hx (j := 0) (by omega) ((v', x.2 ++ [⟨0, 0, 0⟩]) : Value × List Sp) v' rfl
  simp only [Nat.mul_one, Nat.add_zero] at o2 gr2
  have nz2 : ∀ {α : Type} {enc : α → List Value} {k : Nat} {e : TypeId} {v : Value} {xs : List α}, OV enc k e (w.heap.size + 1) w' v xs → e ≠ 52 → OV enc k e (w.heap.size + 1) (w'.setCell ⟨gs, 1, none⟩ v') v xs := fun h he => h.keep gr2 (h.ne2 os2 he)
  have hbl := (os2.block gs rfl).1
  rw [hss] at o2
  refine ⟨⟨c, { s with ss := [y, (v', x.2 ++ [⟨0, 0, 0⟩])] }, bx2.oth (os2.ne_box bx2 (by decide)) rfl rfl,
    ⟨⟨(nz2 (nz o.og (by decide)) (by decide)).ev encG_len, (nz2 (nz o.oc (by decide)) (by decide)).ev encI_len, (nz2 (nz o.ou (by decide)) (by decide)).ev encI_len, (nz2 (nz o.ot (by decide)) (by decide)).ev encT_len, ⟨hv ▸ o2.ev encR_len, fun z hz => ?_⟩⟩, g0.lg, g0.lc, g0.lu, g0.lt, by show ([_, _] : List _).length ≤ 1000; simp, fun z hz => ?_, g0.n1, g0.n2⟩, ⟨h.e.aws.g, h.e.aws.c', h.e.aws.u, h.e.aws.t, h.e.aws.s', fun z hz => ?_⟩⟩, zb2.other (by show gs ≠ _; omega), bb2.setCell (p := ⟨gs, 1, none⟩) (by show _ ≤ gs; omega) _⟩
  · simp at hz
    rcases hz with rfl | rfl
    · exact (nz2 oy (by decide)).ev encS_len
    · exact (nz2 ho (by decide)).ev encS_len
  · simp at hz
    rcases hz with rfl | rfl
    · exact g0.lr _ (List.mem_of_getElem? hy)
    · have := h.e.len.2.2.2.2.2 x hxm
      simp; omega
  · simp at hz
    rcases hz with rfl | rfl
    · exact h.e.aws.r y.1 (List.mem_map.2 ⟨y, List.mem_of_getElem? hy, rfl⟩)
    · exact ho.aw (by omega)
end
end Go.Proofs.Ytenngfkgfdogjaa

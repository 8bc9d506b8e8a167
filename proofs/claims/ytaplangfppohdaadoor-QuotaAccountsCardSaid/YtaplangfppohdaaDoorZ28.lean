/- The builtin append with its bound in bytes: lists as long as arguments may be | How the arguments of the laws of quotas read where each slice is bounded by what it weighs | QuotaWrong: the law. -/
import Derived.Test.YtaplangfppohdaaDoorZ1
import Derived.SizedLaws
import Derived.Test.YtaplangfppohdaaDoorZ21
import Derived.Test.YtaplangfppohdaaDoorZ27
set_option linter.unusedVariables false
set_option linter.unusedSimpArgs false
set_option linter.unusedSectionVars false
namespace Go.Proofs.YtaplangfppohdaaDoor
open Go Go.RowKit
section
variable {P : Program} {α : Type} {enc : α → List Value} {k bytes base : Nat} {t e : TypeId} {w w' : World} {v sv : Value} {xs ys : List α}
theorem run_appB (T : ElemT P t e k bytes) (hk : ∀ x, (enc x).length = k) (h1 : ∀ x, ∀ u ∈ enc x, u.oneCell' = true) (ty : TypeId)
    (hown : OV enc k e base w v xs) (hys : EV enc k w sv ys) (hbb : (xs.length + ys.length) * bytes ≤ 140737488355328) (hml : xs.length + ys.length ≤ maxLen) (hbase : base ≤ w.heap.size) :
    ∃ v' w', (Builtin.append_ #[t, t] ty #[v, sv]).run P w = .ok v' w' ∧ OV enc k e base w' v' (xs ++ ys) ∧ w.grownBy w' v.ownBlock := by
  obtain ⟨i, z, hi, hz, hsz, hby, hzs⟩ := T.hi
  have own : ∀ {ad : Addr} {c : Nat}, sv = .slice (some ad) ys.length c → (∀ j u, (ys.flatMap enc)[j]? = some u → w.cell? (ad.add j) = some u) →
      ∃ v' w', (Builtin.append_ #[t, t] ty #[v, sv]).run P w = .ok v' w' ∧ OV enc k e base w' v' (xs ++ ys) ∧ w.grownBy w' v.ownBlock := by
    intro ad c hsv hc
    subst hsv
    obtain ⟨v', w', hr, ho, hg, _⟩ := run_append_own (P := P) w base t ty e i z k bytes T.ht hi hz hsz hby hzs T.hk v xs.length _ hown ad ys.length c (ys.flatMap enc)
      (flat_len hk ys) hc (fun u hu => by obtain ⟨x, _, hx⟩ := List.mem_flatMap.1 hu; exact h1 x u hx) hml hbb hbase
    refine ⟨v', w', hr, ?_, hg⟩
    unfold OV
    rw [List.length_append, List.flatMap_append]
    exact ho
  rcases hys with ⟨rfl, A, c, rfl⟩ | ⟨hne, b, off, c, rfl, hle, hr⟩
  · cases A with
    | some ad => exact own rfl (by simp)
    | none =>
      refine ⟨v, w, ?_, by simpa using hown, ⟨rfl, rfl, rfl, Nat.le_refl _, fun _ _ _ => rfl⟩⟩
      rcases hown.2 with ⟨rfl, _⟩ | ⟨g, cap, cur, rfl, _, _, hnc, _⟩
      · simp [Builtin.append_, run_underlying T.ht, sizeOf, typeInfo, hi, Builtin.lenOf, Builtin.firstCells]
      · simp [Builtin.append_, run_underlying T.ht, sizeOf, typeInfo, hi, Builtin.lenOf, Builtin.firstCells, hnc, storeCells]
  · refine own rfl fun j u hj => ?_
    rw [Addr.add_lit]
    have hkp := T.hk
    have hjl : j < ys.length * k := by
      have := (List.getElem?_eq_some_iff.1 hj).1
      rwa [flat_len hk] at this
    have hq : j / k < ys.length := Nat.div_lt_of_lt_mul (by rwa [Nat.mul_comm])
    have hdm : j / k * k + j % k = j := by rw [Nat.mul_comm]; exact Nat.div_add_mod j k
    have hm : j % k < (enc ys[j / k]).length := by rw [hk]; exact Nat.mod_lt _ hkp
    obtain ⟨u', hu'⟩ : ∃ u', (enc ys[j / k])[j % k]? = some u' := ⟨_, List.getElem?_eq_getElem hm⟩
    have h2 := flat_get hk ys (j / k) ys[j / k] (List.getElem?_eq_getElem hq) (j % k) u' hu'
    rw [hdm, hj] at h2
    cases h2
    have := hr (j / k) ys[j / k] (List.getElem?_eq_getElem hq) (j % k) u hu'
    rwa [Nat.add_assoc, hdm] at this

theorem wpList_appB {ops : Array Oper} {rest : List Oper} {o : Oper} {a : Act} {Q : Exit → Act → World → Prop} (T : ElemT P t e k bytes) (hk : ∀ x, (enc x).length = k) (h1 : ∀ x, ∀ u ∈ enc x, u.oneCell' = true)
    (hgd : o.guard = none) (s x : Operand) (ho : o.op = .call { callee := .builtin .append, args := #[s, x], argTypes := #[t, t] })
    (v sv : Value) (hs : a.eval s = v) (hx : a.eval x = sv) (hown : OV enc k e base w v xs) (hys : EV enc k w sv ys) (hbb : (xs.length + ys.length) * bytes ≤ 140737488355328) (hml : xs.length + ys.length ≤ maxLen) (hbase : base ≤ w.heap.size)
    (h : ∀ v' w', OV enc k e base w' v' (xs ++ ys) → w.grownBy w' v.ownBlock → wpList P ops Q rest (a.put o.dst v') w') : wpList P ops Q (o :: rest) a w := by
  refine wpList_plain hgd fun _ hK => ?_
  obtain ⟨v', w', hr, h2, h3⟩ := run_appB T hk h1 o.type hown hys hbb hml hbase
  unfold Oper.wp execOp
  simp only [ho, resolve, invoke, builtin, Sem.run_bind, Sem.run_pure, Result.andThen_ok, List.map_toArray, List.map_cons, List.map_nil, hs, hx, hr]
  exact hK _ _ (h v' w' h2 h3)

end
end Go.Proofs.YtaplangfppohdaaDoor
namespace Go.Proofs.YtaplangfppohdaaDoor
open Go Go.RowKit Go.Shelf Go.Deep Go.ChangeShapes Go.WideShapes

theorem reach_le : reachBytes ≤ 140737488355328 := by decide
section
variable {H : Type} {P : Program}
/-- Each slice in it is within what an argument may weigh. -/
def Szd (P : Program) (t : TypeId) (d : DataW H) : Prop := ∀ n ∈ DataW.weights P t d, n ≤ reachBytes
theorem szd_agg {t : TypeId} {fs : Array Field} {xs : List (DataW H × List MemPlace)} {i : Nat} {f : Field} {y : DataW H × List MemPlace} (ht : P.underlying t = some (.struct fs)) (hz : Szd P t (.agg (xs.map (·.1)))) (hi : fs[i]? = some f) (hy : xs[i]? = some y) : Szd P f.type y.1 := fun n hn => by
  refine hz n ?_
  rw [DataW.weights, ht]
  exact DataW.weights_mem_each (j := i) (t := f.type) (d := y.1) (by simp [hi]) (by simp [hy]) n hn
theorem mem_weightsAll {e : TypeId} : ∀ {l : List (DataW H)} {d : DataW H}, d ∈ l → ∀ n ∈ DataW.weights P e d, n ∈ DataW.weightsAll P e l
  | [], _, h, _, _ => by simp at h
  | a :: r, d, h, n, hn => by
    rw [DataW.weightsAll, List.mem_append]
    rcases List.mem_cons.1 h with rfl | h
    · exact .inl hn
    · exact .inr (mem_weightsAll h n hn)
theorem szd_slice {t e : TypeId} {elems sp : List (DataW H)} (ht : P.underlying t = some (.slice e)) (hz : Szd P t (.slice elems sp)) : (elems.length + sp.length) * P.bytesOf e ≤ reachBytes ∧ ∀ d ∈ elems, Szd P e d := by
  unfold Szd at hz
  rw [DataW.weights, ht] at hz
  exact ⟨hz _ (by simp), fun d hd n hn => hz n (by simp only [List.mem_cons, List.mem_append]; exact .inr (.inl (mem_weightsAll hd n hn)))⟩
variable {encd : TypeId × Value → H} {w : World} {base : Nat} {spare : Nat → Bool} {held : Bool}

/-- Rows of a slice, element by element, with the bound on its bytes. -/
theorem open_rowsS {α : Type} {enc : α → List Value} {k by' : Nat} {Q : α → Prop} {t e : TypeId} {fuel : Nat} {cs : List Value} {x : DataW H × List MemPlace} (hz : Szd P t x.1) (hby : P.bytesOf e = by')
    (ht : P.underlying t = some (.slice e)) (ck : P.cellsOf e = k) (hk : 0 < k)
    (each : ∀ n cs y, Szd P e y.1 → DataW.trod encd P w base spare held n e cs = some y → ∃ a, cs = enc a ∧ Q a)
    (h : DataW.trod encd P w base spare held fuel t cs = some x) :
    ∃ A len cap xs, cs = [.slice A len cap] ∧ EV enc k w (.slice A len cap) xs ∧ xs.length = len ∧ len * by' ≤ reachBytes ∧ ∀ a ∈ xs, Q a := by
  rcases open_slice ht h with ⟨hv, _⟩ | ⟨a, len, cap, m, n, D, Pl, hv, hb, hl, hm, hmm, hxx, hx⟩
  · exact ⟨_, _, _, [], hv, .inl ⟨rfl, _, _, rfl⟩, rfl, by omega, by simp⟩
  · have hlm : len ≤ m := by rw [hmm]; split <;> omega
    rw [hxx] at hz
    obtain ⟨hz1, hz2⟩ := szd_slice ht hz
    have hbk : ∀ i, i < len → Szd P e (D i) := fun i hi => hz2 _ (List.mem_map.2 ⟨i, List.mem_range.2 hi, rfl⟩)
    have hln : len * by' ≤ reachBytes := by
      rw [List.length_map, List.length_range, hby] at hz1
      exact Nat.le_trans (Nat.mul_le_mul_right _ (Nat.le_add_right _ _)) hz1
    have ex : ∀ i, i < len → ∃ z, (∀ j u, (enc z)[j]? = some u → w.cell? ((a.add (i * k)).add j) = some u) ∧ Q z := fun i hi => by
      obtain ⟨cs', h1, h2⟩ := hx i (by omega)
      rw [ck] at h1
      obtain ⟨_, hlen, hcell⟩ := World.cells?_some h1
      obtain ⟨z, rfl, hq⟩ := each _ _ _ (hbk i hi) h2
      refine ⟨z, fun j u hu => ?_, hq⟩
      have := (List.getElem?_eq_some_iff.1 hu).1
      exact (hcell j (by omega)).trans hu
    obtain ⟨f, hf⟩ : ∃ f : Nat → Option α, ∀ i, i < len → ∃ z, f i = some z ∧ (∀ j u, (enc z)[j]? = some u → w.cell? ((a.add (i * k)).add j) = some u) ∧ Q z :=
      ⟨fun i => if hi : i < len then some (Classical.choose (ex i hi)) else none, fun i hi => ⟨Classical.choose (ex i hi), by simp [hi], (Classical.choose_spec (ex i hi)).1, (Classical.choose_spec (ex i hi)).2⟩⟩
    obtain ⟨xs, hxl, hxs⟩ := pick_list f len (fun i hi => by obtain ⟨z, hz, _⟩ := hf i hi; exact ⟨z, hz⟩)
    have hq : ∀ z ∈ xs, Q z := fun z hz => by
      obtain ⟨i, hi⟩ := List.getElem?_of_mem hz
      have hil : i < len := by have := (List.getElem?_eq_some_iff.1 hi).1; omega
      obtain ⟨z', h1, _, h3⟩ := hf i hil
      rw [hxs i z hi] at h1; cases h1; exact h3
    refine ⟨some a, len, cap, xs, hv, ?_, hxl, hln, hq⟩
    rcases Nat.eq_zero_or_pos len with h0 | h0
    · exact .inl ⟨List.eq_nil_of_length_eq_zero (by omega), _, _, by rw [h0]⟩
    · have ha : a = ⟨a.block, a.off, none⟩ := by
        obtain ⟨cs', h1, _⟩ := hx 0 (by omega)
        rw [ck] at h1
        obtain ⟨_, hlen, hcell⟩ := World.cells?_some h1
        have h2 := hcell 0 hk
        rw [Nat.zero_mul, Addr.add_zero', Addr.add_zero', List.getElem?_eq_getElem (by omega)] at h2
        exact addr_of_cell h2
      rw [ha] at hf ⊢
      subst hxl
      refine EV.mk (fun i z hz j u hu => ?_) hl
      have hil : i < xs.length := (List.getElem?_eq_some_iff.1 hz).1
      obtain ⟨z', h1, h2, _⟩ := hf i hil
      rw [hxs i z hz] at h1; cases h1
      have := h2 j u hu
      rwa [Addr.add_lit, Addr.add_lit] at this

end
theorem elemSq : ElemT Tryd.prog 36 56 5 6 := ⟨Tryd.underlying36, by
  have h : (Tryd.prog.info? 56).map (fun i => (i.zero, i.size, i.bytes)) = some (some (.agg #[.int .u8 0, .int .u8 0, .int .u8 0, .int .u8 0, .int .u16 0]), 5, 6) := by kernel_rfl
  obtain ⟨i, h1, h2, h3, h4⟩ := info_parts h
  exact ⟨i, _, h1, h2, h3, h4, rfl⟩, by omega, by omega⟩
/-- Small events, with the bound on their bytes. -/
def SqArgS (w : World) (v : Value) (ts : List Sq) : Prop := SqArg w v ts ∧ ts.length * 6 ≤ reachBytes
section
variable {H : Type} {encd : TypeId × Value → H} {w : World} {base : Nat} {spare : Nat → Bool} {held : Bool}
theorem sq_openS {n : Nat} {v : Value} {x : DataW H × List MemPlace} (hz : Szd Tryd.prog 36 x.1) (h : DataW.trod encd Tryd.prog w base spare held n 36 [v] = some x) : ∃ ts, SqArgS w v ts := by
  obtain ⟨A, len, cap, xs, hv, h1, h2, h3, h4⟩ := open_rowsS (enc := encSq) (k := 5) (by' := 6) (Q := SqOk) hz (by kernel_rfl) Tryd.underlying36 (by kernel_rfl) (by omega) (fun n cs y _ hy => sq_cells hy) h
  simp only [List.cons.injEq, and_true] at hv
  subst hv
  have hr := reach_le
  exact ⟨xs, ⟨h1, h4, by omega⟩, by rw [h2]; exact h3⟩
end
end Go.Proofs.YtaplangfppohdaaDoor
namespace Go.Proofs.YtaplangfppohdaaDoor
open Go.RowKit Go.Shelf
attribute [local go_sem] Oper.semAt_some

theorem SqArgS.below {w w' : World} {v : Value} {ts : List Sq} (h : SqArgS w v ts) (hb : Below w.heap.size w w') : SqArgS w' v ts := ⟨⟨h.1.1.below hb, h.1.2⟩, h.2⟩
theorem elemRu : ElemT Tryd.prog 42 44 3 24 := ⟨Tryd.underlying42, by
  have h : (Tryd.prog.info? 44).map (fun i => (i.zero, i.size, i.bytes)) = some (some (.agg #[.int .i64 0, .int .i64 0, .int .i64 0]), 3, 24) := by kernel_rfl
  obtain ⟨i, h1, h2, h3, h4⟩ := info_parts h
  exact ⟨i, _, h1, h2, h3, h4, rfl⟩, by omega, by omega⟩
theorem reach_eq : reachBytes = 140737488351232 := rfl
/-- What stands behind the switch. -/
structure Sw (w0 : World) (vg vh ve vr : Value) (gs : List (Int × Int)) (want : Int) (wx : World) (hs : List (Int × Int)) (l : List Ev) (rs : List Ru) (i f : Int) : Prop where
  ev : EV encG 2 wx vg gs ∧ EV encRu 3 wx vr rs ∧ EV encG 2 wx vh hs ∧ EV encE 11 wx ve l
  len : rs.length ≤ 100 ∧ hs.length ≤ 1000000 ∧ l.length ≤ 1000000
  ok : (∀ e ∈ l, EvOk e) ∧ ∀ h ∈ hs, (-9223372036854775808 ≤ h.1 ∧ h.1 ≤ 9223372036854775807) ∧ (-9223372036854775808 ≤ h.2 ∧ h.2 ≤ 9223372036854775807)
  rej : Rej gs rs hs l want i f
  low : Below w0.heap.size w0 wx
structure SwO (w0 : World) (b : Nat) (vg vh ve vr : Value) (gs hs : List (Int × Int)) (l : List Ev) (rs : List Ru) (wx : World) : Prop where
  og : OV encG 2 53 b wx vg gs
  oh : OV encG 2 61 b wx vh hs
  oe : OV encE 11 59 b wx ve l
  orr : OV encRu 3 44 b wx vr rs
  low : Below w0.heap.size w0 wx
  hb : w0.heap.size ≤ b
section
variable {w0 w w' : World} {b : Nat} {vg vh ve vr v' : Value} {gs hs hs' : List (Int × Int)} {l l' : List Ev} {rs rs' : List Ru}
theorem SwO.below (h : SwO w0 b vg vh ve vr gs hs l rs w) (hb : Below w.heap.size w w') : SwO w0 b vg vh ve vr gs hs l rs w' := ⟨h.og.below hb, h.oh.below hb, h.oe.below hb, h.orr.below hb, h.low.trans (hb.mono h.low.size), h.hb⟩
theorem SwO.grow_r (h : SwO w0 b vg vh ve vr gs hs l rs w) (hg : w.grownBy w' vr.ownBlock) (o : OV encRu 3 44 b w' v' rs') : SwO w0 b vg vh ve v' gs hs l rs' w' :=
  ⟨h.og.keep hg (h.og.ne h.orr (by decide)), h.oh.keep hg (h.oh.ne h.orr (by decide)), h.oe.keep hg (h.oe.ne h.orr (by decide)), o, h.low.grown hg h.low.size (fun k hk => Nat.le_trans h.hb (h.orr.block k hk).1), h.hb⟩
theorem SwO.grow_h (h : SwO w0 b vg vh ve vr gs hs l rs w) (hg : w.grownBy w' vh.ownBlock) (o : OV encG 2 61 b w' v' hs') : SwO w0 b vg v' ve vr gs hs' l rs w' :=
  ⟨h.og.keep hg (h.og.ne h.oh (by decide)), o, h.oe.keep hg (h.oe.ne h.oh (by decide)), h.orr.keep hg (h.orr.ne h.oh (by decide)), h.low.grown hg h.low.size (fun k hk => Nat.le_trans h.hb (h.oh.block k hk).1), h.hb⟩
theorem SwO.grow_e (h : SwO w0 b vg vh ve vr gs hs l rs w) (hg : w.grownBy w' ve.ownBlock) (o : OV encE 11 59 b w' v' l') : SwO w0 b vg vh v' vr gs hs l' rs w' :=
  ⟨h.og.keep hg (h.og.ne h.oe (by decide)), h.oh.keep hg (h.oh.ne h.oe (by decide)), o, h.orr.keep hg (h.orr.ne h.oe (by decide)), h.low.grown hg h.low.size (fun k hk => Nat.le_trans h.hb (h.oe.block k hk).1), h.hb⟩
theorem SwO.sw {want i f : Int} (h : SwO w0 b vg vh ve vr gs hs l rs w) (hl : rs.length ≤ 100 ∧ hs.length ≤ 1000000 ∧ l.length ≤ 1000000) (hok : (∀ e ∈ l, EvOk e) ∧ ∀ h ∈ hs, (-9223372036854775808 ≤ h.1 ∧ h.1 ≤ 9223372036854775807) ∧ (-9223372036854775808 ≤ h.2 ∧ h.2 ≤ 9223372036854775807))
    (hr : Rej gs rs hs l want i f) : Sw w0 vg vh ve vr gs want w hs l rs i f := ⟨⟨h.og.ev encG_len, h.orr.ev encRu_len, h.oh.ev encG_len, h.oe.ev encE_len⟩, hl, hok, hr, h.low⟩
end
theorem ok_snoc {α : Type} {P : α → Prop} {l : List α} {x : α} (h : ∀ y ∈ l, P y) (hx : P x) : ∀ y ∈ l ++ [x], P y := by
  intro y hy
  rcases List.mem_append.1 hy with hy | hy
  · exact h y hy
  · simp only [List.mem_singleton] at hy; rw [hy]; exact hx
set_option maxRecDepth 100000 in
set_option maxHeartbeats 3200000 in
theorem wrong_walk (w : World) (vn vl : Value) (ns : List Nat) (sq : List Sq) (way : Nat) (x : Int) (hU : UsesAt w) (hn : U16 w vn ns) (hs : SqArgS w vl sq) (h1 : way < 256) (hx : -9223372036854775808 ≤ x ∧ x ≤ 9223372036854775807) :
    Calls Tryd.prog 6 #[vn, vl, .int .u8 (way : Nat), .int .i64 x] w fun e w' => e = .returned (.bool true) ∧ Below w.heap.size w w' := by
  have HAW := Lib.hid (awake_ok w hU)
  have HU := Lib.hid hU
  have HN := Lib.hid hn
  have HS := Lib.hid hs
  clear hU hn hs
  obtain ⟨sq1, hsq1⟩ : ∃ l, l = (⟨7, 0, 0, 0, 9⟩ : Sq) :: sq := ⟨_, rfl⟩
  have HSQ := Lib.hid hsq1
  have HSO := Lib.hid (show (∀ t ∈ sq1, SqOk t) ∧ sq1.length ≤ 9223372036854775807 ∧ 0 < (sq1.take 60).length ∧ (sq1.take 60).length ≤ 60 from by
    rw [hsq1]
    have := HS.out.2
    have := reach_eq
    refine ⟨fun t ht => ?_, by simp; omega, by simp, by simp; omega⟩
    rcases List.mem_cons.1 ht with rfl | ht
    · constructor <;> decide
    · exact HS.out.1.2.1 t ht)
  clear hsq1
  obtain ⟨wy, hwy⟩ : ∃ c : Nat, way % 9 = c := ⟨_, rfl⟩
  have hwi : (way : Int) % 9 = (wy : Int) := by omega
  have hw9 : wy < 9 := by omega
  go_enter Tryd.func6, Tryd.ntmps6
  go_wp2_with fail
  refine HAW.out.mono ?_
  rintro e w1 ⟨rfl, hb1⟩
  have HB1 := Lib.hid hb1
  have hlit : OV encSq 5 56 w1.heap.size (w1.alloc (.cells #[.int .u8 7, .int .u8 0, .int .u8 0, .int .u8 0, .int .u16 9] 56)) (.slice (some ⟨w1.heap.size, 0, none⟩) 1 1) [⟨7, 0, 0, 0, 9⟩] := OV.lit w1 _ 1 (Nat.le_refl _) (by unfold maxLen; omega) rfl rfl rfl
  have HLIT := Lib.hid hlit
  have HSV := Lib.hid ((HS.out.1.1.below hb1).below (bel_alloc w1 (.cells #[.int .u8 7, .int .u8 0, .int .u8 0, .int .u8 0, .int .u16 9] 56)))
  clear HAW hb1 hlit
  go_wp2_with (at_builtin; refine wpList_appB elemSq encSq_len encSq_one rfl _ _ rfl _ _ rfl rfl HLIT.out HSV.out ?q1 ?q2 ?q3 ?_)
  case q1 => have := HS.out.2; have := reach_eq; simp; omega
  case q2 => have := HS.out.2; have := reach_eq; unfold maxLen; simp; omega
  case q3 => simp
  intro v2 w2 ho2 hg2
  change OV encSq 5 56 w1.heap.size w2 v2 ((⟨7, 0, 0, 0, 9⟩ : Sq) :: sq) at ho2
  rw [← HSQ.out] at ho2
  have hb2 : Below w1.heap.size w1 w2 := ((bel_alloc w1 (.cells #[.int .u8 7, .int .u8 0, .int .u8 0, .int .u8 0, .int .u16 9] 56)).grown hg2 (by simp) (fun k hk => (HLIT.out.block k hk).1))
  have hbw : Below w.heap.size w w2 := HB1.out.trans (hb2.mono HB1.out.size)
  have HMA := Lib.hid (made28_ok w2 vn v2 ns sq1 (HN.out.1.below hbw) HN.out.2.1 HN.out.2.2 ⟨ho2.ev encSq_len, HSO.out.1, HSO.out.2.1⟩)
  have HB2 := Lib.hid hbw
  clear ho2 hg2 hb2 hbw HLIT HSV HS HSQ HB1
  go_wp2_with fail
  refine HMA.out.mono ?_
  rintro e w3 ⟨vg, vh, ve, rfl, og, oh, oe, b3⟩
  have hgok := made_ok (l := ns.take 8) (fun n hn => HN.out.2.1 n (List.mem_of_mem_take hn))
  generalize madG (ns.take 8) = gs at hgok og oh oe
  have HG := Lib.hid hgok.1
  have hG : gs.length ≤ 256 := by have := hgok.2; omega
  have HGL := Lib.hid hG
  obtain ⟨s, e, hlast, hend⟩ := madE_end (l := sq1.take 60) hgok.1.pos hG (by have := HSO.out.2.2.2; omega) HSO.out.2.2.1
  have HEND := Lib.hid hend
  have HEO := Lib.hid (show ∀ e ∈ madE gs.length (sq1.take 60), EvOk e from by
    obtain ⟨_, _, _, _, _, h⟩ := madE_look (l := sq1.take 60) hgok.1.pos hG (by have := HSO.out.2.2.2; omega)
    exact h)
  obtain ⟨n, hn⟩ : ∃ n, (sq1.take 60).length = n := ⟨_, rfl⟩
  have hel : (madE gs.length (sq1.take 60)).length = n := by rw [madE_len, hn]
  have hn1 : 0 < n ∧ n ≤ 60 := by have := HSO.out.2.2; omega
  rw [hn] at hlast
  generalize madE gs.length (sq1.take 60) = E at oe HEND HEO hel hlast
  have HB3 := Lib.hid (HB2.out.trans (b3.mono HB2.out.size))
  have HB23 := Lib.hid b3.size
  have HB22 := Lib.hid HB2.out.size
  have HOG := Lib.hid og
  have HOH := Lib.hid oh
  have HOE := Lib.hid oe
  have HEL := Lib.hid (And.intro hel hlast)
  obtain ⟨g, cap, rfl, hcap, _⟩ := oe.row_form encE_len hel hn1.1
  obtain ⟨c0, c1, c2, c3, c4, c5, c6, c7, c8, c9, c10⟩ := ((oe.ev encE_len).row3 (by rw [hel]; omega)).ev hlast
  simp only [Nat.zero_add] at c0 c1 c2 c3 c4 c5 c6 c7 c8 c9 c10
  obtain ⟨Ag, cg, hvg⟩ := (og.ev encG_len).shape
  subst hvg
  obtain ⟨G, hGe⟩ : ∃ G, gs.length = G := ⟨_, rfl⟩
  have HGE := Lib.hid hGe
  obtain ⟨gh, ch, hvh, hch, _⟩ := oh.row_form encG_len (n := G) (by rw [homesG_len, hGe]) (by have := hgok.1.pos; omega)
  subst hvh
  have hGb : 0 < G ∧ G ≤ 256 := by have := hgok.1.pos; omega
  obtain ⟨k0, k1⟩ := ((oh.ev encG_len).row3 (by rw [homesG_len]; omega)).pt (homesG_zero hgok.1.pos)
  simp only [Nat.zero_mul, Nat.add_zero, Nat.zero_add] at k0 k1
  rw [hGe] at HOH HEND HOG ⊢
  clear og oh oe b3 hgok hG hend hn hel hlast HMA HSO HN HB2 hGe
  go_upto_block 0 with fail
  obtain ⟨X, hX⟩ : ∃ X, w3.heap.size = X := ⟨_, rfl⟩
  obtain ⟨w4, hw4⟩ : ∃ w4, w4 = (w3.alloc (.cells #[.int .i64 0, .int .i64 10, .int .i64 5] 44)).alloc (.cells #[.int .i64 e.seq, .int .i64 e.time, .int .u8 e.cpu, .int .u8 e.kind, .int .i64 e.task, .int .i64 e.grp, .int .i64 e.to, .int .i64 e.wt, .int .i64 e.ticks, .int .u64 e.mask, .int .i64 e.got] 59) := ⟨_, rfl⟩
  have HE4 := Lib.hid (show EvB w4 (X + 1) e from by
    have := EvB.new (w3.alloc (.cells #[.int .i64 0, .int .i64 10, .int .i64 5] 44)) e
    rw [World.size_alloc, hX] at this
    rw [hw4]; exact this)
  have hb34 : Below w3.heap.size w3 w4 := by rw [hw4]; exact bel_alloc2 w3 _ _
  have HO4 := Lib.hid (show SwO w w2.heap.size (.slice Ag G cg) (.slice (some ⟨gh, 0, none⟩) G ch) (.slice (some ⟨g, 0, none⟩) n cap) (.slice (some ⟨X, 0, none⟩) 1 1) gs (homesG G) E [ru0] w4 from
    ⟨HOG.out.below hb34, HOH.out.below hb34, HOE.out.below hb34, by
      rw [hw4, ← hX]
      exact ((OV.lit (xs := [ru0]) w3 #[.int .i64 0, .int .i64 10, .int .i64 5] 1 (Nat.le_refl _) (by unfold maxLen; omega) rfl rfl rfl).alloc _).base_le HB23.out, HB3.out.trans (hb34.mono HB3.out.size), HB22.out⟩)
  have HB4 := Lib.hid (show w2.heap.size ≤ w4.heap.size from Nat.le_trans HB23.out hb34.size)
  have HLN := Lib.hid (show ∀ rs : List Ru, rs.length ≤ 100 → rs.length ≤ 100 ∧ (homesG G).length ≤ 1000000 ∧ E.length ≤ 1000000 from fun rs h => ⟨h, by rw [homesG_len]; omega, by rw [HEL.out.1]; omega⟩)
  have HOK := Lib.hid (show (∀ e ∈ E, EvOk e) ∧ ∀ h ∈ homesG G, (-9223372036854775808 ≤ h.1 ∧ h.1 ≤ 9223372036854775807) ∧ (-9223372036854775808 ≤ h.2 ∧ h.2 ≤ 9223372036854775807) from ⟨HEO.out, homesG_i64 hGb.2⟩)
  have q0 := HE4.out.cell (j := 0) rfl
  have q1 := HE4.out.cell (j := 1) rfl
  have q2 := HE4.out.cell (j := 2) rfl
  have q3 := HE4.out.cell (j := 3) rfl
  have q4 := HE4.out.cell (j := 4) rfl
  have q5 := HE4.out.cell (j := 5) rfl
  have q6 := HE4.out.cell (j := 6) rfl
  have q7 := HE4.out.cell (j := 7) rfl
  have q8 := HE4.out.cell (j := 8) rfl
  have q9 := HE4.out.cell (j := 9) rfl
  have qa := HE4.out.cell (j := 10) rfl
  replace k0 := below_cell hb34 k0
  replace k1 := below_cell hb34 k1
  have hseq := HEND.out.seq
  have htime := HEND.out.time
  have hcpu := HEND.out.cpu
  have hbsz := HB4.out
  rw [hX, ← hw4]
  clear hw4 hX hb34 c0 c1 c2 c3 c4 c5 c6 c7 c8 c9 c10 HOG HOH HOE HEO HB23 HB22
  obtain ⟨z, hz⟩ : ∃ z : Int, (way : Int) % 9 = z := ⟨_, rfl⟩
  rw [hz]
  have HZ := Lib.hid (show z = (wy : Int) from by rw [← hz, hwi])
  clear hz hwi hwy
  go_cut [10, 11, 12, 14] (fun vh' ve' vr' vw wx => ∃ hs l rs want i f, vw = .int .i64 want ∧ Sw w (.slice Ag G cg) vh' ve' vr' gs want wx hs l rs i f)
  case first =>
    rcases (show wy = 0 ∨ wy = 1 ∨ wy = 2 ∨ wy = 3 ∨ wy = 4 ∨ wy = 5 ∨ wy = 6 ∨ wy = 7 ∨ wy = 8 from by omega) with h | h | h | h | h | h | h | h | h <;> subst h <;> have hz := HZ.out <;> clear HZ hw9
    · have z0 : (z == 0) = true := by simp; omega
      clear hz
      go_wp2_with (at_builtin; refine wpList_app elemRu encRu_len encRu_one rfl _ _ rfl _ _ rfl rfl (HO4.out.orr.alloc _) (new_ruM (r := ⟨max x (G : Int), 1, 0⟩) (by simp)) ?q1 ?q2 ?_)
      case q1 => simp
      case q2 => have := HB4.out; simp; omega
      intro v' w5 ho5 hg5
      have HSW := Lib.hid (SwO.sw ((HO4.out.below (bel_alloc w4 _)).grow_r hg5 ho5) (HLN.out _ (by simp)) (HOK.out) (rej_rule HG.out (by rw [HGE.out]; unfold RuOk; dsimp only; omega) _ _))
      clear ho5 hg5
      go_wp2
      go_meet
      exact ⟨_, _, _, _, _, _, rfl, HSW.out⟩
    · have z0 : (z == 0) = false := by simp; omega
      have z1 : (z == 1) = true := by simp; omega
      clear hz
      go_wp2_with (at_builtin; refine wpList_app elemRu encRu_len encRu_one rfl _ _ rfl _ _ rfl rfl (HO4.out.orr.alloc _) (new_ruM (r := ⟨0, min x 0, 0⟩) (by simp)) ?q1 ?q2 ?_)
      case q1 => simp
      case q2 => have := HB4.out; simp; omega
      intro v' w5 ho5 hg5
      have HSW := Lib.hid (SwO.sw ((HO4.out.below (bel_alloc w4 _)).grow_r hg5 ho5) (HLN.out _ (by simp)) (HOK.out) (rej_rule HG.out (by rw [HGE.out]; unfold RuOk; dsimp only; omega) _ _))
      clear ho5 hg5
      go_wp2
      go_meet
      exact ⟨_, _, _, _, _, _, rfl, HSW.out⟩
    · have z0 : (z == 0) = false := by simp; omega
      have z1 : (z == 1) = false := by simp; omega
      have z2 : (z == 2) = true := by simp; omega
      clear hz
      go_wp2_with (at_builtin; refine wpList_app elemRu encRu_len encRu_one rfl _ _ rfl _ _ rfl rfl (HO4.out.orr.alloc _) (new_ruM (r := ⟨0, 9, max x 10⟩) (by simp)) ?q1 ?q2 ?_)
      case q1 => simp
      case q2 => have := HB4.out; simp; omega
      intro v' w5 ho5 hg5
      have HSW := Lib.hid (SwO.sw ((HO4.out.below (bel_alloc w4 _)).grow_r hg5 ho5) (HLN.out _ (by simp)) (HOK.out) (rej_rule HG.out (by rw [HGE.out]; unfold RuOk; dsimp only; omega) _ _))
      clear ho5 hg5
      go_wp2
      go_meet
      exact ⟨_, _, _, _, _, _, rfl, HSW.out⟩
    · have z0 : (z == 0) = false := by simp; omega
      have z1 : (z == 1) = false := by simp; omega
      have z2 : (z == 2) = false := by simp; omega
      have z3 : (z == 3) = true := by simp; omega
      clear hz
      go_wp2_with (at_builtin; refine wpList_app elemHo encG_len encG_one rfl _ _ rfl _ _ rfl rfl (HO4.out.oh.alloc _) (new_homeM (p := ((1, 0) : Int × Int).1) (q := ((1, 0) : Int × Int).2) (by simp)) ?q1 ?q2 ?_)
      case q1 => rw [homesG_len]; (try simp); omega
      case q2 => have := HB4.out; simp; omega
      intro v' w5 ho5 hg5
      have HSW := Lib.hid (SwO.sw ((HO4.out.below (bel_alloc w4 _)).grow_h hg5 ho5) (⟨by simp, by rw [List.length_append, homesG_len]; simp; omega, by rw [HEL.out.1]; omega⟩) (⟨HOK.out.1, ok_snoc HOK.out.2 (by dsimp only; omega)⟩) (rej_look HG.out (by rw [HGE.out]; exact homes_snoc hGb.2 _ (home_again hGb.1) _)))
      clear ho5 hg5
      go_wp2
      go_meet
      exact ⟨_, _, _, _, _, _, rfl, HSW.out⟩
    · have z0 : (z == 0) = false := by simp; omega
      have z1 : (z == 1) = false := by simp; omega
      have z2 : (z == 2) = false := by simp; omega
      have z3 : (z == 3) = false := by simp; omega
      have z4 : (z == 4) = true := by simp; omega
      clear hz
      go_wp2_with (at_builtin; refine wpList_app elemHo encG_len encG_one rfl _ _ rfl _ _ rfl rfl (HO4.out.oh.alloc _) (new_homeM (p := ((60000, min x (-1)) : Int × Int).1) (q := ((60000, min x (-1)) : Int × Int).2) (by simp)) ?q1 ?q2 ?_)
      case q1 => rw [homesG_len]; (try simp); omega
      case q2 => have := HB4.out; simp; omega
      intro v' w5 ho5 hg5
      have HSW := Lib.hid (SwO.sw ((HO4.out.below (bel_alloc w4 _)).grow_h hg5 ho5) (⟨by simp, by rw [List.length_append, homesG_len]; simp; omega, by rw [HEL.out.1]; omega⟩) (⟨HOK.out.1, ok_snoc HOK.out.2 (by dsimp only; omega)⟩) (rej_look HG.out (by rw [HGE.out]; exact homes_snoc hGb.2 _ (home_bad (by omega)) _)))
      clear ho5 hg5
      go_wp2
      go_meet
      exact ⟨_, _, _, _, _, _, rfl, HSW.out⟩
    · have z0 : (z == 0) = false := by simp; omega
      have z1 : (z == 1) = false := by simp; omega
      have z2 : (z == 2) = false := by simp; omega
      have z3 : (z == 3) = false := by simp; omega
      have z4 : (z == 4) = false := by simp; omega
      have z5 : (z == 5) = true := by simp; omega
      clear hz
      go_wp2_with (at_builtin; refine wpList_app elemEv encE_len encE_one rfl _ _ rfl _ _ rfl rfl (HO4.out.oe.alloc _) (new_evM (e := e) (by simp)) ?q1 ?q2 ?_)
      case q1 => rw [HEL.out.1]; simp; omega
      case q2 => have := HB4.out; simp; omega
      intro v' w5 ho5 hg5
      have HSW := Lib.hid (SwO.sw ((HO4.out.below (bel_alloc w4 _)).grow_e hg5 ho5) (⟨by simp, by rw [homesG_len]; omega, by rw [List.length_append, HEL.out.1]; simp; omega⟩) (⟨ok_snoc HOK.out.1 HEND.out.ok, HOK.out.2⟩) (rej_look HG.out (by rw [HGE.out]; exact look_end hGb.2 HEND.out (bad_seq HEND.out))))
      clear ho5 hg5
      go_wp2
      go_meet
      exact ⟨_, _, _, _, _, _, rfl, HSW.out⟩
    · have z0 : (z == 0) = false := by simp; omega
      have z1 : (z == 1) = false := by simp; omega
      have z2 : (z == 2) = false := by simp; omega
      have z3 : (z == 3) = false := by simp; omega
      have z4 : (z == 4) = false := by simp; omega
      have z5 : (z == 5) = false := by simp; omega
      have z6 : (z == 6) = true := by simp; omega
      clear hz
      go_wp2_with (at_builtin; refine wpList_app elemEv encE_len encE_one rfl _ _ rfl _ _ rfl rfl (HO4.out.oe.alloc _) (new_evM (e := ⟨e.seq + 1, e.time + 5, e.cpu, 5, 0, 0, 0, 0, 6, 0, 0⟩) (by simp)) ?q1 ?q2 ?_)
      case q1 => rw [HEL.out.1]; simp; omega
      case q2 => have := HB4.out; simp; omega
      intro v' w5 ho5 hg5
      have HSW := Lib.hid (SwO.sw ((HO4.out.below (bel_alloc w4 _)).grow_e hg5 ho5) (⟨by simp, by rw [homesG_len]; omega, by rw [List.length_append, HEL.out.1]; simp; omega⟩) (⟨ok_snoc HOK.out.1 (by constructor <;> dsimp only <;> omega), HOK.out.2⟩) (rej_look HG.out (by rw [HGE.out]; exact look_end hGb.2 HEND.out (bad_time HEND.out))))
      clear ho5 hg5
      go_wp2
      go_meet
      exact ⟨_, _, _, _, _, _, rfl, HSW.out⟩
    · have z0 : (z == 0) = false := by simp; omega
      have z1 : (z == 1) = false := by simp; omega
      have z2 : (z == 2) = false := by simp; omega
      have z3 : (z == 3) = false := by simp; omega
      have z4 : (z == 4) = false := by simp; omega
      have z5 : (z == 5) = false := by simp; omega
      have z6 : (z == 6) = false := by simp; omega
      have z7 : (z == 7) = true := by simp; omega
      clear hz
      go_wp2_with (at_builtin; refine wpList_app elemEv encE_len encE_one rfl _ _ rfl _ _ rfl rfl (HO4.out.oe.alloc _) (new_evM (e := ⟨e.seq + 1, e.time, e.cpu, 4, 0, 0, 0, 0, 0, 0, 65535⟩) (by simp)) ?q1 ?q2 ?_)
      case q1 => rw [HEL.out.1]; simp; omega
      case q2 => have := HB4.out; simp; omega
      intro v' w5 ho5 hg5
      have HSW := Lib.hid (SwO.sw ((HO4.out.below (bel_alloc w4 _)).grow_e hg5 ho5) (⟨by simp, by rw [homesG_len]; omega, by rw [List.length_append, HEL.out.1]; simp; omega⟩) (⟨ok_snoc HOK.out.1 (by constructor <;> dsimp only <;> omega), HOK.out.2⟩) (rej_look HG.out (by rw [HGE.out]; exact look_end hGb.2 HEND.out (bad_exit HEND.out))))
      clear ho5 hg5
      go_wp2
      go_meet
      exact ⟨_, _, _, _, _, _, rfl, HSW.out⟩
    · have z0 : (z == 0) = false := by simp; omega
      have z1 : (z == 1) = false := by simp; omega
      have z2 : (z == 2) = false := by simp; omega
      have z3 : (z == 3) = false := by simp; omega
      have z4 : (z == 4) = false := by simp; omega
      have z5 : (z == 5) = false := by simp; omega
      have z6 : (z == 6) = false := by simp; omega
      have z7 : (z == 7) = false := by simp; omega
      clear hz
      go_wp2_with (at_builtin; refine wpList_app elemEv encE_len encE_one rfl _ _ rfl _ _ rfl rfl (HO4.out.oe.alloc _) (new_evM (e := ⟨e.seq + 1, e.time, e.cpu, 1, 60001, (G : Int), 0, 1, 0, 7, 0⟩) (by simp)) ?q1 ?q2 ?_)
      case q1 => rw [HEL.out.1]; simp; omega
      case q2 => have := HB4.out; simp; omega
      intro v' w5 ho5 hg5
      have HSW := Lib.hid (SwO.sw ((HO4.out.below (bel_alloc w4 _)).grow_e hg5 ho5) (⟨by simp, by rw [homesG_len]; omega, by rw [List.length_append, HEL.out.1]; simp; omega⟩) (⟨ok_snoc HOK.out.1 (by constructor <;> dsimp only <;> omega), HOK.out.2⟩) (rej_look HG.out (by rw [HGE.out]; exact look_end hGb.2 HEND.out (bad_spawn HEND.out))))
      clear ho5 hg5
      go_wp2
      go_meet
      exact ⟨_, _, _, _, _, _, rfl, HSW.out⟩
  case rest =>
    obtain ⟨hs, l, rs, want, i, f, rfl, hsw⟩ := hcut
    refine (‹∀ (a : Act) (w : World), Code.wp _ _ _ a w → _› : ∀ (a : Act) (w : World), _ → _) _ _ (wr_tail _ x _ _ _ _ gs rs hs l want i f (fun (e : Ending) (w' : World) => e = .returned (.bool true) ∧ Below w.heap.size w w') (Lib.hid hsw.ev) (Lib.hid (HU.out.below hsw.low)) (Lib.hid ⟨by rw [HGE.out]; omega, hsw.len⟩) (Lib.hid hsw.ok) (Lib.hid hsw.rej) hx (Lib.hid fun w' hb => ⟨rfl, hsw.low.trans (hb.mono hsw.low.size)⟩))
end Go.Proofs.YtaplangfppohdaaDoor

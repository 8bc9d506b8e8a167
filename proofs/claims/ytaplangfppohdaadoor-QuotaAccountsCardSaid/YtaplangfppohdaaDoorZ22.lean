/- The traces that the laws of quotas make are right; how many parts their ticks have | The contract of slices.Delete at []int, laid by the kit's tool, and in the words of these texts | Made of the laws of quotas: its loop over what happens; blocks of clocks and of an event. -/
import Derived.Test.YtaplangfppohdaaDoorZ21
import Derived.Ground.Names2Prog
import Derived.Shelf.Slices.Delete
import Derived.Test.YtaplangfppohdaaDoorRows
import Derived.Sort.OwnSortedInts
import Derived.Test.YtaplangfppohdaaDoorZ1
import Derived.Test.YtaplangfppohdaaDoorZ16
set_option linter.unusedVariables false
set_option linter.unusedSimpArgs false
set_option linter.unusedSectionVars false
namespace Go.Proofs.YtaplangfppohdaaDoor
open Go Go.RowKit

def homesG (G : Nat) : List (Int × Int) := (List.range G).map fun i : Nat => ((i : Int) + 1, (i : Int))
theorem homesG_succ (G : Nat) : homesG (G + 1) = homesG G ++ [((G : Int) + 1, (G : Int))] := by simp [homesG, List.range_succ]
theorem homesG_len (G : Nat) : (homesG G).length = G := by simp [homesG]
def homeT (j : Nat) (y : Int) : Option Int := if 1 ≤ y ∧ y ≤ j then some (y - 1) else none
theorem homes_run {G : Nat} (hG : G ≤ 256) : ∀ j, j ≤ G → homesR G (homesG j) = some (homeT j)
  | 0, _ => by
    show some _ = some _
    congr 1
    funext y
    unfold homeT
    rw [if_neg (by omega)]
  | j + 1, h => by
    have ih := homes_run hG j (by omega)
    unfold homesR at ih ⊢
    rw [homesG_succ, runO_append, ih, Option.bind_some, runO_cons]
    simp only [runO_nil]
    have h1 : homeT j ((j : Int) + 1) = none := by unfold homeT; rw [if_neg (by omega)]
    unfold homeS
    dsimp only
    rw [if_neg (by rw [h1]; simp; omega)]
    simp only [Option.bind_some]
    congr 1
    funext y
    unfold updT homeT
    by_cases e : y = (j : Int) + 1
    · rw [if_pos e, if_pos (by omega)]; congr 1; omega
    · rw [if_neg e]
      by_cases e2 : 1 ≤ y ∧ y ≤ (j : Int)
      · rw [if_pos e2, if_pos (by omega)]
      · rw [if_neg e2, if_neg (by omega)]
theorem md0_lk {G : Nat} : MdLk G (md0 G) (lk0 (homeT G)) := by
  refine ⟨fun x => ?_, ?_, fun c => rfl⟩
  · unfold lk0 homeT md0
    dsimp only
    rw [List.mem_map]
    constructor
    · intro h
      split at h
      · exact ⟨(x - 1).toNat, List.mem_range.2 (by omega), by omega⟩
      · cases h
    · rintro ⟨i, hi, rfl⟩
      have := List.mem_range.1 hi
      rw [if_pos (by omega)]
      rfl
  · simp [lk0, md0]
/-- All of it. -/
structure MdAll (G : Nat) (m : Md) (s : Lk) : Prop where
  i : MdIn G m
  k : MdLk G m s
  run : runO (stepL G) (lk0 (homeT G)) m.ev = some s
  len : s.out.length ≤ m.ev.length
  tk : ∀ t ∈ s.out, t.ticks ≤ 200
  ok : ∀ e ∈ m.ev, EvOk e
theorem mkEv_ticks {G : Nat} {m : Md} {x : Sq} : (mkEv G m x).ticks ≤ 200 := by
  have := sqT_in x
  unfold mkEv
  split
  · dsimp only; omega
  · split
    · dsimp only; omega
    · dsimp only; omega
theorem ran_len {T : Int → Option Int} {e : Ev} : (ranOf T e).length ≤ 1 := by unfold ranOf; split <;> simp
theorem ran_ticks {T : Int → Option Int} {e : Ev} {t : Rn} (h : t ∈ ranOf T e) : t.ticks = e.ticks ∧ t.cpu = e.cpu ∧ t.time = e.time := by
  unfold ranOf at h
  split at h
  · simp only [List.mem_singleton] at h; subst h; exact ⟨rfl, rfl, rfl⟩
  · cases h
theorem MdAll.start {G : Nat} (hG : 0 < G) : MdAll G (md0 G) (lk0 (homeT G)) := ⟨md0_in hG, md0_lk, rfl, Nat.zero_le _, fun _ h => (by cases h), fun _ h => (by cases h)⟩
theorem MdAll.step {G : Nat} {m : Md} {s : Lk} (h : MdAll G m s) (x : Sq) (hG : 0 < G) (hG2 : G ≤ 256) (hn : m.ev.length ≤ 1000) :
    ∃ s', MdAll G (mdStep G m x) s' ∧ stepL G s (mkEv G m x) = some s' ∧ s'.out = s.out ++ ranOf s.T (mkEv G m x) ∧ doesL G s.T (mkEv G m x) = some s'.T := by
  obtain ⟨s', h1, h2, h3, h4⟩ := h.k.step h.i x hG hG2 hn
  refine ⟨s', ⟨h.i.step x, h2, ?_, ?_, ?_, ?_⟩, h1, h3, h4⟩
  · show runO (stepL G) (lk0 (homeT G)) (m.ev ++ [mkEv G m x]) = some s'
    rw [runO_append, h.run, Option.bind_some, runO_cons, h1]; rfl
  · rw [h3, List.length_append]
    show _ ≤ (m.ev ++ [mkEv G m x]).length
    rw [List.length_append, List.length_singleton]
    have := h.len
    have := ran_len (T := s.T) (e := mkEv G m x)
    omega
  · intro t ht
    rw [h3] at ht
    rcases List.mem_append.1 ht with ht | ht
    · exact h.tk t ht
    · rw [(ran_ticks ht).1]; exact mkEv_ticks
  · intro e he
    rcases List.mem_append.1 (show e ∈ m.ev ++ [mkEv G m x] from he) with he | he
    · exact h.ok e he
    · simp only [List.mem_singleton] at he
      subst he
      exact mkEv_ok h.i hG hG2 hn
theorem mdJ_evlen {G : Nat} {l : List Sq} : ∀ j, j ≤ l.length → (mdJ G l j).ev.length = j
  | 0, _ => by unfold mdJ; simp [md0]
  | j + 1, h => by
    rw [mdJ_succ (x := l[j]) (List.getElem?_eq_getElem (by omega))]
    show ((mdJ G l j).ev ++ [_]).length = _
    rw [List.length_append, mdJ_evlen j (by omega)]; rfl
theorem mdJ_all {G : Nat} {l : List Sq} (hG : 0 < G) (hG2 : G ≤ 256) (hl : l.length ≤ 1000) : ∀ j, j ≤ l.length → ∃ s, MdAll G (mdJ G l j) s
  | 0, _ => ⟨_, MdAll.start hG⟩
  | j + 1, h => by
    obtain ⟨s, hs⟩ := mdJ_all hG hG2 hl j (by omega)
    rw [mdJ_succ (x := l[j]) (List.getElem?_eq_getElem (by omega))]
    obtain ⟨s', h1, _⟩ := hs.step l[j] hG hG2 (by rw [mdJ_evlen j (by omega)]; omega)
    exact ⟨s', h1⟩
/-- The whole trace. -/
def madE (G : Nat) (l : List Sq) : List Ev := (mdJ G l l.length).ev
theorem madE_len {G : Nat} {l : List Sq} : (madE G l).length = l.length := mdJ_evlen _ (Nat.le_refl _)
theorem madE_look {G : Nat} {l : List Sq} (hG : 0 < G) (hG2 : G ≤ 256) (hl : l.length ≤ 1000) :
    ∃ o, lookL G (homesG G) (madE G l) = some o ∧ o.length ≤ l.length ∧ (∀ t ∈ o, t.ticks ≤ 200 ∧ RnOk G t) ∧ Apart o ∧ ∀ e ∈ madE G l, EvOk e := by
  obtain ⟨s, hs⟩ := mdJ_all (l := l) hG hG2 hl l.length (Nat.le_refl _)
  have hlk : lookL G (homesG G) (madE G l) = some s.out := by
    unfold lookL
    rw [homes_run hG2 G (Nat.le_refl _), Option.bind_some]
    unfold madE
    rw [hs.run]; rfl
  have h2 := look_ok hs.ok hlk
  exact ⟨s.out, hlk, by have := hs.len; rw [mdJ_evlen _ (Nat.le_refl _)] at this; exact this, fun t ht => ⟨hs.tk t ht, h2.1 t ht⟩, h2.2, hs.ok⟩

/-! ### How many parts -/
theorem manyN_ticks {t n p : Nat} (h1 : 1 ≤ n) (h2 : n ≤ t) (hp : 1 ≤ p) : manyN t n p ≤ n := by
  have h3 : (t - 1) / p ≤ (t - n) / p + (n - 1) := by
    have h4 : t - 1 ≤ (t - n) + (n - 1) * p := by
      have : (n - 1) * 1 ≤ (n - 1) * p := Nat.mul_le_mul_left _ hp
      omega
    have h5 : (t - 1) / p ≤ ((t - n) + (n - 1) * p) / p := Nat.div_le_div_right h4
    rwa [Nat.add_mul_div_right _ _ (by omega)] at h5
  unfold manyN; omega
theorem tickN_le {G : Nat} {r : Ru} {t : Rn} (ht : RnOk G t) (hk : t.ticks ≤ 200) (hp : 1 ≤ r.p) : tickN r t ≤ 200 := by
  unfold RnOk at ht
  have := manyN_ticks (t := t.time.toNat) (n := t.ticks.toNat) (p := r.p.toNat) (by omega) (by omega) (by omega)
  unfold tickN; omega
theorem cnt_le {gs : List (Int × Int)} {G : Nat} {t : Rn} (ht : RnOk G t) (hk : t.ticks ≤ 200) : ∀ rs : List Ru, (∀ r ∈ rs, 1 ≤ r.p) → cntT gs rs t ≤ 200 * (rs.filter fun r => hitB gs r t).length
  | [], _ => by simp [cntT]
  | r :: rs, h => by
    have ih := cnt_le (gs := gs) ht hk rs (fun r hr => h r (by simp [hr]))
    have h1 := tickN_le ht hk (h r (by simp))
    unfold cntT at ih ⊢
    rw [List.map_cons, List.sum_cons, List.filter_cons]
    split
    · rename_i hh
      rw [List.length_cons]; omega
    · rename_i hh
      omega
theorem all_le {gs : List (Int × Int)} {rs : List Ru} {K : Nat} : ∀ o : List Rn, (∀ t ∈ o, cntT gs rs t ≤ K) → allN gs rs o ≤ K * o.length
  | [], _ => by simp [allN]
  | t :: o, h => by
    have ih := all_le o (fun t ht => h t (by simp [ht]))
    have h1 := h t (by simp)
    unfold allN at ih ⊢
    rw [List.map_cons, List.sum_cons, List.length_cons, Nat.mul_add]
    omega
theorem chk_right {gs : List (Int × Int)} {rs : List Ru} (hg : GOK gs) (hr : ∀ r ∈ rs, RuOk gs.length r) : chkR gs rs = (-1, 0) := by
  unfold chkR
  rw [if_neg (by rw [right_iff.2 hg]; simp), if_neg]
  unfold badR
  rw [List.findIdx_lt_length]
  rintro ⟨r, h1, h2⟩
  simp [hr r h1] at h2
/-- One rule. -/
theorem acc_one {gs : List (Int × Int)} {l : List Sq} {r : Ru} (hg : GOK gs) (hr : RuOk gs.length r) (hG : gs.length ≤ 256) (hl : l.length ≤ 60) :
    ∃ o, lookL gs.length (homesG gs.length) (madE gs.length l) = some o ∧ o.length ≤ 60 ∧ (∀ t ∈ o, t.ticks ≤ 200 ∧ RnOk gs.length t) ∧ Apart o ∧ accE gs [r] (homesG gs.length) (madE gs.length l) = 0 ∧ accL gs [r] (homesG gs.length) (madE gs.length l) = usesL gs [r] o := by
  obtain ⟨o, h1, h2, h3, h4, h5⟩ := madE_look (l := l) hg.pos hG (by omega)
  have hc := chk_right (rs := [r]) hg (fun x hx => by simp only [List.mem_singleton] at hx; subst hx; exact hr)
  have ha : allN gs [r] o ≤ 200 * o.length := all_le o fun t ht => by
    have := cnt_le (gs := gs) (h3 t ht).2 (h3 t ht).1 [r] (fun x hx => by simp only [List.mem_singleton] at hx; subst hx; exact hr.2.1.1)
    have h6 : ([r].filter fun r => hitB gs r t).length ≤ 1 := List.length_filter_le _ _
    omega
  have he : accE gs [r] (homesG gs.length) (madE gs.length l) = 0 := by
    unfold accE
    rw [hc, h1]
    rw [if_neg (by simp)]
    dsimp only
    rw [if_neg (by omega)]
  exact ⟨o, h1, by omega, h3, h4, he, by unfold accL; rw [if_pos he, h1]⟩
end Go.Proofs.YtaplangfppohdaaDoor
namespace Go.Proofs
open Go.Shelf
def Tryd.laysNm223_ren : Go.Shelf.Ren := ⟨fun | 23 => 37 | n => n, fun | 22 => 28 | 3 => 3 | 4 => 4 | 0 => 0 | n => n, fun | n => n⟩
theorem Tryd.laysNm223 : Go.Proofs.Lays2.n23 Tryd.prog Tryd.laysNm223_ren := {
  mixed := by kernel_rfl
  f23 := Tryd.func37.trans (congrArg some (by kernel_rfl))
  t0 := Tryd.underlying0
  a0 := Tryd.isAgg0
  z0 := Tryd.sizeOf0
  v0 := Tryd.zeroValue0
  t3 := Tryd.underlying3
  a3 := Tryd.isAgg3
  z3 := Tryd.sizeOf3
  v3 := Tryd.zeroValue3
  t4 := Tryd.underlying4
  a4 := Tryd.isAgg4
  z4 := Tryd.sizeOf4
  v4 := Tryd.zeroValue4
  t22 := Tryd.underlying28
  a22 := Tryd.isAgg28
  z22 := Tryd.sizeOf28
  v22 := Tryd.zeroValue28
  i3 := by kernel_rfl }
open Go.RowKit Go.Lib Go.Sort in
theorem Tryd.slices_Delete_int (blk off cap i j : Nat) (zs : List Int) (w : World) (hH : Holds (Value.int .i64) w blk off zs.toArray) (hcap : zs.length ≤ cap) (hm : cap ≤ 9223372036854775807) (hij : i ≤ j) (hj : j ≤ zs.length) :
    Calls Tryd.prog 37 #[.slice (some ⟨blk, off, none⟩) zs.length cap, .int .i64 i, .int .i64 j] w fun e w' => e = .returned (.slice (some ⟨blk, off, none⟩) (zs.length - (j - i)) cap) ∧ ∃ q, w' = putRow (Value.int .i64) (Sort.ahead w q) blk off (zs.take i ++ zs.drop j ++ List.replicate (j - i) 0).toArray := Any.slices_Delete_int Tryd.laysNm223 blk off cap i j zs w hH hcap hm hij hj
end Go.Proofs

namespace Go.Proofs.YtaplangfppohdaaDoor
open Go Go.RowKit Go.Sort
theorem delete_int (w : World) (v : Value) (xs : List Int) (base k : Nat) (h : OV encI 1 3 base w v xs) (hk : k < xs.length) (hb : xs.length ≤ 1000000000) :
    Calls Tryd.prog 37 #[v, .int .i64 (k : Nat), .int .i64 ((k : Int) + 1)] w fun e w' => ∃ v', e = .returned v' ∧ OV encI 1 3 base w' v' (xs.eraseIdx k) ∧ w.grownBy w' v.ownBlock ∧ v'.ownBlock = v.ownBlock := by
  rcases h.2 with ⟨rfl, h0⟩ | ⟨g, cap, cur, rfl, hbg, hg, hnc, hcm, hcs, htake⟩
  · omega
  · rw [encI_flat, Nat.mul_one] at htake
    have hlen : (xs.eraseIdx k).length = xs.length - 1 := List.length_eraseIdx_of_lt hk
    have he : xs.take k ++ xs.drop (k + 1) ++ List.replicate (k + 1 - k) 0 = xs.eraseIdx k ++ [0] := by
      rw [List.eraseIdx_eq_take_drop_succ, show k + 1 - k = 1 by omega]; rfl
    have hc := Tryd.slices_Delete_int g 0 cap k (k + 1) xs w (holds_of_blockI hg htake) hnc hcm (by omega) (by omega)
    rw [he, show (((k + 1 : Nat) : Int)) = (k : Int) + 1 by omega] at hc
    refine hc.mono ?_
    rintro e w' ⟨rfl, q, rfl⟩
    have hh : (putRow (Value.int .i64) (Sort.ahead w q) g 0 (xs.eraseIdx k ++ [0]).toArray).heap[g]? = some (.cells (putCells (Value.int .i64) 0 (xs.eraseIdx k ++ [0]).toArray cur) 3 (0, 0)) := by
      simp [putRow, mapBlock, Sort.ahead, Array.getElem?_modify, hg, onCells]
    have ht := take_putCellsI cur (xs.eraseIdx k ++ [0]) (by rw [hcs]; simp [hlen]; omega)
    refine ⟨_, rfl, ⟨?_, .inr ⟨g, cap, _, ?_, hbg, hh, by rw [hlen]; omega, hcm, by simp [putCells, hcs], ?_⟩⟩, ⟨rfl, rfl, rfl, ?_, ?_⟩, rfl⟩
    · rw [encI_flat]; simp
    · rw [hlen, show k + 1 - k = 1 by omega]
    · rw [encI_flat, Nat.mul_one]
      have h2 := congrArg (List.take (xs.eraseIdx k).length) ht
      rw [List.take_take, List.map_append, List.length_append, Nat.min_eq_left (by omega)] at h2
      rw [h2, List.take_append_of_le_length (by simp), List.take_of_length_le (by simp)]
    · simp [putRow, mapBlock, Sort.ahead]
    · intro j hj hne
      have : g ≠ j := fun e => hne (by rw [e]; rfl)
      simp [putRow, mapBlock, Sort.ahead, Array.getElem?_modify, this]
end Go.Proofs.YtaplangfppohdaaDoor
namespace Go.Proofs.YtaplangfppohdaaDoor
open Go.RowKit Go.Shelf
attribute [local go_sem] Oper.semAt_some

/-! ### Clocks -/
def ClkN (n : Nat) (w : World) (D : Nat) (f : Int → Int) : Prop := ∀ c : Nat, c < n → w.cell? ⟨D, c, none⟩ = some (.int .i64 (f c)) ∧ w.frozen? ⟨D, c, none⟩ = false
theorem ClkN.same {n : Nat} {w w' : World} {D : Nat} {f : Int → Int} (h : ClkN n w D f) (he : w'.heap[D]? = w.heap[D]?) : ClkN n w' D f := fun c hc => ⟨(World.cell?_of_block (a := ⟨D, c, none⟩) he).trans (h c hc).1, (World.frozen?_of_block (a := ⟨D, c, none⟩) he).trans (h c hc).2⟩
theorem ClkN.congr {n : Nat} {w : World} {D : Nat} {f g : Int → Int} (h : ClkN n w D f) (he : ∀ c : Nat, c < n → f c = g c) : ClkN n w D g := fun c hc => he c hc ▸ h c hc
theorem ClkN.set {n : Nat} {w : World} {D : Nat} {f : Int → Int} (h : ClkN n w D f) {c : Nat} (hc : c < n) (v : Int) : ClkN n (w.setCell ⟨D, c, none⟩ (.int .i64 v)) D (fun x => if x = (c : Int) then v else f x) := by
  intro q hq
  obtain ⟨h1, h2⟩ := h q hq
  refine ⟨?_, (World.frozen?_setCell _ _ _ _).trans h2⟩
  show _ = some (Value.int .i64 (if (q : Int) = (c : Int) then v else f q))
  by_cases e : q = c
  · subst e
    rw [if_pos rfl]
    exact World.cell?_setCell_same _ _ _ (by rw [h1])
  · rw [if_neg (by omega), World.cell?_setCell_other _ _ _ _ (by simp)]
    exact h1
/-! ### The block of an event -/
structure EvB (w : World) (E : Nat) (e : Ev) : Prop where
  obj : w.heap[E]? = some (.cells (encE e).toArray 59 (0, 0))
section
variable {w w' : World} {E : Nat} {e e' : Ev}
theorem EvB.new (w : World) (e : Ev) : EvB (w.alloc (.cells (encE e).toArray 59)) w.heap.size e := ⟨World.alloc_heap_new w _⟩
theorem EvB.same (h : EvB w E e) (he : w'.heap[E]? = w.heap[E]?) : EvB w' E e := ⟨he.trans h.obj⟩
theorem EvB.lt (h : EvB w E e) : E < w.heap.size := (Array.getElem?_eq_some_iff.1 h.obj).1
theorem EvB.cell (h : EvB w E e) {j : Nat} {u : Value} (hu : (encE e)[j]? = some u) : w.cell? ⟨E, j, none⟩ = some u := by
  rw [World.cell?, h.obj]; simpa using hu
theorem EvB.frz (h : EvB w E e) (j : Nat) : w.frozen? ⟨E, j, none⟩ = false := by
  simp [World.frozen?, h.obj]
theorem EvB.set (h : EvB w E e) (j : Nat) (u : Value) (he : encE e' = (encE e).set j u) : EvB (w.setCell ⟨E, j, none⟩ u) E e' := by
  refine ⟨?_⟩
  unfold World.setCell
  rw [Array.getElem?_modify, if_pos rfl, h.obj]
  simp [he]
end
/-- Where the loop is. -/
structure MW (w0 : World) (Y : Nat) (vg vh th ev : Value) (gs hs : List (Int × Int)) (tl : List Int) (el : List Ev) (ck : Int → Int) (wr : World) : Prop where
  og : OV encG 2 53 w0.heap.size wr vg gs
  oh : OV encG 2 61 w0.heap.size wr vh hs
  oth : OV encI 1 3 w0.heap.size wr th tl
  oev : OV encE 11 59 w0.heap.size wr ev el
  ck : ClkN 3 wr Y ck
  ty : Typ wr Y 51
  low : Below w0.heap.size w0 wr
  lt : w0.heap.size ≤ Y ∧ Y < wr.heap.size
section
variable {w0 w w' : World} {Y : Nat} {vg vh th ev : Value} {gs hs : List (Int × Int)} {tl : List Int} {el : List Ev} {ck : Int → Int}
theorem MW.below (h : MW w0 Y vg vh th ev gs hs tl el ck w) (hb : Below w.heap.size w w') : MW w0 Y vg vh th ev gs hs tl el ck w' :=
  ⟨h.og.below hb, h.oh.below hb, h.oth.below hb, h.oev.below hb, h.ck.same (hb.block Y h.lt.2), h.ty.same (hb.block Y h.lt.2), h.low.trans (hb.mono h.low.size), h.lt.1, Nat.lt_of_lt_of_le h.lt.2 hb.size⟩
/-- A store into a block that is no part of it. -/
theorem MW.set (h : MW w0 Y vg vh th ev gs hs tl el ck w) {p : Addr} (u : Value) (hp : w0.heap.size ≤ p.block) (hY : p.block ≠ Y) (hn : ∀ v, v = vg ∨ v = vh ∨ v = th ∨ v = ev → v.ownBlock ≠ some p.block) : MW w0 Y vg vh th ev gs hs tl el ck (w.setCell p u) := by
  have hm : Mod (fun k => k = p.block) w (w.setCell p u) := Mod.setCell (p := p) u rfl
  have hb : (w.setCell p u).heap[Y]? = w.heap[Y]? := Below.heap_setCell _ _ _ _ (fun e => hY e.symm)
  refine ⟨h.og.mod hm (fun g hg e => hn vg (by simp) (by rw [hg, e])), h.oh.mod hm (fun g hg e => hn vh (by simp) (by rw [hg, e])), h.oth.mod hm (fun g hg e => hn th (by simp) (by rw [hg, e])), h.oev.mod hm (fun g hg e => hn ev (by simp) (by rw [hg, e])), h.ck.same hb, h.ty.same hb, h.low.setCell hp u, h.lt.1, by simpa using h.lt.2⟩
/-- A clock is set. -/
theorem MW.clock (h : MW w0 Y vg vh th ev gs hs tl el ck w) {c : Nat} (hc : c < 3) (z : Int) : MW w0 Y vg vh th ev gs hs tl el (fun x => if x = (c : Int) then z else ck x) (w.setCell ⟨Y, c, none⟩ (.int .i64 z)) := by
  have hm : Mod (fun k => k = Y) w (w.setCell ⟨Y, c, none⟩ (.int .i64 z)) := Mod.setCell (p := ⟨Y, c, none⟩) _ rfl
  refine ⟨h.og.mod hm (fun g hg e => h.og.not_typ h.ty (by decide) (by rw [hg, e])), h.oh.mod hm (fun g hg e => h.oh.not_typ h.ty (by decide) (by rw [hg, e])), h.oth.mod hm (fun g hg e => h.oth.not_typ h.ty (by decide) (by rw [hg, e])), h.oev.mod hm (fun g hg e => h.oev.not_typ h.ty (by decide) (by rw [hg, e])), h.ck.set hc z, h.ty.set _ _, h.low.setCell (p := ⟨Y, c, none⟩) h.lt.1 _, h.lt.1, by simpa using h.lt.2⟩
theorem MW.congr {ck' : Int → Int} (h : MW w0 Y vg vh th ev gs hs tl el ck w) (he : ∀ c : Nat, c < 3 → ck c = ck' c) : MW w0 Y vg vh th ev gs hs tl el ck' w := ⟨h.og, h.oh, h.oth, h.oev, h.ck.congr he, h.ty, h.low, h.lt⟩
theorem MW.grow_th (h : MW w0 Y vg vh th ev gs hs tl el ck w) (hg : w.grownBy w' th.ownBlock) {th' : Value} {tl' : List Int} (ho : OV encI 1 3 w0.heap.size w' th' tl') : MW w0 Y vg vh th' ev gs hs tl' el ck w' := by
  have hb : w'.heap[Y]? = w.heap[Y]? := hg.block Y h.lt.2 (fun e => h.oth.not_typ h.ty (by decide) e.symm)
  exact ⟨h.og.keep hg (h.og.ne h.oth (by decide)), h.oh.keep hg (h.oh.ne h.oth (by decide)), ho, h.oev.keep hg (h.oev.ne h.oth (by decide)), h.ck.same hb, h.ty.same hb, h.low.grown hg h.low.size (fun k hk => (h.oth.block k hk).1), h.lt.1, Nat.lt_of_lt_of_le h.lt.2 hg.size⟩
theorem MW.grow_ev (h : MW w0 Y vg vh th ev gs hs tl el ck w) (hg : w.grownBy w' ev.ownBlock) {ev' : Value} {el' : List Ev} (ho : OV encE 11 59 w0.heap.size w' ev' el') : MW w0 Y vg vh th ev' gs hs tl el' ck w' := by
  have hb : w'.heap[Y]? = w.heap[Y]? := hg.block Y h.lt.2 (fun e => h.oev.not_typ h.ty (by decide) e.symm)
  exact ⟨h.og.keep hg (h.og.ne h.oev (by decide)), h.oh.keep hg (h.oh.ne h.oev (by decide)), h.oth.keep hg (h.oth.ne h.oev (by decide)), ho, h.ck.same hb, h.ty.same hb, h.low.grown hg h.low.size (fun k hk => (h.oev.block k hk).1), h.lt.1, Nat.lt_of_lt_of_le h.lt.2 hg.size⟩
/-- New blocks are no part of it. -/
theorem MW.new_ne (h : MW w0 Y vg vh th ev gs hs tl el ck w) {E : Nat} (hE : w.heap.size ≤ E) : (∀ v, v = vg ∨ v = vh ∨ v = th ∨ v = ev → v.ownBlock ≠ some E) ∧ E ≠ Y ∧ w0.heap.size ≤ E := by
  refine ⟨?_, by have := h.lt; omega, by have := h.low.size; omega⟩
  rintro v (rfl | rfl | rfl | rfl) e
  · have := (h.og.block _ e).2; omega
  · have := (h.oh.block _ e).2; omega
  · have := (h.oth.block _ e).2; omega
  · have := (h.oev.block _ e).2; omega
end
end Go.Proofs.YtaplangfppohdaaDoor

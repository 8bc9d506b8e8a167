/- The groups that the laws make of numbers (Made), in plain lists: they are right | The contract of quantumlaw19.Made | QuotaDebts: the parts that the law makes, and what debts are; plain. -/
import Derived.Test.YtaplangfppohdaaDoorZ1
import Derived.Test.YtaplangfppohdaaDoorZ5
import Derived.Test.YtaplangfppohdaaDoorZ2
import Derived.Test.YtaplangfppohdaaDoorZ14
set_option linter.unusedVariables false
set_option linter.unusedSimpArgs false
set_option linter.unusedSectionVars false
namespace Go.Proofs.YtaplangfppohdaaDoor
section
variable {gs : List (Int × Int)}
theorem par_app {gs : List (Int × Int)} (x : Int × Int) {i : Nat} (hi : i < gs.length) : par (gs ++ [x]) i = par gs i := by
  unfold par; rw [List.getElem?_append_left hi]
theorem wgt_app {gs : List (Int × Int)} (x : Int × Int) {i : Nat} (hi : i < gs.length) : wgt (gs ++ [x]) i = wgt gs i := by
  unfold wgt; rw [List.getElem?_append_left hi]
theorem bef_app (h : Bef gs gs.length) (x : Int × Int) : Bef (gs ++ [x]) gs.length := fun i h0 hi => by rw [par_app x hi]; exact h i h0 hi
theorem path_app (h : Bef gs gs.length) (x : Int × Int) : ∀ i, i < gs.length → path (gs ++ [x]) i = path gs i := by
  intro i
  induction i using Nat.strongRecOn with
  | _ i ih =>
    intro hi
    rcases Nat.eq_zero_or_pos i with rfl | h0
    · rfl
    · obtain ⟨h1, h2⟩ := h i h0 hi
      rw [path_succ (bef_app h x) h0 hi, path_succ h h0 hi, par_app x hi, ih _ (by omega) (by omega)]
theorem dep_app (h : Bef gs gs.length) (x : Int × Int) {i : Nat} (hi : i < gs.length) : dep (gs ++ [x]) i = dep gs i := by
  unfold dep; rw [path_app h x i hi]
/-- One more group keeps groups right. -/
theorem gok_app (h : GOK gs) {p : Nat} {w : Int} (hp : p < gs.length) (hw : wB w = true) (hd : dep gs p < 4) (hl : gs.length < 256) : GOK (gs ++ [((p : Int), w)]) ∧ dep (gs ++ [((p : Int), w)]) gs.length = dep gs p + 1 := by
  have hpos := h.pos
  have hpar : par (gs ++ [((p : Int), w)]) gs.length = p := by simp [par]
  have hwgt : wgt (gs ++ [((p : Int), w)]) gs.length = w := by simp [wgt]
  have hb : Bef (gs ++ [((p : Int), w)]) (gs.length + 1) := fun i h0 hi => by
    rcases Nat.lt_or_ge i gs.length with hlt | hge
    · rw [par_app _ hlt]; exact h.bef i h0 hlt
    · obtain rfl : i = gs.length := by omega
      rw [hpar]; omega
  have hdep : dep (gs ++ [((p : Int), w)]) gs.length = dep gs p + 1 := by
    rw [dep_succ hb hpos (by omega), hpar, Int.toNat_natCast, dep_app h.bef _ hp]
  refine ⟨⟨by simp; omega, by rw [List.getElem?_append_left hpos]; exact h.root, fun g h0 hg => ?_⟩, hdep⟩
  simp at hg
  rcases Nat.lt_or_ge g gs.length with hlt | hge
  · obtain ⟨a, b, c, d⟩ := h.each g h0 hlt
    exact ⟨by rw [par_app _ hlt]; exact a, by rw [par_app _ hlt]; exact b, by rw [wgt_app _ hlt]; exact c, by rw [dep_app h.bef _ hlt]; exact d⟩
  · obtain rfl : g = gs.length := by omega
    exact ⟨by rw [hpar]; omega, by rw [hpar]; omega, by rw [hwgt]; exact hw, by rw [hdep]; omega⟩

/-- The parent that a number chooses. -/
def climb (gs : List (Int × Int)) (p : Nat) : Nat := if dep gs p = 4 then (par gs p).toNat else p
def mkW (n : Nat) : Nat := if n % 11 = 0 then 1 + n else 1 + n / 7 % 50
def made1 (gs : List (Int × Int)) (n : Nat) : List (Int × Int) := gs ++ [(((climb gs (n % gs.length) : Nat) : Int), ((mkW n : Nat) : Int))]
def madG (l : List Nat) : List (Int × Int) := (l.take 20).foldl made1 [(0, 1)]
theorem climb_lt (h : GOK gs) {p : Nat} (hp : p < gs.length) : climb gs p < gs.length ∧ dep gs (climb gs p) < 4 := by
  unfold climb
  split
  · rename_i h4
    have h0 : 0 < p := by
      rcases Nat.eq_zero_or_pos p with rfl | h
      · simp [dep_zero] at h4
      · exact h
    obtain ⟨a, b⟩ := h.bef p h0 hp
    have := dep_succ h.bef h0 hp
    exact ⟨by omega, by omega⟩
  · have := dep_le h hp
    exact ⟨hp, by omega⟩
theorem mkW_ok {n : Nat} (h : n < 65536) : wB ((mkW n : Nat) : Int) = true := by
  unfold mkW wB
  split <;> simp <;> omega
theorem made1_ok (h : GOK gs) (hl : gs.length < 256) {n : Nat} (hn : n < 65536) : GOK (made1 gs n) ∧ (made1 gs n).length = gs.length + 1 ∧ dep (made1 gs n) gs.length = dep gs (climb gs (n % gs.length)) + 1 := by
  obtain ⟨h1, h2⟩ := climb_lt h (Nat.mod_lt n h.pos)
  obtain ⟨a, b⟩ := gok_app h h1 (mkW_ok hn) h2 hl
  exact ⟨a, by simp [made1], b⟩
theorem gok_root : GOK [(0, 1)] := ⟨by decide, rfl, fun g h0 hg => by simp at hg; omega⟩
theorem fold_ok : ∀ (l : List Nat) (gs : List (Int × Int)), GOK gs → gs.length + l.length ≤ 256 → (∀ n ∈ l, n < 65536) → GOK (l.foldl made1 gs) ∧ (l.foldl made1 gs).length = gs.length + l.length
  | [], gs, h, _, _ => ⟨h, rfl⟩
  | n :: l, gs, h, hl, hn => by
    simp only [List.length_cons] at hl
    obtain ⟨a, b, _⟩ := made1_ok h (by omega) (hn n (by simp))
    obtain ⟨c, d⟩ := fold_ok l (made1 gs n) a (by omega) (fun m hm => hn m (by simp [hm]))
    exact ⟨c, by rw [List.foldl_cons, d, b, List.length_cons]; omega⟩
theorem made_ok {l : List Nat} (hl : ∀ n ∈ l, n < 65536) : GOK (madG l) ∧ (madG l).length = 1 + min 20 l.length := by
  have := fold_ok (l.take 20) [(0, 1)] gok_root (by simp; omega) (fun n hn => hl n (List.mem_of_mem_take hn))
  rw [List.length_take] at this
  exact this
/-- The depths of all groups. -/
def depsL (gs : List (Int × Int)) : List Int := (List.range gs.length).map (fun i => (dep gs i : Int))
theorem depsL_app (h : Bef gs gs.length) (x : Int × Int) : depsL (gs ++ [x]) = depsL gs ++ [(dep (gs ++ [x]) gs.length : Int)] := by
  unfold depsL
  rw [List.length_append, List.length_singleton, List.range_succ, List.map_append]
  congr 1
  apply List.map_congr_left
  intro i hi
  rw [dep_app h x (List.mem_range.1 hi)]
theorem depsL_get {i : Nat} (hi : i < gs.length) : (depsL gs)[i]? = some (dep gs i : Int) := by simp [depsL, hi]
theorem depsL_len : (depsL gs).length = gs.length := by simp [depsL]
end
end Go.Proofs.YtaplangfppohdaaDoor
namespace Go.Proofs.YtaplangfppohdaaDoor
open Go.RowKit Go.Shelf

def encU16 (n : Nat) : List Value := [.int .u16 n]
theorem encU16_len (n : Nat) : (encU16 n).length = 1 := rfl
theorem ER.get16 {w : World} {b off : Nat} {ns : List Nat} (h : ER encU16 1 w b off ns) {i : Nat} (hi : i < ns.length) : ∃ n, ns[i]? = some n ∧ w.cell? ⟨b, off + i, none⟩ = some (.int .u16 (n : Nat)) :=
  ⟨ns[i], List.getElem?_eq_getElem hi, by have := h i _ (List.getElem?_eq_getElem hi) 0 _ rfl; simpa using this⟩

theorem elemG : ElemT Tryd.prog 37 53 2 16 := ⟨Tryd.underlying37, by
  have h : (Tryd.prog.info? 53).map (fun i => (i.zero, i.size, i.bytes)) = some (some (.agg #[.int .i64 0, .int .i64 0]), 2, 16) := by kernel_rfl
  obtain ⟨i, h1, h2, h3, h4⟩ := info_parts h
  exact ⟨i, _, h1, h2, h3, h4, rfl⟩, by omega, by omega⟩
def madeJ (ns : List Nat) (j : Nat) : List (Int × Int) := (ns.take j).foldl made1 [(0, 1)]
theorem madeJ_ok {ns : List Nat} {j : Nat} (hn : ∀ n ∈ ns, n < 65536) (hj : j ≤ ns.length) (h2 : j ≤ 20) : GOK (madeJ ns j) ∧ (madeJ ns j).length = 1 + j := by
  have := fold_ok (ns.take j) [(0, 1)] gok_root (by simp; omega) (fun n h => hn n (List.mem_of_mem_take h))
  rw [List.length_take, Nat.min_eq_left hj] at this
  exact this
theorem madeJ_succ {ns : List Nat} {j n : Nat} (h : ns[j]? = some n) : madeJ ns (j + 1) = made1 (madeJ ns j) n := by
  unfold madeJ; rw [List.take_add_one, h]; simp [List.foldl_append]
theorem climb_self {gs : List (Int × Int)} {x : Nat} (h : dep gs x ≠ 4) : climb gs x = x := if_neg h
theorem climb_step {gs : List (Int × Int)} {x : Nat} (hg : GOK gs) (hx : x < gs.length) (h : dep gs x = 4) : 0 ≤ par gs x ∧ par gs x < x ∧ dep gs (par gs x).toNat = 3 ∧ climb gs x = (par gs x).toNat := by
  have h0 : 0 < x := by
    rcases Nat.eq_zero_or_pos x with rfl | h0
    · simp [dep_zero] at h
    · exact h0
  obtain ⟨a, b⟩ := hg.bef x h0 hx
  have := dep_succ hg.bef h0 hx
  exact ⟨a, b, by omega, if_pos h⟩

set_option maxRecDepth 100000 in
set_option maxHeartbeats 2000000 in
theorem made_walk (w : World) (vn : Value) (ns : List Nat) (hn : EV encU16 1 w vn ns) (hlt : ∀ n ∈ ns, n < 65536) (hlen : ns.length ≤ 9223372036854775807) :
    Calls Tryd.prog 36 #[vn] w fun e w' => ∃ r, e = .returned r ∧ OV encG 2 53 w.heap.size w' r (madG ns) ∧ Below w.heap.size w w' := by
  rcases Nat.eq_zero_or_pos ns.length with h0 | h0
  · obtain rfl : ns = [] := List.eq_nil_of_length_eq_zero h0
    obtain ⟨A, c, rfl⟩ := hn.shape
    clear hn hlt hlen h0
    go_enter Tryd.func36, Tryd.ntmps36
    go_wp2
    refine wp_loop_rounds 1 ?_
    rw [rounds_succ]
    go_wp2
    go_ret
    exact ⟨_, rfl, (OV.lit (xs := [(0, 1)]) w _ 1 (Nat.le_refl _) (by unfold maxLen; omega) rfl rfl rfl).alloc _, ((Below.refl _ _).alloc (Nat.le_refl _) _).alloc (by simp) _⟩
  · obtain ⟨b, off, c, rfl, hc, hr⟩ := hn.row h0
    have HR := Lib.hid hr
    have HLT := Lib.hid hlt
    clear hr hn hlt
    by_cases h20 : ns.length ≤ 20
    · go_enter Tryd.func36, Tryd.ntmps36
      go_wp2
      go_loopg [3, 4, 18] ns.length (fun k v3 v4 i wr => ∃ j : Nat, j + k = ns.length ∧ i = .int .i64 j ∧ Below w.heap.size w wr ∧ OV encG 2 53 w.heap.size wr v3 (madeJ ns j) ∧ OV encI 1 3 w.heap.size wr v4 (depsL (madeJ ns j)))
      case atStart =>
        exact ⟨0, by omega, rfl, ((Below.refl _ _).alloc (Nat.le_refl _) _).alloc (by simp) _, (OV.lit (xs := [(0, 1)]) w _ 1 (Nat.le_refl _) (by unfold maxLen; omega) rfl rfl rfl).alloc _,
          by have := OV.lit (enc := encI) (k := 1) (e := 3) (base := w.heap.size) (xs := [0]) (w.alloc (.cells #[.int .i64 0, .int .i64 1] 53)) #[.int .i64 0] 1 (by simp) (by unfold maxLen; omega) rfl rfl rfl; rw [World.size_alloc] at this; exact this⟩
      case round =>
        obtain ⟨j, hj, rfl, hb, h3, h4⟩ := hrel
        have HJ := Lib.hid hj
        have HB := Lib.hid hb
        have hsz := hb.size
        by_cases hlt : j < ns.length
        · obtain ⟨hgok, hgl⟩ := madeJ_ok (ns := ns) (j := j) HLT.out (by omega) (by omega)
          obtain ⟨n, hn, c0⟩ := (HR.out.below HB.out).get16 (i := j) (by omega)
          have hn16 := HLT.out n (List.mem_of_getElem? hn)
          have HS := Lib.hid (madeJ_succ hn)
          generalize madeJ ns j = gs at h3 h4 hgok hgl HS
          have h4l : (depsL gs).length = gs.length := depsL_len
          obtain ⟨g3, cap3, hv3, hg3, _⟩ := h3.form (by omega)
          obtain ⟨g4, cap4, hv4, hg4, _⟩ := h4.form (by omega)
          rw [h4l] at hv4
          subst hv3 hv4
          have e3 := h3.ev encG_len
          have e4 := h4.ev encI_len
          have hne := h4.ne h3 (by decide)
          obtain ⟨P, hP, hPI⟩ : ∃ P : Nat, P = n % gs.length ∧ (n : Int) % (gs.length : Int) = (P : Int) := ⟨n % gs.length, rfl, by omega⟩
          have hPl : P < gs.length := by rw [hP]; exact Nat.mod_lt _ hgok.pos
          have H3 := Lib.hid h3
          have H4 := Lib.hid h4
          have HP := Lib.hid hP
          have HG := Lib.hid hgok
          have HGL := Lib.hid hgl
          have HL4 := Lib.hid h4l
          have HE3 := Lib.hid e3
          have HE4 := Lib.hid e4
          have HNE := Lib.hid hne
          have hgl2 : gs.length ≤ 100 := by omega
          have hgl3 : 0 < gs.length := by omega
          obtain ⟨wo, hwo⟩ : ∃ wo, wo = wr := ⟨_, rfl⟩
          subst hwo
          have HPI := Lib.hid hPI
          have HC0 := Lib.hid (climb_lt hgok hPl)
          clear hj hb hn h3 h4 hP hgok hgl h4l e3 e4 hne hPI
          go_wp2
          obtain ⟨gko, hgko⟩ : ∃ m, m = gk := ⟨_, rfl⟩
          have HGK := Lib.hid hgko
          clear hgko c0
          go_loopg [7] 2 (fun k v wr => ∃ x : Nat, v = .int .i64 x ∧ x < gs.length ∧ wo = wr ∧ climb gs x = climb gs P ∧ (dep gs x = 4 → 2 ≤ k) ∧ 1 ≤ k)
          case atStart => exact ⟨P, by rw [HPI.out], hPl, rfl, rfl, fun _ => Nat.le_refl _, by omega⟩
          case round =>
            obtain ⟨x, rfl, hx, rfl, hcl, hk, hk1⟩ := hrel
            have HCL := Lib.hid hcl
            have HK := Lib.hid hk
            clear hcl hk
            have c4 : wo.cell? ⟨g4, x, none⟩ = some (.int .i64 (dep gs x : Nat)) := by
              rw [World.ownsRow.cellAt (n := gs.length) (by have := H4.out; unfold OV at this; rwa [HL4.out] at this) x (by omega), encI_flat, List.getElem?_map, depsL_get hx]; rfl
            obtain ⟨⟨p3, q3⟩, hg⟩ : ∃ g, gs[x]? = some g := ⟨_, List.getElem?_eq_getElem hx⟩
            have c3 : wo.cell? ⟨g3, x * 2, none⟩ = some (.int .i64 p3) := by
              have := World.ownsRow.cellAt (n := gs.length) H3.out (x * 2) (by omega)
              rw [this]
              have := flat_get encG_len gs x (p3, q3) hg 0 (.int .i64 p3) rfl
              simpa using this
            have hp3 := par_get hg
            dsimp only at hp3
            by_cases h4 : dep gs x = 4
            · obtain ⟨k1, k2, k3, k4⟩ := climb_step HG.out hx h4
              rw [hp3] at k1 k2 k3 k4
              obtain ⟨p, rfl⟩ := Int.eq_ofNat_of_zero_le k1
              rw [Int.toNat_natCast] at k3 k4
              have K3 := Lib.hid k3
              have K4 := Lib.hid k4
              have H44 := Lib.hid h4
              rw [h4] at c4
              clear hg hp3 k1 k3 k4 h4
              go_wp2
              go_roundg (gk - 1)
              case measure => omega
              case rel => exact ⟨p, rfl, by omega, rfl, by rw [← HCL.out, K4.out]; exact climb_self (by rw [K3.out]; omega), fun h => by rw [K3.out] at h; omega, by have := HK.out H44.out; omega⟩
            · have hcx : x = climb gs P := by rw [← HCL.out, climb_self h4]
              have h4' : (((dep gs x : Nat) : Int) == 4) = false := by simp; omega
              have HCX := Lib.hid hcx
              have H44 := Lib.hid h4
              have HDX := Lib.hid (show dep gs x < 4 from by rw [hcx]; exact HC0.out.2)
              generalize hdx : dep gs x = dx at c4 h4'
              have HDD := Lib.hid hdx
              clear hg hp3 hcx h4 hdx c3
              by_cases h11 : n % 11 = 0
              · have h11' : (((n : Int) % 11) == 0) = true := by simp; omega
                have HW := Lib.hid (show ((mkW n : Nat) : Int) = 1 + (n : Int) from by unfold mkW; rw [if_pos h11]; omega)
                clear h11
                have ev3 : EV encG 2 (wo.alloc (.cells #[.int .i64 x, .int .i64 (1 + (n : Int))] 53)) (.slice (some ⟨wo.heap.size, 0, none⟩) 1 1) [((x : Int), 1 + (n : Int))] := EV.new1 rfl (Nat.le_refl _)
                have h3a := H3.out.alloc (.cells #[.int .i64 x, .int .i64 (1 + (n : Int))] 53)
                go_wp2_with (at_builtin; refine wpList_app elemG encG_len encG_one rfl _ _ rfl _ _ rfl rfl h3a ev3 ?q1 ?q2 ?_)
                case q1 => simp; omega
                case q2 => simp; omega
                intro v3' w1 ho3 hgr
                have h4a := (H4.out.alloc (.cells #[.int .i64 x, .int .i64 (1 + (n : Int))] 53)).keep hgr HNE.out
                have hb1 : Below w.heap.size w w1 := (HB.out.alloc hsz _).grown hgr (by simp; omega) (fun k hk => (h3a.block k hk).1)
                have hsz1 := hb1.size
                have c4' : w1.cell? ⟨g4, x, none⟩ = some (.int .i64 dx) := by
                  rw [World.ownsRow.cellAt (n := gs.length) (by have := h4a; unfold OV at this; rwa [HL4.out] at this) x (by omega), encI_flat, List.getElem?_map, depsL_get hx, HDD.out]; rfl
                have hdx4 := HDX.out
                rw [HDD.out] at hdx4
                have hne3 := h4a.ne ho3 (by decide)
                have hne3' := ho3.ne h4a (by decide)
                have H3B := Lib.hid ho3
                have HNE3 := Lib.hid hne3'
                clear ho3 hgr h3a ev3 c4 hne3 hne3'
                go_wp2_with (at_builtin; refine wpList_app elemI encI_len encI_one rfl _ _ rfl _ _ rfl rfl (h4a.alloc _) (new_one (z := (dx : Int) + 1)) ?q3 ?q4 ?_)
                case q3 => simp; have := HL4.out; omega
                case q4 => simp; omega
                intro v4' w2 ho4 hgr4
                have h3b := (H3B.out.alloc (.cells #[.int .i64 ((dx : Int) + 1)] 3)).keep hgr4 HNE3.out
                have hb2 : Below w.heap.size w w2 := (hb1.alloc hsz1 _).grown hgr4 (by simp; omega) (fun k hk => (h4a.block k hk).1)
                have em : madeJ ns (j + 1) = gs ++ [((x : Int), 1 + (n : Int))] := by
                  rw [HS.out]; unfold made1; rw [← HP.out, HW.out, ← HCX.out]
                have ed : depsL (madeJ ns (j + 1)) = depsL gs ++ [(dx : Int) + 1] := by
                  rw [em, depsL_app HG.out.bef]
                  congr 2
                  have := (gok_app HG.out (p := x) (w := 1 + (n : Int)) hx (by rw [← HW.out]; exact mkW_ok hn16) HDX.out (by omega)).2
                  rw [this, HDD.out]; simp
                rw [← em] at h3b
                rw [← ed] at ho4
                have H3C := Lib.hid h3b
                have H4C := Lib.hid ho4
                clear h3b ho4 hgr4 h4a c4' em ed
                go_wp2
                go_roundg (gko - 1)
                case measure => have := HJ.out; have := HGK.out; omega
                case rel => exact ⟨j + 1, by have := HJ.out; have := HGK.out; omega, by go_num, hb2, H3C.out, H4C.out⟩
              · have h11' : (((n : Int) % 11) == 0) = false := by simp; omega
                have HW := Lib.hid (show ((mkW n : Nat) : Int) = 1 + (n : Int) / 7 % 50 from by unfold mkW; rw [if_neg h11]; omega)
                clear h11
                have ev3 : EV encG 2 (wo.alloc (.cells #[.int .i64 x, .int .i64 (1 + (n : Int) / 7 % 50)] 53)) (.slice (some ⟨wo.heap.size, 0, none⟩) 1 1) [((x : Int), 1 + (n : Int) / 7 % 50)] := EV.new1 rfl (Nat.le_refl _)
                have h3a := H3.out.alloc (.cells #[.int .i64 x, .int .i64 (1 + (n : Int) / 7 % 50)] 53)
                go_wp2_with (at_builtin; refine wpList_app elemG encG_len encG_one rfl _ _ rfl _ _ rfl rfl h3a ev3 ?q1 ?q2 ?_)
                case q1 => simp; omega
                case q2 => simp; omega
                intro v3' w1 ho3 hgr
                have h4a := (H4.out.alloc (.cells #[.int .i64 x, .int .i64 (1 + (n : Int) / 7 % 50)] 53)).keep hgr HNE.out
                have hb1 : Below w.heap.size w w1 := (HB.out.alloc hsz _).grown hgr (by simp; omega) (fun k hk => (h3a.block k hk).1)
                have hsz1 := hb1.size
                have c4' : w1.cell? ⟨g4, x, none⟩ = some (.int .i64 dx) := by
                  rw [World.ownsRow.cellAt (n := gs.length) (by have := h4a; unfold OV at this; rwa [HL4.out] at this) x (by omega), encI_flat, List.getElem?_map, depsL_get hx, HDD.out]; rfl
                have hdx4 := HDX.out
                rw [HDD.out] at hdx4
                have hne3 := h4a.ne ho3 (by decide)
                have hne3' := ho3.ne h4a (by decide)
                have H3B := Lib.hid ho3
                have HNE3 := Lib.hid hne3'
                clear ho3 hgr h3a ev3 c4 hne3 hne3'
                go_wp2_with (at_builtin; refine wpList_app elemI encI_len encI_one rfl _ _ rfl _ _ rfl rfl (h4a.alloc _) (new_one (z := (dx : Int) + 1)) ?q3 ?q4 ?_)
                case q3 => simp; have := HL4.out; omega
                case q4 => simp; omega
                intro v4' w2 ho4 hgr4
                have h3b := (H3B.out.alloc (.cells #[.int .i64 ((dx : Int) + 1)] 3)).keep hgr4 HNE3.out
                have hb2 : Below w.heap.size w w2 := (hb1.alloc hsz1 _).grown hgr4 (by simp; omega) (fun k hk => (h4a.block k hk).1)
                have em : madeJ ns (j + 1) = gs ++ [((x : Int), 1 + (n : Int) / 7 % 50)] := by
                  rw [HS.out]; unfold made1; rw [← HP.out, HW.out, ← HCX.out]
                have ed : depsL (madeJ ns (j + 1)) = depsL gs ++ [(dx : Int) + 1] := by
                  rw [em, depsL_app HG.out.bef]
                  congr 2
                  have := (gok_app HG.out (p := x) (w := 1 + (n : Int) / 7 % 50) hx (by rw [← HW.out]; exact mkW_ok hn16) HDX.out (by omega)).2
                  rw [this, HDD.out]; simp
                rw [← em] at h3b
                rw [← ed] at ho4
                have H3C := Lib.hid h3b
                have H4C := Lib.hid ho4
                clear h3b ho4 hgr4 h4a c4' em ed
                go_wp2
                go_roundg (gko - 1)
                case measure => have := HJ.out; have := HGK.out; omega
                case rel => exact ⟨j + 1, by have := HJ.out; have := HGK.out; omega, by go_num, hb2, H3C.out, H4C.out⟩
        · have e : madeJ ns j = madG ns := by
            have := HJ.out
            unfold madeJ madG
            first
              | rw [List.take_of_length_le (show ns.length ≤ j by omega), List.take_of_length_le (show ns.length ≤ 20 by omega)]
              | rw [show j = 20 from by omega]
          rw [e] at h3
          clear hj hb h4 e
          go_wp2
          go_ret
          exact ⟨_, rfl, h3, HB.out⟩
    · go_enter Tryd.func36, Tryd.ntmps36
      go_wp2
      go_loopg [3, 4, 18] 20 (fun k v3 v4 i wr => ∃ j : Nat, j + k = 20 ∧ i = .int .i64 j ∧ Below w.heap.size w wr ∧ OV encG 2 53 w.heap.size wr v3 (madeJ ns j) ∧ OV encI 1 3 w.heap.size wr v4 (depsL (madeJ ns j)))
      case atStart =>
        exact ⟨0, by omega, rfl, ((Below.refl _ _).alloc (Nat.le_refl _) _).alloc (by simp) _, (OV.lit (xs := [(0, 1)]) w _ 1 (Nat.le_refl _) (by unfold maxLen; omega) rfl rfl rfl).alloc _,
          by have := OV.lit (enc := encI) (k := 1) (e := 3) (base := w.heap.size) (xs := [0]) (w.alloc (.cells #[.int .i64 0, .int .i64 1] 53)) #[.int .i64 0] 1 (by simp) (by unfold maxLen; omega) rfl rfl rfl; rw [World.size_alloc] at this; exact this⟩
      case round =>
        obtain ⟨j, hj, rfl, hb, h3, h4⟩ := hrel
        have HJ := Lib.hid hj
        have HB := Lib.hid hb
        have hsz := hb.size
        by_cases hlt : j < 20
        · obtain ⟨hgok, hgl⟩ := madeJ_ok (ns := ns) (j := j) HLT.out (by omega) (by omega)
          obtain ⟨n, hn, c0⟩ := (HR.out.below HB.out).get16 (i := j) (by omega)
          have hn16 := HLT.out n (List.mem_of_getElem? hn)
          have HS := Lib.hid (madeJ_succ hn)
          generalize madeJ ns j = gs at h3 h4 hgok hgl HS
          have h4l : (depsL gs).length = gs.length := depsL_len
          obtain ⟨g3, cap3, hv3, hg3, _⟩ := h3.form (by omega)
          obtain ⟨g4, cap4, hv4, hg4, _⟩ := h4.form (by omega)
          rw [h4l] at hv4
          subst hv3 hv4
          have e3 := h3.ev encG_len
          have e4 := h4.ev encI_len
          have hne := h4.ne h3 (by decide)
          obtain ⟨P, hP, hPI⟩ : ∃ P : Nat, P = n % gs.length ∧ (n : Int) % (gs.length : Int) = (P : Int) := ⟨n % gs.length, rfl, by omega⟩
          have hPl : P < gs.length := by rw [hP]; exact Nat.mod_lt _ hgok.pos
          have H3 := Lib.hid h3
          have H4 := Lib.hid h4
          have HP := Lib.hid hP
          have HG := Lib.hid hgok
          have HGL := Lib.hid hgl
          have HL4 := Lib.hid h4l
          have HE3 := Lib.hid e3
          have HE4 := Lib.hid e4
          have HNE := Lib.hid hne
          have hgl2 : gs.length ≤ 100 := by omega
          have hgl3 : 0 < gs.length := by omega
          obtain ⟨wo, hwo⟩ : ∃ wo, wo = wr := ⟨_, rfl⟩
          subst hwo
          have HPI := Lib.hid hPI
          have HC0 := Lib.hid (climb_lt hgok hPl)
          clear hj hb hn h3 h4 hP hgok hgl h4l e3 e4 hne hPI
          go_wp2
          obtain ⟨gko, hgko⟩ : ∃ m, m = gk := ⟨_, rfl⟩
          have HGK := Lib.hid hgko
          clear hgko c0
          go_loopg [7] 2 (fun k v wr => ∃ x : Nat, v = .int .i64 x ∧ x < gs.length ∧ wo = wr ∧ climb gs x = climb gs P ∧ (dep gs x = 4 → 2 ≤ k) ∧ 1 ≤ k)
          case atStart => exact ⟨P, by rw [HPI.out], hPl, rfl, rfl, fun _ => Nat.le_refl _, by omega⟩
          case round =>
            obtain ⟨x, rfl, hx, rfl, hcl, hk, hk1⟩ := hrel
            have HCL := Lib.hid hcl
            have HK := Lib.hid hk
            clear hcl hk
            have c4 : wo.cell? ⟨g4, x, none⟩ = some (.int .i64 (dep gs x : Nat)) := by
              rw [World.ownsRow.cellAt (n := gs.length) (by have := H4.out; unfold OV at this; rwa [HL4.out] at this) x (by omega), encI_flat, List.getElem?_map, depsL_get hx]; rfl
            obtain ⟨⟨p3, q3⟩, hg⟩ : ∃ g, gs[x]? = some g := ⟨_, List.getElem?_eq_getElem hx⟩
            have c3 : wo.cell? ⟨g3, x * 2, none⟩ = some (.int .i64 p3) := by
              have := World.ownsRow.cellAt (n := gs.length) H3.out (x * 2) (by omega)
              rw [this]
              have := flat_get encG_len gs x (p3, q3) hg 0 (.int .i64 p3) rfl
              simpa using this
            have hp3 := par_get hg
            dsimp only at hp3
            by_cases h4 : dep gs x = 4
            · obtain ⟨k1, k2, k3, k4⟩ := climb_step HG.out hx h4
              rw [hp3] at k1 k2 k3 k4
              obtain ⟨p, rfl⟩ := Int.eq_ofNat_of_zero_le k1
              rw [Int.toNat_natCast] at k3 k4
              have K3 := Lib.hid k3
              have K4 := Lib.hid k4
              have H44 := Lib.hid h4
              rw [h4] at c4
              clear hg hp3 k1 k3 k4 h4
              go_wp2
              go_roundg (gk - 1)
              case measure => omega
              case rel => exact ⟨p, rfl, by omega, rfl, by rw [← HCL.out, K4.out]; exact climb_self (by rw [K3.out]; omega), fun h => by rw [K3.out] at h; omega, by have := HK.out H44.out; omega⟩
            · have hcx : x = climb gs P := by rw [← HCL.out, climb_self h4]
              have h4' : (((dep gs x : Nat) : Int) == 4) = false := by simp; omega
              have HCX := Lib.hid hcx
              have H44 := Lib.hid h4
              have HDX := Lib.hid (show dep gs x < 4 from by rw [hcx]; exact HC0.out.2)
              generalize hdx : dep gs x = dx at c4 h4'
              have HDD := Lib.hid hdx
              clear hg hp3 hcx h4 hdx c3
              by_cases h11 : n % 11 = 0
              · have h11' : (((n : Int) % 11) == 0) = true := by simp; omega
                have HW := Lib.hid (show ((mkW n : Nat) : Int) = 1 + (n : Int) from by unfold mkW; rw [if_pos h11]; omega)
                clear h11
                have ev3 : EV encG 2 (wo.alloc (.cells #[.int .i64 x, .int .i64 (1 + (n : Int))] 53)) (.slice (some ⟨wo.heap.size, 0, none⟩) 1 1) [((x : Int), 1 + (n : Int))] := EV.new1 rfl (Nat.le_refl _)
                have h3a := H3.out.alloc (.cells #[.int .i64 x, .int .i64 (1 + (n : Int))] 53)
                go_wp2_with (at_builtin; refine wpList_app elemG encG_len encG_one rfl _ _ rfl _ _ rfl rfl h3a ev3 ?q1 ?q2 ?_)
                case q1 => simp; omega
                case q2 => simp; omega
                intro v3' w1 ho3 hgr
                have h4a := (H4.out.alloc (.cells #[.int .i64 x, .int .i64 (1 + (n : Int))] 53)).keep hgr HNE.out
                have hb1 : Below w.heap.size w w1 := (HB.out.alloc hsz _).grown hgr (by simp; omega) (fun k hk => (h3a.block k hk).1)
                have hsz1 := hb1.size
                have c4' : w1.cell? ⟨g4, x, none⟩ = some (.int .i64 dx) := by
                  rw [World.ownsRow.cellAt (n := gs.length) (by have := h4a; unfold OV at this; rwa [HL4.out] at this) x (by omega), encI_flat, List.getElem?_map, depsL_get hx, HDD.out]; rfl
                have hdx4 := HDX.out
                rw [HDD.out] at hdx4
                have hne3 := h4a.ne ho3 (by decide)
                have hne3' := ho3.ne h4a (by decide)
                have H3B := Lib.hid ho3
                have HNE3 := Lib.hid hne3'
                clear ho3 hgr h3a ev3 c4 hne3 hne3'
                go_wp2_with (at_builtin; refine wpList_app elemI encI_len encI_one rfl _ _ rfl _ _ rfl rfl (h4a.alloc _) (new_one (z := (dx : Int) + 1)) ?q3 ?q4 ?_)
                case q3 => simp; have := HL4.out; omega
                case q4 => simp; omega
                intro v4' w2 ho4 hgr4
                have h3b := (H3B.out.alloc (.cells #[.int .i64 ((dx : Int) + 1)] 3)).keep hgr4 HNE3.out
                have hb2 : Below w.heap.size w w2 := (hb1.alloc hsz1 _).grown hgr4 (by simp; omega) (fun k hk => (h4a.block k hk).1)
                have em : madeJ ns (j + 1) = gs ++ [((x : Int), 1 + (n : Int))] := by
                  rw [HS.out]; unfold made1; rw [← HP.out, HW.out, ← HCX.out]
                have ed : depsL (madeJ ns (j + 1)) = depsL gs ++ [(dx : Int) + 1] := by
                  rw [em, depsL_app HG.out.bef]
                  congr 2
                  have := (gok_app HG.out (p := x) (w := 1 + (n : Int)) hx (by rw [← HW.out]; exact mkW_ok hn16) HDX.out (by omega)).2
                  rw [this, HDD.out]; simp
                rw [← em] at h3b
                rw [← ed] at ho4
                have H3C := Lib.hid h3b
                have H4C := Lib.hid ho4
                clear h3b ho4 hgr4 h4a c4' em ed
                go_wp2
                go_roundg (gko - 1)
                case measure => have := HJ.out; have := HGK.out; omega
                case rel => exact ⟨j + 1, by have := HJ.out; have := HGK.out; omega, by go_num, hb2, H3C.out, H4C.out⟩
              · have h11' : (((n : Int) % 11) == 0) = false := by simp; omega
                have HW := Lib.hid (show ((mkW n : Nat) : Int) = 1 + (n : Int) / 7 % 50 from by unfold mkW; rw [if_neg h11]; omega)
                clear h11
                have ev3 : EV encG 2 (wo.alloc (.cells #[.int .i64 x, .int .i64 (1 + (n : Int) / 7 % 50)] 53)) (.slice (some ⟨wo.heap.size, 0, none⟩) 1 1) [((x : Int), 1 + (n : Int) / 7 % 50)] := EV.new1 rfl (Nat.le_refl _)
                have h3a := H3.out.alloc (.cells #[.int .i64 x, .int .i64 (1 + (n : Int) / 7 % 50)] 53)
                go_wp2_with (at_builtin; refine wpList_app elemG encG_len encG_one rfl _ _ rfl _ _ rfl rfl h3a ev3 ?q1 ?q2 ?_)
                case q1 => simp; omega
                case q2 => simp; omega
                intro v3' w1 ho3 hgr
                have h4a := (H4.out.alloc (.cells #[.int .i64 x, .int .i64 (1 + (n : Int) / 7 % 50)] 53)).keep hgr HNE.out
                have hb1 : Below w.heap.size w w1 := (HB.out.alloc hsz _).grown hgr (by simp; omega) (fun k hk => (h3a.block k hk).1)
                have hsz1 := hb1.size
                have c4' : w1.cell? ⟨g4, x, none⟩ = some (.int .i64 dx) := by
                  rw [World.ownsRow.cellAt (n := gs.length) (by have := h4a; unfold OV at this; rwa [HL4.out] at this) x (by omega), encI_flat, List.getElem?_map, depsL_get hx, HDD.out]; rfl
                have hdx4 := HDX.out
                rw [HDD.out] at hdx4
                have hne3 := h4a.ne ho3 (by decide)
                have hne3' := ho3.ne h4a (by decide)
                have H3B := Lib.hid ho3
                have HNE3 := Lib.hid hne3'
                clear ho3 hgr h3a ev3 c4 hne3 hne3'
                go_wp2_with (at_builtin; refine wpList_app elemI encI_len encI_one rfl _ _ rfl _ _ rfl rfl (h4a.alloc _) (new_one (z := (dx : Int) + 1)) ?q3 ?q4 ?_)
                case q3 => simp; have := HL4.out; omega
                case q4 => simp; omega
                intro v4' w2 ho4 hgr4
                have h3b := (H3B.out.alloc (.cells #[.int .i64 ((dx : Int) + 1)] 3)).keep hgr4 HNE3.out
                have hb2 : Below w.heap.size w w2 := (hb1.alloc hsz1 _).grown hgr4 (by simp; omega) (fun k hk => (h4a.block k hk).1)
                have em : madeJ ns (j + 1) = gs ++ [((x : Int), 1 + (n : Int) / 7 % 50)] := by
                  rw [HS.out]; unfold made1; rw [← HP.out, HW.out, ← HCX.out]
                have ed : depsL (madeJ ns (j + 1)) = depsL gs ++ [(dx : Int) + 1] := by
                  rw [em, depsL_app HG.out.bef]
                  congr 2
                  have := (gok_app HG.out (p := x) (w := 1 + (n : Int) / 7 % 50) hx (by rw [← HW.out]; exact mkW_ok hn16) HDX.out (by omega)).2
                  rw [this, HDD.out]; simp
                rw [← em] at h3b
                rw [← ed] at ho4
                have H3C := Lib.hid h3b
                have H4C := Lib.hid ho4
                clear h3b ho4 hgr4 h4a c4' em ed
                go_wp2
                go_roundg (gko - 1)
                case measure => have := HJ.out; have := HGK.out; omega
                case rel => exact ⟨j + 1, by have := HJ.out; have := HGK.out; omega, by go_num, hb2, H3C.out, H4C.out⟩
        · have e : madeJ ns j = madG ns := by
            have := HJ.out
            unfold madeJ madG
            first
              | rw [List.take_of_length_le (show ns.length ≤ j by omega), List.take_of_length_le (show ns.length ≤ 20 by omega)]
              | rw [show j = 20 from by omega]
          rw [e] at h3
          clear hj hb h4 e
          go_wp2
          go_ret
          exact ⟨_, rfl, h3, HB.out⟩
end Go.Proofs.YtaplangfppohdaaDoor
namespace Go.Proofs.YtaplangfppohdaaDoor
open Go Go.RowKit

def lz (l : List Int) (j : Nat) : Int := l[j]?.getD 0
/-- The period behind j numbers. -/
def atA (l : List Int) : Nat → Int
  | 0 => 0
  | j + 1 => atA l j + (1 + lz l j % 9)
def mkP (l : List Int) (n : Nat) : List (Int × Int) := (List.range n).map fun i => (atA l (i + 1), lz l i * 3 / 2)
theorem mkP_succ (l : List Int) (j : Nat) : mkP l (j + 1) = mkP l j ++ [(atA l (j + 1), lz l j * 3 / 2)] := by simp [mkP, List.range_succ]
theorem mkP_len (l : List Int) (n : Nat) : (mkP l n).length = n := by simp [mkP]
theorem partAt_mkP {l : List Int} {n j : Nat} (h : j < n) : partAt (mkP l n) j = (atA l (j + 1), lz l j * 3 / 2) := by
  simp [partAt, mkP, h]
def sumT (l : List Int) : Nat → Int
  | 0 => 0
  | j + 1 => sumT l j + lz l j * 3 / 2
section
variable {l : List Int} (hl : ∀ z ∈ l, 0 ≤ z ∧ z ≤ 65535)
include hl
theorem lz_in (j : Nat) : 0 ≤ lz l j ∧ lz l j ≤ 65535 := by
  unfold lz
  cases h : l[j]? with
  | none => simp
  | some z => exact hl z (List.mem_of_getElem? h)
theorem atA_in (j : Nat) : 0 ≤ atA l j ∧ atA l j ≤ 9 * j ∧ atA l j + 1 ≤ atA l (j + 1) ∧ atA l (j + 1) ≤ atA l j + 9 := by
  have h2 := lz_in hl j
  have : 0 ≤ atA l j ∧ atA l j ≤ 9 * j := by
    induction j with
    | zero => simp [atA]
    | succ j ih =>
      have := lz_in hl j
      have := ih this
      simp only [atA]
      omega
  simp only [atA]
  omega
theorem sumT_in (j : Nat) : 0 ≤ sumT l j ∧ sumT l j ≤ 100000 * j := by
  induction j with
  | zero => simp [sumT]
  | succ j ih =>
    have := lz_in hl j
    simp only [sumT]
    omega
theorem last_mkP {n j : Nat} (h : j ≤ n) : lastP (mkP l n) j = if j = 0 then -1 else atA l j := by
  unfold lastP
  split
  · rfl
  · rw [partAt_mkP (by omega), show j - 1 + 1 = j by omega]
theorem parts_mkP {n : Nat} (hn : n ≤ 30) : PartsOk (mkP l n) := by
  intro j hj
  rw [mkP_len] at hj
  have h1 := atA_in hl j
  have h2 := lz_in hl j
  unfold PartOk
  rw [partAt_mkP hj, last_mkP hl (by omega)]
  refine ⟨⟨?_, ?_⟩, ?_, ?_⟩ <;> dsimp only
  · split
    · omega
    · omega
  · omega
  · omega
  · omega
theorem dbt_mkP {n : Nat} (hn : n ≤ 30) {z : Int} (hz : 0 ≤ z ∧ z ≤ 65535) : dbtE (mkP l n) z = 0 ∧ dbtL (mkP l n) z = upto (fun j => debtAt (mkP l n) z (j + 1)) n := by
  have h0 : dbtE (mkP l n) z = 0 := by
    unfold dbtE
    rw [if_neg (by rintro (h | h); exact h (parts_mkP hl hn); exact h ⟨hz.1, by omega⟩), mkP_len, if_neg (by omega)]
  exact ⟨h0, by unfold dbtL; rw [if_pos h0, debtsL, mkP_len]⟩
theorem dbt_step {n : Nat} {z : Int} {j : Nat} (hj : j < n) :
    debtAt (mkP l n) z (j + 1) = max (max (debtAt (mkP l n) z j - (atA l (j + 1) - (if j = 0 then -1 else atA l j) - 1) * z) 0 + lz l j * 3 / 2 - z) 0 := by
  show afterN _ _ _ _ _ = _
  rw [last_mkP hl (by omega), partAt_mkP hj]
  rfl
theorem dbt_nonneg {n : Nat} {z : Int} : ∀ j, j ≤ n → 0 ≤ debtAt (mkP l n) z j
  | 0, _ => by simp [debtAt]
  | j + 1, h => by rw [dbt_step hl (show j < n by omega)]; omega
theorem dbt_le {n : Nat} {z : Int} (hz : 0 ≤ z) : ∀ j, j ≤ n → debtAt (mkP l n) z j ≤ 100000 * j
  | 0, _ => by simp [debtAt]
  | j + 1, h => by
    rw [dbt_step hl (show j < n by omega)]
    have h1 := dbt_le (n := n) hz j (by omega)
    have h0 := dbt_nonneg hl (z := z) j (show j ≤ n by omega)
    have h2 := lz_in hl j
    have h4 := atA_in hl j
    have h3 : 0 ≤ (atA l (j + 1) - (if j = 0 then -1 else atA l j) - 1) * z := Int.mul_nonneg (by split <;> omega) hz
    generalize (atA l (j + 1) - (if j = 0 then -1 else atA l j) - 1) * z = X at h3
    omega
theorem dbt_mono {n : Nat} {y z : Int} (hy : 0 ≤ y) (h : y ≤ z) : ∀ j, j ≤ n → debtAt (mkP l n) z j ≤ debtAt (mkP l n) y j
  | 0, _ => by simp [debtAt]
  | j + 1, hj => by
    rw [dbt_step hl (show j < n by omega), dbt_step hl (show j < n by omega)]
    have h1 := dbt_mono (n := n) hy h j (by omega)
    have h4 := atA_in hl j
    have h3 : (atA l (j + 1) - (if j = 0 then -1 else atA l j) - 1) * y ≤ (atA l (j + 1) - (if j = 0 then -1 else atA l j) - 1) * z := Int.mul_le_mul_of_nonneg_left h (by split <;> omega)
    generalize (atA l (j + 1) - (if j = 0 then -1 else atA l j) - 1) * y = X at h3 ⊢
    generalize (atA l (j + 1) - (if j = 0 then -1 else atA l j) - 1) * z = Y at h3 ⊢
    omega
theorem dbt_least {n : Nat} {z : Int} (hz : 0 ≤ z) : ∀ j, j < n → sumT l (j + 1) - z * (atA l (j + 1) - atA l 1 + 1) ≤ debtAt (mkP l n) z (j + 1)
  | 0, h => by
    rw [dbt_step hl h]
    simp only [sumT, if_true]
    rw [show atA l (0 + 1) - atA l 1 + 1 = 1 by simp, Int.mul_one]
    generalize (atA l (0 + 1) - -1 - 1) * z = X
    omega
  | j + 1, h => by
    have h1 := dbt_least hz j (show j < n by omega)
    rw [dbt_step hl h, if_neg (show ¬ j + 1 = 0 by omega)]
    rw [show sumT l (j + 1 + 1) = sumT l (j + 1) + lz l (j + 1) * 3 / 2 from rfl]
    have h2 : z * (atA l (j + 1 + 1) - atA l 1 + 1) = z * (atA l (j + 1) - atA l 1 + 1) + ((atA l (j + 1 + 1) - atA l (j + 1) - 1) * z + z) := by
      rw [Int.mul_comm (atA l (j + 1 + 1) - atA l (j + 1) - 1) z, ← Int.mul_one z, Int.mul_assoc, Int.mul_assoc, Int.mul_assoc, ← Int.mul_add, ← Int.mul_add, Int.one_mul, Int.one_mul]
      congr 1; omega
    rw [h2]
    generalize (atA l (j + 1 + 1) - atA l (j + 1) - 1) * z = X at *
    generalize z * (atA l (j + 1) - atA l 1 + 1) = Y at *
    omega
end
/-- What a round of the law knows. -/
structure DF (low L P P0 d D E T s : Int) : Prop where
  fl : -1 ≤ L ∧ L ≤ 300
  fp : L + 1 ≤ P ∧ P ≤ L + 10
  fp0 : 0 ≤ P0 ∧ P0 ≤ P
  fd : 0 ≤ d ∧ d ≤ 3000000
  ft : 0 ≤ T ∧ T ≤ 98303
  feq : D = max (max (d - (P - L - 1) * low) 0 + T - low) 0
  fdb : 0 ≤ D ∧ D ≤ 3100000
  fe : 0 ≤ E ∧ E ≤ D
  fs : 0 ≤ s ∧ s ≤ 3000000
  fm : 0 ≤ low * (P - P0 + 1) ∧ low * (P - P0 + 1) ≤ 30000000
  fle : s + T - low * (P - P0 + 1) ≤ D
theorem at_one {l : List Int} (hl : ∀ z ∈ l, 0 ≤ z ∧ z ≤ 65535) : ∀ q, atA l 1 ≤ atA l (q + 1)
  | 0 => Int.le_refl _
  | q + 1 => by have := at_one hl q; have := atA_in hl (q + 1); omega
theorem qd_facts {l : List Int} (hl : ∀ z ∈ l, 0 ≤ z ∧ z ≤ 65535) {n j : Nat} {low high : Int} (hn : n ≤ 30) (hlo : 0 ≤ low ∧ low ≤ 65535) (hhi : low ≤ high) (hlt : j < n) :
    DF low (lastP (mkP l n) j) (atA l (j + 1)) (atA l 1) (debtAt (mkP l n) low j) (debtAt (mkP l n) low (j + 1)) (debtAt (mkP l n) high (j + 1)) (lz l j * 3 / 2) (sumT l j) := by
  have a1 := atA_in hl j
  have e0 := at_one hl j
  have e00 : 0 ≤ atA l 1 := (atA_in hl 1).1
  have e1 : low * (atA l (j + 1) - atA l 1 + 1) ≤ 65535 * (atA l (j + 1) - atA l 1 + 1) := Int.mul_le_mul_of_nonneg_right hlo.2 (by omega)
  have e2 : 0 ≤ low * (atA l (j + 1) - atA l 1 + 1) := Int.mul_nonneg hlo.1 (by omega)
  have hL : -1 ≤ lastP (mkP l n) j ∧ lastP (mkP l n) j ≤ 300 ∧ lastP (mkP l n) j + 1 ≤ atA l (j + 1) ∧ atA l (j + 1) ≤ lastP (mkP l n) j + 10 := by
    rw [last_mkP hl (show j ≤ n by omega)]
    split
    · rename_i h; subst h; simp only [atA] at *; omega
    · omega
  refine ⟨by omega, by omega, ⟨?_, by omega⟩, ⟨dbt_nonneg hl j (by omega), ?_⟩, ?_, ?_, ⟨dbt_nonneg hl (j + 1) (by omega), ?_⟩, ⟨dbt_nonneg hl (j + 1) (by omega), dbt_mono hl hlo.1 hhi (j + 1) (by omega)⟩, ?_, ⟨e2, by omega⟩, ?_⟩
  · have := atA_in hl 1; omega
  · have := dbt_le hl (n := n) hlo.1 j (by omega); omega
  · have := lz_in hl j; omega
  · rw [dbt_step hl (n := n) (z := low) hlt, last_mkP hl (show j ≤ n by omega)]
  · have := dbt_le hl (n := n) hlo.1 (j + 1) (by omega); omega
  · have := sumT_in hl j; omega
  · exact dbt_least hl (n := n) hlo.1 j hlt
/-- Period by period. -/
theorem fall_one (d z : Int) (m : Nat) (hz : 0 ≤ z) : max (max (d - m * z) 0 - z) 0 = max (d - ((m + 1 : Nat) : Int) * z) 0 := by
  rw [show ((m + 1 : Nat) : Int) = (m : Int) + 1 by omega, Int.add_mul, Int.one_mul]
  generalize (m : Int) * z = X
  omega
end Go.Proofs.YtaplangfppohdaaDoor

/- The contract of quantumlaw19.Made. -/
import Derived.Test.YtkkmmbmjpfecdaaGaw
import Derived.Test.YtkkmmbmjpfecdaaGmd
namespace Go.Proofs.Ytkkmmbmjpfecdaa
open Go.RowKit Go.Shelf

def encU16 (n : Nat) : List Value := [.int .u16 n]
theorem encU16_len (n : Nat) : (encU16 n).length = 1 := rfl
theorem ER.get16 {w : World} {b off : Nat} {ns : List Nat} (h : ER encU16 1 w b off ns) {i : Nat} (hi : i < ns.length) : ∃ n, ns[i]? = some n ∧ w.cell? ⟨b, off + i, none⟩ = some (.int .u16 (n : Nat)) :=
  ⟨ns[i], List.getElem?_eq_getElem hi, by have := h i _ (List.getElem?_eq_getElem hi) 0 _ rfl; simpa using this⟩

theorem OV.ne {α β : Type} {enc : α → List Value} {enc' : β → List Value} {k k' : Nat} {e e' : TypeId} {base base' : Nat} {w : World} {v v' : Value} {xs : List α} {ys : List β}
    (h : OV enc k e base w v xs) (h' : OV enc' k' e' base' w v' ys) (hne : e ≠ e') : v.ownBlock = none ∨ v.ownBlock ≠ v'.ownBlock := by
  rcases h.2 with ⟨rfl, _⟩ | ⟨g, cap, cur, rfl, _, hg, _⟩
  · exact .inl rfl
  · rcases h'.2 with ⟨rfl, _⟩ | ⟨g', cap', cur', rfl, _, hg', _⟩
    · right; simp [Value.ownBlock]
    · right
      intro he
      obtain rfl : g = g' := by simpa [Value.ownBlock] using he
      rw [hg] at hg'
      simp at hg'
      exact hne hg'.2

def madeJ (ns : List Nat) (j : Nat) : List (Int × Int) := (ns.take j).foldl made1 [(0, 1)]
theorem madeJ_ok {ns : List Nat} {j : Nat} (hn : ∀ n ∈ ns, n < 65536) (hj : j ≤ ns.length) (h2 : j ≤ 20) : GOK (madeJ ns j) ∧ (madeJ ns j).length = 1 + j := by
  have := fold_ok (ns.take j) [(0, 1)] gok_root (by simp; omega) (fun n h => hn n (List.mem_of_mem_take h))
  rw [List.length_take, Nat.min_eq_left hj] at this
  exact this
theorem madeJ_succ {ns : List Nat} {j n : Nat} (h : ns[j]? = some n) : madeJ ns (j + 1) = made1 (madeJ ns j) n := by
  unfold madeJ; rw [List.take_add_one, h]; simp [List.foldl_append]
theorem climb_self {gs : List (Int × Int)} {x : Nat} (h : dep gs x ≠ 4) : climb gs x = x := if_neg h
theorem climb_step {gs : List (Int × Int)} {x : Nat} (hg : GOK gs) (hx : x < gs.length) (h : dep gs x = 4) : 0 ≤ par gs x ∧ par gs x < x ∧ dep gs (par gs x).toNat = 3 ∧ climb gs x = (par gs x).toNat := by
  have h0 : 0 < x := by
    rcases Nat.eq_zero_or_pos x with rfl | h0
    · simp [dep_zero] at h
    · exact h0
  obtain ⟨a, b⟩ := hg.bef x h0 hx
  have := dep_succ hg.bef h0 hx
  exact ⟨a, b, by omega, if_pos h⟩

set_option maxRecDepth 100000 in
set_option maxHeartbeats 2000000 in
theorem made_walk (w : World) (vn : Value) (ns : List Nat) (hn : EV encU16 1 w vn ns) (hlt : ∀ n ∈ ns, n < 65536) (hlen : ns.length ≤ 9223372036854775807) :
    Calls Try.prog 11 #[vn] w fun e w' => ∃ r, e = .returned r ∧ OV encG 2 38 w.heap.size w' r (made ns) ∧ Below w.heap.size w w' := by
  rcases Nat.eq_zero_or_pos ns.length with h0 | h0
  · obtain rfl : ns = [] := List.eq_nil_of_length_eq_zero h0
    obtain ⟨A, c, rfl⟩ := hn.shape
    clear hn hlt hlen h0
    go_enter Try.func11, Try.ntmps11
    go_wp2
    refine wp_loop_rounds 1 ?_
    rw [rounds_succ]
    go_wp2
    go_ret
    exact ⟨_, rfl, (OV.lit (xs := [(0, 1)]) w _ 1 (Nat.le_refl _) (by unfold maxLen; omega) rfl rfl rfl).alloc _, ((Below.refl _ _).alloc (Nat.le_refl _) _).alloc (by simp) _⟩
  · obtain ⟨b, off, c, rfl, hc, hr⟩ := hn.row h0
    have HR := Lib.hid hr
    have HLT := Lib.hid hlt
    clear hr hn hlt
    by_cases h20 : ns.length ≤ 20
    · go_enter Try.func11, Try.ntmps11
      go_wp2
      go_loopg [3, 4, 18] ns.length (fun k v3 v4 i wr => ∃ j : Nat, j + k = ns.length ∧ i = .int .i64 j ∧ Below w.heap.size w wr ∧ OV encG 2 38 w.heap.size wr v3 (madeJ ns j) ∧ OV encI 1 3 w.heap.size wr v4 (depsL (madeJ ns j)))
      case atStart =>
        exact ⟨0, by omega, rfl, ((Below.refl _ _).alloc (Nat.le_refl _) _).alloc (by simp) _, (OV.lit (xs := [(0, 1)]) w _ 1 (Nat.le_refl _) (by unfold maxLen; omega) rfl rfl rfl).alloc _,
          by have := OV.lit (enc := encI) (k := 1) (e := 3) (base := w.heap.size) (xs := [0]) (w.alloc (.cells #[.int .i64 0, .int .i64 1] 38)) #[.int .i64 0] 1 (by simp) (by unfold maxLen; omega) rfl rfl rfl; rw [World.size_alloc] at this; exact this⟩
      case round =>
        obtain ⟨j, hj, rfl, hb, h3, h4⟩ := hrel
        have HJ := Lib.hid hj
        have HB := Lib.hid hb
        have hsz := hb.size
        by_cases hlt : j < ns.length
        · obtain ⟨hgok, hgl⟩ := madeJ_ok (ns := ns) (j := j) HLT.out (by omega) (by omega)
          obtain ⟨n, hn, c0⟩ := (HR.out.below HB.out).get16 (i := j) (by omega)
          have hn16 := HLT.out n (List.mem_of_getElem? hn)
          have HS := Lib.hid (madeJ_succ hn)
          generalize madeJ ns j = gs at h3 h4 hgok hgl HS
          have h4l : (depsL gs).length = gs.length := depsL_len
          obtain ⟨g3, cap3, hv3, hg3, _⟩ := h3.form (by omega)
          obtain ⟨g4, cap4, hv4, hg4, _⟩ := h4.form (by omega)
          rw [h4l] at hv4
          subst hv3 hv4
          have e3 := h3.ev encG_len
          have e4 := h4.ev encI_len
          have hne := h4.ne h3 (by decide)
          obtain ⟨P, hP, hPI⟩ : ∃ P : Nat, P = n % gs.length ∧ (n : Int) % (gs.length : Int) = (P : Int) := ⟨n % gs.length, rfl, by omega⟩
          have hPl : P < gs.length := by rw [hP]; exact Nat.mod_lt _ hgok.pos
          have H3 := Lib.hid h3
          have H4 := Lib.hid h4
          have HP := Lib.hid hP
          have HG := Lib.hid hgok
          have HGL := Lib.hid hgl
          have HL4 := Lib.hid h4l
          have HE3 := Lib.hid e3
          have HE4 := Lib.hid e4
          have HNE := Lib.hid hne
          have hgl2 : gs.length ≤ 100 := by omega
          have hgl3 : 0 < gs.length := by omega
          obtain ⟨wo, hwo⟩ : ∃ wo, wo = wr := ⟨_, rfl⟩
          subst hwo
          have HPI := Lib.hid hPI
          have HC0 := Lib.hid (climb_lt hgok hPl)
          clear hj hb hn h3 h4 hP hgok hgl h4l e3 e4 hne hPI
          go_wp2
          obtain ⟨gko, hgko⟩ : ∃ m, m = gk := ⟨_, rfl⟩
          have HGK := Lib.hid hgko
          clear hgko c0
          go_loopg [7] 2 (fun k v wr => ∃ x : Nat, v = .int .i64 x ∧ x < gs.length ∧ wo = wr ∧ climb gs x = climb gs P ∧ (dep gs x = 4 → 2 ≤ k) ∧ 1 ≤ k)
          case atStart => exact ⟨P, by rw [HPI.out], hPl, rfl, rfl, fun _ => Nat.le_refl _, by omega⟩
          case round =>
            obtain ⟨x, rfl, hx, rfl, hcl, hk, hk1⟩ := hrel
            have HCL := Lib.hid hcl
            have HK := Lib.hid hk
            clear hcl hk
            have c4 : wo.cell? ⟨g4, x, none⟩ = some (.int .i64 (dep gs x : Nat)) := by
              rw [World.ownsRow.cellAt (n := gs.length) (by have := H4.out; unfold OV at this; rwa [HL4.out] at this) x (by omega), encI_flat, List.getElem?_map, depsL_get hx]; rfl
            obtain ⟨⟨p3, q3⟩, hg⟩ : ∃ g, gs[x]? = some g := ⟨_, List.getElem?_eq_getElem hx⟩
            have c3 : wo.cell? ⟨g3, x * 2, none⟩ = some (.int .i64 p3) := by
              have := World.ownsRow.cellAt (n := gs.length) H3.out (x * 2) (by omega)
              rw [this]
              have := flat_get encG_len gs x (p3, q3) hg 0 (.int .i64 p3) rfl
              simpa using this
            have hp3 := par_get hg
            dsimp only at hp3
            by_cases h4 : dep gs x = 4
            · obtain ⟨k1, k2, k3, k4⟩ := climb_step HG.out hx h4
              rw [hp3] at k1 k2 k3 k4
              obtain ⟨p, rfl⟩ := Int.eq_ofNat_of_zero_le k1
              rw [Int.toNat_natCast] at k3 k4
              have K3 := Lib.hid k3
              have K4 := Lib.hid k4
              have H44 := Lib.hid h4
              rw [h4] at c4
              clear hg hp3 k1 k3 k4 h4
              go_wp2
              go_roundg (gk - 1)
              case measure => omega
              case rel => exact ⟨p, rfl, by omega, rfl, by rw [← HCL.out, K4.out]; exact climb_self (by rw [K3.out]; omega), fun h => by rw [K3.out] at h; omega, by have := HK.out H44.out; omega⟩
            · have hcx : x = climb gs P := by rw [← HCL.out, climb_self h4]
              have h4' : (((dep gs x : Nat) : Int) == 4) = false := by simp; omega
              have HCX := Lib.hid hcx
              have H44 := Lib.hid h4
              have HDX := Lib.hid (show dep gs x < 4 from by rw [hcx]; exact HC0.out.2)
              generalize hdx : dep gs x = dx at c4 h4'
              have HDD := Lib.hid hdx
              clear hg hp3 hcx h4 hdx c3
              by_cases h11 : n % 11 = 0
              · have h11' : (((n : Int) % 11) == 0) = true := by simp; omega
                have HW := Lib.hid (show ((mkW n : Nat) : Int) = 1 + (n : Int) from by unfold mkW; rw [if_pos h11]; omega)
                clear h11
                have ev3 : EV encG 2 (wo.alloc (.cells #[.int .i64 x, .int .i64 (1 + (n : Int))] 38)) (.slice (some ⟨wo.heap.size, 0, none⟩) 1 1) [((x : Int), 1 + (n : Int))] := EV.new1 rfl (Nat.le_refl _)
                have h3a := H3.out.alloc (.cells #[.int .i64 x, .int .i64 (1 + (n : Int))] 38)
                go_wp2_with (at_builtin; refine wpList_app elemG encG_len encG_one rfl _ _ rfl _ _ rfl rfl h3a ev3 ?q1 ?q2 ?_)
                case q1 => simp; omega
                case q2 => simp; omega
                intro v3' w1 ho3 hgr
                have h4a := (H4.out.alloc (.cells #[.int .i64 x, .int .i64 (1 + (n : Int))] 38)).keep hgr HNE.out
                have hb1 : Below w.heap.size w w1 := (HB.out.alloc hsz _).grown hgr (by simp; omega) (fun k hk => (h3a.block k hk).1)
                have hsz1 := hb1.size
                have c4' : w1.cell? ⟨g4, x, none⟩ = some (.int .i64 dx) := by
                  rw [World.ownsRow.cellAt (n := gs.length) (by have := h4a; unfold OV at this; rwa [HL4.out] at this) x (by omega), encI_flat, List.getElem?_map, depsL_get hx, HDD.out]; rfl
                have hdx4 := HDX.out
                rw [HDD.out] at hdx4
                have hne3 := h4a.ne ho3 (by decide)
                have hne3' := ho3.ne h4a (by decide)
                have H3B := Lib.hid ho3
                have HNE3 := Lib.hid hne3'
                clear ho3 hgr h3a ev3 c4 hne3 hne3'
                go_wp2_with (at_builtin; refine wpList_app elemI encI_len encI_one rfl _ _ rfl _ _ rfl rfl (h4a.alloc _) (new_one (z := (dx : Int) + 1)) ?q3 ?q4 ?_)
                case q3 => simp; have := HL4.out; omega
                case q4 => simp; omega
                intro v4' w2 ho4 hgr4
                have h3b := (H3B.out.alloc (.cells #[.int .i64 ((dx : Int) + 1)] 3)).keep hgr4 HNE3.out
                have hb2 : Below w.heap.size w w2 := (hb1.alloc hsz1 _).grown hgr4 (by simp; omega) (fun k hk => (h4a.block k hk).1)
                have em : madeJ ns (j + 1) = gs ++ [((x : Int), 1 + (n : Int))] := by
                  rw [HS.out]; unfold made1; rw [← HP.out, HW.out, ← HCX.out]
                have ed : depsL (madeJ ns (j + 1)) = depsL gs ++ [(dx : Int) + 1] := by
                  rw [em, depsL_app HG.out.bef]
                  congr 2
                  have := (gok_app HG.out (p := x) (w := 1 + (n : Int)) hx (by rw [← HW.out]; exact mkW_ok hn16) HDX.out (by omega)).2
                  rw [this, HDD.out]; simp
                rw [← em] at h3b
                rw [← ed] at ho4
                have H3C := Lib.hid h3b
                have H4C := Lib.hid ho4
                clear h3b ho4 hgr4 h4a c4' em ed
                go_wp2
                go_roundg (gko - 1)
                case measure => have := HJ.out; have := HGK.out; omega
                case rel => exact ⟨j + 1, by have := HJ.out; have := HGK.out; omega, by go_num, hb2, H3C.out, H4C.out⟩
              · have h11' : (((n : Int) % 11) == 0) = false := by simp; omega
                have HW := Lib.hid (show ((mkW n : Nat) : Int) = 1 + (n : Int) / 7 % 50 from by unfold mkW; rw [if_neg h11]; omega)
                clear h11
                have ev3 : EV encG 2 (wo.alloc (.cells #[.int .i64 x, .int .i64 (1 + (n : Int) / 7 % 50)] 38)) (.slice (some ⟨wo.heap.size, 0, none⟩) 1 1) [((x : Int), 1 + (n : Int) / 7 % 50)] := EV.new1 rfl (Nat.le_refl _)
                have h3a := H3.out.alloc (.cells #[.int .i64 x, .int .i64 (1 + (n : Int) / 7 % 50)] 38)
                go_wp2_with (at_builtin; refine wpList_app elemG encG_len encG_one rfl _ _ rfl _ _ rfl rfl h3a ev3 ?q1 ?q2 ?_)
                case q1 => simp; omega
                case q2 => simp; omega
                intro v3' w1 ho3 hgr
                have h4a := (H4.out.alloc (.cells #[.int .i64 x, .int .i64 (1 + (n : Int) / 7 % 50)] 38)).keep hgr HNE.out
                have hb1 : Below w.heap.size w w1 := (HB.out.alloc hsz _).grown hgr (by simp; omega) (fun k hk => (h3a.block k hk).1)
                have hsz1 := hb1.size
                have c4' : w1.cell? ⟨g4, x, none⟩ = some (.int .i64 dx) := by
                  rw [World.ownsRow.cellAt (n := gs.length) (by have := h4a; unfold OV at this; rwa [HL4.out] at this) x (by omega), encI_flat, List.getElem?_map, depsL_get hx, HDD.out]; rfl
                have hdx4 := HDX.out
                rw [HDD.out] at hdx4
                have hne3 := h4a.ne ho3 (by decide)
                have hne3' := ho3.ne h4a (by decide)
                have H3B := Lib.hid ho3
                have HNE3 := Lib.hid hne3'
                clear ho3 hgr h3a ev3 c4 hne3 hne3'
                go_wp2_with (at_builtin; refine wpList_app elemI encI_len encI_one rfl _ _ rfl _ _ rfl rfl (h4a.alloc _) (new_one (z := (dx : Int) + 1)) ?q3 ?q4 ?_)
                case q3 => simp; have := HL4.out; omega
                case q4 => simp; omega
                intro v4' w2 ho4 hgr4
                have h3b := (H3B.out.alloc (.cells #[.int .i64 ((dx : Int) + 1)] 3)).keep hgr4 HNE3.out
                have hb2 : Below w.heap.size w w2 := (hb1.alloc hsz1 _).grown hgr4 (by simp; omega) (fun k hk => (h4a.block k hk).1)
                have em : madeJ ns (j + 1) = gs ++ [((x : Int), 1 + (n : Int) / 7 % 50)] := by
                  rw [HS.out]; unfold made1; rw [← HP.out, HW.out, ← HCX.out]
                have ed : depsL (madeJ ns (j + 1)) = depsL gs ++ [(dx : Int) + 1] := by
                  rw [em, depsL_app HG.out.bef]
                  congr 2
                  have := (gok_app HG.out (p := x) (w := 1 + (n : Int) / 7 % 50) hx (by rw [← HW.out]; exact mkW_ok hn16) HDX.out (by omega)).2
                  rw [this, HDD.out]; simp
                rw [← em] at h3b
                rw [← ed] at ho4
                have H3C := Lib.hid h3b
                have H4C := Lib.hid ho4
                clear h3b ho4 hgr4 h4a c4' em ed
                go_wp2
                go_roundg (gko - 1)
                case measure => have := HJ.out; have := HGK.out; omega
                case rel => exact ⟨j + 1, by have := HJ.out; have := HGK.out; omega, by go_num, hb2, H3C.out, H4C.out⟩
        · have e : madeJ ns j = made ns := by
            have := HJ.out
            unfold madeJ made
            first
              | rw [List.take_of_length_le (show ns.length ≤ j by omega), List.take_of_length_le (show ns.length ≤ 20 by omega)]
              | rw [show j = 20 from by omega]
          rw [e] at h3
          clear hj hb h4 e
          go_wp2
          go_ret
          exact ⟨_, rfl, h3, HB.out⟩
    · go_enter Try.func11, Try.ntmps11
      go_wp2
      go_loopg [3, 4, 18] 20 (fun k v3 v4 i wr => ∃ j : Nat, j + k = 20 ∧ i = .int .i64 j ∧ Below w.heap.size w wr ∧ OV encG 2 38 w.heap.size wr v3 (madeJ ns j) ∧ OV encI 1 3 w.heap.size wr v4 (depsL (madeJ ns j)))
      case atStart =>
        exact ⟨0, by omega, rfl, ((Below.refl _ _).alloc (Nat.le_refl _) _).alloc (by simp) _, (OV.lit (xs := [(0, 1)]) w _ 1 (Nat.le_refl _) (by unfold maxLen; omega) rfl rfl rfl).alloc _,
          by have := OV.lit (enc := encI) (k := 1) (e := 3) (base := w.heap.size) (xs := [0]) (w.alloc (.cells #[.int .i64 0, .int .i64 1] 38)) #[.int .i64 0] 1 (by simp) (by unfold maxLen; omega) rfl rfl rfl; rw [World.size_alloc] at this; exact this⟩
      case round =>
        obtain ⟨j, hj, rfl, hb, h3, h4⟩ := hrel
        have HJ := Lib.hid hj
        have HB := Lib.hid hb
        have hsz := hb.size
        by_cases hlt : j < 20
        · obtain ⟨hgok, hgl⟩ := madeJ_ok (ns := ns) (j := j) HLT.out (by omega) (by omega)
          obtain ⟨n, hn, c0⟩ := (HR.out.below HB.out).get16 (i := j) (by omega)
          have hn16 := HLT.out n (List.mem_of_getElem? hn)
          have HS := Lib.hid (madeJ_succ hn)
          generalize madeJ ns j = gs at h3 h4 hgok hgl HS
          have h4l : (depsL gs).length = gs.length := depsL_len
          obtain ⟨g3, cap3, hv3, hg3, _⟩ := h3.form (by omega)
          obtain ⟨g4, cap4, hv4, hg4, _⟩ := h4.form (by omega)
          rw [h4l] at hv4
          subst hv3 hv4
          have e3 := h3.ev encG_len
          have e4 := h4.ev encI_len
          have hne := h4.ne h3 (by decide)
          obtain ⟨P, hP, hPI⟩ : ∃ P : Nat, P = n % gs.length ∧ (n : Int) % (gs.length : Int) = (P : Int) := ⟨n % gs.length, rfl, by omega⟩
          have hPl : P < gs.length := by rw [hP]; exact Nat.mod_lt _ hgok.pos
          have H3 := Lib.hid h3
          have H4 := Lib.hid h4
          have HP := Lib.hid hP
          have HG := Lib.hid hgok
          have HGL := Lib.hid hgl
          have HL4 := Lib.hid h4l
          have HE3 := Lib.hid e3
          have HE4 := Lib.hid e4
          have HNE := Lib.hid hne
          have hgl2 : gs.length ≤ 100 := by omega
          have hgl3 : 0 < gs.length := by omega
          obtain ⟨wo, hwo⟩ : ∃ wo, wo = wr := ⟨_, rfl⟩
          subst hwo
          have HPI := Lib.hid hPI
          have HC0 := Lib.hid (climb_lt hgok hPl)
          clear hj hb hn h3 h4 hP hgok hgl h4l e3 e4 hne hPI
          go_wp2
          obtain ⟨gko, hgko⟩ : ∃ m, m = gk := ⟨_, rfl⟩
          have HGK := Lib.hid hgko
          clear hgko c0
          go_loopg [7] 2 (fun k v wr => ∃ x : Nat, v = .int .i64 x ∧ x < gs.length ∧ wo = wr ∧ climb gs x = climb gs P ∧ (dep gs x = 4 → 2 ≤ k) ∧ 1 ≤ k)
          case atStart => exact ⟨P, by rw [HPI.out], hPl, rfl, rfl, fun _ => Nat.le_refl _, by omega⟩
          case round =>
            obtain ⟨x, rfl, hx, rfl, hcl, hk, hk1⟩ := hrel
            have HCL := Lib.hid hcl
            have HK := Lib.hid hk
            clear hcl hk
            have c4 : wo.cell? ⟨g4, x, none⟩ = some (.int .i64 (dep gs x : Nat)) := by
              rw [World.ownsRow.cellAt (n := gs.length) (by have := H4.out; unfold OV at this; rwa [HL4.out] at this) x (by omega), encI_flat, List.getElem?_map, depsL_get hx]; rfl
            obtain ⟨⟨p3, q3⟩, hg⟩ : ∃ g, gs[x]? = some g := ⟨_, List.getElem?_eq_getElem hx⟩
            have c3 : wo.cell? ⟨g3, x * 2, none⟩ = some (.int .i64 p3) := by
              have := World.ownsRow.cellAt (n := gs.length) H3.out (x * 2) (by omega)
              rw [this]
              have := flat_get encG_len gs x (p3, q3) hg 0 (.int .i64 p3) rfl
              simpa using this
            have hp3 := par_get hg
            dsimp only at hp3
            by_cases h4 : dep gs x = 4
            · obtain ⟨k1, k2, k3, k4⟩ := climb_step HG.out hx h4
              rw [hp3] at k1 k2 k3 k4
              obtain ⟨p, rfl⟩ := Int.eq_ofNat_of_zero_le k1
              rw [Int.toNat_natCast] at k3 k4
              have K3 := Lib.hid k3
              have K4 := Lib.hid k4
              have H44 := Lib.hid h4
              rw [h4] at c4
              clear hg hp3 k1 k3 k4 h4
              go_wp2
              go_roundg (gk - 1)
              case measure => omega
              case rel => exact ⟨p, rfl, by omega, rfl, by rw [← HCL.out, K4.out]; exact climb_self (by rw [K3.out]; omega), fun h => by rw [K3.out] at h; omega, by have := HK.out H44.out; omega⟩
            · have hcx : x = climb gs P := by rw [← HCL.out, climb_self h4]
              have h4' : (((dep gs x : Nat) : Int) == 4) = false := by simp; omega
              have HCX := Lib.hid hcx
              have H44 := Lib.hid h4
              have HDX := Lib.hid (show dep gs x < 4 from by rw [hcx]; exact HC0.out.2)
              generalize hdx : dep gs x = dx at c4 h4'
              have HDD := Lib.hid hdx
              clear hg hp3 hcx h4 hdx c3
              by_cases h11 : n % 11 = 0
              · have h11' : (((n : Int) % 11) == 0) = true := by simp; omega
                have HW := Lib.hid (show ((mkW n : Nat) : Int) = 1 + (n : Int) from by unfold mkW; rw [if_pos h11]; omega)
                clear h11
                have ev3 : EV encG 2 (wo.alloc (.cells #[.int .i64 x, .int .i64 (1 + (n : Int))] 38)) (.slice (some ⟨wo.heap.size, 0, none⟩) 1 1) [((x : Int), 1 + (n : Int))] := EV.new1 rfl (Nat.le_refl _)
                have h3a := H3.out.alloc (.cells #[.int .i64 x, .int .i64 (1 + (n : Int))] 38)
                go_wp2_with (at_builtin; refine wpList_app elemG encG_len encG_one rfl _ _ rfl _ _ rfl rfl h3a ev3 ?q1 ?q2 ?_)
                case q1 => simp; omega
                case q2 => simp; omega
                intro v3' w1 ho3 hgr
                have h4a := (H4.out.alloc (.cells #[.int .i64 x, .int .i64 (1 + (n : Int))] 38)).keep hgr HNE.out
                have hb1 : Below w.heap.size w w1 := (HB.out.alloc hsz _).grown hgr (by simp; omega) (fun k hk => (h3a.block k hk).1)
                have hsz1 := hb1.size
                have c4' : w1.cell? ⟨g4, x, none⟩ = some (.int .i64 dx) := by
                  rw [World.ownsRow.cellAt (n := gs.length) (by have := h4a; unfold OV at this; rwa [HL4.out] at this) x (by omega), encI_flat, List.getElem?_map, depsL_get hx, HDD.out]; rfl
                have hdx4 := HDX.out
                rw [HDD.out] at hdx4
                have hne3 := h4a.ne ho3 (by decide)
                have hne3' := ho3.ne h4a (by decide)
                have H3B := Lib.hid ho3
                have HNE3 := Lib.hid hne3'
                clear ho3 hgr h3a ev3 c4 hne3 hne3'
                go_wp2_with (at_builtin; refine wpList_app elemI encI_len encI_one rfl _ _ rfl _ _ rfl rfl (h4a.alloc _) (new_one (z := (dx : Int) + 1)) ?q3 ?q4 ?_)
                case q3 => simp; have := HL4.out; omega
                case q4 => simp; omega
                intro v4' w2 ho4 hgr4
                have h3b := (H3B.out.alloc (.cells #[.int .i64 ((dx : Int) + 1)] 3)).keep hgr4 HNE3.out
                have hb2 : Below w.heap.size w w2 := (hb1.alloc hsz1 _).grown hgr4 (by simp; omega) (fun k hk => (h4a.block k hk).1)
                have em : madeJ ns (j + 1) = gs ++ [((x : Int), 1 + (n : Int))] := by
                  rw [HS.out]; unfold made1; rw [← HP.out, HW.out, ← HCX.out]
                have ed : depsL (madeJ ns (j + 1)) = depsL gs ++ [(dx : Int) + 1] := by
                  rw [em, depsL_app HG.out.bef]
                  congr 2
                  have := (gok_app HG.out (p := x) (w := 1 + (n : Int)) hx (by rw [← HW.out]; exact mkW_ok hn16) HDX.out (by omega)).2
                  rw [this, HDD.out]; simp
                rw [← em] at h3b
                rw [← ed] at ho4
                have H3C := Lib.hid h3b
                have H4C := Lib.hid ho4
                clear h3b ho4 hgr4 h4a c4' em ed
                go_wp2
                go_roundg (gko - 1)
                case measure => have := HJ.out; have := HGK.out; omega
                case rel => exact ⟨j + 1, by have := HJ.out; have := HGK.out; omega, by go_num, hb2, H3C.out, H4C.out⟩
              · have h11' : (((n : Int) % 11) == 0) = false := by simp; omega
                have HW := Lib.hid (show ((mkW n : Nat) : Int) = 1 + (n : Int) / 7 % 50 from by unfold mkW; rw [if_neg h11]; omega)
                clear h11
                have ev3 : EV encG 2 (wo.alloc (.cells #[.int .i64 x, .int .i64 (1 + (n : Int) / 7 % 50)] 38)) (.slice (some ⟨wo.heap.size, 0, none⟩) 1 1) [((x : Int), 1 + (n : Int) / 7 % 50)] := EV.new1 rfl (Nat.le_refl _)
                have h3a := H3.out.alloc (.cells #[.int .i64 x, .int .i64 (1 + (n : Int) / 7 % 50)] 38)
                go_wp2_with (at_builtin; refine wpList_app elemG encG_len encG_one rfl _ _ rfl _ _ rfl rfl h3a ev3 ?q1 ?q2 ?_)
                case q1 => simp; omega
                case q2 => simp; omega
                intro v3' w1 ho3 hgr
                have h4a := (H4.out.alloc (.cells #[.int .i64 x, .int .i64 (1 + (n : Int) / 7 % 50)] 38)).keep hgr HNE.out
                have hb1 : Below w.heap.size w w1 := (HB.out.alloc hsz _).grown hgr (by simp; omega) (fun k hk => (h3a.block k hk).1)
                have hsz1 := hb1.size
                have c4' : w1.cell? ⟨g4, x, none⟩ = some (.int .i64 dx) := by
                  rw [World.ownsRow.cellAt (n := gs.length) (by have := h4a; unfold OV at this; rwa [HL4.out] at this) x (by omega), encI_flat, List.getElem?_map, depsL_get hx, HDD.out]; rfl
                have hdx4 := HDX.out
                rw [HDD.out] at hdx4
                have hne3 := h4a.ne ho3 (by decide)
                have hne3' := ho3.ne h4a (by decide)
                have H3B := Lib.hid ho3
                have HNE3 := Lib.hid hne3'
                clear ho3 hgr h3a ev3 c4 hne3 hne3'
                go_wp2_with (at_builtin; refine wpList_app elemI encI_len encI_one rfl _ _ rfl _ _ rfl rfl (h4a.alloc _) (new_one (z := (dx : Int) + 1)) ?q3 ?q4 ?_)
                case q3 => simp; have := HL4.out; omega
                case q4 => simp; omega
                intro v4' w2 ho4 hgr4
                have h3b := (H3B.out.alloc (.cells #[.int .i64 ((dx : Int) + 1)] 3)).keep hgr4 HNE3.out
                have hb2 : Below w.heap.size w w2 := (hb1.alloc hsz1 _).grown hgr4 (by simp; omega) (fun k hk => (h4a.block k hk).1)
                have em : madeJ ns (j + 1) = gs ++ [((x : Int), 1 + (n : Int) / 7 % 50)] := by
                  rw [HS.out]; unfold made1; rw [← HP.out, HW.out, ← HCX.out]
                have ed : depsL (madeJ ns (j + 1)) = depsL gs ++ [(dx : Int) + 1] := by
                  rw [em, depsL_app HG.out.bef]
                  congr 2
                  have := (gok_app HG.out (p := x) (w := 1 + (n : Int) / 7 % 50) hx (by rw [← HW.out]; exact mkW_ok hn16) HDX.out (by omega)).2
                  rw [this, HDD.out]; simp
                rw [← em] at h3b
                rw [← ed] at ho4
                have H3C := Lib.hid h3b
                have H4C := Lib.hid ho4
                clear h3b ho4 hgr4 h4a c4' em ed
                go_wp2
                go_roundg (gko - 1)
                case measure => have := HJ.out; have := HGK.out; omega
                case rel => exact ⟨j + 1, by have := HJ.out; have := HGK.out; omega, by go_num, hb2, H3C.out, H4C.out⟩
        · have e : madeJ ns j = made ns := by
            have := HJ.out
            unfold madeJ made
            first
              | rw [List.take_of_length_le (show ns.length ≤ j by omega), List.take_of_length_le (show ns.length ≤ 20 by omega)]
              | rw [show j = 20 from by omega]
          rw [e] at h3
          clear hj hb h4 e
          go_wp2
          go_ret
          exact ⟨_, rfl, h3, HB.out⟩
end Go.Proofs.Ytkkmmbmjpfecdaa

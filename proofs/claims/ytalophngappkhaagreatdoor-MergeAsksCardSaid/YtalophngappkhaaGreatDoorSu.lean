/- The reference: borders. -/
import Derived.Test.YtalophngappkhaaGreatDoorSt
set_option linter.unusedVariables false
set_option linter.unusedSimpArgs false
set_option linter.unusedSectionVars false
namespace Go.Proofs.YtalophngappkhaaGreatDoor
open Go.RowKit Go.Shelf

theorem bdr_snoc (l : List (Int × Int)) (r : Int × Int) : bdr (l ++ [r]) = bdr l ++ [r.1, nxt r] := by unfold bdr; rw [List.flatMap_append]; simp
theorem bdr_take {l : List (Int × Int)} {j : Nat} {r : Int × Int} (h : l[j]? = some r) : bdr (l.take (j + 1)) = bdr (l.take j) ++ [r.1, nxt r] := by
  rw [List.take_add_one, h, Option.toList_some, bdr_snoc]
theorem bdr_len (l : List (Int × Int)) : (bdr l).length = 2 * l.length := by
  induction l with
  | nil => rfl
  | cons r l ih => show (r.1 :: nxt r :: bdr l).length = _; simp [ih]; omega
theorem new_ints2 {w : World} {p q : Int} {e : TypeId} : EV encI 1 (w.alloc (.cells #[.int .i64 p, .int .i64 q] e)) (.slice (some ⟨w.heap.size, 0, none⟩) 2 2) [p, q] := EV.newL encI_len rfl rfl (Nat.le_refl _)

theorem filt_lt {last m : Int} (h : last < m) : ∀ {bs : List Int}, m ∈ bs → (bs.filter (fun x => decide (m < x))).length < (bs.filter (fun x => decide (last < x))).length
  | [], hm => by simp at hm
  | y :: bs, hm => by
    have mono : ∀ l : List Int, (l.filter (fun x => decide (m < x))).length ≤ (l.filter (fun x => decide (last < x))).length := fun l => by
      induction l with
      | nil => simp
      | cons z l ih =>
        simp only [List.filter_cons]
        by_cases h1 : m < z
        · rw [if_pos (by simpa using h1), if_pos (by simp; omega)]; simpa using ih
        · rw [if_neg (by simpa using h1)]; split <;> first | (simp only [List.length_cons]; omega) | omega
    simp only [List.filter_cons]
    by_cases hy : y = m
    · subst hy
      rw [if_neg (by simp), if_pos (by simpa using h)]
      have := mono bs; simp only [List.length_cons]; omega
    · have := filt_lt h (bs := bs) (by rcases List.mem_cons.1 hm with e | e; exact absurd e.symm hy; exact e)
      by_cases h1 : m < y
      · rw [if_pos (by simpa using h1), if_pos (by simp; omega)]; simpa using this
      · rw [if_neg (by simpa using h1)]; split <;> first | (simp only [List.length_cons]; omega) | omega
set_option maxRecDepth 100000 in
set_option maxHeartbeats 2000000 in
theorem rborders_ok (w : World) (v u : Value) (a b : List (Int × Int)) (hv : EV encP 2 w v a) (hu : EV encP 2 w u b) (hla : a.length ≤ 65536) (hlb : b.length ≤ 65536) (hca : Can 0 a) (hcb : Can 0 b) :
    Calls Tryz.prog 100 #[v, u] w fun e w' => ∃ r o, e = .returned r ∧ OV encI 1 3 w.heap.size w' r o ∧ o.Pairwise (· < ·) ∧ (∀ x, x ∈ o ↔ x ∈ bdr a ++ bdr b) ∧ o.length ≤ 262144 ∧ Below w.heap.size w w' := by
  obtain ⟨A1, c1, rfl⟩ := hv.shape
  obtain ⟨A2, c2, rfl⟩ := hu.shape
  have HV := Lib.hid hv
  have HU := Lib.hid hu
  have RA := Lib.hid (show ∀ j : Nat, ∀ r : Int × Int, a[j]? = some r → rokB r = true from fun j r hr => can_mem_take (i := j + 1) (can_take hca _) (by omega) hr)
  have RB := Lib.hid (show ∀ j : Nat, ∀ r : Int × Int, b[j]? = some r → rokB r = true from fun j r hr => can_mem_take (i := j + 1) (can_take hcb _) (by omega) hr)
  have BS := Lib.hid (show ∀ x ∈ bdr a ++ bdr b, 1 ≤ x ∧ x ≤ 281474976710657 from fun x hx => by
    rcases List.mem_append.1 hx with hx | hx
    · obtain ⟨r, hr, e⟩ := bdr_mem.1 hx
      obtain ⟨i, hi⟩ := List.getElem?_of_mem hr
      obtain ⟨h1, h2, h3, h4⟩ := rok_iff.1 (RA.out i r hi)
      have : nxt r = r.1 + r.2 := rfl
      omega
    · obtain ⟨r, hr, e⟩ := bdr_mem.1 hx
      obtain ⟨i, hi⟩ := List.getElem?_of_mem hr
      obtain ⟨h1, h2, h3, h4⟩ := rok_iff.1 (RB.out i r hi)
      have : nxt r = r.1 + r.2 := rfl
      omega)
  clear hv hu hca hcb
  go_enter Tryz.func100, Tryz.ntmps100
  go_wp2_with fail
  go_loopg [5, 6] a.length (fun k s i wr => ∃ j : Nat, j + k = a.length ∧ i = .int .i64 j ∧ OV encI 1 3 w.heap.size wr s (bdr (a.take j)) ∧ Below w.heap.size w wr)
  case atStart => exact ⟨0, by omega, rfl, OV.nil _ _, Below.refl _ _⟩
  case round =>
    obtain ⟨j, hj, rfl, ho, hb⟩ := hrel
    have HJ := Lib.hid hj
    have HB := Lib.hid hb
    have HO := Lib.hid ho
    have hsz := hb.size
    clear hj hb ho
    by_cases hlt : j < a.length
    · obtain ⟨bb, ob, cb, hvb, -, rb⟩ := HV.out.row (by omega)
      simp only [Value.slice.injEq] at hvb
      obtain ⟨rfl, -, rfl⟩ := hvb
      obtain ⟨⟨p, q⟩, hr⟩ : ∃ r, a[j]? = some r := ⟨_, List.getElem?_eq_getElem hlt⟩
      obtain ⟨x0, x1⟩ := (rb.below HB.out).prs hr
      dsimp only at x0 x1
      obtain ⟨h1, h2, h3, h4⟩ := rok_iff.1 (RA.out j _ hr)
      dsimp only at h1 h2 h3 h4
      have e4 : IntKind.i64.wrap (p + q) = p + q := IntWalk.i64_in _ (by omega)
      have hl2 : (bdr (a.take j)).length ≤ 131072 := by rw [bdr_len, List.length_take]; omega
      have hd1 : decide (j < a.length) = true := by simp; omega
      have BT := Lib.hid (bdr_take hr)
      clear hr rb
      go_wp2_with fail
      go_region_law (go_loud (refine step_app elemI encI_len encI_one (by rfl) (.tmp 18) (.tmp 35) (by rfl) u5 (.slice (some ⟨wr.heap.size, 0, none⟩) 2 2) (by rfl) (by rfl) (by exact (HO.out.alloc _).drewN _) (by exact (new_ints2 (p := p) (q := p + q))) (by simp; omega) (by simp; omega) ?_; intro v1 w1 o1 g1; have b1 : Below w.heap.size w w1 := (below_drewN (HB.out.alloc hsz _) _).grown g1 (by simp; omega) (fun k hk => (HO.out.block k hk).1); clear g1))
      all_goals
        clear e4
        go_wp2
        go_roundg (gk - 1)
        case measure => have := HJ.out; omega
        case rel => exact ⟨j + 1, by have := HJ.out; omega, by go_num, by rw [BT.out]; exact o1, b1⟩
    · obtain rfl : j = a.length := by have := HJ.out; omega
      have HO2 := Lib.hid (show OV encI 1 3 w.heap.size wr u5 (bdr a) from by have := HO.out; rwa [List.take_of_length_le (by omega)] at this)
      clear HO HJ
      go_wp2_with fail
      go_loopg [5, 7] b.length (fun k s i wr => ∃ j : Nat, j + k = b.length ∧ i = .int .i64 j ∧ OV encI 1 3 w.heap.size wr s (bdr a ++ bdr (b.take j)) ∧ Below w.heap.size w wr)
      case atStart => exact ⟨0, by omega, rfl, by simpa [bdr] using HO2.out, HB.out⟩
      case round =>
        obtain ⟨j, hj, rfl, ho, hb⟩ := hrel
        have HJ := Lib.hid hj
        have HB := Lib.hid hb
        have HO := Lib.hid ho
        have hsz := hb.size
        clear hj hb ho
        by_cases hlt : j < b.length
        · obtain ⟨bb, ob, cb, hvb, -, rb⟩ := HU.out.row (by omega)
          simp only [Value.slice.injEq] at hvb
          obtain ⟨rfl, -, rfl⟩ := hvb
          obtain ⟨⟨p, q⟩, hr⟩ : ∃ r, b[j]? = some r := ⟨_, List.getElem?_eq_getElem hlt⟩
          obtain ⟨x0, x1⟩ := (rb.below HB.out).prs hr
          dsimp only at x0 x1
          obtain ⟨h1, h2, h3, h4⟩ := rok_iff.1 (RB.out j _ hr)
          dsimp only at h1 h2 h3 h4
          have e4 : IntKind.i64.wrap (p + q) = p + q := IntWalk.i64_in _ (by omega)
          have hl2 : (bdr a ++ bdr (b.take j)).length ≤ 262144 := by rw [List.length_append, bdr_len, bdr_len, List.length_take]; omega
          have hd1 : decide (j < b.length) = true := by simp; omega
          have BT := Lib.hid (bdr_take hr)
          clear hr rb
          go_wp2_with fail
          go_region_law (go_loud (refine step_app elemI encI_len encI_one (by rfl) (.tmp 43) (.tmp 60) (by rfl) u5 (.slice (some ⟨wr.heap.size, 0, none⟩) 2 2) (by rfl) (by rfl) (by exact (HO.out.alloc _).drewN _) (by exact (new_ints2 (p := p) (q := p + q))) (by have := hl2; simp at this ⊢; omega) (by simp; omega) ?_; intro v1 w1 o1 g1; have b1 : Below w.heap.size w w1 := (below_drewN (HB.out.alloc hsz _) _).grown g1 (by simp; omega) (fun k hk => (HO.out.block k hk).1); clear g1))
          all_goals
            clear e4
            go_wp2
            go_roundg (gk - 1)
            case measure => have := HJ.out; omega
            case rel => exact ⟨j + 1, by have := HJ.out; omega, by go_num, by rw [BT.out, ← List.append_assoc]; exact o1, b1⟩
        · obtain rfl : j = b.length := by have := HJ.out; omega
          have HO3 := Lib.hid (show OV encI 1 3 w.heap.size wr u5 (bdr a ++ bdr b) from by have := HO.out; rwa [List.take_of_length_le (by omega)] at this)
          clear HO HJ
          have HBR := Lib.hid HB.out
          have hbs1 : ∀ x ∈ bdr a ++ bdr b, 1 ≤ x ∧ x ≤ 281474976710657 := BS.out
          have hbl : (bdr a ++ bdr b).length ≤ 262144 := by rw [List.length_append, bdr_len, bdr_len]; omega
          have hev := HO3.out.ev encI_len
          obtain ⟨bs, hbs⟩ : ∃ bs, bdr a ++ bdr b = bs := ⟨_, rfl⟩
          rw [hbs] at hbs1 hbl hev
          have HBE := Lib.hid hbs
          clear hbs
          obtain ⟨nA, hnA⟩ : ∃ n, bs.length = n := ⟨_, rfl⟩
          have hna : nA ≤ 262144 := by rw [← hnA]; exact hbl
          obtain ⟨A3, c3, he⟩ := hev.shape
          rw [hnA] at he
          subst he
          have hszw := HB.out.size
          have HEV := Lib.hid hev
          have HBS := Lib.hid hbs1
          have HNA := Lib.hid hnA
          clear HO2 HO3 hev hbs1 hnA HB hbl
          obtain ⟨ws, rfl⟩ : ∃ ws, ws = wr := ⟨_, rfl⟩
          go_wp2_with fail
          go_loopg [8, 9, 10, 11] (bs.filter (fun x => decide (0 < x))).length (fun k o la _ _ wn => ∃ (os : List Int) (last : Int), la = .int .i64 last ∧ Asc bs os last ∧ k = (bs.filter (fun x => decide (last < x))).length ∧ os.length + k ≤ 262144 ∧ 0 ≤ last ∧ OV encI 1 3 ws.heap.size wn o os ∧ Below ws.heap.size ws wn)
          case atStart => exact ⟨[], 0, rfl, asc0 (fun x hx => (HBS.out x hx).1), rfl, by
            have := List.length_filter_le (fun x => decide ((0 : Int) < x)) bs
            have := HNA.out
            simp; omega, by omega, OV.nil _ _, Below.refl _ _⟩
          case round =>
            obtain ⟨os, last, rfl, hasc, hk, hln, hl0, ho, hb⟩ := hrel
            have HASC := Lib.hid hasc
            have HK := Lib.hid hk
            have HLN := Lib.hid hln
            have HO := Lib.hid ho
            have HB := Lib.hid hb
            have hszn := hb.size
            clear hasc hk hln ho hb
            go_wp2_with fail
            go_loopg [10, 11] nA (fun k nx i wq => ∃ j : Nat, j + k = nA ∧ i = .int .i64 j ∧ nx = .int .i64 (minG last (bs.take j)) ∧ wr = wq)
            case atStart => exact ⟨0, by omega, rfl, rfl, rfl⟩
            case round =>
              obtain ⟨j, hj, rfl, rfl, rfl⟩ := hrel
              have HJ := Lib.hid hj
              clear hj
              by_cases hlt : j < nA
              · obtain ⟨bb, ob, cb, hvb, -, rb⟩ := (HEV.out.below HB.out).row (by rw [HNA.out]; omega)
                simp only [Value.slice.injEq] at hvb
                obtain ⟨rfl, -, rfl⟩ := hvb
                obtain ⟨x, hx, cx⟩ := rb.get1 (i := j) (by rw [HNA.out]; exact hlt)
                have HM := Lib.hid (show minG last (bs.take (j + 1)) = if last < x ∧ x < minG last (bs.take j) then x else minG last (bs.take j) from by rw [List.take_add_one, hx, Option.toList_some, minG_snoc])
                clear hx rb
                generalize minG last (bs.take j) = m at HM ⊢
                by_cases k1 : last < x
                · by_cases k2 : x < m
                  · have E := Lib.hid (HM.out.trans (if_pos ⟨k1, k2⟩))
                    have d1 : decide (last < x) = true := by rw [decide_eq_true_eq]; exact k1
                    have d2 : decide (x < m) = true := by rw [decide_eq_true_eq]; exact k2
                    go_wp2
                    go_roundg (gk - 1)
                    case measure => have := HJ.out; omega
                    case rel => exact ⟨j + 1, by have := HJ.out; omega, by go_num, by rw [E.out], rfl⟩
                  · have E := Lib.hid (HM.out.trans (if_neg (fun h => k2 h.2)))
                    have d1 : decide (last < x) = true := by rw [decide_eq_true_eq]; exact k1
                    have d2 : decide (x < m) = false := by rw [decide_eq_false_iff_not]; exact k2
                    go_wp2
                    go_roundg (gk - 1)
                    case measure => have := HJ.out; omega
                    case rel => exact ⟨j + 1, by have := HJ.out; omega, by go_num, by rw [E.out], rfl⟩
                · have E := Lib.hid (HM.out.trans (if_neg (fun h => k1 h.1)))
                  have d1 : decide (last < x) = false := by rw [decide_eq_false_iff_not]; exact k1
                  go_wp2
                  go_roundg (gk - 1)
                  case measure => have := HJ.out; omega
                  case rel => exact ⟨j + 1, by have := HJ.out; omega, by go_num, by rw [E.out], rfl⟩
              · have E := Lib.hid (show minG last (bs.take j) = minG last bs from by rw [List.take_of_length_le (by rw [HNA.out]; omega)])
                generalize minG last (bs.take j) = m at E ⊢
                have HSP := Lib.hid (minG_spec last bs)
                by_cases k1 : 281474976710657 < m
                · have d1 : decide (281474976710657 < m) = true := by rw [decide_eq_true_eq]; exact k1
                  have DN := Lib.hid (HASC.out.done (fun x hx => (HBS.out x hx).2) (by rw [← E.out]; omega))
                  have BF := Lib.hid (HBR.out.trans (HB.out.mono hszw))
                  have OF := Lib.hid (HO.out.base_le hszw)
                  go_wp2
                  go_ret
                  exact ⟨_, os, rfl, OF.out, HASC.out.pw, by rw [HBE.out]; exact DN.out, by have := HLN.out; omega, BF.out⟩
                · have d1 : decide (281474976710657 < m) = false := by rw [decide_eq_false_iff_not]; exact k1
                  have ST := Lib.hid (HASC.out.step (by rw [← E.out]; omega))
                  rw [← E.out] at ST
                  have hol : os.length ≤ 262144 := by have := HLN.out; omega
                  go_wp2_with (at_builtin; refine wpList_app elemI encI_len encI_one rfl (.tmp 89) (.tmp 91) rfl _ _ rfl rfl (HO.out.alloc _) (new_one (z := m)) ?q1 ?q2 ?_)
                  case q1 => first | omega | (simp; omega)
                  case q2 => (try simp); omega
                  intro v' x2 o3 g2
                  have b3 := Lib.hid ((HB.out.alloc hszn _).grown g2 (by simp; omega) (fun k hk => (HO.out.block k hk).1))
                  clear g2
                  go_wp2
                  go_roundg (bs.filter (fun x => decide (m < x))).length
                  case measure => rw [HK.out]; exact filt_lt ST.out.2.1 ST.out.2.2
                  case rel => exact ⟨os ++ [m], m, rfl, ST.out.1, rfl, by have := HLN.out; have := HK.out; have := filt_lt ST.out.2.1 ST.out.2.2; simp; omega, by have := ST.out.2.1; omega, o3, b3.out⟩
end Go.Proofs.YtalophngappkhaaGreatDoor

/- The laws' helpers: theirs, same, spoil. -/
import Derived.Test.YtofjgcbjpmgkdaaSe
set_option linter.unusedVariables false
set_option linter.unusedSimpArgs false
set_option linter.unusedSectionVars false
namespace Go.Proofs.Ytofjgcbjpmgkdaa
open Go.RowKit Go.Shelf

theorem new_pair2 {w : World} {p q : Int} {e : TypeId} {m : Nat} (hm : w.heap.size = m) : EV encP 2 (w.alloc (.cells #[.int .i64 p, .int .i64 q] e)) (.slice (some ⟨m, 0, none⟩) 1 1) [(p, q)] := hm ▸ new_pair
set_option maxRecDepth 100000 in
set_option maxHeartbeats 1000000 in
theorem theirs_ok (w : World) (v : Value) (l : List (Int × Int)) (hv : EV encP 2 w v l) (hlen : l.length ≤ 100000000) :
    Calls Try.prog 37 #[v] w fun e w' => ∃ r, e = .returned r ∧ OV encP 2 61 w.heap.size w' r l ∧ Below w.heap.size w w' := by
  obtain ⟨A, c, rfl⟩ := hv.shape
  have HV := Lib.hid hv
  clear hv
  go_enter Try.func37, Try.ntmps37
  go_wp2_with fail
  go_loopg [3, 5, 8] l.length (fun k s _ i wr => ∃ j : Nat, j + k = l.length ∧ i = .int .i64 j ∧ OV encP 2 61 w.heap.size wr s (l.take j) ∧ Below w.heap.size w wr)
  case atStart => exact ⟨0, by omega, rfl, OV.nil _ _, Below.refl _ _⟩
  case round =>
    obtain ⟨j, hj, rfl, ho, hb⟩ := hrel
    have HJ := Lib.hid hj
    have HB := Lib.hid hb
    have HO := Lib.hid ho
    have hsz := hb.size
    clear hj hb ho
    by_cases hlt : j < l.length
    · obtain ⟨bb, ob, cb, hvb, -, rb⟩ := HV.out.row (by omega)
      simp only [Value.slice.injEq] at hvb
      obtain ⟨rfl, -, rfl⟩ := hvb
      obtain ⟨⟨p, q⟩, hr⟩ : ∃ r, l[j]? = some r := ⟨_, List.getElem?_eq_getElem hlt⟩
      obtain ⟨x0, x1⟩ := (rb.below HB.out).prs hr
      dsimp only at x0 x1
      have HT := Lib.hid (show l.take (j + 1) = l.take j ++ [(p, q)] from by rw [List.take_add_one, hr, Option.toList_some])
      clear hr rb
      go_wp2_with (at_builtin; refine wpList_app elemQ encP_len encP_one rfl (.tmp 12) (.tmp 14) rfl _ _ rfl rfl ((HO.out.alloc _).alloc _) (new_pair2 (p := p) (q := q) (World.size_alloc _ _)) ?q1 ?q2 ?_)
      case q1 => simp; omega
      case q2 => (try simp); omega
      intro v' w2 o2 g2
      have b2 := Lib.hid (((HB.out.alloc hsz _).alloc (by simp; omega) _).grown g2 (by simp; omega) (fun k hk => (HO.out.block k hk).1))
      have O2 := Lib.hid o2
      clear g2 o2
      go_wp2
      go_roundg (gk - 1)
      case measure => have := HJ.out; omega
      case rel => exact ⟨j + 1, by have := HJ.out; omega, by go_num, by rw [HT.out]; exact O2.out, b2.out⟩
    · have E := Lib.hid (show l.take j = l from List.take_of_length_le (by omega))
      go_wp2
      go_ret
      exact ⟨_, rfl, by have := HO.out; rwa [E.out] at this, HB.out⟩

set_option maxRecDepth 100000 in
set_option maxHeartbeats 1000000 in
theorem same_ok (w : World) (v u : Value) (l m : List (Int × Int)) (hv : EV encP 2 w v l) (hu : EV encP 2 w u m) (hlen : l.length ≤ 100000000) (hlen2 : m.length ≤ 100000000) :
    Calls Try.prog 38 #[v, u] w fun e w' => e = .returned (.bool (l == m)) ∧ Below w.heap.size w w' := by
  have TH := Lib.hid (theirs_ok w v l hv hlen)
  have HU := Lib.hid hu
  clear hv hu
  go_enter Try.func38, Try.ntmps38
  go_wp2_with fail
  refine TH.out.mono ?_
  rintro e w1 ⟨r, rfl, o1, b1⟩
  have EQ := Lib.hid (equal_ref w1 r u l m (o1.ev encP_len) (HU.out.below b1) (by omega) (by omega))
  clear o1 TH
  go_wp2_with fail
  refine EQ.out.mono ?_
  rintro e w2 ⟨rfl, n, rfl⟩
  have b2 := below_drewN b1 n
  go_wp2
  go_ret
  exact ⟨rfl, b2⟩
theorem same_true (w : World) (v u : Value) (l : List (Int × Int)) (hv : EV encP 2 w v l) (hu : EV encP 2 w u l) (hlen : l.length ≤ 100000000) :
    Calls Try.prog 38 #[v, u] w fun e w' => e = .returned (.bool true) ∧ Below w.heap.size w w' :=
  (same_ok w v u l l hv hu hlen hlen).mono fun e w' h => ⟨by rw [h.1]; simp, h.2⟩

def encW (x : Value × Nat) : List Value := [x.1]
theorem encW_len (x : Value × Nat) : (encW x).length = 1 := rfl
set_option maxRecDepth 100000 in
set_option maxHeartbeats 1000000 in
/-- What spoil may change: the rows that it is handed. -/
theorem spoil_ok (w : World) (v : Value) (rs : List (Value × Nat)) (hv : EV encW 1 w v rs) (hlen : rs.length ≤ 1000) (hw : ∀ r ∈ rs, Wrt 2 w r.1 r.2 ∧ r.2 ≤ 1000000000)
    (hX : ∀ b o n c, v = .slice (some ⟨b, o, none⟩) n c → ∀ r ∈ rs, r.1.ownBlock ≠ some b) :
    Calls Try.prog 39 #[v] w fun e w' => e = .returned (.tuple #[]) ∧ Mod (fun k => ∃ r ∈ rs, r.1.ownBlock = some k) w w' := by
  obtain ⟨A, c, rfl⟩ := hv.shape
  have HV := Lib.hid hv
  have HW := Lib.hid (fun r hr => (hw r hr).1)
  have HN := Lib.hid (fun r hr => (hw r hr).2)
  have HX := Lib.hid hX
  obtain ⟨T, hT⟩ : ∃ T : Nat → Prop, T = fun k => ∃ r ∈ rs, r.1.ownBlock = some k := ⟨_, rfl⟩
  rw [← hT]
  have HT := Lib.hid hT
  clear hv hw hX hT
  go_enter Try.func39, Try.ntmps39
  go_wp2_with fail
  go_loopg [3, 4, 7] rs.length (fun k _ _ i wr => ∃ t : Nat, t + k = rs.length ∧ i = .int .i64 t ∧ (∀ r ∈ rs, Wrt 2 wr r.1 r.2) ∧ Mod T w wr)
  case atStart => exact ⟨0, by omega, rfl, HW.out, Mod.refl _ _⟩
  case round =>
    obtain ⟨t, ht, rfl, haw, hm⟩ := hrel
    have HTT := Lib.hid ht
    have HAW := Lib.hid haw
    have HM := Lib.hid hm
    clear ht haw hm
    by_cases hlt : t < rs.length
    · obtain ⟨b, off, c', hvv, hcc, rr⟩ := HV.out.row (by omega)
      simp only [Value.slice.injEq] at hvv
      obtain ⟨rfl, -, rfl⟩ := hvv
      obtain ⟨⟨rv, rn⟩, hr⟩ : ∃ r, rs[t]? = some r := ⟨_, List.getElem?_eq_getElem hlt⟩
      have hmem := List.mem_of_getElem? hr
      have hcell := HM.out.cell (rr t (rv, rn) hr 0 rv rfl) (fun h => by rw [HT.out] at h; obtain ⟨r, hr, e⟩ := h; exact HX.out b off _ c rfl r hr e)
      simp only [Nat.mul_one, Nat.add_zero] at hcell
      have hwr := HAW.out _ hmem
      have hrn := HN.out _ hmem
      have hTr : ∀ k, rv.ownBlock = some k → T k := fun k hk => by rw [HT.out]; exact ⟨_, hmem, hk⟩
      dsimp only at hwr hrn
      clear hr rr
      rcases hwr with ⟨h0, A, cc, hv⟩ | ⟨h0, g, cc, hv, hwc⟩
      · subst hv
        clear hTr hmem
        go_wp2_with fail
        refine wp_loop_rounds 1 ?_
        rw [rounds_succ]
        go_wp2
        go_roundg (gk - 1)
        case measure => have := HTT.out; omega
        case rel => exact ⟨t + 1, by have := HTT.out; omega, by go_num, HAW.out, HM.out⟩
      · subst hv
        have HTR := Lib.hid (hTr g rfl)
        have HMM := Lib.hid hmem
        clear hTr hwc hmem
        go_wp2_with fail
        go_loopg [4, 13] rn (fun k _ i wq => ∃ q : Nat, q + k = rn ∧ i = .int .i64 q ∧ (∀ r ∈ rs, Wrt 2 wq r.1 r.2) ∧ Mod T w wq)
        case atStart => exact ⟨0, by omega, rfl, HAW.out, HM.out⟩
        case round =>
          obtain ⟨q, hq, rfl, haw, hm⟩ := hrel
          have HQQ := Lib.hid hq
          have HAW := Lib.hid haw
          have HM := Lib.hid hm
          clear hq haw hm hcell
          by_cases hql : q < rn
          · have hww := HAW.out _ HMM.out
            dsimp only at hww
            rcases hww with ⟨h00, _⟩ | ⟨_, g', cc', hv', hwc⟩
            · omega
            · simp only [Value.slice.injEq, Option.some.injEq, Addr.mk.injEq, and_true] at hv'
              obtain ⟨rfl, _, rfl⟩ := hv'
              obtain ⟨⟨u0, hu0⟩, hf0⟩ := hwc (q * 2) (by omega)
              obtain ⟨⟨u1, hu1⟩, hf1⟩ := hwc (q * 2 + 1) (by omega)
              clear hwc
              go_wp2
              go_roundg (gk - 1)
              case measure => have := HQQ.out; omega
              case rel => exact ⟨q + 1, by have := HQQ.out; omega, by go_num, fun r hr => ((HAW.out r hr).setCell _ _).setCell _ _, (HM.out.trans (Mod.setCell _ HTR.out)).trans (Mod.setCell _ HTR.out)⟩
          · go_wp2
            go_roundg (rs.length - (t + 1))
            case measure => have := HTT.out; omega
            case rel => exact ⟨t + 1, by have := HTT.out; omega, by go_num, HAW.out, HM.out⟩
    · go_wp2
      refine bodyPost_end (results_none rfl _ _ _) rfl ?_
      exact ⟨rfl, HM.out⟩
end Go.Proofs.Ytofjgcbjpmgkdaa

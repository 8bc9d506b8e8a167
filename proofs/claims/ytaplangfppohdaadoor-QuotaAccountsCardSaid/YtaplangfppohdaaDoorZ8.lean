/- Contract of quota.look | The map of the uses: its keys, and the families of rows that it holds | The families of rows that the map of the uses holds, and the memory of Account | Marks that loops over functions leave among a call's deferred ones; what a round of Account's closure keeps | What the rounds of Account's closure keep. -/
import Derived.Test.YtaplangfppohdaaDoorZ7
import Derived.Deep.CutBlock
import Derived.DeepKeys4
import Derived.ProofKit
import Derived.RangeFuncBox
set_option linter.unusedVariables false
set_option linter.unusedSimpArgs false
set_option linter.unusedSectionVars false
namespace Go.Proofs.YtaplangfppohdaaDoor
open Go.RowKit Go.Shelf Go.Maps
attribute [local go_sem] Oper.semAt_some

set_option maxRecDepth 100000 in
set_option maxHeartbeats 3200000 in
theorem look_ok' (W0' w : World) (B0 gl c1 g : Nat) (A1 : Option Addr) (lb : Array Value) (vh vl : Value) (hs : List (Int × Int)) (l : List Ev) (J : (Nat → Prop) → List Rn → World → Prop) (X0 : Nat → Prop)
    (hB0 : W0'.heap.size = B0) (R : RanC B0 gl W0' J g lb) (hh : EV encG 2 W0' vh hs) (hl : EV encE 11 W0' vl l) (hU : UsesAt W0') (hj : J X0 [] w) (lh : hs.length ≤ 1000000) (ll : l.length ≤ 1000000) (lg : gl ≤ 100000)
    (ho : ∀ e ∈ l, EvOk e) (hho : ∀ h ∈ hs, (-9223372036854775808 ≤ h.1 ∧ h.1 ≤ 9223372036854775807) ∧ (-9223372036854775808 ≤ h.2 ∧ h.2 ≤ 9223372036854775807)) :
    Calls Tryd.prog 38 #[.slice A1 gl c1, vh, vl, .func (.func g) #[] lb] w (LookPost B0 gl W0' J hs l) := by
  obtain ⟨Ah, ch, rfl⟩ := hh.shape
  obtain ⟨Al, cl, rfl⟩ := hl.shape
  obtain ⟨nh, hnh⟩ : ∃ n, n = hs.length := ⟨_, rfl⟩
  obtain ⟨ne, hne⟩ : ∃ n, n = l.length := ⟨_, rfl⟩
  have HNH := Lib.hid hnh
  have HNE := Lib.hid hne
  have HH := Lib.hid hh
  have HL := Lib.hid hl
  have HLH := Lib.hid lh
  have HLL := Lib.hid ll
  have HLG := Lib.hid lg
  have HU := Lib.hid hU
  have HO := Lib.hid ho
  have HHO := Lib.hid hho
  have HB := Lib.hid hB0
  have HR := Lib.hid R
  have HJ := Lib.hid hj
  have hBw : B0 ≤ w.heap.size := by have := (R.low _ _ _ hj).size; omega
  have NO := Lib.hid (fun (w' : World) h hb => LookPost.no (B0 := B0) (gl := gl) (W0' := W0') (J := J) (hs := hs) (l := l) (w' := w') h hb)
  rw [← hnh, ← hne]
  rw [← hnh] at lh
  rw [← hne] at ll
  clear hh hl hU ho hho hB0 R hj hnh hne
  have hmm := @run_makeMap Tryd.prog
  have HP := Lib.hid (show LookPost B0 gl W0' J hs l = fun r w' => r = .returned (.bool (lookL gl hs l).isSome) ∧ Below B0 W0' w' ∧ ∀ o, lookL gl hs l = some o → ∃ X, J X o w' from rfl)
  generalize LookPost B0 gl W0' J hs l = Post at HP NO ⊢
  go_enter Tryd.func38, Tryd.ntmps38
  go_upto_block 0 with fail
  clear hmm
  obtain ⟨b, hb⟩ : ∃ b, b = w.heap.size := ⟨_, rfl⟩
  have HBB := Lib.hid (show B0 ≤ b ∧ ¬ X0 b from ⟨by omega, fun h => by obtain ⟨_, ob, h2, _⟩ := HR.out.blk _ _ _ HJ.out b h; have := (Array.getElem?_eq_some_iff.1 h2).1; omega⟩)
  have HM0 := Lib.hid (show MpV Tryd.prog 3 (w.alloc (.map #[] 0)) b 0 (mapT fun _ => none) from by rw [mapT_none, hb]; exact MpV.made _ _ _)
  have HJ0 := Lib.hid (HR.out.stay _ _ _ _ (fun _ => False) HJ.out (Mod.alloc (.map #[] 0)) (fun _ h => h.elim))
  rw [← hb]
  clear hb HJ hBw
  generalize w.alloc (.map #[] 0) = w1 at HM0 HJ0 ⊢
  go_cut [22] (fun v wx => ∃ T, homesR gl hs = some T ∧ MpV Tryd.prog 3 wx b nh (mapT T) ∧ J X0 [] wx)
  case first =>
    go_wp2
    go_loopg [22] nh (fun k i wr => ∃ (j : Nat) (T : Int → Option Int), j + k = nh ∧ i = .int .i64 j ∧ homesR gl (hs.take j) = some T ∧ MpV Tryd.prog 3 wr b j (mapT T) ∧ J X0 [] wr)
    case atStart => exact ⟨0, _, by omega, rfl, rfl, HM0.out, HJ0.out⟩
    case round =>
      clear HM0 HJ0
      obtain ⟨j, T, hj, rfl, ht, hm, hjj⟩ := hrel
      have HJ := Lib.hid hj
      have HT := Lib.hid ht
      have HM := Lib.hid hm
      have HJJ := Lib.hid hjj
      have HBW := Lib.hid (HR.out.low _ _ _ hjj)
      clear hj ht hm hjj
      by_cases hlt : j < nh
      · have hev := HH.out.below (HB.out ▸ HBW.out)
        obtain ⟨bb, off, c', hsl, hcc, hrr⟩ := hev.row (by have := HNH.out; omega)
        cases hsl
        obtain ⟨h, hx⟩ : ∃ h, hs[j]? = some h := ⟨_, List.getElem?_eq_getElem (by rw [← HNH.out]; exact hlt)⟩
        have HNX := Lib.hid (fun T' (h' : homeS gl T h = T') => (home_next hx HT.out).trans h')
        obtain ⟨g0, g1⟩ := hrr.grp hx
        have hkr := HHO.out h (List.mem_of_getElem? hx)
        clear hev hrr hcc hx
        obtain ⟨t, gr⟩ := h
        dsimp only at g0 g1 hkr
        have KT := Lib.hid (keyI hkr.1)
        have M1 := Lib.hid (mapT_at T t)
        have HA := Lib.hid (Mod.alloc (T := fun _ => False) (a := wr) (.cells #[.int .i64 t, .int .i64 gr] 61))
        have HM1 := Lib.hid (HM.out.below (bel_alloc wr (.cells #[.int .i64 t, .int .i64 gr] 61)))
        have HJ1 := Lib.hid (HR.out.stay _ _ _ _ (fun _ => False) HJJ.out HA.out (fun _ h => h.elim))
        have HB1 := Lib.hid (HR.out.low _ _ _ HJ1.out)
        have HNM := Lib.hid (show j < maxLen from by have := HJ.out; have := HLH.out; have := HNH.out; unfold maxLen; omega)
        clear hkr HM HJJ
        cases hs1 : T t with
        | some q =>
          have HE := Lib.hid (show lookL gl hs l = none from home_none (HNX.out none (by unfold homeS; rw [if_pos (.inl (by rw [hs1]; rfl))])))
          have M2 : (mapT T (.int .i64 t)).isSome = true := by rw [M1.out.2, hs1]; rfl
          clear hs1
          go_wp2_with (at_lookup; refine wpList_look2V (k := 3) (e := 3) (z := .int .i64 0) rfl _ _ (by rfl) lawI Tryd.underlying148 (zeroI _) (by rfl) HM1.out _ _ (by rfl) KT.out ?_)
          try go_ret
          exact NO.out _ HE.out HB1.out
        | none =>
        have M2 : (mapT T (.int .i64 t)).isSome = false := by rw [M1.out.2, hs1]; rfl
        have HS1 := Lib.hid hs1
        clear hs1
        go_wp2_with (at_lookup; refine wpList_look2V (k := 3) (e := 3) (z := .int .i64 0) rfl _ _ (by rfl) lawI Tryd.underlying148 (zeroI _) (by rfl) HM1.out _ _ (by rfl) KT.out ?_)
        refine (in_ok _ _ _ _).mono ?_
        rintro e w2 ⟨rfl, rfl⟩
        cases h1 : (decide ((1 : Int) ≤ t) && decide (t ≤ 65535)) with
        | false =>
          have HE := Lib.hid (show lookL gl hs l = none from home_none (HNX.out none (by unfold homeS; rw [if_pos (.inr (.inl (by simp at h1 ⊢; omega)))])))
          clear h1
          go_wp2
          try go_ret
          exact NO.out _ HE.out HB1.out
        | true =>
        have H1 := Lib.hid h1
        clear h1
        go_wp2_with fail
        refine (in_ok _ _ _ _).mono ?_
        rintro e w2 ⟨rfl, rfl⟩
        cases h1 : (decide ((0 : Int) ≤ gr) && decide (gr ≤ (gl : Int) - 1)) with
        | false =>
          have HE := Lib.hid (show lookL gl hs l = none from home_none (HNX.out none (by unfold homeS; rw [if_pos (.inr (.inr (by simp at h1 ⊢; omega)))])))
          clear h1
          go_wp2
          try go_ret
          exact NO.out _ HE.out HB1.out
        | true =>
          have HN1 := Lib.hid (show homesR gl (hs.take (j + 1)) = some (updT T t (some gr)) from HNX.out _ (by
            have h2 := H1.out
            simp at h1 h2
            unfold homeS
            rw [if_neg (by rintro (h3 | h3 | h3)
                           · rw [HS1.out] at h3; cases h3
                           · exact h3 h2
                           · exact h3 h1)]))
          clear h1
          go_wp2_with (at_mapUpdate; refine wpList_putV (k := 3) (e := 3) rfl _ _ _ (by rfl) lawI Tryd.underlying148 (by rfl) HM1.out HNM.out _ _ _ (by rfl) (by rfl) KT.out ?_; intro w2 m2 g2)
          have HM2 := Lib.hid (show MpV Tryd.prog 3 w2 b (j + 1) (mapT (updT T t (some gr))) from by rw [← mapT_upd]; exact m2)
          have HJ2 := Lib.hid (HR.out.stay _ _ _ _ (fun k => k = b) HJ1.out (mod_grown g2) (fun k h => h ▸ HBB.out))
          clear m2 g2
          go_wp2
          go_roundg (gk - 1)
          case measure => have := HJ.out; omega
          case rel => exact ⟨j + 1, _, by have := HJ.out; omega, by go_num, HN1.out, HM2.out, HJ2.out⟩
      · obtain rfl : nh = j := by have := HJ.out; omega
        have HT' := Lib.hid (show homesR gl hs = some T from by have := HT.out; rwa [HNH.out, List.take_of_length_le (Nat.le_refl _)] at this)
        clear hlt HT HJ
        go_wp2
        go_meet
        exact ⟨T, HT'.out, HM.out, HJJ.out⟩
  case rest =>
    obtain ⟨T, ht, hm, hjj⟩ := hcut
    have HT' := Lib.hid ht
    have HM := Lib.hid hm
    have HJJ := Lib.hid hjj
    have HBW := Lib.hid (HR.out.low _ _ _ hjj)
    clear ht hm hjj lg HH HHO w1 HM0 HJ0
    refine (‹∀ (a : Act) (w : World), Code.wp _ _ _ a w → _› : ∀ (a : Act) (w : World), _ → _) _ _ ?_
    go_upto_region 11 with fail
    obtain ⟨D, hD⟩ : ∃ D, D = wc.heap.size := ⟨_, rfl⟩
    have HC1 := Lib.hid (show Clk (wc.alloc (.cells #[.int .i64 0, .int .i64 0, .int .i64 0, .int .i64 0, .int .i64 0, .int .i64 0, .int .i64 0, .int .i64 0, .int .i64 0, .int .i64 0, .int .i64 0, .int .i64 0, .int .i64 0, .int .i64 0, .int .i64 0, .int .i64 0, .int .i64 0, .int .i64 0, .int .i64 0, .int .i64 0, .int .i64 0, .int .i64 0, .int .i64 0, .int .i64 0, .int .i64 0, .int .i64 0, .int .i64 0, .int .i64 0, .int .i64 0, .int .i64 0, .int .i64 0, .int .i64 0, .int .i64 0, .int .i64 0, .int .i64 0, .int .i64 0, .int .i64 0, .int .i64 0, .int .i64 0, .int .i64 0, .int .i64 0, .int .i64 0, .int .i64 0, .int .i64 0, .int .i64 0, .int .i64 0, .int .i64 0, .int .i64 0, .int .i64 0, .int .i64 0, .int .i64 0, .int .i64 0, .int .i64 0, .int .i64 0, .int .i64 0, .int .i64 0, .int .i64 0, .int .i64 0, .int .i64 0, .int .i64 0, .int .i64 0, .int .i64 0, .int .i64 0, .int .i64 0] 150)) D (fun _ => 0) from by rw [hD]; exact clk_new rfl)
    have HJ1 := Lib.hid (HR.out.stay _ _ _ (wc.alloc (.cells #[.int .i64 0, .int .i64 0, .int .i64 0, .int .i64 0, .int .i64 0, .int .i64 0, .int .i64 0, .int .i64 0, .int .i64 0, .int .i64 0, .int .i64 0, .int .i64 0, .int .i64 0, .int .i64 0, .int .i64 0, .int .i64 0, .int .i64 0, .int .i64 0, .int .i64 0, .int .i64 0, .int .i64 0, .int .i64 0, .int .i64 0, .int .i64 0, .int .i64 0, .int .i64 0, .int .i64 0, .int .i64 0, .int .i64 0, .int .i64 0, .int .i64 0, .int .i64 0, .int .i64 0, .int .i64 0, .int .i64 0, .int .i64 0, .int .i64 0, .int .i64 0, .int .i64 0, .int .i64 0, .int .i64 0, .int .i64 0, .int .i64 0, .int .i64 0, .int .i64 0, .int .i64 0, .int .i64 0, .int .i64 0, .int .i64 0, .int .i64 0, .int .i64 0, .int .i64 0, .int .i64 0, .int .i64 0, .int .i64 0, .int .i64 0, .int .i64 0, .int .i64 0, .int .i64 0, .int .i64 0, .int .i64 0, .int .i64 0, .int .i64 0, .int .i64 0] 150)) (fun _ => False) HJJ.out (Mod.alloc _) (fun _ h => h.elim))
    have HM1 := Lib.hid (show MpV Tryd.prog 3 (wc.alloc (.cells #[.int .i64 0, .int .i64 0, .int .i64 0, .int .i64 0, .int .i64 0, .int .i64 0, .int .i64 0, .int .i64 0, .int .i64 0, .int .i64 0, .int .i64 0, .int .i64 0, .int .i64 0, .int .i64 0, .int .i64 0, .int .i64 0, .int .i64 0, .int .i64 0, .int .i64 0, .int .i64 0, .int .i64 0, .int .i64 0, .int .i64 0, .int .i64 0, .int .i64 0, .int .i64 0, .int .i64 0, .int .i64 0, .int .i64 0, .int .i64 0, .int .i64 0, .int .i64 0, .int .i64 0, .int .i64 0, .int .i64 0, .int .i64 0, .int .i64 0, .int .i64 0, .int .i64 0, .int .i64 0, .int .i64 0, .int .i64 0, .int .i64 0, .int .i64 0, .int .i64 0, .int .i64 0, .int .i64 0, .int .i64 0, .int .i64 0, .int .i64 0, .int .i64 0, .int .i64 0, .int .i64 0, .int .i64 0, .int .i64 0, .int .i64 0, .int .i64 0, .int .i64 0, .int .i64 0, .int .i64 0, .int .i64 0, .int .i64 0, .int .i64 0, .int .i64 0] 150)) b nh (mapT T) from HM.out.below (bel_alloc wc _))
    have HD := Lib.hid (show B0 ≤ D ∧ ¬ X0 D from ⟨by have := HBW.out.size; have := HB.out; omega, fun h => by obtain ⟨_, ob, h2, _⟩ := HR.out.blk _ _ _ HJJ.out D h; have := (Array.getElem?_eq_some_iff.1 h2).1; omega⟩)
    rw [← hD]
    clear hD HM HJJ HBW
    generalize wc.alloc (.cells #[.int .i64 0, .int .i64 0, .int .i64 0, .int .i64 0, .int .i64 0, .int .i64 0, .int .i64 0, .int .i64 0, .int .i64 0, .int .i64 0, .int .i64 0, .int .i64 0, .int .i64 0, .int .i64 0, .int .i64 0, .int .i64 0, .int .i64 0, .int .i64 0, .int .i64 0, .int .i64 0, .int .i64 0, .int .i64 0, .int .i64 0, .int .i64 0, .int .i64 0, .int .i64 0, .int .i64 0, .int .i64 0, .int .i64 0, .int .i64 0, .int .i64 0, .int .i64 0, .int .i64 0, .int .i64 0, .int .i64 0, .int .i64 0, .int .i64 0, .int .i64 0, .int .i64 0, .int .i64 0, .int .i64 0, .int .i64 0, .int .i64 0, .int .i64 0, .int .i64 0, .int .i64 0, .int .i64 0, .int .i64 0, .int .i64 0, .int .i64 0, .int .i64 0, .int .i64 0, .int .i64 0, .int .i64 0, .int .i64 0, .int .i64 0, .int .i64 0, .int .i64 0, .int .i64 0, .int .i64 0, .int .i64 0, .int .i64 0, .int .i64 0, .int .i64 0] 150) = w4 at HC1 HJ1 HM1 ⊢
    go_cut [15] (fun v wx => v = .int .i64 0 ∧ Clk wx D (fun _ => 0) ∧ J X0 [] wx ∧ MpV Tryd.prog 3 wx b nh (mapT T))
    case first =>
      go_wp2
      go_meet
      exact ⟨rfl, HC1.out, HJ1.out, HM1.out⟩
    case rest =>
      obtain ⟨rfl, hc1, hj1, hm1⟩ := hcut
      have HC1 := Lib.hid hc1
      have HJ1 := Lib.hid hj1
      have HM1 := Lib.hid hm1
      clear hc1 hj1 hm1
      refine (‹∀ (a : Act) (w : World), Code.wp _ _ _ a w → _› : ∀ (a : Act) (w : World), _ → _) _ _ ?_
      exact look_tail W0' wc B0 gl c1 g b D nh ne cl A1 Al lb hs l J X0 T Post HNE HL HLL (Lib.hid lh) HLG HU HO HB HR NO (Lib.hid fun w' X o h1 h2 => by
        rw [HP.out]
        exact ⟨by rw [h1]; rfl, HR.out.low _ _ _ h2, fun o' ho' => by rw [h1] at ho'; cases ho'; exact ⟨X, h2⟩⟩) HBB HT' HD HC1 HJ1 HM1
end Go.Proofs.YtaplangfppohdaaDoor
namespace Go.Proofs.YtaplangfppohdaaDoor
open Go.RowKit Go.Shelf Go.Maps

theorem laidOutQ : laidOutB Tryd.prog = true := by kernel_rfl
theorem rowKey : (102 : TypeId) < Tryd.prog.types.size := of_decide_eq_true (by kernel_rfl)
theorem wideKey : (match Tryd.prog.underlying 102 with | some (.array _ _) | some (.struct _) => true | _ => false) = true := by rw [Tryd.underlying102]
set_option maxRecDepth 100000 in
theorem lawKk : WideMaps.KeyLaw Tryd.prog 102 := deep_law_laid laidOutQ (m := 2) (by omega) rowKey (by kernel_rfl) wideKey
theorem lawK : Keyed Tryd.prog 102 := Keyed.of_law lawKk
theorem deepKey : Tryd.prog.keyType 102 = true := by kernel_rfl
theorem cellsKey : Tryd.prog.cellsOf 102 = 2 := by kernel_rfl
theorem formedKey {a b : Value} : (Value.agg #[a, b]).formed Tryd.prog 102 = true := by simp [Value.formed, Tryd.underlying102, cellsKey]
/-- What the key (i, c) reads as. -/
def kL (i c : Int) : Lit := .string (keyBytes [.int .i64 i, .int .i64 c])
def I64 (z : Int) : Prop := -9223372036854775808 ≤ z ∧ z ≤ 9223372036854775807
theorem wfI {z : Int} (h : I64 z) : (Lit.int .i64 z).wf = true := by unfold I64 at h; simp [Lit.wf, IntKind.min, IntKind.max, IntKind.signed, IntKind.bits]; omega
theorem litsInt {d : Nat} {z : Int} (h : I64 z) : Tryd.prog.keyLits (d + 1) 3 [.int .i64 z] = some [.int .i64 z] := by
  unfold Program.keyLits
  rw [Tryd.underlying3]
  simp [wfI h]
theorem keyK {i c : Int} (hi : I64 i) (hc : I64 c) : keyOf Tryd.prog 102 (.agg #[.int .i64 i, .int .i64 c]) = some (kL i c) := by
  have h2 : Tryd.prog.keyLits (Tryd.prog.types.size + 1) 102 [.int .i64 i, .int .i64 c] = some [.int .i64 i, .int .i64 c] := by
    obtain ⟨n, hn⟩ : ∃ n, Tryd.prog.types.size = n + 1 := by
      cases h : Tryd.prog.types.size with
      | zero => have := rowKey; rw [h] at this; exact absurd this (Nat.not_lt_zero _)
      | succ n => exact ⟨n, rfl⟩
    rw [hn]
    unfold Program.keyLits
    rw [Tryd.underlying102]
    simp [cellsKey, litsInt hi, litsInt hc, show Tryd.prog.cellsOf 3 = 1 from by kernel_rfl]
  unfold keyOf
  rw [Tryd.underlying102]
  show (if (Tryd.prog.keyType 102 && (Value.agg #[.int .i64 i, .int .i64 c]).formed Tryd.prog 102) = true then (Tryd.prog.keyLits (Tryd.prog.types.size + 1) 102 [.int .i64 i, .int .i64 c]).map (fun ls => Lit.string (keyBytes ls)) else none) = _
  rw [if_pos (by rw [deepKey, formedKey]; rfl), h2]
  rfl
theorem kL_inj {i c i' c' : Int} (hi : I64 i) (hc : I64 c) (hi' : I64 i') (hc' : I64 c') (h : kL i c = kL i' c') : i = i' ∧ c = c' := by
  have := lawKk.inj (keyK hi hc) (by rw [h]; exact keyK hi' hc')
  simpa using this
theorem zeroPs (w : World) : (zeroValue 25).run Tryd.prog w = .ok (.slice none 0 0) w := by kernel_rfl
end Go.Proofs.YtaplangfppohdaaDoor
namespace Go.Proofs.YtaplangfppohdaaDoor
open Go.RowKit Go.Shelf Go.Maps

/-- Map F holds, for each key (i, c) whose list is not empty, a row of its own with that list. -/
structure Fam (w : World) (base : Nat) (F : Lit → Option Value) (M : Int → Int → List (Int × Int)) : Prop where
  own : ∀ kl v, F kl = some v → ∃ i c, I64 i ∧ I64 c ∧ kl = kL i c ∧ M i c ≠ [] ∧ OV encG 2 27 base w v (M i c)
  all : ∀ i c, M i c ≠ [] → I64 i ∧ I64 c ∧ ∃ v, F (kL i c) = some v
  dis : ∀ k1 k2 v1 v2, F k1 = some v1 → F k2 = some v2 → k1 ≠ k2 → v1.ownBlock ≠ v2.ownBlock
section
variable {w w' : World} {base : Nat} {F : Lit → Option Value} {M : Int → Int → List (Int × Int)}
theorem Fam.empty (w : World) (base : Nat) : Fam w base (fun _ => none) (fun _ _ => []) := ⟨fun _ _ h => (by cases h), fun _ _ h => absurd rfl h, fun _ _ _ _ h => (by cases h)⟩
theorem Fam.at (h : Fam w base F M) {i c : Int} (hi : I64 i) (hc : I64 c) : OV encG 2 27 base w ((F (kL i c)).getD (.slice none 0 0)) (M i c) := by
  cases hf : F (kL i c) with
  | none =>
    have : M i c = [] := by
      by_cases e : M i c = []
      · exact e
      · obtain ⟨_, _, v, hv⟩ := h.all i c e
        rw [hf] at hv; cases hv
    rw [this]; exact OV.nil _ _
  | some v =>
    obtain ⟨i', c', hi', hc', hk, _, o⟩ := h.own _ _ hf
    obtain ⟨rfl, rfl⟩ := kL_inj hi hc hi' hc' hk
    exact o
theorem Fam.row (h : Fam w base F M) {kl : Lit} {v : Value} (hv : F kl = some v) : ∃ g, v.ownBlock = some g ∧ base ≤ g ∧ ∃ cs, w.heap[g]? = some (.cells cs 27 (0, 0)) := by
  obtain ⟨i, c, _, _, _, hne, o⟩ := h.own _ _ hv
  rcases o.2 with ⟨_, h0⟩ | ⟨g, cap, cur, rfl, hb, hg, _⟩
  · exact absurd (List.eq_nil_of_length_eq_zero h0) hne
  · exact ⟨g, rfl, hb, cur, hg⟩
theorem Fam.same (h : Fam w base F M) (hs : ∀ (g : Nat) (cs : Array Value), w.heap[g]? = some (.cells cs 27 (0, 0)) → w'.heap[g]? = some (.cells cs 27 (0, 0))) : Fam w' base F M := by
  refine ⟨fun kl v hv => ?_, h.all, h.dis⟩
  obtain ⟨i, c, h1, h2, h3, h4, o⟩ := h.own _ _ hv
  refine ⟨i, c, h1, h2, h3, h4, o.1, ?_⟩
  rcases o.2 with h0 | ⟨g, cap, cur, rfl, hb, hg, rest⟩
  · exact .inl h0
  · exact .inr ⟨g, cap, cur, rfl, hb, hs _ _ hg, rest⟩
def updM (M : Int → Int → List (Int × Int)) (i c : Int) (xs : List (Int × Int)) (i' c' : Int) : List (Int × Int) := if i' = i ∧ c' = c then xs else M i' c'
theorem updM_same (M : Int → Int → List (Int × Int)) (i c : Int) : updM M i c (M i c) = M := by
  funext i' c'
  unfold updM
  split
  · rename_i h; rw [h.1, h.2]
  · rfl
theorem updM_twice (M : Int → Int → List (Int × Int)) (i c : Int) (xs ys : List (Int × Int)) : updM (updM M i c xs) i c ys = updM M i c ys := by
  funext i' c'
  unfold updM
  split <;> rfl
theorem updM_at (M : Int → Int → List (Int × Int)) (i c : Int) (xs : List (Int × Int)) : updM M i c xs i c = xs := if_pos ⟨rfl, rfl⟩
/-- Another list at one key. -/
theorem Fam.put (h : Fam w base F M) {i c : Int} (hi : I64 i) (hc : I64 c) {v' : Value} {xs : List (Int × Int)} (ho : OV encG 2 27 base w' v' xs) (hx : xs ≠ [])
    (hg : w.grownBy w' ((F (kL i c)).getD (.slice none 0 0)).ownBlock) (hv : v'.ownBlock = ((F (kL i c)).getD (.slice none 0 0)).ownBlock ∨ ∃ g, v'.ownBlock = some g ∧ w.heap.size ≤ g) : Fam w' base (updF F (kL i c) (some v')) (updM M i c xs) := by
  have hoth : ∀ kl v, kl ≠ kL i c → F kl = some v → v.ownBlock ≠ ((F (kL i c)).getD (.slice none 0 0)).ownBlock := by
    intro kl v hne hv
    cases hf : F (kL i c) with
    | none =>
      obtain ⟨g, hg, _⟩ := h.row hv
      rw [hg]; simp [Value.ownBlock]
    | some v0 => exact h.dis _ _ _ _ hv hf hne
  have hoth' : ∀ kl v, kl ≠ kL i c → F kl = some v → v.ownBlock ≠ v'.ownBlock := by
    intro kl v hne hvv
    rcases hv with e | ⟨g, e, hge⟩
    · rw [e]; exact hoth kl v hne hvv
    · obtain ⟨g', hg', _, cs, hh⟩ := h.row hvv
      rw [hg', e]
      intro e2
      have e3 : g' = g := by simpa using e2
      have := (Array.getElem?_eq_some_iff.1 hh).1
      omega
  refine ⟨fun kl v hvv => ?_, fun i' c' hne => ?_, fun k1 k2 v1 v2 h1 h2 hne => ?_⟩
  · by_cases e : kl = kL i c
    · subst e
      rw [updF_same] at hvv
      cases hvv
      exact ⟨i, c, hi, hc, rfl, by rw [updM_at]; exact hx, by rw [updM_at]; exact ho⟩
    · rw [updF_ne e] at hvv
      obtain ⟨i', c', h1, h2, h3, h4, o⟩ := h.own _ _ hvv
      have hd : ¬ (i' = i ∧ c' = c) := by rintro ⟨rfl, rfl⟩; exact e h3
      have hm : updM M i c xs i' c' = M i' c' := if_neg hd
      exact ⟨i', c', h1, h2, h3, by rw [hm]; exact h4, by rw [hm]; exact o.keep hg (.inr (hoth kl v e hvv))⟩
  · by_cases e : i' = i ∧ c' = c
    · obtain ⟨rfl, rfl⟩ := e
      exact ⟨hi, hc, v', updF_same⟩
    · have hm : updM M i c xs i' c' = M i' c' := if_neg e
      rw [hm] at hne
      obtain ⟨h1, h2, v, hv2⟩ := h.all _ _ hne
      refine ⟨h1, h2, v, ?_⟩
      rw [updF_ne (fun hk => e (kL_inj h1 h2 hi hc hk))]
      exact hv2
  · by_cases e1 : k1 = kL i c
    · subst e1
      rw [updF_same] at h1
      cases h1
      rw [updF_ne (fun h => hne h.symm)] at h2
      exact (hoth' k2 v2 (fun h => hne h.symm) h2).symm
    · rw [updF_ne e1] at h1
      by_cases e2 : k2 = kL i c
      · subst e2
        rw [updF_same] at h2
        cases h2
        exact hoth' k1 v1 e1 h1
      · rw [updF_ne e2] at h2
        exact h.dis _ _ _ _ h1 h2 hne
end
/-- The memory of Account while it goes through a trace. -/
structure AccW (B0 : Nat) (W0' : World) (gl rl c1 c2 : Nat) (A1 A2 : Option Addr) (G0 R0 A0 U0 Mb all N : Nat) (M : Int → Int → List (Int × Int)) (F : Lit → Option Value) (w : World) : Prop where
  low : Below B0 W0' w
  bs : B0 ≤ G0 ∧ B0 ≤ R0 ∧ B0 ≤ A0 ∧ B0 ≤ U0 ∧ B0 ≤ Mb
  g0 : Boxed w G0 37 (.slice A1 gl c1)
  r0 : Boxed w R0 42 (.slice A2 rl c2)
  a0 : Boxed w A0 3 (.int .i64 all)
  u0 : Boxed w U0 98 (.map (some Mb))
  mp : MpV Tryd.prog 102 w Mb N F
  fam : all ≤ 65536 → Fam w B0 F M
/-- The blocks of Account that may be written. -/
def XS (G0 R0 A0 U0 Mb all : Nat) (F : Lit → Option Value) (k : Nat) : Prop := k = G0 ∨ k = R0 ∨ k = A0 ∨ k = U0 ∨ k = Mb ∨ (all ≤ 65536 ∧ ∃ kl v, F kl = some v ∧ v.ownBlock = some k)
section
variable {B0 : Nat} {W0' w w' : World} {gl rl c1 c2 : Nat} {A1 A2 : Option Addr} {G0 R0 A0 U0 Mb all N : Nat} {M : Int → Int → List (Int × Int)} {F : Lit → Option Value}
theorem AccW.blk (h : AccW B0 W0' gl rl c1 c2 A1 A2 G0 R0 A0 U0 Mb all N M F w) : ∀ k, XS G0 R0 A0 U0 Mb all F k → B0 ≤ k ∧ ∃ ob, w.heap[k]? = some ob ∧ isBook ob = false := by
  obtain ⟨b1, b2, b3, b4, b5⟩ := h.bs
  rintro k (rfl | rfl | rfl | rfl | rfl | ⟨ha, kl, v, hv, ho⟩)
  · exact ⟨b1, _, h.g0, rfl⟩
  · exact ⟨b2, _, h.r0, rfl⟩
  · exact ⟨b3, _, h.a0, rfl⟩
  · exact ⟨b4, _, h.u0, rfl⟩
  · obtain ⟨D, ⟨es, clock, h1, _⟩, _⟩ := h.mp
    exact ⟨b5, _, h1, rfl⟩
  · obtain ⟨g, hg, hb, cs, hh⟩ := (h.fam ha).row hv
    rw [hg] at ho; cases ho
    exact ⟨hb, _, hh, rfl⟩
theorem AccW.keep (h : AccW B0 W0' gl rl c1 c2 A1 A2 G0 R0 A0 U0 Mb all N M F w) (hl : Below B0 W0' w') (hk : ∀ k, XS G0 R0 A0 U0 Mb all F k → w'.heap[k]? = w.heap[k]?) : AccW B0 W0' gl rl c1 c2 A1 A2 G0 R0 A0 U0 Mb all N M F w' where
  low := hl
  bs := h.bs
  g0 := (hk _ (.inl rfl)).trans h.g0
  r0 := (hk _ (.inr (.inl rfl))).trans h.r0
  a0 := (hk _ (.inr (.inr (.inl rfl)))).trans h.a0
  u0 := (hk _ (.inr (.inr (.inr (.inl rfl))))).trans h.u0
  mp := h.mp.same (hk _ (.inr (.inr (.inr (.inr (.inl rfl))))))
  fam := fun ha => by
    refine ⟨fun kl v hv => ?_, (h.fam ha).all, (h.fam ha).dis⟩
    obtain ⟨i, c, h1, h2, h3, h4, o⟩ := (h.fam ha).own _ _ hv
    exact ⟨i, c, h1, h2, h3, h4, o.same fun g ob hg hh => (hk g (.inr (.inr (.inr (.inr (.inr ⟨ha, kl, v, hv, hg⟩)))))).trans hh⟩
theorem AccW.mod (h : AccW B0 W0' gl rl c1 c2 A1 A2 G0 R0 A0 U0 Mb all N M F w) (hB : W0'.heap.size = B0) {T : Nat → Prop} (hm : Mod T w w') (hT : ∀ k, T k → B0 ≤ k ∧ ¬ XS G0 R0 A0 U0 Mb all F k) : AccW B0 W0' gl rl c1 c2 A1 A2 G0 R0 A0 U0 Mb all N M F w' :=
  h.keep (h.low.trans (hm.below (fun k hk ht => by have := (hT k ht).1; omega) (by have := h.low.size; omega))) (fun k hk => by
    obtain ⟨_, ob, ho, _⟩ := h.blk k hk
    exact hm.block k (Array.getElem?_eq_some_iff.1 ho).1 (fun ht => (hT k ht).2 hk))
theorem AccW.chg (h : AccW B0 W0' gl rl c1 c2 A1 A2 G0 R0 A0 U0 Mb all N M F w) (hB : W0'.heap.size = B0) {B : Nat} (hc : Chg B (fun _ => False) w w') (hBB : B0 ≤ B) : AccW B0 W0' gl rl c1 c2 A1 A2 G0 R0 A0 U0 Mb all N M F w' :=
  h.keep (hc.below h.low (by omega) hBB (fun k t => t.elim)) (fun k hk => by
    obtain ⟨_, ob, ho, hb⟩ := h.blk k hk
    rw [ho]
    exact hc.block k ob ho (fun t => t) (.inr hb))
theorem AccW.map_ne (h : AccW B0 W0' gl rl c1 c2 A1 A2 G0 R0 A0 U0 Mb all N M F w) {g : Nat} {cs : Array Value} {e : TypeId} {fz : Nat × Nat} (hg : w.heap[g]? = some (.cells cs e fz)) : g ≠ Mb := h.mp.ne_cells hg
/-- Another sum. -/
theorem AccW.sum (h : AccW B0 W0' gl rl c1 c2 A1 A2 G0 R0 A0 U0 Mb all N M F w) {all' : Nat} (ha : all ≤ all') : AccW B0 W0' gl rl c1 c2 A1 A2 G0 R0 A0 U0 Mb all' N M F (w.setCell ⟨A0, 0, none⟩ (.int .i64 all')) where
  low := h.low.setCell (p := ⟨A0, 0, none⟩) h.bs.2.2.1 _
  bs := h.bs
  g0 := h.g0.setOther (fun e => by have h1 := h.g0; rw [show G0 = A0 from e] at h1; have h2 := h1.symm.trans h.a0; simp at h2)
  r0 := h.r0.setOther (fun e => by have h1 := h.r0; rw [show R0 = A0 from e] at h1; have h2 := h1.symm.trans h.a0; simp at h2)
  a0 := h.a0.set _
  u0 := h.u0.setOther (fun e => by have h1 := h.u0; rw [show U0 = A0 from e] at h1; have h2 := h1.symm.trans h.a0; simp at h2)
  mp := h.mp.setCell (p := ⟨A0, 0, none⟩) (h.mp.ne_cells (show w.heap[A0]? = _ from h.a0)) _
  fam := fun ha' => (h.fam (by omega)).same fun g cs hg => (Below.heap_setCell _ _ _ _ (fun e => by
    have e' : g = A0 := e
    subst e'
    have := hg.symm.trans h.a0
    simp at this)).trans hg
theorem AccW.rows_ne (h : AccW B0 W0' gl rl c1 c2 A1 A2 G0 R0 A0 U0 Mb all N M F w) (ha : all ≤ 65536) {kl : Lit} {g : Nat} (hg : ((F kl).getD (.slice none 0 0)).ownBlock = some g) : B0 ≤ g ∧ ∃ cs, w.heap[g]? = some (.cells cs 27 (0, 0)) := by
  cases hf : F kl with
  | none => rw [hf] at hg; cases hg
  | some v =>
    rw [hf] at hg
    obtain ⟨g', h1, h2, h3⟩ := (h.fam ha).row hf
    have : g' = g := by simpa [h1] using hg
    subst this
    exact ⟨h2, h3⟩
/-- A part added: the row, then the map. -/
theorem AccW.add (h : AccW B0 W0' gl rl c1 c2 A1 A2 G0 R0 A0 U0 Mb all N M F w) (hB : W0'.heap.size = B0) (ha : all ≤ 65536) {i c : Int} (hi : I64 i) (hc : I64 c) {v' : Value} {xs : List (Int × Int)} {w2 : World}
    (ho : OV encG 2 27 B0 w' v' xs) (hx : xs ≠ []) (hg : w.grownBy w' ((F (kL i c)).getD (.slice none 0 0)).ownBlock) (hv : v'.ownBlock = ((F (kL i c)).getD (.slice none 0 0)).ownBlock ∨ ∃ g, v'.ownBlock = some g ∧ w.heap.size ≤ g)
    (hm : MpV Tryd.prog 102 w2 Mb (N + 1) (updF F (kL i c) (some v'))) (hg2 : w'.grownBy w2 (some Mb)) :
    AccW B0 W0' gl rl c1 c2 A1 A2 G0 R0 A0 U0 Mb all (N + 1) (updM M i c xs) (updF F (kL i c) (some v')) w2 := by
  have hrow : ∀ g, ((F (kL i c)).getD (.slice none 0 0)).ownBlock = some g → B0 ≤ g ∧ ∃ cs, w.heap[g]? = some (.cells cs 27 (0, 0)) := fun g hg => h.rows_ne ha hg
  have kp : ∀ {k : Nat} {cs : Array Value} {t : TypeId} {fz : Nat × Nat}, t ≠ 27 → w.heap[k]? = some (.cells cs t fz) → w2.heap[k]? = some (.cells cs t fz) := by
    intro k cs t fz ht hk
    have h1 : w'.heap[k]? = some (.cells cs t fz) := (hg.block k (Array.getElem?_eq_some_iff.1 hk).1 (fun e => by
      obtain ⟨_, cs', hh⟩ := hrow k e.symm
      rw [hk] at hh; simp at hh; exact ht hh.2.1)).trans hk
    refine (hg2.block k (Array.getElem?_eq_some_iff.1 h1).1 (fun e => ?_)).trans h1
    have : k = Mb := by simpa using e
    exact h.mp.ne_cells hk this
  have f1 := (h.fam ha).put hi hc ho hx hg hv
  refine ⟨?_, h.bs, kp (by decide) h.g0, kp (by decide) h.r0, kp (by decide) h.a0, kp (by decide) h.u0, hm, fun _ => f1.same fun g cs hgg => ?_⟩
  · have l1 := h.low.grown hg (by have := h.low.size; omega) (fun k hk => (hrow k hk).1)
    exact l1.grown hg2 (by have := l1.size; omega) (fun k hk => by cases hk; exact h.bs.2.2.2.2)
  · refine (hg2.block g (Array.getElem?_eq_some_iff.1 hgg).1 (fun e => ?_)).trans hgg
    have : g = Mb := by simpa using e
    subst this
    obtain ⟨D, ⟨es, clock, h1, _⟩, _⟩ := h.mp
    have hlt := (Array.getElem?_eq_some_iff.1 h1).1
    have h2 := (hg.block g hlt (fun e => by obtain ⟨_, cs', hh⟩ := hrow g e.symm; rw [h1] at hh; cases hh)).trans h1
    rw [h2] at hgg; cases hgg
end
end Go.Proofs.YtaplangfppohdaaDoor
namespace Go.Proofs.YtaplangfppohdaaDoor
open Go.RowKit Go.Shelf Go.Maps

/-- The marks that stand in the blocks Ds. -/
def markD (D : Nat) : Deferred := { target := .collected D, args := #[] }
def Marks (Ds : List Nat) (w : World) : Prop := Ds.Nodup ∧ ∀ D ∈ Ds, w.heap[D]? = some (.deferred (some []))
theorem Marks.nil (w : World) : Marks [] w := ⟨List.nodup_nil, fun _ h => by cases h⟩
theorem Marks.cons {Ds : List Nat} {w : World} {D : Nat} (h : Marks Ds w) (hD : w.heap[D]? = some (.deferred (some []))) (hn : D ∉ Ds) : Marks (D :: Ds) w :=
  ⟨List.nodup_cons.2 ⟨hn, h.1⟩, fun d hd => by rcases List.mem_cons.1 hd with rfl | hd; exact hD; exact h.2 d hd⟩
theorem Marks.same {Ds : List Nat} {w w' : World} (h : Marks Ds w) (hs : ∀ D ∈ Ds, w'.heap[D]? = w.heap[D]?) : Marks Ds w' := ⟨h.1, fun D hD => (hs D hD).trans (h.2 D hD)⟩
theorem leaves_marks {P : Program} {fn : Func} {R : Ending → World → Prop} {tmps : Array Value} {v : Value} (hr : ∀ w', (results fn tmps).run P w' = .ok v w') :
    ∀ (Ds : List Nat) (w : World), Marks Ds w → (∀ w', Mod (fun k => k ∈ Ds) w w' → R (.returned v) w') → LeavesInM W0 0 P fn tmps R (Ds.map markD) .returning w
  | [], w, _, hR => ⟨v, hr _, hR _ (Mod.refl _ _)⟩
  | D :: Ds, w, hm, hR => by
    refine ⟨by simp, .inl ⟨D, _, rfl, run_takeDeferred (hm.2 D (by simp)), ?_⟩⟩
    have hnd := List.nodup_cons.1 hm.1
    refine leaves_marks hr Ds _ ⟨hnd.2, fun d hd => ?_⟩ (fun w' hw => hR w' ?_)
    · exact (World.putObj_heap_other (show d ≠ D from fun e => hnd.1 (e ▸ hd))).trans (hm.2 d (by simp [hd]))
    · refine Mod.trans (b := w.putObj D (.deferred none)) ⟨rfl, rfl, rfl, by simp, fun k hk hn => World.putObj_heap_other (fun e => hn (by rw [e]; simp))⟩ (hw.weaken (fun k _ h => by simp [h]))

/-- What stands at each key once i rules have taken the tick t. -/
def Mi (gs : List (Int × Int)) (rs : List Ru) (o : List Rn) (t : Rn) (i : Nat) (i' c' : Int) : List (Int × Int) :=
  if 0 ≤ i' ∧ i' < rs.length ∧ 0 ≤ c' ∧ c' < 64 then usedAt gs (ruAt rs i'.toNat) c' (if i' < i then o ++ [t] else o) else []
def Mf (gs : List (Int × Int)) (rs : List Ru) (o : List Rn) (i' c' : Int) : List (Int × Int) := if 0 ≤ i' ∧ i' < rs.length ∧ 0 ≤ c' ∧ c' < 64 then usedAt gs (ruAt rs i'.toNat) c' o else []
section
variable {gs : List (Int × Int)} {rs : List Ru} {o : List Rn} {t : Rn} {i : Nat}
theorem Mi_zero : Mi gs rs o t 0 = Mf gs rs o := by
  funext i' c'
  unfold Mi Mf
  split
  · rename_i h; rw [if_neg (by omega)]
  · rfl
theorem Mi_end : Mi gs rs o t rs.length = Mf gs rs (o ++ [t]) := by
  funext i' c'
  unfold Mi Mf
  split
  · rename_i h; rw [if_pos (by omega)]
  · rfl
theorem Mi_skip (h : hitB gs (ruAt rs i) t = false) : Mi gs rs o t (i + 1) = Mi gs rs o t i := by
  funext i' c'
  unfold Mi
  split
  · rename_i h1
    by_cases e : i' < i
    · rw [if_pos (by omega), if_pos e]
    · rw [if_neg e]
      by_cases e2 : i' < ((i + 1 : Nat) : Int)
      · rw [if_pos e2]
        have : i'.toNat = i := by omega
        rw [this, usedAt_snoc, useStep, if_neg (by rw [h]; simp)]
      · rw [if_neg e2]
  · rfl
theorem Mi_hit (hi : i < rs.length) (hc : 0 ≤ t.cpu ∧ t.cpu < 64) (h : hitB gs (ruAt rs i) t = true) : Mi gs rs o t (i + 1) = updM (Mi gs rs o t i) i t.cpu (addsP (usedAt gs (ruAt rs i) t.cpu o) (tickP (ruAt rs i) t)) := by
  funext i' c'
  unfold updM
  split
  · rename_i e
    obtain ⟨rfl, rfl⟩ := e
    unfold Mi
    rw [if_pos (by omega), if_pos (by omega), usedAt_snoc, useStep, if_pos ⟨rfl, by rw [Int.toNat_natCast]; exact h⟩, Int.toNat_natCast]
  · rename_i e
    unfold Mi
    split
    · rename_i h1
      by_cases e1 : i' < i
      · rw [if_pos (by omega), if_pos e1]
      · rw [if_neg e1]
        by_cases e2 : i' < ((i + 1 : Nat) : Int)
        · rw [if_pos e2]
          have h2 : i'.toNat = i := by omega
          have h3 : i' = i := by omega
          rw [h2, usedAt_snoc, useStep, if_neg (fun hh => e ⟨h3, hh.1.symm⟩)]
        · rw [if_neg e2]
    · rfl
theorem Mi_at (hi : i < rs.length) (hc : 0 ≤ t.cpu ∧ t.cpu < 64) : Mi gs rs o t i i t.cpu = usedAt gs (ruAt rs i) t.cpu o := by
  unfold Mi
  rw [if_pos (by omega), if_neg (by omega), Int.toNat_natCast]
theorem cntT_take {j : Nat} (hj : j < rs.length) : cntT gs (rs.take (j + 1)) t = cntT gs (rs.take j) t + if hitB gs (ruAt rs j) t = true then tickN (ruAt rs j) t else 0 := by
  rw [List.take_add_one, ru_get hj]
  simp only [Option.toList_some]
  exact cntT_snoc _ _ _ _
theorem tickN_pos (r : Ru) (t : Rn) : 1 ≤ tickN r t := by unfold tickN manyN; omega
theorem snoc_ind {α : Type} {p : List α → Prop} (h0 : p []) (h1 : ∀ l x, p l → p (l ++ [x])) : ∀ l, p l := fun l => by
  rw [← List.reverse_reverse l]
  induction l.reverse with
  | nil => exact h0
  | cons x r ih => rw [List.reverse_cons]; exact h1 _ _ ih
theorem cntT_ge {i : Nat} (hi : i < rs.length) (h : hitB gs (ruAt rs i) t = true) : tickN (ruAt rs i) t ≤ cntT gs rs t := by
  unfold cntT
  have hm : (if hitB gs (ruAt rs i) t = true then tickN (ruAt rs i) t else 0) ∈ rs.map (fun r => if hitB gs r t = true then tickN r t else 0) := List.mem_map.2 ⟨ruAt rs i, List.mem_of_getElem? (ru_get hi), rfl⟩
  rw [if_pos h] at hm
  generalize rs.map (fun r => if hitB gs r t = true then tickN r t else 0) = L at hm
  clear h hi
  induction L with
  | nil => cases hm
  | cons x r ih =>
    rw [List.sum_cons]
    rcases List.mem_cons.1 hm with e | e
    · omega
    · have := ih e; omega
theorem used_len {i : Nat} (hi : i < rs.length) (c : Int) (o : List Rn) : (usedAt gs (ruAt rs i) c o).length ≤ allN gs rs o := by
  refine snoc_ind (p := fun o => (usedAt gs (ruAt rs i) c o).length ≤ allN gs rs o) (by simp [usedAt]) (fun l t ih => ?_) o
  rw [usedAt_snoc, allN_snoc]
  unfold useStep
  split
  · rename_i h
    have h1 := addsP_len (usedAt gs (ruAt rs i) c l) (tickP (ruAt rs i) t)
    rw [tickP_len] at h1
    have h2 := cntT_ge (t := t) hi h.2
    omega
  · omega
end
end Go.Proofs.YtaplangfppohdaaDoor
namespace Go.Proofs.YtaplangfppohdaaDoor
open Go.RowKit Go.Shelf Go.Maps

theorem boxed_newM {w : World} {m : Nat} {t : TypeId} {v : Value} (hm : m = w.heap.size) : Boxed (w.alloc (.cells #[v] t)) m t v := by subst hm; exact World.alloc_heap_new w _
/-- The memory of Account, and what its closure has of its own. -/
structure RuG (W0' w0 : World) (B0 gl rl c1 c2 : Nat) (A1 A2 : Option Addr) (G0 R0 A0 U0 Mb S1 all Nmax : Nat) (M : Int → Int → List (Int × Int)) (X : Nat → Prop) (E : Nat) (ev : Array Value) (vp : Value) (pl : List Int) (Ds : List Nat) (wr : World) (F : Lit → Option Value) (N : Nat) : Prop where
  n1 : N ≤ 65536
  n2 : all ≤ 65536 → N ≤ Nmax
  acc : AccW B0 W0' gl rl c1 c2 A1 A2 G0 R0 A0 U0 Mb all N M F wr
  md : Mod X w0 wr
  loc : all ≤ 65536 → ∀ kl v g, F kl = some v → v.ownBlock = some g → X g ∨ w0.heap.size ≤ g
  ev : wr.heap[E]? = some (.cells ev 59 (0, 0))
  pth : OV encI 1 3 S1 wr vp pl
  mrk : Marks Ds wr ∧ ∀ D ∈ Ds, w0.heap.size ≤ D
section
variable {W0' w0 wr w' : World} {B0 gl rl c1 c2 : Nat} {A1 A2 : Option Addr} {G0 R0 A0 U0 Mb S1 all Nmax : Nat} {M : Int → Int → List (Int × Int)} {X : Nat → Prop} {E : Nat} {ev : Array Value} {vp : Value} {pl : List Int} {Ds : List Nat} {F : Lit → Option Value} {N : Nat}
theorem Marks.lt {w : World} (h : Marks Ds w) : ∀ D ∈ Ds, D < w.heap.size := fun D hD => (Array.getElem?_eq_some_iff.1 (h.2 D hD)).1
theorem RuG.chg (h : RuG W0' w0 B0 gl rl c1 c2 A1 A2 G0 R0 A0 U0 Mb S1 all Nmax M X E ev vp pl Ds wr F N) (hB : W0'.heap.size = B0) {B : Nat} (hc : Chg B (fun _ => False) wr w') (h1 : B0 ≤ B) (h2 : w0.heap.size ≤ B) (hD : ∀ D ∈ Ds, D < B) :
    RuG W0' w0 B0 gl rl c1 c2 A1 A2 G0 R0 A0 U0 Mb S1 all Nmax M X E ev vp pl Ds w' F N where
  n1 := h.n1
  n2 := h.n2
  acc := h.acc.chg hB hc h1
  md := Chg.mod (B := B) ⟨hc.os, hc.tape, hc.output, hc.size, fun k o ho _ hb => hc.block k o ho (fun t => t) hb⟩ h.md h2
  loc := h.loc
  ev := hc.cells h.ev (fun t => t)
  pth := h.pth.chg hc (fun _ _ t => t)
  mrk := ⟨h.mrk.1.same fun D hd => by rw [h.mrk.1.2 D hd]; exact hc.block D _ (h.mrk.1.2 D hd) (fun t => t) (.inl (hD D hd)), h.mrk.2⟩
theorem RuG.below (h : RuG W0' w0 B0 gl rl c1 c2 A1 A2 G0 R0 A0 U0 Mb S1 all Nmax M X E ev vp pl Ds wr F N) (hB : W0'.heap.size = B0) (hb : Below wr.heap.size wr w') :
    RuG W0' w0 B0 gl rl c1 c2 A1 A2 G0 R0 A0 U0 Mb S1 all Nmax M X E ev vp pl Ds w' F N :=
  h.chg hB (B := wr.heap.size) (Chg.of_mod (.of_below hb)) (by have := h.acc.low.size; omega) h.md.size h.mrk.1.lt
theorem RuG.sum (h : RuG W0' w0 B0 gl rl c1 c2 A1 A2 G0 R0 A0 U0 Mb S1 all Nmax M X E ev vp pl Ds wr F N) {all' : Nat} (ha : all ≤ all') (hX : X A0) (hS : A0 < S1) (hE : E ≠ A0) :
    RuG W0' w0 B0 gl rl c1 c2 A1 A2 G0 R0 A0 U0 Mb S1 all' Nmax M X E ev vp pl Ds (wr.setCell ⟨A0, 0, none⟩ (.int .i64 all')) F N where
  n1 := h.n1
  n2 := fun h' => h.n2 (by omega)
  acc := h.acc.sum ha
  md := h.md.trans (Mod.setCell _ hX)
  loc := fun h' => h.loc (by omega)
  ev := (Below.heap_setCell _ _ _ _ hE).trans h.ev
  pth := h.pth.same fun g o hg ho => (Below.heap_setCell _ _ _ _ (fun e => by have := (h.pth.block g hg).1; have e' : g = A0 := e; omega)).trans ho
  mrk := ⟨h.mrk.1.same fun D hd => Below.heap_setCell _ _ _ _ (fun e => by
    have e' : D = A0 := e
    have h1 := h.mrk.1.2 D hd
    rw [e'] at h1
    have := h1.symm.trans h.acc.a0
    cases this), h.mrk.2⟩
theorem RuG.add (h : RuG W0' w0 B0 gl rl c1 c2 A1 A2 G0 R0 A0 U0 Mb S1 all Nmax M X E ev vp pl Ds wr F N) (hB : W0'.heap.size = B0) (ha : all ≤ 65536) (hN : Nmax < 65536) (hXM : X Mb) {i c : Int} (hi : I64 i) (hc : I64 c) {v' : Value} {xs : List (Int × Int)} {w1 w2 : World}
    (ho : OV encG 2 27 B0 w1 v' xs) (hx : xs ≠ []) (hg : wr.grownBy w1 ((F (kL i c)).getD (.slice none 0 0)).ownBlock) (hv : v'.ownBlock = ((F (kL i c)).getD (.slice none 0 0)).ownBlock ∨ ∃ g, v'.ownBlock = some g ∧ wr.heap.size ≤ g)
    (hm : MpV Tryd.prog 102 w2 Mb (N + 1) (updF F (kL i c) (some v'))) (hg2 : w1.grownBy w2 (some Mb)) :
    RuG W0' w0 B0 gl rl c1 c2 A1 A2 G0 R0 A0 U0 Mb S1 all (Nmax + 1) (updM M i c xs) X E ev vp pl Ds w2 (updF F (kL i c) (some v')) (N + 1) := by
  have hrow : ∀ g, ((F (kL i c)).getD (.slice none 0 0)).ownBlock = some g → B0 ≤ g ∧ ∃ cs, wr.heap[g]? = some (.cells cs 27 (0, 0)) := fun g hg => h.acc.rows_ne ha hg
  have hloc0 : ∀ g, ((F (kL i c)).getD (.slice none 0 0)).ownBlock = some g → X g ∨ w0.heap.size ≤ g := by
    intro g hgg
    cases hf : F (kL i c) with
    | none => rw [hf] at hgg; cases hgg
    | some v => rw [hf] at hgg; exact h.loc ha _ _ _ hf hgg
  have keep : ∀ {k : Nat} {o : Obj}, wr.heap[k]? = some o → (∀ cs, o ≠ .cells cs 27 (0, 0)) → k ≠ Mb → w2.heap[k]? = some o := by
    intro k o hk ht hM
    have h1 : w1.heap[k]? = some o := (hg.block k (Array.getElem?_eq_some_iff.1 hk).1 (fun e => by
      obtain ⟨_, cs', hh⟩ := hrow k e.symm
      rw [hk] at hh; exact ht _ (Option.some.inj hh))).trans hk
    exact (hg2.block k (Array.getElem?_eq_some_iff.1 h1).1 (fun e => hM (by simpa using e))).trans h1
  have hMb : ∃ es clock, wr.heap[Mb]? = some (.map es clock) := by obtain ⟨D, ⟨es, clock, h1, _⟩, _⟩ := h.acc.mp; exact ⟨es, clock, h1⟩
  refine ⟨by have := h.n2 ha; omega, fun _ => by have := h.n2 ha; omega, h.acc.add hB ha hi hc ho hx hg hv hm hg2, ?_, fun _ kl v g hvv hgg => ?_, ?_, ?_, ?_, h.mrk.2⟩
  · have m1 : Mod X w0 w1 := h.md.trans_new (T' := fun k => ((F (kL i c)).getD (.slice none 0 0)).ownBlock = some k) (Mod.grown hg (fun g e => e)) (fun k hk e => by rcases hloc0 k e with h1 | h1; exact h1; omega)
    exact m1.trans (Mod.grown hg2 (fun g e => by cases e; exact hXM))
  · by_cases e : kl = kL i c
    · subst e
      rw [updF_same] at hvv
      cases hvv
      rcases hv with e2 | ⟨g', e2, hge⟩
      · rw [e2] at hgg; exact hloc0 g hgg
      · rw [e2] at hgg; cases hgg
        exact .inr (Nat.le_trans h.md.size hge)
    · rw [updF_ne e] at hvv
      exact h.loc ha _ _ _ hvv hgg
  · exact keep h.ev (fun cs e => by simp at e) (h.acc.map_ne h.ev)
  · refine h.pth.same fun g o hg' ho' => ?_
    have hne : ∀ cs, o ≠ .cells cs 27 (0, 0) := by
      rintro cs rfl
      rcases h.pth.2 with ⟨rfl, _⟩ | ⟨g2, cap, cur, hv2, _, hh, _⟩
      · cases hg'
      · subst hv2
        have : g2 = g := by simpa [Value.ownBlock] using hg'
        subst this
        rw [hh] at ho'; simp at ho'
    refine keep ho' hne (fun e => ?_)
    obtain ⟨es, clock, h1⟩ := hMb
    subst e
    rcases h.pth.2 with ⟨rfl, _⟩ | ⟨g2, cap, cur, hv2, _, hh, _⟩
    · cases hg'
    · subst hv2
      have : g2 = g := by simpa [Value.ownBlock] using hg'
      subst this
      rw [h1] at hh; cases hh
  · refine h.mrk.1.same fun D hd => ?_
    have h1 := h.mrk.1.2 D hd
    rw [h1]
    refine keep h1 (fun cs e => by cases e) (fun e => ?_)
    obtain ⟨es, clock, h2⟩ := hMb
    subst e
    rw [h2] at h1; cases h1
end
section
variable {W0' w0 wr w' : World} {B0 gl rl c1 c2 : Nat} {A1 A2 : Option Addr} {G0 R0 A0 U0 Mb S1 all Nmax : Nat} {M : Int → Int → List (Int × Int)} {X : Nat → Prop} {E : Nat} {ev : Array Value} {vp : Value} {pl : List Int} {Ds : List Nat} {F : Lit → Option Value} {N : Nat}
theorem RuG.kept2 (h : RuG W0' w0 B0 gl rl c1 c2 A1 A2 G0 R0 A0 U0 Mb S1 all Nmax M X E ev vp pl Ds wr F N) (ha : all ≤ 65536) {kl : Lit} {w1 w2 : World} (hg : wr.grownBy w1 ((F kl).getD (.slice none 0 0)).ownBlock) (hg2 : w1.grownBy w2 (some Mb))
    {k : Nat} {o : Obj} (hk : wr.heap[k]? = some o) (ht : ∀ cs, o ≠ .cells cs 27 (0, 0)) (hM : ∀ es cl, o ≠ .map es cl) : w2.heap[k]? = some o := by
  have h1 : w1.heap[k]? = some o := (hg.block k (Array.getElem?_eq_some_iff.1 hk).1 (fun e => by
    obtain ⟨_, cs', hh⟩ := h.acc.rows_ne ha e.symm
    rw [hk] at hh; exact ht _ (Option.some.inj hh))).trans hk
  refine (hg2.block k (Array.getElem?_eq_some_iff.1 h1).1 (fun e => ?_)).trans h1
  obtain ⟨D, ⟨es, clock, h2, _⟩, _⟩ := h.acc.mp
  have e' : k = Mb := by simpa using e
  subst e'
  rw [h2] at hk
  exact hM _ _ (Option.some.inj hk).symm
theorem RuG.mark (h : RuG W0' w0 B0 gl rl c1 c2 A1 A2 G0 R0 A0 U0 Mb S1 all Nmax M X E ev vp pl Ds wr F N) {D : Nat} (hD : wr.heap[D]? = some (.deferred (some []))) (hn : D ∉ Ds) (hw : w0.heap.size ≤ D) :
    RuG W0' w0 B0 gl rl c1 c2 A1 A2 G0 R0 A0 U0 Mb S1 all Nmax M X E ev vp pl (D :: Ds) wr F N :=
  ⟨h.n1, h.n2, h.acc, h.md, h.loc, h.ev, h.pth, ⟨h.mrk.1.cons hD hn, fun d hd => by rcases List.mem_cons.1 hd with rfl | hd; exact hw; exact h.mrk.2 d hd⟩⟩
end
theorem manyN_le (t n p : Nat) : manyN t n p ≤ t + 1 := by
  unfold manyN
  have := Nat.div_le_self (t - 1) p
  generalize (t - 1) / p = A at *
  generalize (t - n) / p = C at *
  omega
theorem cntT_le (gs : List (Int × Int)) (rs : List Ru) (t : Rn) (m : Nat) (hm : t.time.toNat + 1 ≤ m) : cntT gs rs t ≤ rs.length * m := by
  induction rs with
  | nil => simp [cntT]
  | cons r l ih =>
    have h1 := manyN_le t.time.toNat t.ticks.toNat r.p.toNat
    have h2 : cntT gs (r :: l) t = (if hitB gs r t = true then tickN r t else 0) + cntT gs l t := by simp [cntT]
    rw [h2, List.length_cons, Nat.add_mul, Nat.one_mul]
    have h3 : (if hitB gs r t = true then tickN r t else 0) ≤ m := by
      split
      · unfold tickN; omega
      · omega
    omega
/-- What holds ahead of rule i. -/
def RuI (W0' w0 : World) (B0 gl c1 c2 : Nat) (A1 A2 : Option Addr) (G0 R0 A0 U0 Mb S1 : Nat) (gs : List (Int × Int)) (rs : List Ru) (o : List Rn) (t : Rn) (X : Nat → Prop) (E : Nat) (ev : Array Value) (vp : Value) (pl : List Int) (i : Nat) (Ds : List Nat) (wr : World) (F : Lit → Option Value) (N : Nat) : Prop :=
  RuG W0' w0 B0 gl rs.length c1 c2 A1 A2 G0 R0 A0 U0 Mb S1 (allN gs rs o + cntT gs (rs.take i) t) (allN gs rs o + cntT gs (rs.take i) t) (Mi gs rs o t i) X E ev vp pl Ds wr F N
section
variable {W0' w0 wr w' : World} {B0 gl c1 c2 : Nat} {A1 A2 : Option Addr} {G0 R0 A0 U0 Mb S1 : Nat} {gs : List (Int × Int)} {rs : List Ru} {o : List Rn} {t : Rn} {X : Nat → Prop} {E : Nat} {ev : Array Value} {vp : Value} {pl : List Int} {i : Nat} {Ds : List Nat} {F : Lit → Option Value} {N : Nat}
theorem RuI.skip (h : RuI W0' w0 B0 gl c1 c2 A1 A2 G0 R0 A0 U0 Mb S1 gs rs o t X E ev vp pl i Ds wr F N) (hi : i < rs.length) (hh : hitB gs (ruAt rs i) t = false) : RuI W0' w0 B0 gl c1 c2 A1 A2 G0 R0 A0 U0 Mb S1 gs rs o t X E ev vp pl (i + 1) Ds wr F N := by
  unfold RuI at *
  rw [cntT_take hi, hh, Mi_skip hh]
  simpa using h
theorem RuG.any {all Nmax Nmax' rl : Nat} {M M' : Int → Int → List (Int × Int)} (h : RuG W0' w0 B0 gl rl c1 c2 A1 A2 G0 R0 A0 U0 Mb S1 all Nmax M X E ev vp pl Ds wr F N) (ha : 65536 < all) : RuG W0' w0 B0 gl rl c1 c2 A1 A2 G0 R0 A0 U0 Mb S1 all Nmax' M' X E ev vp pl Ds wr F N :=
  ⟨h.n1, fun h' => by omega, ⟨h.acc.low, h.acc.bs, h.acc.g0, h.acc.r0, h.acc.a0, h.acc.u0, h.acc.mp, fun h' => by omega⟩, h.md, h.loc, h.ev, h.pth, h.mrk⟩
theorem RuG.max {all Nmax Nmax' rl : Nat} {M : Int → Int → List (Int × Int)} (h : RuG W0' w0 B0 gl rl c1 c2 A1 A2 G0 R0 A0 U0 Mb S1 all Nmax M X E ev vp pl Ds wr F N) (hm : Nmax ≤ Nmax') : RuG W0' w0 B0 gl rl c1 c2 A1 A2 G0 R0 A0 U0 Mb S1 all Nmax' M X E ev vp pl Ds wr F N :=
  ⟨h.n1, fun h' => Nat.le_trans (h.n2 h') hm, h.acc, h.md, h.loc, h.ev, h.pth, h.mrk⟩
end
end Go.Proofs.YtaplangfppohdaaDoor

/- The laws' helper of: the set of numbers is the reference's. -/
import Derived.Test.YtofjgcbjpmgkdaaTm
import Derived.Test.YtofjgcbjpmgkdaaSx
set_option linter.unusedVariables false
set_option linter.unusedSimpArgs false
set_option linter.unusedSectionVars false
namespace Go.Proofs.Ytofjgcbjpmgkdaa
open Go.RowKit Go.Shelf

set_option maxRecDepth 100000 in
set_option maxHeartbeats 4000000 in
theorem ofL_ok (w : World) (v : Value) (ns : List Int) (hv : EV encI 1 w v ns) (hl : ns.length ≤ 100000) :
    Calls Try.prog 22 #[v] w fun e w' => e = .returned (.bool true) ∧ Below w.heap.size w w' := by
  have F := (Facts.nil w).snoc (sB w) (Below.refl _ _)
  have HV := Lib.hid hv
  obtain ⟨hl1, hl2⟩ := of_lens ns
  have hl3 : (ofL ns).length ≤ 100000000 := by omega
  have hl4 : (ofT ns).length ≤ 1000000000 := by omega
  have hl5 : ns.length ≤ 1000000000 := by omega
  have S1 := Lib.hid (fun (w : World) (v : Value) hv => of_ok w v ns hv (by omega))
  have S2 := Lib.hid (fun (w : World) (v : Value) hv => rof_ok w v ns hv (by omega))
  generalize ofL ns = lS at *
  generalize ofT ns = lT at *
  generalize ofE ns = oe at *
  clear hv hl1 hl2 hl
  go_enter Try.func22, Try.ntmps22
  go_wp2_with fail
  refine (clone_int w v ns (HV.out.below (F.get 0)) hl5).mono ?_
  rintro e w1 ⟨own, rfl, o, bb⟩
  replace F := (F.below bb).snoc (sOV encI 1 3 w.heap.size own ns) o
  have sw1 := bb.size
  have Kown := Lib.hid o.block
  clear bb o
  go_wp2_with fail
  refine (S1.out w1 own (OV.ev (F.get 1) encI_len)).mono ?_
  rintro e w2 ⟨a, t, rfl, o, o2, bb⟩
  replace F := ((F.below bb).snoc (sOV encP 2 35 w1.heap.size a lS) o).snoc (sOV encI 1 3 w1.heap.size t lT) o2
  have sw2 := bb.size
  have Ka := Lib.hid o.block
  have Kt := Lib.hid o2.block
  have Kn := Lib.hid (o.ne o2 (by decide))
  clear bb o o2
  go_wp2_with fail
  refine (S2.out w2 v (HV.out.below (F.get 0))).mono ?_
  rintro e w3 ⟨a2, t2, rfl, o, o2, bb⟩
  replace F := ((F.below bb).snoc (sOV encP 2 61 w2.heap.size a2 lS) o).snoc (sOV encI 1 3 w2.heap.size t2 lT) o2
  have sw3 := bb.size
  clear bb o o2
  go_wp2_with fail
  refine (same_true w3 a a2 lS (OV.ev (F.get 2) encP_len) (OV.ev (F.get 4) encP_len) hl3).mono ?_
  rintro e w4 ⟨rfl, bb⟩
  replace F := F.below bb
  have sw4 := bb.size
  clear bb
  go_wp2_with fail
  refine (equal_same w4 t t2 lT (OV.ev (F.get 3) encI_len) (OV.ev (F.get 5) encI_len) hl4).mono ?_
  rintro e w5 ⟨rfl, bb⟩
  replace F := F.below bb
  have sw5 := bb.size
  clear bb
  go_wp2_with fail
  refine (equal_same w5 own v ns (OV.ev (F.get 1) encI_len) (HV.out.below (F.get 0)) hl5).mono ?_
  rintro e w6 ⟨rfl, bb⟩
  replace F := F.below bb
  have sw6 := bb.size
  clear bb
  obtain ⟨At, ct, rfl⟩ := (OV.ev (F.get 3 : OV encI 1 3 w1.heap.size w6 t lT) encI_len).shape
  obtain ⟨Aa, ca, rfl⟩ := (OV.ev (F.get 2 : OV encP 2 35 w1.heap.size w6 a lS) encP_len).shape
  have WT := Lib.hid (OV.wrt encI_len (F.get 3 : OV encI 1 3 w1.heap.size w6 _ lT))
  have F6 := Lib.hid F
  obtain ⟨T, hT⟩ : ∃ T : Nat → Prop, T = fun k => Value.ownBlock (.slice At lT.length ct) = some k := ⟨_, rfl⟩
  have HT := Lib.hid hT
  obtain ⟨M, hM⟩ : ∃ n, lT.length = n := ⟨_, rfl⟩
  have HM := Lib.hid hM
  rw [hM] at hT hl4 WT HT ⊢
  clear F hT hM
  go_wp2_with fail
  go_loopg [10, 48] M (fun k _ i wr => ∃ q : Nat, q + k = M ∧ i = .int .i64 q ∧ Wrt 1 wr (.slice At M ct) M ∧ Mod T w6 wr)
  case atStart => exact ⟨0, by omega, rfl, WT.out, Mod.refl _ _⟩
  case round =>
    obtain ⟨q, hq, rfl, haw, hm⟩ := hrel
    have HQ := Lib.hid hq
    have HAW := Lib.hid haw
    have HMM := Lib.hid hm
    clear hq haw hm
    by_cases hql : q < M
    · rcases HAW.out with ⟨h00, _⟩ | ⟨_, g', cc', hv', hwc⟩
      · omega
      · simp only [Value.slice.injEq] at hv'
        obtain ⟨rfl, -, rfl⟩ := hv'
        obtain ⟨⟨u, hu⟩, hf⟩ := hwc q (by omega)
        clear hwc
        go_wp2
        go_roundg (gk - 1)
        case measure => have := HQ.out; omega
        case rel => exact ⟨q + 1, by have := HQ.out; omega, by go_num, HAW.out.setCell _ _, HMM.out.trans (Mod.setCell _ (by rw [HT.out]; rfl))⟩
    · have hTlo : ∀ g, T g → w1.heap.size ≤ g := fun g hg => by rw [HT.out, ← HM.out] at hg; exact (Kt.out g hg).1
      have hm := HMM.out
      have F := F6.out
      have oa := (F.get 2 : OV encP 2 35 w1.heap.size w6 (.slice Aa lS.length ca) lS).mod hm (fun g hg ht => by
        rw [HT.out, ← HM.out] at ht
        rcases Kn.out with h | h
        · rw [h] at hg; cases hg
        · exact h (hg.trans ht.symm))
      have ow := (F.get 1 : OV encI 1 3 w.heap.size w6 own ns).mod hm (fun g hg ht => by have := (Kown.out g hg).2; have := hTlo g ht; omega)
      have bw : Below w.heap.size w wr := (F.get 0 : Below w.heap.size w w6).trans (hm.below (fun k hk t => by have := hTlo k t; omega) (by omega))
      have szr := hm.size
      have SP := Lib.hid (spoil_one wr _ _ _ rfl (oa.wrt encP_len) (by omega) (fun g hg => (oa.block g hg).2))
      have KA := Lib.hid oa.block
      have EW := Lib.hid ow
      have BW := Lib.hid bw
      clear F hm oa ow bw hTlo
      go_wp2_with fail
      refine SP.out.mono ?_
      rintro e w7 ⟨rfl, hm⟩
      have ow := EW.out.mod hm (fun g hg ht => by have := (KA.out g ht).1; have := (Kown.out g hg).2; omega)
      have hv7 := HV.out.mod_new BW.out hm (fun g hg => by have := (KA.out g hg).1; omega)
      have b7 := Lib.hid (BW.out.trans (hm.below (fun k hk t => by have := (KA.out k t).1; omega) (by omega)))
      have EQ := Lib.hid (equal_same w7 own v ns (ow.ev encI_len) hv7 hl5)
      clear ow hv7 hm SP
      go_wp2_with fail
      refine EQ.out.mono ?_
      rintro e w8 ⟨rfl, bb⟩
      have b8 := b7.out.trans (bb.mono b7.out.size)
      clear bb EQ
      go_wp2
      go_ret
      exact ⟨rfl, b8⟩
end Go.Proofs.Ytofjgcbjpmgkdaa

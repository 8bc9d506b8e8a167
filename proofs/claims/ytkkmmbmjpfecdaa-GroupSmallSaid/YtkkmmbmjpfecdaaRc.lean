/- The reference of layer 19: Meet, Add. -/
import Derived.Test.YtkkmmbmjpfecdaaRb
import Derived.Test.YtkkmmbmjpfecdaaRp
namespace Go.Proofs.Ytkkmmbmjpfecdaa
open Go.RowKit Go.Shelf

theorem there_right {gs : List (Int × Int)} (h : rightB gs = true) (zs : List Int) : thereZ gs zs = if zs.any (outB gs.length) then 2 else 0 := by unfold thereZ; rw [if_neg (by simp [h])]
theorem any_take_step {α : Type} {xs : List α} {p : α → Bool} {j : Nat} {x : α} (h : (xs.take j).any p = false) (hx : xs[j]? = some x) (hp : p x = false) : (xs.take (j + 1)).any p = false := by
  rw [List.take_add_one, hx, List.any_append, h]; simp [hp]
def comBb (gs : List (Int × Int)) (zs : List Int) (t x : Nat) : Bool := decide (0 < zs.length) && (zs.take t).all (fun z => (path gs z.toNat).contains x)
theorem comBb_iff {gs : List (Int × Int)} {zs : List Int} {x : Nat} : comBb gs zs zs.length x = true ↔ comB gs zs x := by
  unfold comBb comB
  rw [List.take_length]
  simp [List.length_pos_iff]
theorem comBb_succ {gs : List (Int × Int)} {zs : List Int} {t x : Nat} {z : Int} (h : zs[t]? = some z) : comBb gs zs (t + 1) x = (comBb gs zs t x && (path gs z.toNat).contains x) := by
  unfold comBb
  rw [List.take_add_one, h, List.all_append]
  simp [Bool.and_assoc]
theorem any_mem_out {n : Nat} {zs : List Int} {z : Int} (h : z ∈ zs) (ho : outB n z = true) : zs.any (outB n) = true := List.any_eq_true.2 ⟨z, h, ho⟩

set_option maxRecDepth 100000 in
set_option maxHeartbeats 2000000 in
theorem rmeet_ok (w : World) (v vs : Value) (gs : List (Int × Int)) (zs : List Int) (hv : EV encG 2 w v gs) (hs : EV encI 1 w vs zs) (hlen : gs.length ≤ 100000) (hlz : zs.length ≤ 100000) :
    Calls Try.prog 41 #[v, vs] w fun e w' => e = .returned (.tuple #[.int .i64 (meetZ gs zs), .int .i64 (thereZ gs zs)]) ∧ Below w.heap.size w w' := by
  have HR := Lib.hid (rright_ok w v gs hv hlen)
  obtain ⟨A, c, rfl⟩ := hv.shape
  have HW := Lib.hid (fun (w1 : World) (h : Below w.heap.size w w1) z => wrong_ok w1 _ gs z (hv.below h) hlen)
  have HP := Lib.hid (fun (w1 : World) (h : Below w.heap.size w w1) z => rpath_ok w1 _ gs z (hv.below h) hlen)
  have HD := Lib.hid (fun (w1 : World) (h : Below w.heap.size w w1) z => rdepth_ok w1 _ gs z (hv.below h) hlen)
  cases hr : rightB gs with
  | false =>
    obtain ⟨A', c', rfl⟩ := hs.shape
    have e1 : thereZ gs zs = 194 := by unfold thereZ; rw [if_pos hr]
    have e2 : meetZ gs zs = 0 := by unfold meetZ; rw [if_neg (by rw [e1]; simp)]
    rw [e1, e2]
    rw [hr] at HR
    clear hv hs hr e1 e2 HW HP HD
    go_enter Try.func41, Try.ntmps41
    go_wp2_with fail
    refine HR.out.mono ?_
    rintro e w1 ⟨rfl, b1⟩
    go_wp2
    go_ret2
    exact ⟨rfl, b1⟩
  | true =>
    have hok := right_iff.1 hr
    have HT := Lib.hid (there_right hr)
    have HOK := Lib.hid hok
    rw [hr] at HR
    have HZ := Lib.hid (show meetZ gs zs = if thereZ gs zs = 0 then (meetL gs zs : Int) else 0 from by unfold meetZ; split <;> simp)
    have HTZ := Lib.hid (HT.out zs)
    have HT0 := Lib.hid (@there_zero gs zs)
    obtain ⟨A', c', rfl⟩ := hs.shape
    have HS := Lib.hid hs
    have hpos := hok.pos
    have hmany := hok.many
    generalize thereZ gs zs = tz at *
    generalize meetZ gs zs = mz at *
    clear hv hs hr hok
    go_enter Try.func41, Try.ntmps41
    go_wp2_with fail
    refine HR.out.mono ?_
    rintro e w1 ⟨rfl, b1⟩
    clear HR
    go_wp2_with fail
    go_loopg [8, 9] zs.length (fun k i _ wr => ∃ t : Nat, t + k = zs.length ∧ i = .int .i64 t ∧ Below w.heap.size w wr ∧ (zs.take t).any (outB gs.length) = false)
    case atStart => exact ⟨0, by omega, rfl, b1, by simp⟩
    case round =>
      obtain ⟨t, ht, rfl, hb, hany⟩ := hrel
      have HTT := Lib.hid ht
      have HAN := Lib.hid hany
      have HB := Lib.hid hb
      clear ht hany b1
      by_cases hlt : t < zs.length
      · obtain ⟨b', off', c'', hv', -, rs⟩ := HS.out.row (by omega)
        simp only [Value.slice.injEq] at hv'
        obtain ⟨rfl, -, rfl⟩ := hv'
        obtain ⟨z, hz, c1⟩ := (rs.below HB.out).get1 hlt
        have W1 := Lib.hid (HW.out wr HB.out z)
        rw [HT.out [z]] at W1
        have HZZ := Lib.hid hz
        clear rs hz
        cases ho : outB gs.length z with
        | true =>
          have e : tz = 2 := by rw [HTZ.out, if_pos (any_mem_out (List.mem_of_getElem? HZZ.out) ho)]
          have e2 : mz = 0 := by rw [HZ.out, e]; simp
          have e3 : [z].any (outB gs.length) = true := by simp [ho]
          rw [e3, if_pos rfl] at W1
          have E := Lib.hid e
          have E2 := Lib.hid e2
          clear ho e e2 e3 HZ HTZ HT0 HT
          go_wp2_with fail
          refine W1.out.mono ?_
          rintro e w2 ⟨rfl, b2⟩
          go_wp2
          go_ret2
          exact ⟨ret_two E2.out.symm E.out.symm, HB.out.trans (b2.mono hb.size)⟩
        | false =>
          have HAN2 := Lib.hid (any_take_step HAN.out HZZ.out ho)
          have e3 : [z].any (outB gs.length) = false := by simp [ho]
          rw [e3, if_neg (by simp)] at W1
          clear ho e3
          go_wp2_with fail
          refine W1.out.mono ?_
          rintro e w2 ⟨rfl, b2⟩
          have hb2 := HB.out.trans (b2.mono hb.size)
          clear W1 b2
          go_wp2
          go_roundg (gk - 1)
          case measure => have := HTT.out; omega
          case rel => exact ⟨t + 1, by have := HTT.out; omega, by go_num, hb2, HAN2.out⟩
      · have e : tz = 0 := by
          have := HAN.out
          rw [List.take_of_length_le (by omega)] at this
          rw [HTZ.out, this]; rfl
        have hzz := (HT0.out.1 e).2
        have HZZ := Lib.hid hzz
        have e2 : mz = (meetL gs zs : Nat) := by rw [HZ.out, e]; simp
        have HE := Lib.hid e
        have E2 := Lib.hid e2
        clear e e2 hzz HZ HTZ HT0 HAN
        go_wp2_with fail
        go_loopg [6, 7, 10, 11, 12, 13, 14, 15, 16] gs.length (fun k bv dv i _ _ _ _ _ _ wr => ∃ (j bn dn : Nat), j + k = gs.length ∧ i = .int .i64 j ∧ bv = .int .i64 bn ∧ dv = .int .i64 dn ∧ Below w.heap.size w wr ∧ dn = dep gs bn ∧ bn < gs.length ∧ (bn = 0 ∨ comB gs zs bn) ∧ ∀ x, x < j → comB gs zs x → dep gs x ≤ dn)
        case atStart => exact ⟨0, 0, 0, by omega, rfl, rfl, rfl, hb, rfl, hpos, .inl rfl, fun x hx => by omega⟩
        case round =>
          obtain ⟨j, bn, dn, hj, rfl, rfl, rfl, hbr, hdn, hbn, hcom, hmax⟩ := hrel
          have HJ := Lib.hid hj
          have HBR := Lib.hid hbr
          have HDN := Lib.hid hdn
          have HCO := Lib.hid hcom
          have HMX := Lib.hid hmax
          have hdl := dep_le HOK.out hbn
          rw [← hdn] at hdl
          clear hj hbr hdn hcom hmax HB hb
          by_cases hjl : j < gs.length
          · have e0 : decide (0 < zs.length) = comBb gs zs 0 j := by unfold comBb; simp
            have E0 := Lib.hid e0
            clear e0
            go_wp2_with fail
            rw [E0.out]
            rename_i wr0
            go_loopg [11, 12, 13, 14] zs.length (fun k av i _ _ wr => ∃ t : Nat, t + k = zs.length ∧ i = .int .i64 t ∧ av = .bool (comBb gs zs t j) ∧ Below w.heap.size w wr)
            case atStart => exact ⟨0, by omega, rfl, rfl, HBR.out⟩
            case round =>
              obtain ⟨t, ht, rfl, rfl, hb⟩ := hrel
              have HTT := Lib.hid ht
              have HB := Lib.hid hb
              have hsz := hb.size
              clear ht hb
              by_cases hlt : t < zs.length
              · obtain ⟨b', off', c'', hv', -, rs⟩ := HS.out.row (by omega)
                simp only [Value.slice.injEq] at hv'
                obtain ⟨rfl, -, rfl⟩ := hv'
                obtain ⟨z, hz, c1⟩ := (rs.below HB.out).get1 hlt
                obtain ⟨z1, z2⟩ := HZZ.out z (List.mem_of_getElem? hz)
                have P1 := Lib.hid (HP.out wr HB.out z)
                have SU := Lib.hid (comBb_succ (gs := gs) (x := j) hz)
                have hpz : pathL gs z = ints (path gs z.toNat) := by unfold pathL; rw [if_pos (there_zero.2 ⟨HOK.out, fun y hy => by simp at hy; subst hy; exact ⟨z1, z2⟩⟩)]
                have hpl := path_le HOK.out.bef z.toNat (by omega)
                rw [hpz] at P1
                have hph := path_has j z.toNat (gs := gs)
                obtain ⟨cj, hcj⟩ : ∃ b, (path gs z.toNat).contains j = b := ⟨_, rfl⟩
                rw [hcj] at hph SU
                have HPH := Lib.hid hph
                clear rs hz hpz hph hcj
                generalize thereZ gs [z] = tzz at P1
                go_wp2_with fail
                refine P1.out.mono ?_
                rintro e w2 ⟨r, rfl, o2, b2⟩
                have hb2 := HB.out.trans (b2.mono hsz)
                have HA := Lib.hid (has_ok w2 r _ (j : Int) (o2.ev encI_len) (by simp [ints]; omega))
                rw [HPH.out] at HA
                clear o2 b2 P1 c1
                cases hcb : comBb gs zs t j with
                | true =>
                  rw [hcb, Bool.true_and] at SU
                  clear hcb
                  go_wp2_with fail
                  refine HA.out.mono ?_
                  rintro e w3 ⟨rfl, rfl⟩
                  go_wp2
                  go_roundg (gk - 1)
                  case measure => have := HTT.out; omega
                  case rel => exact ⟨t + 1, by have := HTT.out; omega, by go_num, by rw [SU.out], hb2⟩
                | false =>
                  rw [hcb, Bool.false_and] at SU
                  clear hcb
                  go_wp2
                  go_roundg (gk - 1)
                  case measure => have := HTT.out; omega
                  case rel => exact ⟨t + 1, by have := HTT.out; omega, by go_num, by rw [SU.out], hb2⟩
              · obtain rfl : t = zs.length := by have := HTT.out; omega
                have D1 := Lib.hid (HD.out wr HB.out j)
                have ht1 := there_ok1 HOK.out hjl
                have hdz : dZ gs (j : Int) = (dep gs j : Nat) := by unfold dZ; rw [if_pos ht1, Int.toNat_natCast]
                rw [hdz] at D1
                have hdl2 := dep_le HOK.out hjl
                obtain ⟨dj, hdj⟩ : ∃ d, dep gs j = d := ⟨_, rfl⟩
                rw [hdj] at D1 hdl2
                have HDJ := Lib.hid hdj
                clear ht1 hdz hdj
                generalize thereZ gs [(j : Int)] = tzz at D1
                have MX := Lib.hid (show ∀ (bn' dn' : Nat), dn ≤ dn' → (comB gs zs j → dj ≤ dn') → ∀ x, x < j + 1 → comB gs zs x → dep gs x ≤ dn' from fun bn' dn' h1 h2 x hx hc => by
                  rcases Nat.lt_or_ge x j with h | h
                  · have := HMX.out x h hc; omega
                  · obtain rfl : x = j := by omega
                    rw [HDJ.out]; exact h2 hc)
                cases hcb : comBb gs zs zs.length j with
                | true =>
                  have hcj := comBb_iff.1 hcb
                  have HCJ := Lib.hid hcj
                  by_cases hgt : dn < dj
                  · clear hcb hcj
                    go_wp2_with fail
                    refine D1.out.mono ?_
                    rintro e w3 ⟨rfl, b3⟩
                    have hb3 := HB.out.trans (b3.mono hsz)
                    go_wp2
                    go_roundg (gs.length - (j + 1))
                    case measure => have := HJ.out; omega
                    case rel => exact ⟨j + 1, j, dj, by omega, by go_num, rfl, rfl, hb3, HDJ.out.symm, hjl, .inr HCJ.out, MX.out j dj (by omega) (fun _ => Nat.le_refl _)⟩
                  · clear hcb hcj
                    go_wp2_with fail
                    refine D1.out.mono ?_
                    rintro e w3 ⟨rfl, b3⟩
                    have hb3 := HB.out.trans (b3.mono hsz)
                    go_wp2
                    go_roundg (gs.length - (j + 1))
                    case measure => have := HJ.out; omega
                    case rel => exact ⟨j + 1, bn, dn, by omega, by go_num, rfl, rfl, hb3, HDN.out, hbn, HCO.out, MX.out bn dn (Nat.le_refl _) (fun _ => by omega)⟩
                | false =>
                  have hnc : ¬ comB gs zs j := fun h => by rw [comBb_iff.2 h] at hcb; cases hcb
                  have HNC := Lib.hid hnc
                  clear hcb hnc
                  go_wp2_with fail
                  refine D1.out.mono ?_
                  rintro e w3 ⟨rfl, b3⟩
                  have hb3 := HB.out.trans (b3.mono hsz)
                  go_wp2
                  go_roundg (gs.length - (j + 1))
                  case measure => have := HJ.out; omega
                  case rel => exact ⟨j + 1, bn, dn, by omega, by go_num, rfl, rfl, hb3, HDN.out, hbn, HCO.out, MX.out bn dn (Nat.le_refl _) (fun h => absurd h HNC.out)⟩
          · have E := Lib.hid (meet_best HOK.out.bef hpos HZZ.out HCO.out (fun x hx hc => by rw [← HDN.out]; exact HMX.out x (by omega) hc))
            have E3 := Lib.hid (show ((bn : Nat) : Int) = mz from by rw [E2.out, E.out])
            clear E2
            go_wp2
            go_ret2
            exact ⟨ret_two E3.out HE.out.symm, HBR.out⟩

set_option maxHeartbeats 1000000 in
theorem radd_ok (w : World) (v : Value) (gs : List (Int × Int)) (z wt : Int) (hv : EV encG 2 w v gs) (hlen : gs.length ≤ 100000) :
    Calls Try.prog 42 #[v, .int .i64 z, .int .i64 wt] w fun e w' => ∃ r, e = .returned (.tuple #[r, .int .i64 (addE gs z wt)]) ∧ OV encG 2 38 w.heap.size w' r (addL gs z wt) ∧ Below w.heap.size w w' := by
  have HT := Lib.hid (wrong_ok w v gs z hv hlen)
  have HD := Lib.hid (fun (w1 : World) (h : Below w.heap.size w w1) => rdepth_ok w1 v gs z (hv.below h) hlen)
  have HA := Lib.hid (show addE gs z wt = if thereZ gs [z] ≠ 0 then thereZ gs [z] else if wB wt = false then 2 else if gs.length = 256 then 5 else if dep gs z.toNat = 4 then 193 else 0 from rfl)
  have HL := Lib.hid (show addL gs z wt = if addE gs z wt = 0 then gs ++ [(z, wt)] else [] from rfl)
  have HV := Lib.hid hv
  obtain ⟨A, c, rfl⟩ := hv.shape
  by_cases ht : thereZ gs [z] = 0
  · have hd : dZ gs z = (dep gs z.toNat : Nat) := if_pos ht
    rw [ht] at HT HD
    rw [hd] at HD
    rw [ht, if_neg (by simp)] at HA
    generalize dep gs z.toNat = d at HD HA
    clear hv ht hd
    cases hw : wB wt with
    | false =>
      have e : addE gs z wt = 2 := by rw [HA.out, if_pos hw]
      have hwt : wt < 1 ∨ 65536 < wt := by unfold wB at hw; simp at hw; omega
      rw [HL.out, e, if_neg (by simp)]
      clear HA HL HD e hw
      by_cases hw1 : wt < 1
      · clear hwt
        go_enter Try.func42, Try.ntmps42
        go_wp2_with fail
        refine HT.out.mono ?_
        rintro e w1 ⟨rfl, b1⟩
        go_wp2
        go_ret2
        exact ⟨_, rfl, OV.nil _ _, b1⟩
      · have hw3 : 65536 < wt := by omega
        clear hwt
        go_enter Try.func42, Try.ntmps42
        go_wp2_with fail
        refine HT.out.mono ?_
        rintro e w1 ⟨rfl, b1⟩
        go_wp2
        go_ret2
        exact ⟨_, rfl, OV.nil _ _, b1⟩
    | true =>
      have hwt : 1 ≤ wt ∧ wt ≤ 65536 := by unfold wB at hw; simpa using hw
      obtain ⟨hw3, hw4⟩ := hwt
      rw [hw, if_neg (by simp)] at HA
      clear hw
      by_cases h256 : gs.length = 256
      · have e : addE gs z wt = 5 := by rw [HA.out, if_pos h256]
        have h' : ((gs.length : Int) == 256) = true := by simp; omega
        rw [HL.out, e, if_neg (by simp)]
        clear HA HL HD e h256
        go_enter Try.func42, Try.ntmps42
        go_wp2_with fail
        refine HT.out.mono ?_
        rintro e w1 ⟨rfl, b1⟩
        go_wp2
        go_ret2
        exact ⟨_, rfl, OV.nil _ _, b1⟩
      · have h' : ((gs.length : Int) == 256) = false := by simp; omega
        rw [if_neg h256] at HA
        clear h256
        by_cases hd : d = 4
        · have e : addE gs z wt = 193 := by rw [HA.out, if_pos hd]
          subst hd
          rw [HL.out, e, if_neg (by simp)]
          clear HA HL e
          go_enter Try.func42, Try.ntmps42
          go_wp2_with fail
          refine HT.out.mono ?_
          rintro e w1 ⟨rfl, b1⟩
          have D1 := Lib.hid (HD.out w1 b1)
          go_wp2_with fail
          refine D1.out.mono ?_
          rintro e w2 ⟨rfl, b2⟩
          go_wp2
          go_ret2
          exact ⟨_, rfl, OV.nil _ _, b1.trans (b2.mono b1.size)⟩
        · have e : addE gs z wt = 0 := by rw [HA.out, if_neg hd]
          have hd' : ((d : Int) == 4) = false := by simp; omega
          rw [HL.out, e, if_pos rfl]
          clear HA HL e hd
          go_enter Try.func42, Try.ntmps42
          go_wp2_with fail
          refine HT.out.mono ?_
          rintro e w1 ⟨rfl, b1⟩
          have D1 := Lib.hid (HD.out w1 b1)
          go_wp2_with fail
          refine D1.out.mono ?_
          rintro e w2 ⟨rfl, b2⟩
          have b12 := b1.trans (b2.mono b1.size)
          have hs2 := b12.size
          have ev2 := HV.out.below b12
          clear D1 HD HT b1 b2
          go_wp2_with (at_builtin; refine wpList_app elemG encG_len encG_one rfl (.tmp 34) (.tmp 35) rfl _ _ rfl rfl (OV.made w2 0 #[] (Nat.le_refl _) (Nat.zero_le _) rfl) (ev2.below ((Below.refl _ _).alloc (Nat.le_refl _) _)) ?q1 ?q2 ?_)
          case q1 => (try simp); omega
          case q2 => simp
          intro v3 w3 o3 g3
          (try rw [List.nil_append] at o3)
          have b3 := (b12.alloc hs2 (.cells #[] 38)).grown g3 (by simp; omega) (fun k hk => by simp [Value.ownBlock] at hk; omega)
          have hs3 := b3.size
          have o3 := o3.base_le hs2
          clear g3 ev2
          have hnew : EV encG 2 (w3.alloc (.cells #[.int .i64 z, .int .i64 wt] 38)) (.slice (some ⟨w3.heap.size, 0, none⟩) 1 1) [(z, wt)] := EV.new1 rfl (Nat.le_refl _)
          go_wp2_with (at_builtin; refine wpList_app elemG encG_len encG_one rfl (.tmp 36) (.tmp 40) rfl _ _ rfl rfl (o3.alloc _) hnew ?q3 ?q4 ?_)
          case q3 => (try simp); omega
          case q4 => (try simp); omega
          intro v4 w4 o4 g4
          have b4 : Below w.heap.size w w4 := (b3.alloc hs3 _).grown g4 (by first | omega | (simp; omega)) (fun k hk => (o3.block k hk).1)
          clear g4 hnew
          go_wp2
          go_ret2
          exact ⟨_, rfl, o4, b4⟩
  · have e : addE gs z wt = thereZ gs [z] := by rw [HA.out, if_pos ht]
    rw [HL.out, e, if_neg ht]
    clear hv HA HL e HD
    generalize thereZ gs [z] = t at HT ht ⊢
    have ht' : (t != 0) = true := by simp [ht]
    clear ht
    go_enter Try.func42, Try.ntmps42
    go_wp2_with fail
    refine HT.out.mono ?_
    rintro e w1 ⟨rfl, b1⟩
    go_wp2
    go_ret2
    exact ⟨_, rfl, OV.nil _ _, b1⟩
end Go.Proofs.Ytkkmmbmjpfecdaa

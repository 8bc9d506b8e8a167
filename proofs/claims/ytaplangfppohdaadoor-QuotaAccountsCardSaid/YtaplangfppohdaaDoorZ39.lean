/- The reference of layer 28: look | The reference of layer 28: the uses of a trace, rule by rule; plain. -/
import Derived.Test.YtaplangfppohdaaDoorZ38
import Derived.Test.YtaplangfppohdaaDoorZ20
import Derived.Test.YtaplangfppohdaaDoorZ29
set_option linter.unusedVariables false
set_option linter.unusedSimpArgs false
set_option linter.unusedSectionVars false
namespace Go.Proofs.YtaplangfppohdaaDoor
open Go.RowKit Go.Shelf
attribute [local go_sem] Oper.semAt_some

theorem homeS_ok {n : Nat} {th : List (Int × Int)} {h : Int × Int} (h1 : ofT th h.1 = none) (h2 : 1 ≤ h.1 ∧ h.1 ≤ 65535) (h3 : 0 ≤ h.2 ∧ h.2 < (n : Int)) : homeS n (ofT th) h = some (ofT (th ++ [h])) := by
  unfold homeS
  rw [if_neg (by rw [h1]; simp; omega)]
  obtain ⟨a, b⟩ := h
  rw [ofT_snoc h1]
set_option maxRecDepth 100000 in
set_option maxHeartbeats 3200000 in
theorem rlook_ok (w : World) (v1 vh vl : Value) (gs hs : List (Int × Int)) (l : List Ev) (h1 : EV encG 2 w v1 gs) (hh : EV encG 2 w vh hs) (hl : EV encE 11 w vl l) (lg : gs.length ≤ 100000) (lh : hs.length ≤ 100000) (ll : l.length ≤ 100000) (ho : ∀ e ∈ l, EvOk e) (hho : ∀ h ∈ hs, (-9223372036854775808 ≤ h.1 ∧ h.1 ≤ 9223372036854775807) ∧ (-9223372036854775808 ≤ h.2 ∧ h.2 ≤ 9223372036854775807)) :
    Calls Tryd.prog 83 #[v1, vh, vl] w fun e w' => ∃ v, e = .returned (.tuple #[v, .bool (lookL gs.length hs l).isSome]) ∧ OV encRn 4 165 w.heap.size w' v ((lookL gs.length hs l).getD []) ∧ Below w.heap.size w w' := by
  obtain ⟨A1, c1, rfl⟩ := h1.shape
  obtain ⟨A2, c2, rfl⟩ := hh.shape
  obtain ⟨A3, c3, rfl⟩ := hl.shape
  obtain ⟨G, hG⟩ : ∃ G, gs.length = G := ⟨_, rfl⟩
  obtain ⟨M, hM⟩ : ∃ M, hs.length = M := ⟨_, rfl⟩
  obtain ⟨n, hn⟩ : ∃ n, l.length = n := ⟨_, rfl⟩
  have HL := Lib.hid (show EV encE 11 w (.slice A3 n c3) l ∧ l.length = n ∧ n ≤ 100000 ∧ ∀ e ∈ l, EvOk e from ⟨by rw [← hn]; exact hl, hn, by omega, ho⟩)
  have HH := Lib.hid (show EV encG 2 w (.slice A2 M c2) hs ∧ hs.length = M ∧ M ≤ 100000 from ⟨by rw [← hM]; exact hh, hM, by omega⟩)
  have HI := Lib.hid hho
  have HLK := Lib.hid (show lookL G hs l = (homesR G hs).bind fun T => (runO (stepL G) (lk0 T) l).map (·.out) from rfl)
  rw [hG] at lg ⊢
  rw [hM, hn]
  have hM5 : M ≤ 100000 := by omega
  clear h1 hh hl hn hM hG ll lh ho hho
  obtain ⟨Post, hPost⟩ : ∃ P : Ending → World → Prop, P = (fun (e : Ending) (w' : World) => ∃ v, e = .returned (.tuple #[v, .bool (lookL G hs l).isSome]) ∧ OV encRn 4 165 w.heap.size w' v ((lookL G hs l).getD []) ∧ Below w.heap.size w w') := ⟨_, rfl⟩
  have HP0 := Lib.hid (show lookL G hs l = none → ∀ w', Below w.heap.size w w' → Post (.returned (.tuple #[.slice none 0 0, .bool false])) w' from by
    intro h w' hb
    rw [hPost, h]
    exact ⟨_, rfl, OV.nil _ _, hb⟩)
  have HP1 := Lib.hid (show ∀ o, lookL G hs l = some o → ∀ v w', OV encRn 4 165 w.heap.size w' v o → Below w.heap.size w w' → Post (.returned (.tuple #[v, .bool true])) w' from by
    intro o h v w' ho hb
    rw [hPost, h]
    exact ⟨_, rfl, ho, hb⟩)
  rw [← hPost]
  clear hPost
  go_enter Tryd.func83, Tryd.ntmps83
  go_upto_block 0 with fail
  go_cut [8] (fun v wx => homesR G hs = some (ofT hs) ∧ (hs.map Prod.fst).Nodup ∧ OV encG 2 121 w.heap.size wx v hs ∧ Below w.heap.size w wx ∧ ∀ x g, ofT hs x = some g → 0 ≤ g ∧ g < (G : Int))
  case first =>
    go_wp2
    go_loopg [8, 9, 10] M (fun k v i _ wr => ∃ j : Nat, j + k = M ∧ i = .int .i64 j ∧ runO (homeS G) (fun _ => none) (hs.take j) = some (ofT (hs.take j)) ∧ ((hs.take j).map Prod.fst).Nodup ∧ OV encG 2 121 w.heap.size wr v (hs.take j) ∧ Below w.heap.size w wr)
    case atStart => exact ⟨0, by omega, rfl, by rw [List.take_zero, ofT_nil]; rfl, by simp, OV.nil _ _, Below.refl _ _⟩
    case round =>
      obtain ⟨j, hj, rfl, hr, hnd, hov, hb⟩ := hrel
      have HJ := Lib.hid hj
      have HR := Lib.hid hr
      have HND := Lib.hid hnd
      have HOV := Lib.hid hov
      have HB := Lib.hid hb
      clear hj hr hnd hov hb
      by_cases hlt : j < M
      · obtain ⟨⟨p, q⟩, hx⟩ : ∃ y, hs[j]? = some y := ⟨_, List.getElem?_eq_getElem (by rw [HH.out.2.1]; exact hlt)⟩
        obtain ⟨b, off, c', hs1, hc, hrr⟩ := (HH.out.1.below HB.out).row (by rw [HH.out.2.1]; omega)
        rw [HH.out.2.1] at hs1 hc
        simp only [Value.slice.injEq, true_and] at hs1
        obtain ⟨rfl, rfl⟩ := hs1
        obtain ⟨x0, x1⟩ := hrr.grp hx
        dsimp only at x0 x1
        have hin := HI.out (p, q) (List.mem_of_getElem? hx)
        dsimp only at hin
        obtain ⟨⟨p1, p2⟩, ⟨p3, p4⟩⟩ := hin
        have HX := Lib.hid hx
        have HTK := Lib.hid (show hs.take (j + 1) = hs.take j ++ [(p, q)] from by rw [List.take_add_one, hx]; rfl)
        have HLE := Lib.hid (show (hs.take j).length ≤ 1000000 from by rw [List.length_take]; omega)
        have HHT := Lib.hid (fun W (h : EV encG 2 W u8 (hs.take j)) => rhome_ok W u8 (hs.take j) p h HLE.out)
        have HDD := Lib.hid (show homeS G (ofT (hs.take j)) (p, q) = none → lookL G hs l = none from fun h => by
          rw [HLK.out]
          have : homesR G hs = none := by
            unfold homesR
            refine runO_dead (j := j + 1) ?_
            rw [runO_step HX.out, HR.out, Option.bind_some, h]
          rw [this]; rfl)
        have hbel := bel_alloc wr (.cells #[.int .i64 p, .int .i64 q] 121)
        have hb2 : Below w.heap.size w (wr.alloc (.cells #[.int .i64 p, .int .i64 q] 121)) := HB.out.trans (hbel.mono HB.out.size)
        have HB2 := Lib.hid hb2
        have HOV2 := Lib.hid (HOV.out.below hbel)
        clear hrr hx hbel hb2
        by_cases hbad : p < 1 ∨ 65535 < p ∨ q < 0 ∨ (G : Int) ≤ q
        · have HD := Lib.hid (HDD.out (by unfold homeS; rw [if_pos (.inr (by dsimp only; omega))]))
          clear HDD
          go_wp2_with fail
          all_goals first | (exact HP0.out HD.out _ HB2.out) | omega | (go_wp2; all_goals first | (exact HP0.out HD.out _ HB2.out) | omega)
        · have a1 : 1 ≤ p := by omega
          have a2 : p ≤ 65535 := by omega
          have a3 : 0 ≤ q := by omega
          have a4 : q < (G : Int) := by omega
          have HA4 := Lib.hid (And.intro (And.intro a1 a2) (And.intro a3 a4))
          clear hbad
          by_cases hz : homeZ (hs.take j) p < 0
          · have hno := homeZ_none hz
            have hneg := homeZ_neg hz
            rw [hneg] at HHT
            have HNX := Lib.hid (show runO (homeS G) (fun _ => none) (hs.take (j + 1)) = some (ofT (hs.take (j + 1))) from by rw [runO_step HX.out, HR.out, Option.bind_some, homeS_ok hno HA4.out.1 HA4.out.2, HTK.out])
            have HN2 := Lib.hid (show ((hs.take (j + 1)).map Prod.fst).Nodup from by rw [HTK.out]; exact keys_snoc HND.out hno)
            clear hno hneg hz HDD
            go_wp2_with fail
            refine (HHT.out _ (HOV2.out.ev encG_len)).mono ?_
            rintro r w3 ⟨rfl, rfl⟩
            go_wp2_with (at_builtin; refine wpList_app elemRH encG_len encG_one rfl _ _ rfl _ _ rfl rfl (HOV2.out.alloc _) (new_rhomeM (p := p) (q := q) (by simp)) ?q1 ?q2 ?_)
            case q1 => have := HLE.out; simp; omega
            case q2 => have := HB2.out.size; simp at this ⊢; omega
            intro v' w4 ho4 hg4
            have HO4 := Lib.hid ho4
            have HB4 := Lib.hid ((HB2.out.alloc HB2.out.size (.cells #[.int .i64 p, .int .i64 q] 121)).grown hg4 (by have := HB2.out.size; simp at this ⊢; omega) (fun k hk => (HOV2.out.block k hk).1))
            clear ho4 hg4
            go_wp2
            go_roundg (gk - 1)
            case measure => have := HJ.out; omega
            case rel => exact ⟨j + 1, by have := HJ.out; omega, by go_num, HNX.out, HN2.out, by rw [HTK.out]; exact HO4.out, HB4.out⟩
          · have HD := Lib.hid (HDD.out (by unfold homeS; rw [if_pos (.inl (homeZ_some.2 (show 0 ≤ homeZ (hs.take j) p from by omega)))]))
            have hzz : (0 : Int) ≤ homeZ (hs.take j) p := by omega
            clear hz HDD
            go_wp2_with fail
            refine (HHT.out _ (HOV2.out.ev encG_len)).mono ?_
            rintro r w3 ⟨rfl, rfl⟩
            go_wp2
            exact HP0.out HD.out _ HB2.out
      · obtain rfl : M = j := by have := HJ.out; omega
        have HF := Lib.hid (And.intro HR.out (And.intro HND.out HOV.out))
        rw [← HH.out.2.1, List.take_length] at HF
        go_wp2
        go_meet
        exact ⟨HF.out.1, HF.out.2.1, HF.out.2.2, HB.out, homes_ok HF.out.1⟩
  case rest =>
    obtain ⟨hr, hnd, hov, hb, hg⟩ := hcut
    have HR := Lib.hid hr
    refine (‹∀ (a : Act) (w : World), Code.wp _ _ _ a w → _› : ∀ (a : Act) (w : World), _ → _) _ _ (rlook_tail w _ G M c1 n c3 A1 A3 _ hs l Post HL (Lib.hid ⟨hov, hnd, ⟨by rw [HH.out.2.1]; omega, hM5⟩, hg⟩) (Lib.hid hb) lg (Lib.hid fun h => HP0.out (by rw [HLK.out, HR.out, Option.bind_some, h]; rfl)) (Lib.hid fun s h => HP1.out _ (by rw [HLK.out, HR.out, Option.bind_some, h]; rfl)))
end Go.Proofs.YtaplangfppohdaaDoor
namespace Go.Proofs.YtaplangfppohdaaDoor
open Go Go.RowKit

theorem sum_add {α : Type} (f g : α → Nat) : ∀ l : List α, (l.map fun x => f x + g x).sum = (l.map f).sum + (l.map g).sum
  | [] => rfl
  | x :: r => by simp only [List.map_cons, List.sum_cons, sum_add f g r]; omega
theorem allN_rule {gs : List (Int × Int)} {rs : List Ru} {o : List Rn} {j : Nat} (hj : j < rs.length) : allN gs (rs.take (j + 1)) o = allN gs (rs.take j) o + allN gs [ruAt rs j] o := by
  rw [List.take_add_one, ru_get hj]
  unfold allN
  rw [← sum_add]
  congr 1
  apply List.map_congr_left
  intro t _
  simp [cntT]
theorem allN_tick {gs : List (Int × Int)} {rs : List Ru} {o : List Rn} {m : Nat} {t : Rn} (hm : o[m]? = some t) : allN gs rs (o.take (m + 1)) = allN gs rs (o.take m) + cntT gs rs t := by
  rw [List.take_add_one, hm]
  exact allN_snoc gs rs (o.take m) t
theorem cnt_one {gs : List (Int × Int)} {r : Ru} {t : Rn} : cntT gs [r] t = if hitB gs r t = true then tickN r t else 0 := by simp [cntT]
theorem allN_rtake {gs : List (Int × Int)} {rs : List Ru} {o : List Rn} (j : Nat) : allN gs (rs.take j) o ≤ allN gs rs o := by
  have h : ∀ t, cntT gs rs t = cntT gs (rs.take j) t + cntT gs (rs.drop j) t := fun t => by
    conv => lhs; rw [← List.take_append_drop j rs]
    unfold cntT
    rw [List.map_append, List.sum_append]
  show _ ≤ (o.map fun t => cntT gs rs t).sum
  rw [List.map_congr_left (fun t _ => h t), sum_add]
  exact Nat.le_add_right _ _
theorem allN_one {gs : List (Int × Int)} {rs : List Ru} {o : List Rn} {j : Nat} (hj : j < rs.length) : allN gs [ruAt rs j] o ≤ allN gs rs o := by
  have h1 := allN_rule (gs := gs) (o := o) hj
  have h2 := allN_rtake (gs := gs) (rs := rs) (o := o) (j + 1)
  omega
theorem acc_partsOk' {p : Nat} {l : List (Int × Int)} (hp : 1 ≤ p) (hp2 : p ≤ 4294967296) (h : AccOk p 281474976710656 l) : PartsOk l := by
  intro j hj
  have h1 := acc_inc h j hj
  have h2 := h.each _ (part_mem hj)
  have h3 : (partAt l j).1 * 1 ≤ (partAt l j).1 * (p : Int) := Int.mul_le_mul_of_nonneg_left (by omega) h2.1
  unfold PartOk
  omega
/-- The uses of the first rules; of a rule on the first CPUs. -/
def usesC (gs : List (Int × Int)) (rs : List Ru) (o : List Rn) (i c : Nat) : List Us := (List.range c).flatMap fun c : Nat => usesOf i c (ruAt rs i).l (usedAt gs (ruAt rs i) c o)
def usesI (gs : List (Int × Int)) (rs : List Ru) (o : List Rn) (j : Nat) : List Us := (List.range j).flatMap fun i => usesC gs rs o i 64
section
variable {gs : List (Int × Int)} {rs : List Ru} {o : List Rn}
theorem usesI_succ (j : Nat) : usesI gs rs o (j + 1) = usesI gs rs o j ++ usesC gs rs o j 64 := by
  unfold usesI
  rw [List.range_succ, List.flatMap_append]
  show _ ++ (usesC gs rs o j 64 ++ []) = _
  rw [List.append_nil]
theorem usesC_succ (i c : Nat) : usesC gs rs o i (c + 1) = usesC gs rs o i c ++ usesOf i c (ruAt rs i).l (usedAt gs (ruAt rs i) c o) := by unfold usesC; rw [List.range_succ, List.flatMap_append]; simp
theorem usesI_all : usesI gs rs o rs.length = usesL gs rs o := rfl
theorem usesOf_succ {i : Nat} {c lim : Int} {ps : List (Int × Int)} {m : Nat} (hm : m < ps.length) : (usesOf i c lim ps).take (m + 1) = (usesOf i c lim ps).take m ++ [⟨i, c, (partAt ps m).1, (partAt ps m).2, debtAt ps lim (m + 1)⟩] := by
  rw [List.take_add_one]
  congr 1
  unfold usesOf
  rw [List.getElem?_map, List.getElem?_range hm]; rfl
theorem usesOf_len (i : Nat) (c lim : Int) (ps : List (Int × Int)) : (usesOf i c lim ps).length = ps.length := by simp [usesOf]
theorem usesC_len (i : Nat) (h : allN gs [ruAt rs i] o ≤ 65536) : ∀ c, (usesC gs rs o i c).length ≤ c * 65536
  | 0 => by simp [usesC]
  | c + 1 => by
    rw [usesC_succ, List.length_append, usesOf_len]
    have := usesC_len i h c
    have := used_len1 (gs := gs) (r := ruAt rs i) (c := (c : Int)) o
    omega
theorem usesI_len (h : allN gs rs o ≤ 65536) : ∀ j, j ≤ rs.length → (usesI gs rs o j).length ≤ j * (64 * 65536)
  | 0, _ => by simp [usesI]
  | j + 1, hj => by
    rw [usesI_succ, List.length_append]
    have := usesI_len h j (by omega)
    have := usesC_len (gs := gs) (rs := rs) (o := o) j (Nat.le_trans (allN_one (by omega)) h) 64
    omega
theorem debts_get {ps : List (Int × Int)} {lim : Int} {m : Nat} (hm : m < ps.length) : (debtsL ps lim)[m]? = some (debtAt ps lim (m + 1)) := by
  unfold debtsL upto; simp [hm]
theorem debtsL_len (ps : List (Int × Int)) (lim : Int) : (debtsL ps lim).length = ps.length := by unfold debtsL upto; simp
end
end Go.Proofs.YtaplangfppohdaaDoor

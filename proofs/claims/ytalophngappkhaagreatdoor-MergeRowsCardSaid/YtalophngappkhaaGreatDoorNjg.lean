/- quantumlaw12.rows, and MergeRows. -/
import Derived.Test.YtalophngappkhaaGreatDoorNjf
import Derived.Test.YtalophngappkhaaGreatDoorZ28
import Derived.Test.YtalophngappkhaaGreatDoorZ19
set_option linter.unusedVariables false
set_option linter.unusedSimpArgs false
set_option linter.unusedSectionVars false
namespace Go.Proofs.YtalophngappkhaaGreatDoor
open Go Go.RowKit Go.Shelf
attribute [local go_sem] Oper.semAt_some

theorem flatR_snd (rows : List (Value × List Ev)) : flatR rows = (rows.map Prod.snd).flatten := by
  unfold flatR
  rw [List.flatMap_def]
theorem RowsRes.unique {r1 r2 : List (Value × List Ev)} {R R' : List Ev} {T T' : List Int} {c c' : Int} (h : RowsRes r1 R T c) (h' : RowsRes r2 R' T' c') (e : r1.map Prod.snd = r2.map Prod.snd) : R = R' ∧ T = T' ∧ c = c' := by
  have hA : AllRow r1 ↔ AllRow r2 := by
    have key : ∀ r : List (Value × List Ev), AllRow r ↔ ∀ x ∈ r.map Prod.snd, RowM x := fun r => by
      unfold AllRow
      simp only [List.mem_map]
      exact ⟨fun h x ⟨y, hy, e⟩ => e ▸ h y hy, fun h x hx => h _ ⟨x, hx, rfl⟩⟩
    rw [key, key, e]
  have hf : flatR r1 = flatR r2 := by rw [flatR_snd, flatR_snd, e]
  rcases h with ⟨h1, rfl, rfl, rfl⟩ | ⟨h1, h2⟩ <;> rcases h' with ⟨k1, rfl, rfl, rfl⟩ | ⟨k1, k2⟩
  · exact ⟨rfl, rfl, rfl⟩
  · exact absurd (hA.2 k1) h1
  · exact absurd (hA.1 h1) k1
  · rw [hf] at h2; exact h2.unique k2
theorem RowsRes.len {r1 : List (Value × List Ev)} {R : List Ev} {T : List Int} {c : Int} (h : RowsRes r1 R T c) : R.length ≤ 65535 ∧ T.length ≤ 65535 := by
  rcases h with ⟨_, _, rfl, rfl⟩ | ⟨_, ⟨_, _, rfl, rfl⟩ | ⟨_, _, _, rfl, rfl⟩ | ⟨h1, _, _, h2⟩⟩
  · simp
  · simp
  · simp
  · have := h2.len; omega
/-- The lists' copies, in memory of the call's own. -/
structure RwL (B : Nat) (W : World) (o3 o4 : Value) (own refs : List (Sl3 × List Ev)) : Prop where
  a : OV encSe 1 22 B W o3 own
  b : OV encSe 1 85 B W o4 refs
  ra : ∀ x ∈ own, OV encE 11 28 B W (slV x.1) x.2
  rb : ∀ x ∈ refs, OV encE 11 96 B W (slV x.1) x.2
theorem RwL.below {B : Nat} {W W' : World} {o3 o4 : Value} {own refs : List (Sl3 × List Ev)} (h : RwL B W o3 o4 own refs) (hb : Below W.heap.size W W') : RwL B W' o3 o4 own refs :=
  ⟨h.a.below hb, h.b.below hb, fun x hx => (h.ra x hx).below hb, fun x hx => (h.rb x hx).below hb⟩
theorem RwL.pushO {B : Nat} {W W' : World} {o3 o4 o3' : Value} {own refs : List (Sl3 × List Ev)} {x : Sl3 × List Ev} (h : RwL B W o3 o4 own refs) (hx : OV encE 11 28 B W (slV x.1) x.2) (hg : W.grownBy W' o3.ownBlock) (ho : OV encSe 1 22 B W' o3' (own ++ [x])) : RwL B W' o3' o4 (own ++ [x]) refs :=
  ⟨ho, h.b.keep hg (h.b.ne h.a (by decide)), fun y hy => by
    rcases List.mem_append.1 hy with hy | hy
    · exact (h.ra y hy).keep hg ((h.ra y hy).ne h.a (by decide))
    · rw [List.mem_singleton.1 hy]; exact hx.keep hg (hx.ne h.a (by decide)), fun y hy => (h.rb y hy).keep hg ((h.rb y hy).ne h.a (by decide))⟩
theorem RwL.pushR {B : Nat} {W W' : World} {o3 o4 o4' : Value} {own refs : List (Sl3 × List Ev)} {x : Sl3 × List Ev} (h : RwL B W o3 o4 own refs) (hx : OV encE 11 96 B W (slV x.1) x.2) (hg : W.grownBy W' o4.ownBlock) (ho : OV encSe 1 85 B W' o4' (refs ++ [x])) : RwL B W' o3 o4' own (refs ++ [x]) :=
  ⟨h.a.keep hg (h.a.ne h.b (by decide)), ho, fun y hy => (h.ra y hy).keep hg ((h.ra y hy).ne h.b (by decide)), fun y hy => by
    rcases List.mem_append.1 hy with hy | hy
    · exact (h.rb y hy).keep hg ((h.rb y hy).ne h.b (by decide))
    · rw [List.mem_singleton.1 hy]; exact hx.keep hg (hx.ne h.b (by decide))⟩
def unS (L : List (Sl3 × List Ev)) : List (Value × List Ev) := L.map fun x => (slV x.1, x.2)
theorem unS_snd (L : List (Sl3 × List Ev)) : (unS L).map Prod.snd = L.map Prod.snd := by unfold unS; simp
theorem LsE.un {W : World} {v : Value} {L : List (Sl3 × List Ev)} (h : LsE W v L) : EV encVs 1 W v (unS L) ∧ ∀ x ∈ unS L, EV encE 11 W x.1 x.2 := by
  refine ⟨h.ev.recode (by unfold unS; rw [List.map_map]; rfl), fun x hx => ?_⟩
  obtain ⟨y, hy, rfl⟩ := List.mem_map.1 hx
  exact h.rows y hy
theorem un_flat {L M : List (Sl3 × List Ev)} (e : M.map Prod.snd = L.map Prod.snd) (hok : ∀ x ∈ L, (∀ e ∈ x.2, EvOk e) ∧ x.2.length ≤ 30) (hl : L.length ≤ 8) : (∀ e ∈ flatR (unS M), EvOk e) ∧ (flatR (unS M)).length ≤ 240 ∧ (unS M).length ≤ 8 := by
  have hf : flatR (unS M) = (L.map Prod.snd).flatten := by rw [flatR_snd, unS_snd, e]
  refine ⟨fun x hx => ?_, ?_, ?_⟩
  · rw [hf] at hx
    obtain ⟨l, hl, hxl⟩ := List.mem_flatten.1 hx
    obtain ⟨y, hy, rfl⟩ := List.mem_map.1 hl
    exact (hok y hy).1 x hxl
  · rw [hf]
    have key : ∀ l : List (Sl3 × List Ev), (∀ x ∈ l, x.2.length ≤ 30) → (l.map Prod.snd).flatten.length ≤ 30 * l.length := by
      intro l
      induction l with
      | nil => simp
      | cons a l ih =>
        intro h
        have h1 := h a (by simp)
        have h2 := ih (fun x hx => h x (by simp [hx]))
        simp only [List.map_cons, List.flatten_cons, List.length_append, List.length_cons]
        omega
    have := key L (fun x hx => (hok x hx).2)
    omega
  · have := congrArg List.length e
    unfold unS
    simp at this ⊢
    omega
set_option maxRecDepth 100000 in
set_option maxHeartbeats 6400000 in
theorem rows_ok (w : World) (v : Value) (L : List (Sl3 × List Ev)) (hL : LsE w v L) (hok : ∀ x ∈ L, (∀ e ∈ x.2, EvOk e) ∧ x.2.length ≤ 30) (hlen : L.length ≤ 8) (hU : LaidAt w) :
    Calls Tryz.prog 17 #[v] w fun r w' => r = .returned (.bool true) ∧ Below w.heap.size w w' := by
  obtain ⟨A, c, hA⟩ := hL.ev.shape
  subst hA
  obtain ⟨n, hn⟩ : ∃ n, L.length = n := ⟨_, rfl⟩
  have HN := Lib.hid hn
  have HOK := Lib.hid hok
  have HLE := Lib.hid hlen
  have HU := Lib.hid hU
  rw [hn] at hL hlen ⊢
  have HL := Lib.hid hL
  clear hL hok hn hU
  go_enter Tryz.func17, Tryz.ntmps17
  go_wp2
  go_loopg [3, 4, 24] n (fun k o3 o4 i wr => ∃ (j : Nat) (own refs : List (Sl3 × List Ev)), j + k = n ∧ i = .int .i64 j ∧ RwL w.heap.size wr o3 o4 own refs ∧ own.map Prod.snd = (L.take j).map Prod.snd ∧ refs.map Prod.snd = (L.take j).map Prod.snd ∧ Below w.heap.size w wr)
  case atStart => exact ⟨0, [], [], by omega, rfl, ⟨OV.nil _ _, OV.nil _ _, fun x h => (by cases h), fun x h => (by cases h)⟩, rfl, rfl, Below.refl _ _⟩
  case round =>
    obtain ⟨j, own, refs, hj, rfl, hr, he1, he2, hb⟩ := hrel
    have HJ := Lib.hid hj
    have HR := Lib.hid hr
    have HE := Lib.hid (And.intro he1 he2)
    have HB := Lib.hid hb
    clear hj hr he1 he2 hb
    have hlo : own.length ≤ 8 := by have := congrArg List.length HE.out.1; simp at this; have := HN.out; omega
    have hlr : refs.length ≤ 8 := by have := congrArg List.length HE.out.2; simp at this; have := HN.out; omega
    have HLO := Lib.hid (And.intro hlo hlr)
    by_cases hlt : j < n
    · obtain ⟨b, off, c', hsl, hcc, hr⟩ := (HL.out.ev.below HB.out).row (by rw [HN.out]; omega)
      rw [HN.out] at hsl
      cases hsl
      obtain ⟨⟨⟨Ax, nx, cx⟩, xs⟩, hx⟩ : ∃ x, L[j]? = some x := ⟨_, List.getElem?_eq_getElem (by rw [HN.out]; exact hlt)⟩
      have hm := List.mem_of_getElem? hx
      have g0 := hr.se hx
      have HX := Lib.hid (HL.out.rows _ hm)
      have HXO := Lib.hid (HOK.out _ hm)
      have HTK := Lib.hid (show (L.take (j + 1)).map Prod.snd = (L.take j).map Prod.snd ++ [xs] from by rw [List.take_add_one, hx]; simp)
      dsimp only at g0 HX HXO
      unfold slV at HX
      dsimp only at HX
      clear hr hm hx hlo hlr
      go_upto_region 6 with fail
      go_wp2_with fail
      refine (clone_ev wr (.slice Ax nx cx) xs (HX.out.below HB.out) (by have := HXO.out.2; omega)).mono ?_
      rintro r w1 ⟨vo, rfl, oo, b1⟩
      obtain ⟨Ao, co, hvo⟩ := (oo.ev encE_len).shape
      obtain ⟨no, hno⟩ : ∃ m, xs.length = m := ⟨_, rfl⟩
      rw [hno] at hvo
      subst hvo
      have HOO := Lib.hid (oo.base_le HB.out.size)
      have HR1 := Lib.hid (HR.out.below b1)
      have HB1 := Lib.hid (bstep HB.out b1)
      have HNO := Lib.hid hno
      clear oo b1 hno g0
      go_wp2_with (at_builtin; refine wpList_app elemLE encSe_len encSe_one rfl _ _ rfl _ _ rfl rfl (HR1.out.a.alloc _) (EV.newL (xs := [((Ao, no, co), xs)]) (n := 1) (c := 1) encSe_len rfl rfl (Nat.le_refl _)) ?q1 ?q2 ?_)
      case q1 => have := HLO.out; simp; omega
      case q2 => have := HB1.out.size; simp; omega
      intro v3 w2 o2 g2
      have hal := bel_alloc w1 (.cells #[.slice Ao no co] 22)
      have HR2 := Lib.hid ((HR1.out.below hal).pushO (x := ((Ao, no, co), xs)) (HOO.out.below hal) g2 o2)
      have HB2 := Lib.hid ((bstep HB1.out hal).grown g2 (bstep HB1.out hal).size (fun g q => ((HR1.out.a.below hal).block g q).1))
      clear o2 g2 hal
      go_wp2_with fail
      refine (theirs_ok w2 (.slice Ax nx cx) xs (HX.out.below HB2.out) (by have := HXO.out.2; omega)).mono ?_
      rintro r w3 ⟨vt, rfl, ot, b3⟩
      obtain ⟨At, ct, hvt⟩ := (ot.ev encE_len).shape
      rw [HNO.out] at hvt
      subst hvt
      have HOT := Lib.hid (ot.base_le HB2.out.size)
      have HR3 := Lib.hid (HR2.out.below b3)
      have HB3 := Lib.hid (bstep HB2.out b3)
      clear ot b3
      go_wp2_with (at_builtin; refine wpList_app elemSRE encSe_len encSe_one rfl _ _ rfl _ _ rfl rfl (HR3.out.b.alloc _) (EV.newL (xs := [((At, no, ct), xs)]) (n := 1) (c := 1) encSe_len rfl rfl (Nat.le_refl _)) ?q1 ?q2 ?_)
      case q1 => have := HLO.out; simp; omega
      case q2 => have := HB3.out.size; simp; omega
      intro v4 w4 o4 g4
      have hal := bel_alloc w3 (.cells #[.slice At no ct] 85)
      have HR4 := Lib.hid ((HR3.out.below hal).pushR (x := ((At, no, ct), xs)) (HOT.out.below hal) g4 o4)
      have HB4 := Lib.hid ((bstep HB3.out hal).grown g4 (bstep HB3.out hal).size (fun g q => ((HR3.out.b.below hal).block g q).1))
      clear o4 g4 hal
      go_wp2
      go_roundg (gk - 1)
      case measure => have := HJ.out; omega
      case rel => exact ⟨j + 1, _, _, by have := HJ.out; omega, by go_num, HR4.out, by rw [List.map_append, HE.out.1, HTK.out]; rfl, by rw [List.map_append, HE.out.2, HTK.out]; rfl, HB4.out⟩
    · obtain rfl : n = j := by have := HJ.out; omega
      have he := HE.out
      rw [List.take_of_length_le (Nat.le_of_eq HN.out)] at he
      have ha : LsE wr u3 own := ⟨HR.out.a.ev encSe_len, fun x hx => (HR.out.ra x hx).ev encE_len⟩
      have hbb : LsE wr u4 refs := ⟨HR.out.b.ev encSe_len, fun x hx => (HR.out.rb x hx).ev encE_len⟩
      have hlo2 : own.length = n := by have := congrArg List.length he.1; simpa [HN.out] using this
      have hlr2 : refs.length = n := by have := congrArg List.length he.2; simpa [HN.out] using this
      obtain ⟨A3, c3, h3⟩ := ha.ev.shape
      obtain ⟨A4, c4, h4⟩ := hbb.ev.shape
      rw [hlo2] at h3
      rw [hlr2] at h4
      subst h3 h4
      have HF := Lib.hid (show RwF wr (.slice A n c) (.slice A3 n c3) (.slice A4 n c4) L own refs from ⟨HL.out.below HB.out, ha, hbb, he.1, he.2, HOK.out, HLE.out, HU.out.below HB.out⟩)
      obtain ⟨k1, k2, k3⟩ := un_flat he.1 HOK.out HLE.out
      obtain ⟨m1, m2, m3⟩ := un_flat he.2 HOK.out HLE.out
      have HRO := Lib.hid (mrows_ok wr (.slice A3 n c3) (unS own) ha.un.1 ha.un.2 k1 (by omega) (by omega) (HU.out.below HB.out).uses)
      have HRR := Lib.hid (fun (W : World) (b : Below wr.heap.size wr W) => r12rows_ok W (.slice A4 n c4) (unS refs) (hbb.un.1.below b) (fun x hx => (hbb.un.2 x hx).below b) m1 (by omega) (by omega))
      have HSE := Lib.hid (show (unS own).map Prod.snd = (unS refs).map Prod.snd by rw [unS_snd, unS_snd, he.1, he.2])
      clear he ha hbb hlo2 hlr2 k1 k2 k3 m1 m2 m3 hlo hlr HR HE
      go_upto_region 8 with fail
      go_wp2_with fail
      refine HRO.out.mono ?_
      rintro r w2 ⟨v1, v2, cc, R, T, rfl, o1, o2, hres, b2⟩
      obtain ⟨Aa, ca, hva⟩ := (o1.ev encE_len).shape
      obtain ⟨na, hna⟩ : ∃ m, R.length = m := ⟨_, rfl⟩
      rw [hna] at hva
      subst hva
      have HNA := Lib.hid (show R.length = na ∧ R.length ≤ 65535 ∧ T.length ≤ 65535 from ⟨hna, hres.len⟩)
      have HO1 := Lib.hid o1
      have HO2 := Lib.hid (o2.ev encI_len)
      have HRS := Lib.hid hres
      have HB2 := Lib.hid b2
      clear o1 o2 hres b2 hna HRO
      go_upto_region 9 with fail
      go_wp2_with fail
      refine (HRR.out w2 HB2.out).mono ?_
      rintro r w3 ⟨v5, v6, R', T', c', rfl, o5, o6, hres, b3⟩
      obtain ⟨rfl, rfl, rfl⟩ := HRS.out.unique hres HSE.out
      have HO5 := Lib.hid (o5.ev encE_len)
      have HO6 := Lib.hid (o6.ev encI_len)
      have HO1' := Lib.hid (HO1.out.below b3)
      have HO2' := Lib.hid (HO2.out.below b3)
      have HB3 := Lib.hid (bstep HB2.out b3)
      clear o5 o6 hres b3 HB2 HO1 HO2
      go_upto_region 10 with fail
      go_wp2_with fail
      refine (theirs_ok w3 (.slice Aa na ca) R (HO1'.out.ev encE_len) (by have := HNA.out; omega)).mono ?_
      rintro r w4 ⟨v7, rfl, o7, b4⟩
      have HO7 := Lib.hid (o7.ev encE_len)
      have HO5' := Lib.hid (HO5.out.below b4)
      have HO6' := Lib.hid (HO6.out.below b4)
      have HO1 := Lib.hid (HO1'.out.below b4)
      have HO2 := Lib.hid (HO2'.out.below b4)
      have HB4 := Lib.hid (bstep HB3.out b4)
      clear o7 b4 HB3 HO1' HO2' HO5 HO6
      go_wp2_with fail
      refine (eq_rev w4 v7 v5 R HO7.out HO5'.out (by have := HNA.out; omega)).mono ?_
      rintro r w5 ⟨rfl, b5⟩
      have HO6 := Lib.hid (HO6'.out.below b5)
      have HO1' := Lib.hid (HO1.out.below b5)
      have HO2' := Lib.hid (HO2.out.below b5)
      have HB5 := Lib.hid (bstep HB4.out b5)
      clear b5 HB4 HO1 HO2 HO6' HO7 HO5'
      go_wp2_with fail
      refine (eq_int w5 v2 v6 T HO2'.out HO6.out (by have := HNA.out; omega)).mono ?_
      rintro r w6 ⟨rfl, b6⟩
      have HO1 := Lib.hid (HO1'.out.below b6)
      have HB6 := Lib.hid (bstep HB5.out b6)
      clear b6 HB5 HO1' HO2' HO6
      go_upto_if 66 with fail
      go_cut [] (fun wz => ∃ wq, wq = wz ∧ wq = w6)
      case first =>
        go_wp2
        go_meet
        exact ⟨_, rfl, rfl⟩
      case rest =>
        obtain ⟨wq, rfl, rfl⟩ := hcut
        refine (‹∀ (a : Act) (w : World), Code.wp _ _ _ a w → _› : ∀ (a : Act) (w : World), _ → _) _ _ (rows_t12 w wr wq A A3 A4 Aa c c3 c4 na ca n L own refs HN.out HF.out HB.out HB6.out ?_ ?_ ?_)
        · have := HO1.out.wrt encE_len
          rwa [HNA.out.1] at this
        · exact fun g hg => (HO1.out.block g hg).1
        · have := HNA.out; omega
end Go.Proofs.YtalophngappkhaaGreatDoor

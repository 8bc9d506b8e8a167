/- The walk of the law SeqOf: the numbers in another order. -/
import Derived.Test.YtofjgcbjpmgkdaaVe
set_option linter.unusedVariables false
set_option linter.unusedSimpArgs false
set_option linter.unusedSectionVars false
namespace Go.Proofs.Ytofjgcbjpmgkdaa
open Go Go.RowKit Go.Shelf

def rotL (ns : List Int) (o : Nat) : List Int := (List.range ns.length).map fun i => ns.getD ((i + o) % ns.length) 0
theorem new_int1 {w : World} {p : Int} {e : TypeId} : EV encI 1 (w.alloc (.cells #[.int .i64 p] e)) (.slice (some ⟨w.heap.size, 0, none⟩) 1 1) [p] := EV.newL encI_len rfl rfl (Nat.le_refl _)
theorem rotL_len (ns : List Int) (o : Nat) : (rotL ns o).length = ns.length := by simp [rotL]
theorem rotL_get {ns : List Int} {o i : Nat} (h : i < ns.length) : (rotL ns o)[i]? = some (ns.getD ((i + o) % ns.length) 0) := by simp [rotL, h]
theorem rotL_perm (ns : List Int) (o : Nat) : (rotL ns o).Perm ns := by
  rcases Nat.eq_zero_or_pos ns.length with h0 | h0
  · have := List.eq_nil_of_length_eq_zero h0
    subst this; simp [rotL]
  have hk : o % ns.length < ns.length := Nat.mod_lt _ h0
  obtain ⟨k, hke⟩ : ∃ k, o % ns.length = k := ⟨_, rfl⟩
  rw [hke] at hk
  have e : rotL ns o = ns.drop k ++ ns.take k := by
    refine List.ext_getElem? fun i => ?_
    rcases Nat.lt_or_ge i ns.length with hi | hi
    · rw [rotL_get hi]
      have hm : (i + o) % ns.length = if i + k < ns.length then i + k else i + k - ns.length := by
        rw [Nat.add_mod, hke, Nat.mod_eq_of_lt hi]
        split
        · exact Nat.mod_eq_of_lt (by assumption)
        · rw [Nat.mod_eq_sub_mod (by omega), Nat.mod_eq_of_lt (by omega)]
      rw [hm]
      split
      · rename_i h
        rw [List.getElem?_append_left (by simp; omega), List.getElem?_drop, List.getD_eq_getElem?_getD, Nat.add_comm k i, List.getElem?_eq_getElem h]; rfl
      · rename_i h
        rw [List.getElem?_append_right (by simp; omega), List.getElem?_take_of_lt (by simp; omega), List.getD_eq_getElem?_getD, List.length_drop]
        rw [show i - (ns.length - k) = i + k - ns.length by omega, List.getElem?_eq_getElem (by omega)]; rfl
    · rw [List.getElem?_eq_none (by rw [rotL_len]; exact hi), List.getElem?_eq_none (by simp; omega)]
  rw [e]
  exact List.perm_append_comm.trans (by rw [List.take_append_drop])
set_option maxRecDepth 100000 in
set_option maxHeartbeats 1600000 in
theorem of_tail13 (w wc : World) (nv : Value) (ns : List Int) (o : Nat) {u0 u2 u3 u4 u5 u6 u8 u9 u10 u11 u12 u13 u14 u15 u16 u17 u18 u19 u20 u21 u22 u23 u24 u25 u26 u27 u28 u29 u30 u31 u32 u33 u34 u35 u36 u37 u38 u39 u40 u41 u42 u43 u44 u45 u46 u47 u48 u49 u50 u51 u52 u53 u54 u55 u56 u57 u58 u59 u60 u61 u62 u63 u64 u65 u66 u67 u68 u69 u70 u71 u72 u73 u74 u75 u76 u77 u78 u79 u80 u81 u82 u83 u84 u85 u86 u87 u88 u89 u90 u91 u92 u93 u94 u95 u96 u97 u98 u99 u100 u101 u102 u103 u104 u105 u106 u107 u108 u109 u110 u111 u112 u113 u114 u115 u116 u117 u118 u119 u120 u121 u122 u123 u124 u125 u126 u127 u128 u129 u130 u131 u132 u133 u134 u135 u136 u137 u138 u139 u140 u141 u142 u143 u144 u145 u146 u147 u148 u149 u150 u151 u152 u153 u154 u155 u156 u157 u158 u159 u160 u161 u162 u163 u164 u165 u166 u167 u168 u169 u170 u171 u172 u173 u174 u175 : Value}
    (hN : OV encI 1 3 w.heap.size wc nv ns) (hn : ns.length ≤ 60) (ho : o < 256) (hk : ns.all okN = true) (hb : Below w.heap.size w wc) :
    Code.wp Try.prog (tailR Try.f6 13) (bodyPost Try.prog Try.f6 fun e w' => e = .returned (.bool true) ∧ Below w.heap.size w w')
      ⟨#[u0, .int .u8 (o : Int), u2, u3, u4, u5, u6, nv, u8, u9, u10, u11, u12, u13, u14, u15, u16, u17, u18, u19, u20, u21, u22, u23, u24, u25, u26, u27, u28, u29, u30, u31, u32, u33, u34, u35, u36, u37, u38, u39, u40, u41, u42, u43, u44, u45, u46, u47, u48, u49, u50, u51, u52, u53, u54, u55, u56, u57, u58, u59, u60, u61, u62, u63, u64, u65, u66, u67, u68, u69, u70, u71, u72, u73, u74, u75, u76, u77, u78, u79, u80, u81, u82, u83, u84, u85, u86, u87, u88, u89, u90, u91, u92, u93, u94, u95, u96, u97, u98, u99, u100, u101, u102, u103, u104, u105, u106, u107, u108, u109, u110, u111, u112, u113, u114, u115, u116, u117, u118, u119, u120, u121, u122, u123, u124, u125, u126, u127, u128, u129, u130, u131, u132, u133, u134, u135, u136, u137, u138, u139, u140, u141, u142, u143, u144, u145, u146, u147, u148, u149, u150, u151, u152, u153, u154, u155, u156, u157, u158, u159, u160, u161, u162, u163, u164, u165, u166, u167, u168, u169, u170, u171, u172, u173, u174, u175], []⟩ wc := by
  conv => arg 2; whnf
  conv => arg 4; dsimp only
  have HN := Lib.hid hN
  have HB := Lib.hid hb
  have HK := Lib.hid hk
  obtain ⟨A, c, hsh⟩ := (hN.ev encI_len).shape
  subst hsh
  have sc := hb.size
  obtain ⟨L, hL⟩ : ∃ L, ns.length = L := ⟨_, rfl⟩
  have HL := Lib.hid hL
  rw [hL] at hn HN ⊢
  clear hN hk hb hL
  go_upto_block 2 with fail
  go_cut [11] (fun tv wx => OV encI 1 3 w.heap.size wx tv (rotL ns o) ∧ OV encI 1 3 w.heap.size wx (.slice A L c) ns ∧ Below w.heap.size w wx)
  case first =>
    go_wp2_with fail
    go_loopg [11, 56] L (fun k tv i wr => ∃ j : Nat, j + k = L ∧ i = .int .i64 j ∧ OV encI 1 3 wc.heap.size wr tv ((rotL ns o).take j) ∧ OV encI 1 3 w.heap.size wr (.slice A L c) ns ∧ (∀ g, tv.ownBlock = some g → wc.heap.size ≤ g) ∧ Below wc.heap.size wc wr)
    case atStart => exact ⟨0, by omega, rfl, OV.nil _ _, HN.out, (fun g h => by simp [Value.ownBlock] at h), Below.refl _ _⟩
    case round =>
      obtain ⟨j, hj, rfl, hv, hm, hg, hb⟩ := hrel
      have HJ := Lib.hid hj
      have HV := Lib.hid hv
      have HM := Lib.hid hm
      have HG := Lib.hid hg
      have HB2 := Lib.hid hb
      have sr := hb.size
      clear hj hv hm hg hb
      by_cases hlt : j < L
      · have hd : decide ((j : Int) < (L : Int)) = true := by rw [decide_eq_true_eq]; omega
        obtain ⟨Q, hQ⟩ : ∃ Q, (j + o) % L = Q := ⟨_, rfl⟩
        have hQL : Q < L := by rw [← hQ]; exact Nat.mod_lt _ (by omega)
        have hQi : ((j : Int) + (o : Int)) % (L : Int) = (Q : Int) := by rw [← hQ, Int.natCast_emod, Int.natCast_add]
        have hQt : ((j : Int) + (o : Int)).tmod (L : Int) = (Q : Int) := by rw [Int.tmod_eq_emod_of_nonneg (by omega)]; exact hQi
        obtain ⟨x, hx⟩ : ∃ x, ns[Q]? = some x := ⟨_, List.getElem?_eq_getElem (by rw [HL.out]; omega)⟩
        obtain ⟨b, off, c', hvv, _, hr⟩ := (HM.out.ev encI_len).row (by rw [HL.out]; omega)
        simp only [Value.slice.injEq] at hvv
        obtain ⟨rfl, hz, rfl⟩ := hvv
        clear hz
        have cj := hr.int (i := Q) (by rw [HL.out]; omega)
        rw [hx, Option.getD_some] at cj
        have hgt : (rotL ns o)[j]? = some x := by rw [rotL_get (by rw [HL.out]; omega), HL.out, hQ, List.getD_eq_getElem?_getD, hx]; rfl
        have TK := Lib.hid (show (rotL ns o).take (j + 1) = (rotL ns o).take j ++ [x] by rw [List.take_add_one, hgt, Option.toList_some])
        have w1 : IntKind.i64.wrap ((j : Int) + (o : Int)) = (j : Int) + (o : Int) := IntWalk.i64_in _ (by omega)
        have hL0 : ¬ L = 0 := by omega
        have hL0' : ((L : Int) == 0) = false := by simp; omega
        have h0Q : (0 : Int) ≤ (Q : Int) := by omega
        have hQL' : (Q : Int) < (L : Int) := by omega
        have hlen : ((rotL ns o).take j).length ≤ 60 := by rw [List.length_take, rotL_len, HL.out]; omega
        clear hr hx hgt hQ
        go_wp2_with (at_builtin; refine wpList_app elemI encI_len encI_one rfl (.tmp 59) (.tmp 70) rfl _ _ rfl rfl (HV.out.alloc _) new_int1 ?q1 ?q2 ?_)
        case q1 => simp only [List.length_cons, List.length_nil]; omega
        case q2 => (try simp); omega
        intro v2 w2 o2 g2
        have hgr := (World.grownBy_alloc wr (.cells #[.int .i64 x] 3) u11.ownBlock).andThen g2 (fun k hk => .inr hk)
        have M2 := Lib.hid (HM.out.keep hgr (.inr (by intro h; have := HG.out _ h.symm; have := (HN.out.block _ rfl).2; omega)))
        have G2 := Lib.hid (fun g (hg : v2.ownBlock = some g) => (o2.block g hg).1)
        have B2 := Lib.hid (HB2.out.grown hgr sr (fun k hk => HG.out k hk))
        rw [← TK.out] at o2
        have V2 := Lib.hid o2
        clear o2 g2 hgr HM HG HB2 HV
        go_wp2_with fail
        go_roundg (gk - 1)
        case measure => have := HJ.out; omega
        case rel => exact ⟨j + 1, by have := HJ.out; omega, by go_num, V2.out, M2.out, G2.out, B2.out⟩
      · have hd : decide ((j : Int) < (L : Int)) = false := by rw [decide_eq_false_iff_not]; omega
        have X := Lib.hid (show OV encI 1 3 w.heap.size wr u11 (rotL ns o) from by have := HV.out; rw [List.take_of_length_le (by rw [rotL_len, HL.out]; omega)] at this; exact this.base_le sc)
        go_wp2_with fail
        go_meet
        exact ⟨X.out, HM.out, HB.out.trans (HB2.out.mono sc)⟩
  case rest =>
    obtain ⟨h1, h2, h3⟩ := hcut
    refine (‹∀ (a : Act) (w : World), Code.wp _ _ _ a w → _› : ∀ (a : Act) (w : World), _ → _) _ _ (of_tail19 w wc _ _ ns (rotL ns o) h2 h1 (rotL_perm ns o) (by rw [HL.out]; exact hn) HK.out h3)
end Go.Proofs.Ytofjgcbjpmgkdaa

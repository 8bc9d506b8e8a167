/- slices.Grow of nil and slices.Concat of two at parts | QuotaSpreads: the parts of a tick; plain | QuotaSpreads: the walk, from its end. -/
import Derived.Test.YtaplangfppohdaaDoorZ4
import Derived.Test.YtaplangfppohdaaDoorZ5
import Derived.Lib.AppendZerosOnto
import Derived.Deep.CutBlock
import Derived.Test.YtaplangfppohdaaDoorZ14
set_option linter.unusedVariables false
set_option linter.unusedSimpArgs false
set_option linter.unusedSectionVars false
namespace Go.Proofs.YtaplangfppohdaaDoor
open Go Go.RowKit Go.Shelf
attribute [local go_sem] Oper.semAt_some

section
variable {P : Program} {α : Type} {enc : α → List Value} {k bytes : Nat} {t e tn : TypeId} {w : World}
theorem run_grow0 (T : ElemT P t e k bytes) (htn : P.underlying tn = some (.int .i64)) (ty : TypeId) (n : Nat) (h0 : 0 < n) (hn : n ≤ 1000000000) :
    ∃ cap w', (Builtin.append_ #[t, tn] ty #[.slice none 0 0, .int .i64 n]).run P w = .ok (.slice (some ⟨w.heap.size, 0, none⟩) n cap) w' ∧ n ≤ cap ∧ OV enc k e w.heap.size w' (.slice (some ⟨w.heap.size, 0, none⟩) 0 cap) [] ∧ Below w.heap.size w w' := by
  obtain ⟨i, z, hi, hz, hsz, hby, hzs⟩ := T.hi
  have hkp := T.hk
  have hbb : n * bytes ≤ 140737488355328 := Nat.le_trans (Nat.mul_le_mul hn T.hb) (by decide)
  have hml : n ≤ maxLen := by unfold maxLen; omega
  have hr := Go.Lib.run_append_grow_zeros (P := P) w t tn ty e i z .i64 .i64 T.ht htn hi hz none 0 0 [] (by exact run_firstCells_none w.drew i.size 0 0 0) n h0 (by omega) (by omega) (by omega) (by rw [hby]; omega) (growslice_fits (by omega) (by rw [hby, Nat.zero_add]; exact hbb))
  simp only [Nat.zero_add] at hr
  refine ⟨_, _, hr, grownCap_ge w n 0 e, ?_, (Below.refl _ w).drew.alloc (by simp) _⟩
  have := OV.made (enc := enc) (k := k) (e := e) (base := w.heap.size) w.drew (grownCap w n 0 e) (([] : List Value).toArray ++ Builtin.zeroCells z.cells n ++ Builtin.zeroCells z.cells (grownCap w n 0 e - n)) (by simp) (grownCap_le_maxLen w n 0 e hml) (by
    have hge := grownCap_ge w n 0 e
    simp only [Array.size_append, List.size_toArray, size_zeroCells, hzs, hsz, ← Nat.add_mul, List.length_nil, Nat.zero_add]
    congr 1
    omega)
  simpa using this
theorem wpList_grow0 {ops : Array Oper} {rest : List Oper} {o : Oper} {a : Act} {Q : Exit → Act → World → Prop} (T : ElemT P t e k bytes) (htn : P.underlying tn = some (.int .i64))
    (hgd : o.guard = none) (s x : Operand) (ho : o.op = .call { callee := .builtin .append, args := #[s, x], argTypes := #[t, tn] }) (n : Nat) (hs : a.eval s = .slice none 0 0) (hx : a.eval x = .int .i64 n) (h0 : 0 < n) (hn : n ≤ 1000000000)
    (h : ∀ cap w', n ≤ cap → OV enc k e w.heap.size w' (.slice (some ⟨w.heap.size, 0, none⟩) 0 cap) [] → Below w.heap.size w w' → wpList P ops Q rest (a.put o.dst (.slice (some ⟨w.heap.size, 0, none⟩) n cap)) w') : wpList P ops Q (o :: rest) a w := by
  refine wpList_plain hgd fun _ hK => ?_
  obtain ⟨cap, w', hr, h1, h2, h3⟩ := run_grow0 (enc := enc) (w := w) T htn o.type n h0 hn
  unfold Oper.wp execOp
  simp only [ho, resolve, invoke, builtin, Sem.run_bind, Sem.run_pure, Result.andThen_ok, List.map_toArray, List.map_cons, List.map_nil, hs, hx, hr]
  exact hK _ _ (h cap w' h1 h2 h3)
end
set_option maxHeartbeats 800000 in
theorem grow_part (w : World) (n : Nat) (hn : n ≤ 1000000000) :
    Calls Tryd.prog 61 #[.slice none 0 0, .int .i64 n] w fun e w' => ∃ v, e = .returned v ∧ OV encG 2 27 w.heap.size w' v [] ∧ Below w.heap.size w w' := by
  rcases Nat.eq_zero_or_pos n with rfl | h0
  · go_enter Tryd.func61, Tryd.ntmps61
    go_wp2
    go_ret
    exact ⟨_, rfl, OV.nil _ _, Below.refl _ _⟩
  · go_enter Tryd.func61, Tryd.ntmps61
    go_wp2_with (at_builtin; refine wpList_grow0 (enc := encG) elemPt Tryd.underlying3 rfl _ _ rfl n rfl rfl h0 hn ?_)
    intro cap w1 hc ho hb
    have HO := Lib.hid ho
    have HB := Lib.hid hb
    clear ho hb
    go_wp2
    go_ret
    exact ⟨_, rfl, HO.out, HB.out⟩
set_option maxRecDepth 100000 in
set_option maxHeartbeats 1600000 in
theorem concat_part (w : World) (g n : Nat) (xs ys : List (Int × Int)) (na nb ca cb : Nat) (Aa Ab : Option Addr) (hg : w.heap.size = g) (h1 : EV encG 2 w (.slice Aa na ca) xs) (h2 : EV encG 2 w (.slice Ab nb cb) ys) (l1 : xs.length = na) (l2 : ys.length = nb) (b1 : na ≤ 100000) (b2 : nb ≤ 100000) :
    Calls Tryd.prog 22 #[.slice (some ⟨g, 0, none⟩) 2 2] (w.alloc (.cells #[.slice Aa na ca, .slice Ab nb cb] 25)) fun e w' => ∃ v, e = .returned v ∧ OV encG 2 27 w.heap.size w' v (xs ++ ys) ∧ Below w.heap.size w w' := by
  have hb0 := bel_alloc w (.cells #[.slice Aa na ca, .slice Ab nb cb] 25)
  have c0 : (w.alloc (.cells #[.slice Aa na ca, .slice Ab nb cb] 25)).cell? ⟨g, 0, none⟩ = some (.slice Aa na ca) := by subst hg; go_simp
  have c1 : (w.alloc (.cells #[.slice Aa na ca, .slice Ab nb cb] 25)).cell? ⟨g, 1, none⟩ = some (.slice Ab nb cb) := by subst hg; go_simp
  have e1 := h1.below hb0
  have e2 := h2.below hb0
  have hgs : g < (w.alloc (.cells #[.slice Aa na ca, .slice Ab nb cb] 25)).heap.size := by simp [hg]
  clear h1 h2
  generalize w.alloc (.cells #[.slice Aa na ca, .slice Ab nb cb] 25) = w0 at *
  have HB0 := Lib.hid hb0
  have E1 := Lib.hid e1
  have E2 := Lib.hid e2
  have L := Lib.hid (And.intro l1 l2)
  clear hb0 e1 e2 l1 l2
  have HGR := Lib.hid (fun wx => grow_part wx (na + nb) (by omega))
  go_enter Tryd.func22, Tryd.ntmps22
  go_wp2
  go_loopg [3, 11] 2 (fun k z i wr => wr = w0 ∧ ((k = 2 ∧ i = .int .i64 0 ∧ z = .int .i64 0) ∨ (k = 1 ∧ i = .int .i64 1 ∧ z = .int .i64 na) ∨ (k = 0 ∧ i = .int .i64 2 ∧ z = .int .i64 ((na + nb : Nat) : Int))))
  case atStart => exact ⟨rfl, .inl ⟨rfl, rfl, rfl⟩⟩
  case round =>
    obtain ⟨rfl, ⟨rfl, rfl, rfl⟩ | ⟨rfl, rfl, rfl⟩ | ⟨rfl, rfl, rfl⟩⟩ := hrel
    · go_wp2
      go_roundg 1
      case measure => omega
      case rel => exact ⟨rfl, .inr (.inl ⟨rfl, by go_num, by go_num⟩)⟩
    · go_wp2
      go_roundg 0
      case measure => omega
      case rel => exact ⟨rfl, .inr (.inr ⟨rfl, by go_num, by go_num⟩)⟩
    · go_wp2_with fail
      refine (HGR.out _).mono ?_
      rintro e w1 ⟨v, rfl, ho, hb⟩
      have HO := Lib.hid ho
      have HB := Lib.hid hb
      have C0 := Lib.hid c0
      have C1 := Lib.hid c1
      clear ho hb c0 c1
      obtain ⟨ws, hws⟩ : ∃ ws, ws = wr := ⟨_, rfl⟩
      subst hws
      go_wp2
      go_loopg [6, 27] 2 (fun k v i wq => ∃ zs, OV encG 2 27 ws.heap.size wq v zs ∧ Below ws.heap.size ws wq ∧ ((k = 2 ∧ i = .int .i64 0 ∧ zs = []) ∨ (k = 1 ∧ i = .int .i64 1 ∧ zs = xs) ∨ (k = 0 ∧ i = .int .i64 2 ∧ zs = xs ++ ys)))
      case atStart => exact ⟨[], HO.out, HB.out, .inl ⟨rfl, rfl, rfl⟩⟩
      case round =>
        obtain ⟨zs, ho, hb, hcs⟩ := hrel
        have HO2 := Lib.hid ho
        have HB2 := Lib.hid hb
        have d0 := below_cell hb C0.out
        have d1 := below_cell hb C1.out
        have HV1 := Lib.hid (E1.out.below hb)
        have HV2 := Lib.hid (E2.out.below hb)
        clear ho hb
        rcases hcs with ⟨rfl, rfl, rfl⟩ | ⟨rfl, rfl, rfl⟩ | ⟨rfl, rfl, rfl⟩
        · go_wp2_with (at_builtin; refine wpList_app elemPt encG_len encG_one rfl _ _ rfl _ _ rfl rfl HO2.out HV1.out ?q1 ?q2 ?_)
          case q1 => rw [L.out.1]; simp; omega
          case q2 => exact HB2.out.size
          intro v' w3 ho3 hg3
          have HO3 := Lib.hid ho3
          have HB3 := Lib.hid (HB2.out.grown hg3 HB2.out.size (fun k hk => (HO2.out.block k hk).1))
          clear ho3 hg3
          go_wp2
          go_roundg 1
          case measure => omega
          case rel => exact ⟨_, HO3.out, HB3.out, .inr (.inl ⟨rfl, by go_num, rfl⟩)⟩
        · go_wp2_with (at_builtin; refine wpList_app elemPt encG_len encG_one rfl _ _ rfl _ _ rfl rfl HO2.out HV2.out ?q1 ?q2 ?_)
          case q1 => rw [L.out.1, L.out.2]; omega
          case q2 => exact HB2.out.size
          intro v' w3 ho3 hg3
          have HO3 := Lib.hid ho3
          have HB3 := Lib.hid (HB2.out.grown hg3 HB2.out.size (fun k hk => (HO2.out.block k hk).1))
          clear ho3 hg3
          go_wp2
          go_roundg 0
          case measure => omega
          case rel => exact ⟨_, HO3.out, HB3.out, .inr (.inr ⟨rfl, by go_num, rfl⟩)⟩
        · go_wp2
          go_ret
          exact ⟨_, rfl, HO2.out.base_le HB0.out.size, HB0.out.trans (HB2.out.mono HB0.out.size)⟩
end Go.Proofs.YtaplangfppohdaaDoor
namespace Go.Proofs.YtaplangfppohdaaDoor
open Go Go.RowKit

section
variable {t a p : Nat}
/-- How many periods from a to t. -/
def nP (t a p : Nat) : Nat := (t - 1) / p - a / p + 1
theorem nP_pos (t a p : Nat) : 0 < nP t a p := by unfold nP; omega
theorem cut_zero : cutA t a p 0 = a := rfl
theorem cut_mid (hp : 1 ≤ p) (ha : a < t) {k : Nat} (h0 : 0 < k) (hk : k < nP t a p) : cutA t a p k = (a / p + k) * p := by
  have h1 : a / p ≤ (t - 1) / p := Nat.div_le_div_right (by omega)
  have h2 : a / p + k ≤ (t - 1) / p := by unfold nP at hk; omega
  have h3 : (a / p + k) * p ≤ t - 1 := Nat.le_trans (Nat.mul_le_mul_right p h2) (Nat.div_mul_le_self _ _)
  unfold cutA
  rw [if_neg (by omega)]
  omega
theorem cut_last (hp : 1 ≤ p) (ha : a < t) : cutA t a p (nP t a p) = t := cutA_end hp ha rfl
def prt (t a p : Nat) : List (Int × Int) := (List.range (nP t a p)).map (partI t a p)
theorem partsL_prt {n : Nat} : partsL t n p = prt t (t - n) p := rfl
theorem prt_len : (prt t a p).length = nP t a p := by simp [prt]
theorem prt_at {k : Nat} (hk : k < nP t a p) : (prt t a p)[k]? = some (partI t a p k) := by simp [prt, hk]
theorem div_step {m : Nat} (hp : 1 ≤ p) (hm : 1 ≤ m) : (m / p = (m - 1) / p) ∨ (m / p = (m - 1) / p + 1 ∧ m / p * p = m) := by
  have h1 : (m - 1) / p ≤ m / p := Nat.div_le_div_right (by omega)
  have h2 := Nat.lt_mul_div_succ (m - 1) (show 0 < p by omega)
  rw [Nat.mul_comm] at h2
  have h3 := Nat.div_mul_le_self m p
  rcases Nat.eq_or_lt_of_le h1 with h | h
  · exact .inl h.symm
  · right
    have h4 : ((m - 1) / p + 1) * p ≤ m / p * p := Nat.mul_le_mul_right p h
    have h5 : m / p * p = m := by omega
    refine ⟨?_, h5⟩
    have h6 : m / p < (m - 1) / p + 2 := by
      rw [Nat.div_lt_iff_lt_mul (by omega), show (m - 1) / p + 2 = (m - 1) / p + 1 + 1 by omega, Nat.add_mul]
      omega
    omega
section
variable {m : Nat}
theorem nP_split (ham : a < m) (hmt : m < t) (h : m / p = (m - 1) / p + 1) : nP t a p = nP m a p + nP t m p := by
  have h1 : a / p ≤ (m - 1) / p := Nat.div_le_div_right (by omega)
  have h2 : m / p ≤ (t - 1) / p := Nat.div_le_div_right (by omega)
  unfold nP; omega
theorem nP_meet (ham : a < m) (hmt : m < t) (h : m / p = (m - 1) / p) : nP t a p + 1 = nP m a p + nP t m p := by
  have h1 : a / p ≤ (m - 1) / p := Nat.div_le_div_right (by omega)
  have h2 : m / p ≤ (t - 1) / p := Nat.div_le_div_right (by omega)
  unfold nP; omega
/-- The first parts are the same. -/
theorem part_low (hp : 1 ≤ p) (ham : a < m) (hmt : m < t) {k : Nat} (hk : k + 1 < nP m a p) (hN : nP m a p ≤ nP t a p) : partI m a p k = partI t a p k := by
  have e1 : cutA m a p (k + 1) = cutA t a p (k + 1) := by rw [cut_mid hp ham (by omega) hk, cut_mid hp (by omega) (by omega) (by omega)]
  have e0 : cutA m a p k = cutA t a p k := by
    rcases Nat.eq_zero_or_pos k with rfl | h
    · rfl
    · rw [cut_mid hp ham h (by omega), cut_mid hp (by omega) h (by omega)]
  unfold partI
  rw [e1, e0]
theorem cut_high (hp : 1 ≤ p) (ham : a < m) (hmt : m < t) {j d : Nat} (hj : 0 < j) (hjN : j ≤ nP t m p) (hd : m / p = a / p + d) (hN : nP t a p = d + nP t m p) : cutA t m p j = cutA t a p (d + j) := by
  rcases Nat.lt_or_ge j (nP t m p) with h | h
  · rw [cut_mid hp hmt hj h, cut_mid hp (by omega) (by omega) (by omega), hd, Nat.add_assoc]
  · obtain rfl : j = nP t m p := by omega
    rw [cut_last hp hmt, ← hN, cut_last hp (by omega)]
theorem prt_split (hp : 1 ≤ p) (ham : a < m) (hmt : m < t) (h : m / p = (m - 1) / p + 1) (hm : m / p * p = m) : prt m a p ++ prt t m p = prt t a p := by
  have hN := nP_split ham hmt h
  have hd : m / p = a / p + nP m a p := by
    have h1 : a / p ≤ (m - 1) / p := Nat.div_le_div_right (by omega)
    unfold nP; omega
  have hpos := nP_pos t m p
  have hcut : cutA t a p (nP m a p) = m := by rw [cut_mid hp (by omega) (nP_pos m a p) (by omega), ← hd, hm]
  unfold prt
  rw [hN, List.range_add, List.map_append, List.map_map]
  congr 1
  · refine List.map_congr_left fun k hk => ?_
    have hk := List.mem_range.1 hk
    rcases Nat.lt_or_ge (k + 1) (nP m a p) with h2 | h2
    · exact part_low hp ham hmt h2 (by omega)
    · have hk1 : k + 1 = nP m a p := by omega
      have e0 : cutA m a p k = cutA t a p k := by
        rcases Nat.eq_zero_or_pos k with rfl | h
        · rfl
        · rw [cut_mid hp ham h (by omega), cut_mid hp (by omega) h (by omega)]
      unfold partI
      rw [e0, hk1, cut_last hp ham, hcut]
  · refine List.map_congr_left fun k hk => ?_
    have hk := List.mem_range.1 hk
    have e1 := cut_high hp ham hmt (j := k + 1) (by omega) (by omega) hd hN
    have e0 : cutA t m p k = cutA t a p (nP m a p + k) := by
      rcases Nat.eq_zero_or_pos k with rfl | h
      · rw [Nat.add_zero, hcut]; rfl
      · exact cut_high hp ham hmt h (by omega) hd hN
    simp only [Function.comp]
    unfold partI
    rw [e1, e0, hd]
    simp [Nat.add_assoc]
theorem prt_meet (hp : 1 ≤ p) (ham : a < m) (hmt : m < t) (h : m / p = (m - 1) / p) :
    (prt m a p).take (nP m a p - 1) ++ (prt t m p).set 0 ((partI t m p 0).1, (partI t m p 0).2 + (partI m a p (nP m a p - 1)).2) = prt t a p := by
  have hN := nP_meet ham hmt h
  have hA := nP_pos m a p
  have hB := nP_pos t m p
  obtain ⟨d, hdd⟩ : ∃ d, nP m a p = d + 1 := ⟨nP m a p - 1, by omega⟩
  obtain ⟨e, hee⟩ : ∃ e, nP t m p = e + 1 := ⟨nP t m p - 1, by omega⟩
  have hd : m / p = a / p + d := by
    have h1 : a / p ≤ (m - 1) / p := Nat.div_le_div_right (by omega)
    unfold nP at hdd; omega
  have hN2 : nP t a p = d + nP t m p := by omega
  unfold prt
  rw [hdd, Nat.add_sub_cancel, ← List.map_take, List.take_range, Nat.min_eq_left (by omega), hN2, List.range_add, List.map_append, List.map_map]
  congr 1
  · refine List.map_congr_left fun k hk => ?_
    have hk := List.mem_range.1 hk
    exact part_low hp ham hmt (by omega) (by omega)
  · rw [hee, List.range_succ_eq_map, List.map_cons, List.map_cons, List.set_cons_zero]
    congr 1
    · have e1 := cut_high hp ham hmt (j := 1) (by omega) (by omega) hd hN2
      have e0 : cutA m a p d = cutA t a p d := by
        rcases Nat.eq_zero_or_pos d with rfl | h
        · rfl
        · rw [cut_mid hp ham h (by omega), cut_mid hp (by omega) h (by omega)]
      have e2 : cutA m a p (d + 1) = m := by rw [← hdd]; exact cut_last hp ham
      simp only [Function.comp]
      unfold partI
      rw [Nat.zero_add, e1, e2, e0, cut_zero, hd]
      simp only [Nat.add_zero]
      ext
      · rfl
      · dsimp only; omega
    · rw [List.map_map, List.map_map]
      refine List.map_congr_left fun k hk => ?_
      have hk := List.mem_range.1 hk
      have e1 := cut_high hp ham hmt (j := k + 1 + 1) (by omega) (by omega) hd hN2
      have e0 := cut_high hp ham hmt (j := k + 1) (by omega) (by omega) hd hN2
      simp only [Function.comp]
      unfold partI
      rw [show k.succ = k + 1 from rfl, e1, e0, hd]
      simp [Nat.add_assoc]
end
end
end Go.Proofs.YtaplangfppohdaaDoor
namespace Go.Proofs.YtaplangfppohdaaDoor
open Go.RowKit Go.Shelf
attribute [local go_sem] Oper.semAt_some

set_option maxRecDepth 100000 in
set_option maxHeartbeats 3200000 in
theorem qs_end (w w1 : World) (n na nb nl ca cb cl : Nat) (Aa Ab Al : Option Addr) (xs ys ls : List (Int × Int)) (Post : Ending → World → Prop) {u0 u1 u2 u3 u4 u5 u6 u7 u8 u10 u11 u13 u15 u16 u17 u19 u21 u22 u23 u24 u25 u26 u27 u28 u29 u30 u31 u32 u33 u34 u35 u36 u37 u38 u39 u40 u41 u42 u43 u44 u45 u46 u47 u48 u49 u50 u51 u52 u53 u54 u55 u56 u57 u58 u59 u60 u61 u62 u63 u64 u65 u66 u67 u68 u69 u70 u71 u72 u73 u74 u75 u76 u77 u78 u79 u80 u81 u82 u83 u84 u85 u86 u87 u88 u89 u90 u91 u92 u93 u94 u95 u96 u97 u98 u99 u100 u101 u102 u103 u104 u105 u106 u107 u108 u109 u110 u111 u112 u113 u114 u115 u116 u117 u118 u119 u120 u121 u122 u123 u124 u125 u126 u127 u128 u129 u130 u131 u132 u133 u134 u135 u136 u137 u138 u139 u140 u141 u142 u143 u144 u145 u146 u147 u148 u149 u150 u151 u152 u153 u154 u155 u156 u157 u158 u159 u160 u161 u162 u163 u164 u165 u166 u167 u168 u169 u170 u171 u172 u173 u174 u175 u176 u177 u178 u179 u180 u181 u182 u183 u184 u185 u186 u187 u188 u189 u190 u191 u192 u193 u194 u195 u196 u197 u198 u199 u200 u201 u202 u203 u204 u205 u206 u207 u208 u209 u210 : Value}
    (HX : Hid (EV encG 2 w1 (.slice Aa na ca) xs)) (HY : Hid (EV encG 2 w1 (.slice Ab nb cb) ys)) (HZ : Hid (EV encG 2 w1 (.slice Al nl cl) ls)) (HLE : Hid (xs.length = na ∧ ys.length = nb ∧ ls.length = nl ∧ na ≤ 10000 ∧ nb ≤ 10000)) (HE : Hid (xs ++ ys = ls)) (HB : Hid (Below w.heap.size w w1))
    (FIN : Hid (∀ w', Below w.heap.size w w' → Post (.returned (.bool true)) w')) :
    Code.wp Tryd.prog (tailR Tryd.f8 24) (bodyPost Tryd.prog Tryd.f8 Post) ⟨#[u0, u1, u2, u3, u4, u5, u6, u7, u8, .int .i64 (n : Nat), u10, u11, .slice Al nl cl, u13, .int .i64 (n : Nat), u15, u16, u17, .slice Aa na ca, u19, .slice Ab nb cb, u21, u22, u23, u24, u25, u26, u27, u28, u29, u30, u31, u32, u33, u34, u35, u36, u37, u38, u39, u40, u41, u42, u43, u44, u45, u46, u47, u48, u49, u50, u51, u52, u53, u54, u55, u56, u57, u58, u59, u60, u61, u62, u63, u64, u65, u66, u67, u68, u69, u70, u71, u72, u73, u74, u75, u76, u77, u78, u79, u80, u81, u82, u83, u84, u85, u86, u87, u88, u89, u90, u91, u92, u93, u94, u95, u96, u97, u98, u99, u100, u101, u102, u103, u104, u105, u106, u107, u108, u109, u110, u111, u112, u113, u114, u115, u116, u117, u118, u119, u120, u121, u122, u123, u124, u125, u126, u127, u128, u129, u130, u131, u132, u133, u134, u135, u136, u137, u138, u139, u140, u141, u142, u143, u144, u145, u146, u147, u148, u149, u150, u151, u152, u153, u154, u155, u156, u157, u158, u159, u160, u161, u162, u163, u164, u165, u166, u167, u168, u169, u170, u171, u172, u173, u174, u175, u176, u177, u178, u179, u180, u181, u182, u183, u184, u185, u186, u187, u188, u189, u190, u191, u192, u193, u194, u195, u196, u197, u198, u199, u200, u201, u202, u203, u204, u205, u206, u207, u208, u209, u210], []⟩ w1 := by
  conv => arg 2; whnf
  conv => arg 4; dsimp only
  have hle := HLE.out
  have HC := Lib.hid (concat_part w1 w1.heap.size nb xs ys na nb ca cb Aa Ab rfl HX.out HY.out hle.1 hle.2.1 (by omega) (by omega))
  go_wp2_with fail
  refine HC.out.mono ?_
  rintro e w2 ⟨v, rfl, ho, hb⟩
  have HQ := Lib.hid (eq_part w2 v (.slice Al nl cl) ls (by rw [← HE.out]; exact ho.ev encG_len) (HZ.out.below hb) (by rw [← HE.out, List.length_append]; omega))
  have HB2 := Lib.hid (HB.out.trans (hb.mono HB.out.size))
  clear ho hb HC hle
  go_wp2_with fail
  refine HQ.out.mono ?_
  rintro e w3 ⟨rfl, hb⟩
  have HB3 := Lib.hid (HB2.out.trans (hb.mono HB2.out.size))
  clear hb HQ
  go_wp2
  try go_ret2
  exact FIN.out _ HB3.out
end Go.Proofs.YtaplangfppohdaaDoor

/- Walks: slices.symMergeCmpFunc at labels where one half is one element. Conditions: what each states. -/
import Derived.Test.YteoglkofeogknaaGreatDoorSAL
set_option linter.unusedVariables false
set_option linter.unusedSimpArgs false
namespace Go.Proofs.YteoglkofeogknaaGreatDoor
open Go.RowKit
theorem SrtL.below {w w' : World} {B g N cap : Nat} {xs : List Lbl} (h : SrtL w B g N cap xs) (hb : Below w.heap.size w w') : SrtL w' B g N cap xs := h.keep (keeps_of_below (fun _ => False) hb) (fun e => e)
set_option maxRecDepth 100000 in
set_option maxHeartbeats 4000000 in
theorem symAL (B g N cap a m b : Nat) (P S : List Lbl) (x : Lbl) (R : List Lbl) (w : World) (h : SrtL w B g N cap (P ++ [x] ++ R ++ S)) (ha : P.length = a) (hm : a + ([x]).length = m) (hb : m + (R).length = b) (hN : N ≤ 1099511627776) (hR : 0 < R.length) (hup : Up keyL R) (hx : OkL x) (hok : ∀ y ∈ R, OkL y) :
    Calls Tryz.prog 89 #[.slice (some ⟨g, 0, none⟩) N cap, .int .i64 a, .int .i64 m, .int .i64 b, .func (.func 40) #[] #[]] w (fun e w' => e = .returned (.tuple #[]) ∧ ∃ M', StS keyL ([x] ++ R) M' ∧ SrtL w' B g N cap (P ++ M' ++ S) ∧ Keeps (fun i => i = g ∨ w.heap.size ≤ i) w w') := by
  have hNl := h.1
  simp only [List.length_append, List.length_cons, List.length_nil] at hNl hm
  obtain ⟨L, hL⟩ : ∃ L, R.length = L := ⟨_, rfl⟩
  have HL := Lib.hid hL
  rw [hL] at hb hNl hR
  have hbN : b ≤ N := by omega
  have HUP := Lib.hid hup
  have HXOK := Lib.hid hx
  have HOK := Lib.hid hok
  have HA := Lib.hid ha
  have hrow : SrtL w B g N cap (P ++ x :: (R ++ S)) := by simpa only [List.append_assoc, List.cons_append, List.nil_append] using h
  have HROW := Lib.hid hrow
  obtain ⟨_, hgw, hnc, hcm⟩ := hrow.lt
  unfold maxLen at hcm
  have ham : a < m := by omega
  have hmb : m < b := by omega
  have e1 : IntKind.i64.wrap ((m : Int) - (a : Int)) = 1 := by rw [IntWalk.i64_in _ (by omega)]; omega
  have HM := Lib.hid hm
  have HB := Lib.hid hb
  clear h ha hL hNl hup hx hok hrow hm hb
  go_enter Tryz.func89, Tryz.ntmps89
  go_wp2_with fail
  go_loopw [10, 11] (fun vi vj wr => ∃ i j : Nat, m ≤ i ∧ i ≤ j ∧ j ≤ b ∧ vi = .int .i64 i ∧ vj = .int .i64 j ∧ Hid (Below w.heap.size w wr ∧ (∀ q, q < i - m → ∀ hq : q < R.length, keyL R[q] < keyL x) ∧ ∀ q, j - m ≤ q → ∀ hq : q < R.length, keyL x ≤ keyL R[q])) (fun vi vj _ => (intOf vj).toNat - (intOf vi).toNat)
  case atStart => exact ⟨m, b, Nat.le_refl _, by omega, Nat.le_refl _, rfl, rfl, Below.refl _ _, (fun q hq => by omega), fun q hq hq2 => by have := HL.out; have := HB.out; omega⟩
  case round =>
    obtain ⟨i, j, hmi, hij, hjb, rfl, rfl, HR⟩ := hrel
    by_cases hlt : i < j
    · obtain ⟨c, hc⟩ : ∃ c, (i + j) / 2 = c := ⟨_, rfl⟩
      have hic : i ≤ c := by omega
      have hcj : c < j := by omega
      have ec : ((i : Int) + (j : Int)) / 2 = (c : Int) := by omega
      obtain ⟨q0, hq0⟩ : ∃ q0, c - m = q0 := ⟨_, rfl⟩
      have hqR : q0 < R.length := by have := HL.out; have := HB.out; omega
      obtain ⟨y, hy⟩ : ∃ y, R[q0] = y := ⟨_, rfl⟩
      have HYOK : Hid (OkL y) := by rw [← hy]; exact HOK.out _ (List.getElem_mem hqR)
      have hcut : R = R.take q0 ++ y :: R.drop (q0 + 1) := by rw [← hy, ← List.drop_eq_getElem_cons hqR, List.take_append_drop]
      have hro := HROW.out.below HR.out.1
      have hr2 : SrtL wr B g N cap ((P ++ x :: R.take q0) ++ y :: (R.drop (q0 + 1) ++ S)) := by
        have := hro
        rw [hcut] at this
        simpa only [List.append_assoc, List.cons_append, List.nil_append] using this
      obtain ⟨c0, c1, c2, c3⟩ := hr2.mid (i := c) (by have := HA.out; have := HM.out; simp; omega)
      obtain ⟨d0, d1, d2, d3⟩ := hro.mid (i := a) HA.out
      have HGL : Hid (g < wr.heap.size) := hro.lt.2.1
      have HLOW : Hid (keyL y < keyL x → ∀ q, q < c + 1 - m → ∀ hq : q < R.length, keyL R[q] < keyL x) := fun hyx q hq hqq => by
        rcases Nat.lt_or_ge q q0 with h1 | h1
        · have := List.pairwise_iff_getElem.1 HUP.out q q0 hqq hqR h1
          rw [hy] at this
          omega
        · obtain rfl : q = q0 := by omega
          rw [hy]; exact hyx
      have HHIGH : Hid (keyL x ≤ keyL y → ∀ q, c - m ≤ q → ∀ hq : q < R.length, keyL x ≤ keyL R[q]) := fun hyx q hq hqq => by
        rcases Nat.lt_or_ge q0 q with h1 | h1
        · have := List.pairwise_iff_getElem.1 HUP.out q0 q hqR hqq h1
          rw [hy] at this
          omega
        · obtain rfl : q = q0 := by omega
          rw [hy]; omega
      have e3 : (0 : Int) ≤ (c : Int) := by omega
      have e4 : (c : Int) < ((N : Nat) : Int) := by omega
      have e5 : (0 : Int) ≤ (a : Int) := by omega
      have e6 : (a : Int) < ((N : Nat) : Int) := by omega
      clear hro hr2 hcut hy hqR hq0 hc
      go_wp2_with fail
      go_region_held3 (fun w' => w'.cell? ⟨g, c * 4, none⟩ = some (.string y.nm) ∧ w'.cell? ⟨g, c * 4 + 1, none⟩ = some (.int .i64 y.sec) ∧ w'.cell? ⟨g, c * 4 + 2, none⟩ = some (.int .i64 y.at_) ∧ w'.cell? ⟨g, c * 4 + 3, none⟩ = some (.bool y.gl) ∧ w'.cell? ⟨g, a * 4, none⟩ = some (.string x.nm) ∧ w'.cell? ⟨g, a * 4 + 1, none⟩ = some (.int .i64 x.sec) ∧ w'.cell? ⟨g, a * 4 + 2, none⟩ = some (.int .i64 x.at_) ∧ w'.cell? ⟨g, a * 4 + 3, none⟩ = some (.bool x.gl)) (first | go_keep | exact ⟨t0, t1, t2, t3, t4, t5, t6, t7⟩)
        (first
          | (go_at_call 40; refine (cmpL y x _ HYOK.out HXOK.out).mono ?_; rintro e w3 ⟨⟨r, rfl, hr⟩, hb3⟩
             have t0 : w3.cell? ⟨g, c * 4, none⟩ = some (.string y.nm) := (hb3.cell (p := ⟨g, c * 4, none⟩) HGL.out).trans c0
             have t1 : w3.cell? ⟨g, c * 4 + 1, none⟩ = some (.int .i64 y.sec) := (hb3.cell (p := ⟨g, c * 4 + 1, none⟩) HGL.out).trans c1
             have t2 : w3.cell? ⟨g, c * 4 + 2, none⟩ = some (.int .i64 y.at_) := (hb3.cell (p := ⟨g, c * 4 + 2, none⟩) HGL.out).trans c2
             have t3 : w3.cell? ⟨g, c * 4 + 3, none⟩ = some (.bool y.gl) := (hb3.cell (p := ⟨g, c * 4 + 3, none⟩) HGL.out).trans c3
             have t4 : w3.cell? ⟨g, a * 4, none⟩ = some (.string x.nm) := (hb3.cell (p := ⟨g, a * 4, none⟩) HGL.out).trans d0
             have t5 : w3.cell? ⟨g, a * 4 + 1, none⟩ = some (.int .i64 x.sec) := (hb3.cell (p := ⟨g, a * 4 + 1, none⟩) HGL.out).trans d1
             have t6 : w3.cell? ⟨g, a * 4 + 2, none⟩ = some (.int .i64 x.at_) := (hb3.cell (p := ⟨g, a * 4 + 2, none⟩) HGL.out).trans d2
             have t7 : w3.cell? ⟨g, a * 4 + 3, none⟩ = some (.bool x.gl) := (hb3.cell (p := ⟨g, a * 4 + 3, none⟩) HGL.out).trans d3
             have HB3 := Lib.hid hb3
             have HRK := Lib.hid hr
             clear hb3 hr))
      have HB4 := Lib.hid (HR.out.1.drew.trans (HB3.out.mono HR.out.1.drew.size))
      by_cases hxy : keyL y < keyL x
      · have hr' : r < 0 := HRK.out.2 hxy
        have HNX := Lib.hid (HLOW.out hxy)
        clear hxy HLOW HHIGH ec
        go_wp2_with fail
        go_roundw
        case rel => exact ⟨c + 1, j, by omega, by omega, hjb, by go_num, rfl, HB4.out, HNX.out, HR.out.2.2⟩
        case measure => simp [intOf]; omega
      · have hr' : 0 ≤ r := Int.not_lt.1 (fun h => hxy (HRK.out.1 h))
        have HNX := Lib.hid (HHIGH.out (Int.not_lt.1 hxy))
        clear hxy HLOW HHIGH ec
        go_wp2_with fail
        go_roundw
        case rel => exact ⟨i, c, hmi, hic, by omega, rfl, rfl, HB4.out, HR.out.2.1, HNX.out⟩
        case measure => simp [intOf]; omega
    · have hij2 : i = j := by omega
      subst hij2
      obtain ⟨n1, hn1⟩ : ∃ n1, i - m = n1 := ⟨_, rfl⟩
      have hn1R : n1 ≤ R.length := by have := HL.out; have := HB.out; omega
      have HSTS : Hid (StS keyL ([x] ++ R) (R.take n1 ++ x :: R.drop n1)) := by
        have h1 : Up keyL (R.take n1 ++ R.drop n1) := by rw [List.take_append_drop]; exact HUP.out
        have h2 := sts_left (x := x) h1 (fun z hz => by
          obtain ⟨q, hq, rfl⟩ := List.mem_take_iff_getElem.1 hz
          exact HR.out.2.1 q (by omega) (by omega)) (fun z hz => by
          obtain ⟨q, hq, rfl⟩ := List.mem_iff_getElem.1 hz
          rw [List.getElem_drop]
          rw [List.length_drop] at hq
          exact HR.out.2.2 (n1 + q) (by omega) (by omega))
        rw [List.take_append_drop] at h2
        exact h2
      have HST : Hid (SrtL wr B g N cap (P ++ R.take 0 ++ x :: (R.drop 0 ++ S)) ∧ Keeps (fun z => z = g ∨ w.heap.size ≤ z) w wr) := by
        refine ⟨?_, keeps_of_below _ HR.out.1⟩
        have := HROW.out.below HR.out.1
        simpa using this
      have HI : Hid (i = a + 1 + n1) := by have := HM.out; show i = _; omega
      have ha1 : a + n1 < i := by have := HM.out; omega
      have hin : i ≤ N := by omega
      obtain ⟨ip, hip⟩ : ∃ ip, a + n1 = ip := ⟨_, rfl⟩
      have hipi : ip < i := by omega
      have HIP := Lib.hid hip
      have e2 : IntKind.i64.wrap ((i : Int) - 1) = (ip : Int) := by have := HI.out; rw [IntWalk.i64_in _ (by omega)]; omega
      have HN1 := Lib.hid hn1
      clear HR hn1 hip e1
      go_wp2_with fail
      go_loopw [13] (fun vk wk => ∃ z q : Nat, q ≤ n1 ∧ a ≤ z ∧ Hid (z = a + q) ∧ vk = .int .i64 z ∧ Hid (SrtL wk B g N cap (P ++ R.take q ++ x :: (R.drop q ++ S)) ∧ Keeps (fun z => z = g ∨ w.heap.size ≤ z) w wk)) (fun vk _ => i - (intOf vk).toNat)
      case atStart => exact ⟨a, 0, Nat.zero_le _, Nat.le_refl _, rfl, rfl, HST.out⟩
      case round =>
        obtain ⟨z, q, hqn, haz, HZ, rfl, HK⟩ := hrel
        by_cases hzi : z < ip
        · have hqn1 : q < n1 := by have := HZ.out; have := HIP.out; omega
          have hqR : q < R.length := by omega
          obtain ⟨y, hy⟩ : ∃ y, R[q] = y := ⟨_, rfl⟩
          have hd : R.drop q = y :: R.drop (q + 1) := by rw [← hy]; exact List.drop_eq_getElem_cons hqR
          have htk : R.take (q + 1) = R.take q ++ [y] := by rw [← hy]; exact List.take_succ_eq_append_getElem hqR
          have hrow : SrtL wr B g N cap ((P ++ R.take q) ++ x :: y :: (R.drop (q + 1) ++ S)) := by
            have := HK.out.1
            rw [hd] at this
            simpa only [List.append_assoc, List.cons_append, List.nil_append] using this
          obtain ⟨z1, hz1⟩ : ∃ z1, z + 1 = z1 := ⟨_, rfl⟩
          have hPl : (P ++ R.take q).length = z := by have := HA.out; have := HZ.out; rw [List.length_append, List.length_take]; omega
          have hrow2 : SrtL wr B g N cap ((P ++ R.take q ++ [x]) ++ y :: (R.drop (q + 1) ++ S)) := by simpa only [List.append_assoc, List.cons_append, List.nil_append] using hrow
          obtain ⟨c0, c1, c2, c3⟩ := hrow.mid (i := z) hPl
          obtain ⟨d0, d1, d2, d3⟩ := hrow2.mid (i := z1) (by rw [List.length_append, hPl]; simpa using hz1)
          have y0 := hrow.fz (z * 4)
          have y1 := hrow.fz (z * 4 + 1)
          have y2 := hrow.fz (z * 4 + 2)
          have y3 := hrow.fz (z * 4 + 3)
          have f0 := hrow.fz (z1 * 4)
          have f1 := hrow.fz (z1 * 4 + 1)
          have f2 := hrow.fz (z1 * 4 + 2)
          have f3 := hrow.fz (z1 * 4 + 3)
          have hx3 := hrow.xch2 HK.out.2 (Or.inl rfl) (i := z) (j := z1) hPl hz1
          have HNX : Hid (SrtL (((((((((((((((((wr).setCell ⟨g, z * 4, none⟩ (.string y.nm))).setCell ⟨g, z * 4 + 1, none⟩ (.int .i64 y.sec))).setCell ⟨g, z * 4 + 2, none⟩ (.int .i64 y.at_))).setCell ⟨g, z * 4 + 3, none⟩ (.bool y.gl))).setCell ⟨g, z1 * 4, none⟩ (.string x.nm))).setCell ⟨g, z1 * 4 + 1, none⟩ (.int .i64 x.sec))).setCell ⟨g, z1 * 4 + 2, none⟩ (.int .i64 x.at_))).setCell ⟨g, z1 * 4 + 3, none⟩ (.bool x.gl)).drew) B g N cap (P ++ R.take (q + 1) ++ x :: (R.drop (q + 1) ++ S)) ∧ Keeps (fun z => z = g ∨ w.heap.size ≤ z) w (((((((((((((((((wr).setCell ⟨g, z * 4, none⟩ (.string y.nm))).setCell ⟨g, z * 4 + 1, none⟩ (.int .i64 y.sec))).setCell ⟨g, z * 4 + 2, none⟩ (.int .i64 y.at_))).setCell ⟨g, z * 4 + 3, none⟩ (.bool y.gl))).setCell ⟨g, z1 * 4, none⟩ (.string x.nm))).setCell ⟨g, z1 * 4 + 1, none⟩ (.int .i64 x.sec))).setCell ⟨g, z1 * 4 + 2, none⟩ (.int .i64 x.at_))).setCell ⟨g, z1 * 4 + 3, none⟩ (.bool x.gl)).drew)) := by
            refine ⟨?_, hx3.2.drew⟩
            have := hx3.1.drew
            rw [htk]
            simpa only [List.append_assoc, List.cons_append, List.nil_append] using this
          have hzz : z < z1 := by omega
          have hzN : z1 < N := by omega
          have e3 : IntKind.i64.wrap ((z : Int) + 1) = (z1 : Int) := by rw [IntWalk.i64_in _ (by omega)]; omega
          have e5 : (0 : Int) ≤ (z : Int) := by omega
          have e6 : (z : Int) < ((N : Nat) : Int) := by omega
          have e7 : (0 : Int) ≤ (z1 : Int) := by omega
          have e8 : (z1 : Int) < ((N : Nat) : Int) := by omega
          have HZ1 : Hid (z1 = a + (q + 1)) := by have := HZ.out; show z1 = _; omega
          have hzi2 : z1 ≤ i := by omega
          clear hrow hrow2 hx3 hPl hd htk hy hqR hz1 HK
          go_wp2_with fail
          go_region
          go_wp2_with fail
          go_roundw
          case rel => exact ⟨z1, q + 1, by omega, by omega, HZ1.out, by go_num, HNX.out⟩
          case measure => simp [intOf]; omega
        · have hqn1 : q = n1 := by have := HZ.out; have := HIP.out; omega
          have HFIN : Hid (∃ M', StS keyL ([x] ++ R) M' ∧ SrtL wr B g N cap (P ++ M' ++ S) ∧ Keeps (fun i => i = g ∨ w.heap.size ≤ i) w wr) := by
            refine ⟨_, HSTS.out, ?_, HK.out.2⟩
            have := HK.out.1
            rw [hqn1] at this
            simpa only [List.append_assoc, List.cons_append, List.nil_append] using this
          clear HK hqn1
          go_wp2_with fail
          refine bodyPost_ret (results_none rfl _ _ _) rfl ?_
          exact ⟨rfl, HFIN.out⟩
open Go.RowKit
set_option maxRecDepth 100000 in
set_option maxHeartbeats 4000000 in
theorem symBL (B g N cap a m b : Nat) (P S : List Lbl) (y : Lbl) (L : List Lbl) (w : World) (h : SrtL w B g N cap (P ++ L ++ [y] ++ S)) (ha : P.length = a) (hm : a + (L).length = m) (hb : m + ([y]).length = b) (hN : N ≤ 1099511627776) (hL1 : 1 < L.length) (hup : Up keyL L) (hy : OkL y) (hok : ∀ x ∈ L, OkL x) :
    Calls Tryz.prog 89 #[.slice (some ⟨g, 0, none⟩) N cap, .int .i64 a, .int .i64 m, .int .i64 b, .func (.func 40) #[] #[]] w (fun e w' => e = .returned (.tuple #[]) ∧ ∃ M', StS keyL (L ++ [y]) M' ∧ SrtL w' B g N cap (P ++ M' ++ S) ∧ Keeps (fun i => i = g ∨ w.heap.size ≤ i) w w') := by
  have hNl := h.1
  simp only [List.length_append, List.length_cons, List.length_nil] at hNl hb
  obtain ⟨l, hl⟩ : ∃ l, L.length = l := ⟨_, rfl⟩
  have HL := Lib.hid hl
  rw [hl] at hm hNl hL1
  have hbN : b ≤ N := by omega
  have HUP := Lib.hid hup
  have HYOK := Lib.hid hy
  have HOK := Lib.hid hok
  have HA := Lib.hid ha
  have hrow : SrtL w B g N cap ((P ++ L) ++ y :: S) := by simpa only [List.append_assoc, List.cons_append, List.nil_append] using h
  have HROW := Lib.hid hrow
  obtain ⟨_, hgw, hnc, hcm⟩ := hrow.lt
  unfold maxLen at hcm
  have ham : a < m := by omega
  have hmb : m < b := by omega
  have hmN : m < N := by omega
  obtain ⟨l2, hl2⟩ : ∃ l2, m - a = l2 := ⟨_, rfl⟩
  have e1 : IntKind.i64.wrap ((m : Int) - (a : Int)) = (l2 : Int) := by rw [IntWalk.i64_in _ (by omega)]; omega
  have q1 : ((l2 : Int) == 1) = false := by simp; omega
  have e2 : IntKind.i64.wrap ((b : Int) - (m : Int)) = 1 := by rw [IntWalk.i64_in _ (by omega)]; omega
  have HM := Lib.hid hm
  have HB := Lib.hid hb
  clear h ha hl hNl hup hy hok hrow hm hb hl2
  go_enter Tryz.func89, Tryz.ntmps89
  go_wp2_with fail
  go_loopw [14, 15] (fun vi vj wr => ∃ i j : Nat, a ≤ i ∧ i ≤ j ∧ j ≤ m ∧ vi = .int .i64 i ∧ vj = .int .i64 j ∧ Hid (Below w.heap.size w wr ∧ (∀ q, q < i - a → ∀ hq : q < L.length, keyL L[q] ≤ keyL y) ∧ ∀ q, j - a ≤ q → ∀ hq : q < L.length, keyL y < keyL L[q])) (fun vi vj _ => (intOf vj).toNat - (intOf vi).toNat)
  case atStart => exact ⟨a, m, Nat.le_refl _, by omega, Nat.le_refl _, rfl, rfl, Below.refl _ _, (fun q hq => by omega), fun q hq hq2 => by have := HL.out; have := HM.out; omega⟩
  case round =>
    obtain ⟨i, j, hmi, hij, hjb, rfl, rfl, HR⟩ := hrel
    by_cases hlt : i < j
    · obtain ⟨c, hc⟩ : ∃ c, (i + j) / 2 = c := ⟨_, rfl⟩
      have hic : i ≤ c := by omega
      have hcj : c < j := by omega
      have ec : ((i : Int) + (j : Int)) / 2 = (c : Int) := by omega
      obtain ⟨q0, hq0⟩ : ∃ q0, c - a = q0 := ⟨_, rfl⟩
      have hqR : q0 < L.length := by have := HL.out; have := HM.out; omega
      obtain ⟨x, hx⟩ : ∃ x, L[q0] = x := ⟨_, rfl⟩
      have HXOK : Hid (OkL x) := by rw [← hx]; exact HOK.out _ (List.getElem_mem hqR)
      have hcut : L = L.take q0 ++ x :: L.drop (q0 + 1) := by rw [← hx, ← List.drop_eq_getElem_cons hqR, List.take_append_drop]
      have hro := HROW.out.below HR.out.1
      have hr2 : SrtL wr B g N cap ((P ++ L.take q0) ++ x :: (L.drop (q0 + 1) ++ y :: S)) := by
        have := hro
        rw [hcut] at this
        simpa only [List.append_assoc, List.cons_append, List.nil_append] using this
      obtain ⟨c0, c1, c2, c3⟩ := hr2.mid (i := c) (by have := HA.out; have := HM.out; simp; omega)
      obtain ⟨d0, d1, d2, d3⟩ := hro.mid (i := m) (by have := HA.out; have := HM.out; have := HL.out; simp; omega)
      have HGL : Hid (g < wr.heap.size) := hro.lt.2.1
      have HLOW : Hid (keyL x ≤ keyL y → ∀ q, q < c + 1 - a → ∀ hq : q < L.length, keyL L[q] ≤ keyL y) := fun hyx q hq hqq => by
        rcases Nat.lt_or_ge q q0 with h1 | h1
        · have := List.pairwise_iff_getElem.1 HUP.out q q0 hqq hqR h1
          rw [hx] at this
          omega
        · obtain rfl : q = q0 := by omega
          rw [hx]; exact hyx
      have HHIGH : Hid (keyL y < keyL x → ∀ q, c - a ≤ q → ∀ hq : q < L.length, keyL y < keyL L[q]) := fun hyx q hq hqq => by
        rcases Nat.lt_or_ge q0 q with h1 | h1
        · have := List.pairwise_iff_getElem.1 HUP.out q0 q hqR hqq h1
          rw [hx] at this
          omega
        · obtain rfl : q = q0 := by omega
          rw [hx]; exact hyx
      have e3 : (0 : Int) ≤ (c : Int) := by omega
      have e4 : (c : Int) < ((N : Nat) : Int) := by omega
      have e5 : (0 : Int) ≤ (m : Int) := by omega
      have e6 : (m : Int) < ((N : Nat) : Int) := by omega
      clear hro hr2 hcut hx hqR hq0 hc
      go_wp2_with fail
      go_region_held3 (fun w' => w'.cell? ⟨g, m * 4, none⟩ = some (.string y.nm) ∧ w'.cell? ⟨g, m * 4 + 1, none⟩ = some (.int .i64 y.sec) ∧ w'.cell? ⟨g, m * 4 + 2, none⟩ = some (.int .i64 y.at_) ∧ w'.cell? ⟨g, m * 4 + 3, none⟩ = some (.bool y.gl) ∧ w'.cell? ⟨g, c * 4, none⟩ = some (.string x.nm) ∧ w'.cell? ⟨g, c * 4 + 1, none⟩ = some (.int .i64 x.sec) ∧ w'.cell? ⟨g, c * 4 + 2, none⟩ = some (.int .i64 x.at_) ∧ w'.cell? ⟨g, c * 4 + 3, none⟩ = some (.bool x.gl)) (first | go_keep | exact ⟨t0, t1, t2, t3, t4, t5, t6, t7⟩)
        (first
          | (go_at_call 40; refine (cmpL y x _ HYOK.out HXOK.out).mono ?_; rintro e w3 ⟨⟨r, rfl, hr⟩, hb3⟩
             have t0 : w3.cell? ⟨g, m * 4, none⟩ = some (.string y.nm) := (hb3.cell (p := ⟨g, m * 4, none⟩) HGL.out).trans d0
             have t1 : w3.cell? ⟨g, m * 4 + 1, none⟩ = some (.int .i64 y.sec) := (hb3.cell (p := ⟨g, m * 4 + 1, none⟩) HGL.out).trans d1
             have t2 : w3.cell? ⟨g, m * 4 + 2, none⟩ = some (.int .i64 y.at_) := (hb3.cell (p := ⟨g, m * 4 + 2, none⟩) HGL.out).trans d2
             have t3 : w3.cell? ⟨g, m * 4 + 3, none⟩ = some (.bool y.gl) := (hb3.cell (p := ⟨g, m * 4 + 3, none⟩) HGL.out).trans d3
             have t4 : w3.cell? ⟨g, c * 4, none⟩ = some (.string x.nm) := (hb3.cell (p := ⟨g, c * 4, none⟩) HGL.out).trans c0
             have t5 : w3.cell? ⟨g, c * 4 + 1, none⟩ = some (.int .i64 x.sec) := (hb3.cell (p := ⟨g, c * 4 + 1, none⟩) HGL.out).trans c1
             have t6 : w3.cell? ⟨g, c * 4 + 2, none⟩ = some (.int .i64 x.at_) := (hb3.cell (p := ⟨g, c * 4 + 2, none⟩) HGL.out).trans c2
             have t7 : w3.cell? ⟨g, c * 4 + 3, none⟩ = some (.bool x.gl) := (hb3.cell (p := ⟨g, c * 4 + 3, none⟩) HGL.out).trans c3
             have HB3 := Lib.hid hb3
             have HRK := Lib.hid hr
             clear hb3 hr))
      have HB4 := Lib.hid (HR.out.1.drew.trans (HB3.out.mono HR.out.1.drew.size))
      obtain ⟨bb, hbb⟩ : ∃ bb, (!decide (r < 0)) = bb := ⟨_, rfl⟩
      rw [hbb]
      have HBB := Lib.hid hbb
      clear hbb
      cases bb with
      | false =>
        have hxy : keyL y < keyL x := HRK.out.1 (by have := HBB.out; simpa using this)
        have HNX := Lib.hid (HHIGH.out hxy)
        clear hxy HLOW HHIGH ec
        go_wp2_with fail
        go_roundw
        case rel => exact ⟨i, c, hmi, hic, by omega, rfl, rfl, HB4.out, HR.out.2.1, HNX.out⟩
        case measure => simp [intOf]; omega
      | true =>
        have hxy : ¬ keyL y < keyL x := fun h => by have h1 := HRK.out.2 h; have := HBB.out; simp at this; omega
        have HNX := Lib.hid (HLOW.out (Int.not_lt.1 hxy))
        clear hxy HLOW HHIGH ec
        go_wp2_with fail
        go_roundw
        case rel => exact ⟨c + 1, j, by omega, by omega, hjb, by go_num, rfl, HB4.out, HNX.out, HR.out.2.2⟩
        case measure => simp [intOf]; omega
    · have hij2 : i = j := by omega
      subst hij2
      obtain ⟨n1, hn1⟩ : ∃ n1, i - a = n1 := ⟨_, rfl⟩
      have hn1R : n1 ≤ L.length := by have := HL.out; have := HM.out; omega
      have HSTS : Hid (StS keyL (L ++ [y]) (L.take n1 ++ y :: L.drop n1)) := by
        have h1 : Up keyL (L.take n1 ++ L.drop n1) := by rw [List.take_append_drop]; exact HUP.out
        have h2 := sts_right (y := y) h1 (fun z hz => by
          obtain ⟨q, hq, rfl⟩ := List.mem_take_iff_getElem.1 hz
          exact HR.out.2.1 q (by omega) (by omega)) (fun z hz => by
          obtain ⟨q, hq, rfl⟩ := List.mem_iff_getElem.1 hz
          rw [List.getElem_drop]
          rw [List.length_drop] at hq
          exact HR.out.2.2 (n1 + q) (by omega) (by omega))
        rw [List.take_append_drop] at h2
        exact h2
      have HST : Hid (SrtL wr B g N cap (P ++ L.take l ++ y :: (L.drop l ++ S)) ∧ Keeps (fun z => z = g ∨ w.heap.size ≤ z) w wr) := by
        refine ⟨?_, keeps_of_below _ HR.out.1⟩
        have := HROW.out.below HR.out.1
        rw [List.take_of_length_le (by rw [HL.out]; exact Nat.le_refl _), List.drop_of_length_le (by rw [HL.out]; exact Nat.le_refl _)]
        simpa using this
      have HI : Hid (i = a + n1) := by show i = _; omega
      have hin : i ≤ m := by omega
      have hn1l : n1 ≤ l := by have := HL.out; omega
      clear HR hn1 e1 e2 q1
      go_wp2_with fail
      go_loopw [17] (fun vk wk => ∃ z q : Nat, n1 ≤ q ∧ q ≤ l ∧ i ≤ z ∧ z ≤ m ∧ Hid (z = a + q) ∧ vk = .int .i64 z ∧ Hid (SrtL wk B g N cap (P ++ L.take q ++ y :: (L.drop q ++ S)) ∧ Keeps (fun z => z = g ∨ w.heap.size ≤ z) w wk)) (fun vk _ => (intOf vk).toNat)
      case atStart => exact ⟨m, l, hn1l, Nat.le_refl _, hin, Nat.le_refl _, HM.out.symm, rfl, HST.out⟩
      case round =>
        obtain ⟨z, q, hnq, hql, hiz, hzm, HZ, rfl, HK⟩ := hrel
        by_cases hzi : i < z
        · have hqn1 : n1 < q := by have := HZ.out; have := HI.out; omega
          obtain ⟨qp, hqp⟩ : ∃ qp, q = qp + 1 := ⟨q - 1, by omega⟩
          have hqR : qp < L.length := by have := HL.out; omega
          obtain ⟨x, hx⟩ : ∃ x, L[qp] = x := ⟨_, rfl⟩
          have hd : L.drop qp = x :: L.drop q := by rw [hqp, ← hx]; exact List.drop_eq_getElem_cons hqR
          have htk : L.take q = L.take qp ++ [x] := by rw [hqp, ← hx]; exact List.take_succ_eq_append_getElem hqR
          have hrow : SrtL wr B g N cap ((P ++ L.take qp) ++ x :: y :: (L.drop q ++ S)) := by
            have := HK.out.1
            rw [htk] at this
            simpa only [List.append_assoc, List.cons_append, List.nil_append] using this
          obtain ⟨z1, hz1⟩ : ∃ z1, z = z1 + 1 := ⟨z - 1, by omega⟩
          have hPl : (P ++ L.take qp).length = z1 := by have := HA.out; have := HZ.out; rw [List.length_append, List.length_take]; omega
          have hrow2 : SrtL wr B g N cap ((P ++ L.take qp ++ [x]) ++ y :: (L.drop q ++ S)) := by simpa only [List.append_assoc, List.cons_append, List.nil_append] using hrow
          obtain ⟨c0, c1, c2, c3⟩ := hrow.mid (i := z1) hPl
          obtain ⟨d0, d1, d2, d3⟩ := hrow2.mid (i := z) (by rw [List.length_append, hPl]; simpa using hz1.symm)
          have y0 := hrow.fz (z * 4)
          have y1 := hrow.fz (z * 4 + 1)
          have y2 := hrow.fz (z * 4 + 2)
          have y3 := hrow.fz (z * 4 + 3)
          have f0 := hrow.fz (z1 * 4)
          have f1 := hrow.fz (z1 * 4 + 1)
          have f2 := hrow.fz (z1 * 4 + 2)
          have f3 := hrow.fz (z1 * 4 + 3)
          have hx3 := hrow.xch HK.out.2 (Or.inl rfl) (i := z1) (j := z) hPl hz1.symm
          have HNX : Hid (SrtL (((((((((((((((((wr).setCell ⟨g, z * 4, none⟩ (.string x.nm))).setCell ⟨g, z * 4 + 1, none⟩ (.int .i64 x.sec))).setCell ⟨g, z * 4 + 2, none⟩ (.int .i64 x.at_))).setCell ⟨g, z * 4 + 3, none⟩ (.bool x.gl))).setCell ⟨g, z1 * 4, none⟩ (.string y.nm))).setCell ⟨g, z1 * 4 + 1, none⟩ (.int .i64 y.sec))).setCell ⟨g, z1 * 4 + 2, none⟩ (.int .i64 y.at_))).setCell ⟨g, z1 * 4 + 3, none⟩ (.bool y.gl)).drew) B g N cap (P ++ L.take qp ++ y :: (L.drop qp ++ S)) ∧ Keeps (fun z => z = g ∨ w.heap.size ≤ z) w (((((((((((((((((wr).setCell ⟨g, z * 4, none⟩ (.string x.nm))).setCell ⟨g, z * 4 + 1, none⟩ (.int .i64 x.sec))).setCell ⟨g, z * 4 + 2, none⟩ (.int .i64 x.at_))).setCell ⟨g, z * 4 + 3, none⟩ (.bool x.gl))).setCell ⟨g, z1 * 4, none⟩ (.string y.nm))).setCell ⟨g, z1 * 4 + 1, none⟩ (.int .i64 y.sec))).setCell ⟨g, z1 * 4 + 2, none⟩ (.int .i64 y.at_))).setCell ⟨g, z1 * 4 + 3, none⟩ (.bool y.gl)).drew)) := by
            refine ⟨?_, hx3.2.drew⟩
            have := hx3.1.drew
            rw [hd]
            simpa only [List.append_assoc, List.cons_append, List.nil_append] using this
          have hzz : z1 < z := by omega
          have hzN : z < N := by omega
          have e3 : IntKind.i64.wrap ((z : Int) - 1) = (z1 : Int) := by rw [IntWalk.i64_in _ (by omega)]; omega
          have e5 : (0 : Int) ≤ (z : Int) := by omega
          have e6 : (z : Int) < ((N : Nat) : Int) := by omega
          have e7 : (0 : Int) ≤ (z1 : Int) := by omega
          have e8 : (z1 : Int) < ((N : Nat) : Int) := by omega
          have HZ1 : Hid (z1 = a + qp) := by have := HZ.out; show z1 = _; omega
          have hz1i : i ≤ z1 := by omega
          have hz1m : z1 ≤ m := by omega
          have hqp1 : n1 ≤ qp := by omega
          have hqp2 : qp ≤ l := by omega
          clear hrow hrow2 hx3 hPl hd htk hx hqR hz1 HK hqp
          go_wp2_with fail
          go_region
          go_wp2_with fail
          go_roundw
          case rel => exact ⟨z1, qp, hqp1, hqp2, hz1i, hz1m, HZ1.out, rfl, HNX.out⟩
          case measure => simp [intOf]; omega
        · have hqn1 : q = n1 := by have := HZ.out; have := HI.out; omega
          have HFIN : Hid (∃ M', StS keyL (L ++ [y]) M' ∧ SrtL wr B g N cap (P ++ M' ++ S) ∧ Keeps (fun i => i = g ∨ w.heap.size ≤ i) w wr) := by
            refine ⟨_, HSTS.out, ?_, HK.out.2⟩
            have := HK.out.1
            rw [hqn1] at this
            simpa only [List.append_assoc, List.cons_append, List.nil_append] using this
          clear HK hqn1
          go_wp2_with fail
          refine bodyPost_ret (results_none rfl _ _ _) rfl ?_
          exact ⟨rfl, HFIN.out⟩
end Go.Proofs.YteoglkofeogknaaGreatDoor

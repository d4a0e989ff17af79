/- Walks: slices.swapRangeCmpFunc, rotateCmpFunc, insertionSortCmpFunc at relocations. Conditions: what each states. -/
import Derived.Test.YteoglkofeogknaaGreatDoorSF
import Derived.Test.YteoglkofeogknaaGreatDoorPA
import Derived.BigRegion
import Derived.RegionTactic
import Derived.Deep.RegionHeld3
set_option linter.unusedVariables false
set_option linter.unusedSimpArgs false
namespace Go.Proofs.YteoglkofeogknaaGreatDoor
open Go.RowKit
set_option maxRecDepth 100000 in
set_option maxHeartbeats 4000000 in
theorem swapRangeR (B g N cap a b n : Nat) (xs : List Rel) (fv : Value) (w : World) (h : SrtR w B g N cap xs) (ha : a + n ≤ b) (hb : b + n ≤ N) (hN : N ≤ 1099511627776) :
    Calls Tryz.prog 110 #[.slice (some ⟨g, 0, none⟩) N cap, .int .i64 a, .int .i64 b, .int .i64 n, fv] w fun e w' => e = .returned (.tuple #[]) ∧ SrtR w' B g N cap (swapN xs a b n) ∧ Keeps (· = g) w w' := by
  have H := Lib.hid h
  obtain ⟨hBg, hgw, hnc, hcm⟩ := h.lt
  unfold maxLen at hcm
  clear h
  go_enter Tryz.func110, Tryz.ntmps110
  go_wp2_with fail
  go_loopw [10] (fun i wr => ∃ k : Nat, k ≤ n ∧ i = .int .i64 k ∧ Hid (SrtR wr B g N cap (swapN xs a b k) ∧ Keeps (· = g) w wr)) (fun i _ => n - (intOf i).toNat)
  case atStart => exact ⟨0, Nat.zero_le _, rfl, H.out, Keeps.refl _ _⟩
  case round =>
    obtain ⟨k, hk, rfl, HR⟩ := hrel
    by_cases hlt : k < n
    · obtain ⟨p, hp⟩ : ∃ p, a + k = p := ⟨_, rfl⟩
      obtain ⟨q, hq⟩ : ∃ q, b + k = q := ⟨_, rfl⟩
      have hl := HR.out.1.1
      obtain ⟨ys, hys⟩ : ∃ ys, swapN xs a b k = ys := ⟨_, rfl⟩
      have hnx : swapN xs a b (k + 1) = swap1 ys p q := by rw [← hys, ← hp, ← hq]; rfl
      rw [hys] at HR hl
      have hpl : p < ys.length := by omega
      have hql : q < ys.length := by omega
      obtain ⟨c0, c1, c2, c3, c4⟩ := HR.out.1.at_ hpl
      obtain ⟨d0, d1, d2, d3, d4⟩ := HR.out.1.at_ hql
      have y0 := HR.out.1.fz (p * 5)
      have y1 := HR.out.1.fz (p * 5 + 1)
      have y2 := HR.out.1.fz (p * 5 + 2)
      have y3 := HR.out.1.fz (p * 5 + 3)
      have y4 := HR.out.1.fz (p * 5 + 4)
      have z0 := HR.out.1.fz (q * 5)
      have z1 := HR.out.1.fz (q * 5 + 1)
      have z2 := HR.out.1.fz (q * 5 + 2)
      have z3 := HR.out.1.fz (q * 5 + 3)
      have z4 := HR.out.1.fz (q * 5 + 4)
      have hx : ys[p] = ys.getD p default := by simp [List.getD, hpl]
      have hy : ys[q] = ys.getD q default := by simp [List.getD, hql]
      have hnx1 := HR.out.1.two HR.out.2 rfl hpl hql ys[q] ys[p]
      have HNX := Lib.hid hnx1
      clear hnx1
      have HE : Hid (swapN xs a b (k + 1) = (ys.set p ys[q]).set q ys[p]) := by show swapN xs a b (k + 1) = _; rw [hnx, hx, hy]; rfl
      have hpq : p < q := by omega
      have hpN : p < N := by omega
      have hqN : q < N := by omega
      generalize ys[p] = x at *
      generalize ys[q] = y at *
      have e1 : IntKind.i64.wrap ((a : Int) + (k : Int)) = (p : Int) := by rw [IntWalk.i64_in _ (by omega)]; omega
      have e2 : IntKind.i64.wrap ((b : Int) + (k : Int)) = (q : Int) := by rw [IntWalk.i64_in _ (by omega)]; omega
      have e3 : (0 : Int) ≤ (p : Int) := by omega
      have e4 : (p : Int) < ((N : Nat) : Int) := by omega
      have e5 : (0 : Int) ≤ (q : Int) := by omega
      have e6 : (q : Int) < ((N : Nat) : Int) := by omega
      clear hx hy hnx hys hl hpl hql
      go_wp2_with fail
      go_region
      go_wp2_with fail
      go_roundw
      case rel => exact ⟨k + 1, by omega, by go_num, by rw [HE.out]; exact ⟨SrtR.drew HNX.out.1, HNX.out.2.drew⟩⟩
      case measure => simp [intOf]; omega
    · have hkn : k = n := by omega
      subst hkn
      go_wp2_with fail
      go_end0
      exact ⟨rfl, HR.out⟩
open Go.RowKit
set_option maxRecDepth 100000 in
set_option maxHeartbeats 1000000 in
theorem rotateR (B g N cap a m b : Nat) (P A C S : List Rel) (fv : Value) (w : World) (h : SrtR w B g N cap (P ++ A ++ C ++ S)) (ha : P.length = a) (hm : a + A.length = m) (hb : m + C.length = b) (hA : 0 < A.length) (hC : 0 < C.length) (hN : N ≤ 1099511627776) :
    Calls Tryz.prog 103 #[.slice (some ⟨g, 0, none⟩) N cap, .int .i64 a, .int .i64 m, .int .i64 b, fv] w fun e w' => e = .returned (.tuple #[]) ∧ SrtR w' B g N cap (P ++ C ++ A ++ S) ∧ Keeps (· = g) w w' := by
  obtain ⟨i0, hi0⟩ : ∃ i, A.length = i := ⟨_, rfl⟩
  obtain ⟨j0, hj0⟩ : ∃ j, C.length = j := ⟨_, rfl⟩
  have hNl := h.1
  simp only [List.length_append] at hNl
  have hbN : b ≤ N := by omega
  have HS : Hid (∃ P1 A1 C1 S1 : List Rel, P1.length + A1.length = m ∧ A1.length = i0 ∧ C1.length = j0 ∧ (P1 ++ A1 ++ C1 ++ S1).length = N ∧ P1 ++ C1 ++ A1 ++ S1 = P ++ C ++ A ++ S ∧ SrtR w B g N cap (P1 ++ A1 ++ C1 ++ S1) ∧ Keeps (· = g) w w) := ⟨P, A, C, S, by omega, hi0, hj0, h.1, rfl, h, Keeps.refl _ _⟩
  rw [hi0] at hA hm
  rw [hj0] at hC hb
  clear h hi0 hj0 hNl
  have e1 : IntKind.i64.wrap ((m : Int) - (a : Int)) = (i0 : Int) := by rw [IntWalk.i64_in _ (by omega)]; omega
  have e2 : IntKind.i64.wrap ((b : Int) - (m : Int)) = (j0 : Int) := by rw [IntWalk.i64_in _ (by omega)]; omega
  go_enter Tryz.func103, Tryz.ntmps103
  go_wp2_with fail
  go_loopw [10, 11] (fun vi vj wr => ∃ i j : Nat, 0 < i ∧ 0 < j ∧ i ≤ m ∧ m + j ≤ N ∧ vi = .int .i64 i ∧ vj = .int .i64 j ∧ Hid (∃ P1 A1 C1 S1 : List Rel, P1.length + A1.length = m ∧ A1.length = i ∧ C1.length = j ∧ (P1 ++ A1 ++ C1 ++ S1).length = N ∧ P1 ++ C1 ++ A1 ++ S1 = P ++ C ++ A ++ S ∧ SrtR wr B g N cap (P1 ++ A1 ++ C1 ++ S1) ∧ Keeps (· = g) w wr)) (fun vi vj _ => (intOf vi).toNat + (intOf vj).toNat)
  case atStart => exact ⟨i0, j0, hA, hC, by omega, by omega, rfl, rfl, HS.out⟩
  case round =>
    obtain ⟨i, j, hi, hj, him, hjm, rfl, rfl, HR⟩ := hrel
    clear e1 e2
    obtain ⟨p, hp⟩ : ∃ p, m - i = p := ⟨_, rfl⟩
    have e1 : IntKind.i64.wrap ((m : Int) - (i : Int)) = (p : Int) := by rw [IntWalk.i64_in _ (by omega)]; omega
    rcases Nat.lt_trichotomy i j with hlt | heq | hgt
    · have q1 : ((i : Int) != (j : Int)) = true := by simp; omega
      obtain ⟨r, hr⟩ : ∃ r, m + j = r := ⟨_, rfl⟩
      obtain ⟨q, hq⟩ : ∃ q, r - i = q := ⟨_, rfl⟩
      obtain ⟨j2, hj2⟩ : ∃ j2, j - i = j2 := ⟨_, rfl⟩
      have e2 : IntKind.i64.wrap ((m : Int) + (j : Int)) = (r : Int) := by rw [IntWalk.i64_in _ (by omega)]; omega
      have e3 : IntKind.i64.wrap ((r : Int) - (i : Int)) = (q : Int) := by rw [IntWalk.i64_in _ (by omega)]; omega
      have e4 : IntKind.i64.wrap ((j : Int) - (i : Int)) = (j2 : Int) := by rw [IntWalk.i64_in _ (by omega)]; omega
      have HC : Hid (Calls Tryz.prog 110 #[.slice (some ⟨g, 0, none⟩) N cap, .int .i64 (p : Int), .int .i64 (q : Int), .int .i64 i, fv] wr fun e w' => e = .returned (.tuple #[]) ∧
          ∃ P1 A1 C1 S1 : List Rel, P1.length + A1.length = m ∧ A1.length = i ∧ C1.length = j2 ∧ (P1 ++ A1 ++ C1 ++ S1).length = N ∧ P1 ++ C1 ++ A1 ++ S1 = P ++ C ++ A ++ S ∧ SrtR w' B g N cap (P1 ++ A1 ++ C1 ++ S1) ∧ Keeps (· = g) w w') := by
        obtain ⟨P1, A1, C1, S1, h1, h2, h3, h4, h5, h6, h7⟩ := HR.out
        refine (swapRangeR B g N cap p q i _ fv wr h6 (by omega) (by omega) hN).mono ?_
        rintro e w' ⟨rfl, hs, hk⟩
        have hcut : C1 = C1.take j2 ++ C1.drop j2 := (List.take_append_drop _ _).symm
        have l1 : (C1.take j2).length = j2 := by rw [List.length_take]; omega
        have l2 : (C1.drop j2).length = i := by rw [List.length_drop]; omega
        have hsw := swapN_pieces A1 (C1.drop j2) P1 (C1.take j2) S1 (by omega)
        have z1 : P1.length = p := by omega
        have z2 : P1.length + A1.length + (C1.take j2).length = q := by omega
        rw [z1, h2] at hsw
        rw [z1, h2, l1] at z2
        rw [l1, z2] at hsw
        have hl : P1 ++ A1 ++ C1.take j2 ++ C1.drop j2 ++ S1 = P1 ++ A1 ++ C1 ++ S1 := by rw [List.append_assoc (P1 ++ A1), ← hcut]
        rw [hl] at hsw
        rw [hsw] at hs
        refine ⟨rfl, P1, C1.drop j2, C1.take j2, A1 ++ S1, by omega, l2, l1, ?_, ?_, ?_, h7.trans hk (fun _ _ e => e)⟩
        · simp only [List.length_append] at h4 ⊢; omega
        · rw [← h5]
          conv => rhs; rw [hcut]
          simp only [List.append_assoc]
        · simpa only [List.append_assoc] using hs
      clear HR
      go_wp2_with fail
      refine HC.out.mono ?_
      rintro e w' ⟨rfl, hst⟩
      have HST := Lib.hid hst
      clear hst
      go_wp2_with fail
      go_roundw
      case rel => exact ⟨i, j2, hi, by omega, him, by omega, rfl, rfl, HST.out⟩
      case measure => simp [intOf]; omega
    · subst heq
      have HC : Hid (Calls Tryz.prog 110 #[.slice (some ⟨g, 0, none⟩) N cap, .int .i64 (p : Int), .int .i64 m, .int .i64 i, fv] wr fun e w' => e = .returned (.tuple #[]) ∧ SrtR w' B g N cap (P ++ C ++ A ++ S) ∧ Keeps (· = g) w w') := by
        obtain ⟨P1, A1, C1, S1, h1, h2, h3, h4, h5, h6, h7⟩ := HR.out
        refine (swapRangeR B g N cap p m i _ fv wr h6 (by omega) (by omega) hN).mono ?_
        rintro e w' ⟨rfl, hs, hk⟩
        have hsw := swapN_pieces A1 C1 P1 [] S1 (by omega)
        have z1 : P1.length = p := by omega
        simp only [List.append_nil, List.length_nil, Nat.add_zero] at hsw
        rw [h1, z1, h2] at hsw
        rw [hsw, h5] at hs
        exact ⟨rfl, hs, h7.trans hk (fun _ _ e => e)⟩
      clear HR
      have q1 : ((i : Int) != (i : Int)) = false := by simp
      go_wp2_with fail
      refine HC.out.mono ?_
      rintro e w' ⟨rfl, hst⟩
      have HST := Lib.hid hst
      clear hst
      go_wp2_with fail
      go_end0
      exact ⟨rfl, HST.out⟩
    · have q1 : ((i : Int) != (j : Int)) = true := by simp; omega
      obtain ⟨i2, hi2⟩ : ∃ i2, i - j = i2 := ⟨_, rfl⟩
      have e4 : IntKind.i64.wrap ((i : Int) - (j : Int)) = (i2 : Int) := by rw [IntWalk.i64_in _ (by omega)]; omega
      have HC : Hid (Calls Tryz.prog 110 #[.slice (some ⟨g, 0, none⟩) N cap, .int .i64 (p : Int), .int .i64 m, .int .i64 j, fv] wr fun e w' => e = .returned (.tuple #[]) ∧
          ∃ P1 A1 C1 S1 : List Rel, P1.length + A1.length = m ∧ A1.length = i2 ∧ C1.length = j ∧ (P1 ++ A1 ++ C1 ++ S1).length = N ∧ P1 ++ C1 ++ A1 ++ S1 = P ++ C ++ A ++ S ∧ SrtR w' B g N cap (P1 ++ A1 ++ C1 ++ S1) ∧ Keeps (· = g) w w') := by
        obtain ⟨P1, A1, C1, S1, h1, h2, h3, h4, h5, h6, h7⟩ := HR.out
        refine (swapRangeR B g N cap p m j _ fv wr h6 (by omega) (by omega) hN).mono ?_
        rintro e w' ⟨rfl, hs, hk⟩
        have hcut : A1 = A1.take j ++ A1.drop j := (List.take_append_drop _ _).symm
        have l1 : (A1.take j).length = j := by rw [List.length_take]; omega
        have l2 : (A1.drop j).length = i2 := by rw [List.length_drop]; omega
        have hsw := swapN_pieces (A1.take j) C1 P1 (A1.drop j) S1 (by omega)
        have z1 : P1.length = p := by omega
        have z2 : P1.length + (A1.take j).length + (A1.drop j).length = m := by omega
        rw [z2, z1, l1] at hsw
        have hl : P1 ++ A1.take j ++ A1.drop j ++ C1 ++ S1 = P1 ++ A1 ++ C1 ++ S1 := by rw [List.append_assoc P1, ← hcut]
        rw [hl] at hsw
        rw [hsw] at hs
        refine ⟨rfl, P1 ++ C1, A1.drop j, A1.take j, S1, ?_, l2, l1, ?_, ?_, hs, h7.trans hk (fun _ _ e => e)⟩
        · rw [List.length_append]; omega
        · simp only [List.length_append] at h4 ⊢; omega
        · rw [← h5]
          conv => rhs; rw [hcut]
          simp only [List.append_assoc]
      clear HR
      go_wp2_with fail
      refine HC.out.mono ?_
      rintro e w' ⟨rfl, hst⟩
      have HST := Lib.hid hst
      clear hst
      go_wp2_with fail
      go_roundw
      case rel => exact ⟨i2, j, by omega, hj, by omega, hjm, rfl, rfl, HST.out⟩
      case measure => simp [intOf]; omega
open Go.RowKit
/-- A place within the bounds. -/
def OkR (x : Rel) : Prop := 0 ≤ x.sec ∧ x.sec ≤ 1 ∧ 0 ≤ x.at_ ∧ x.at_ ≤ 1099511627776
def keyR (x : Rel) : Int := x.sec * 2199023255552 + x.at_
set_option maxHeartbeats 1000000 in
theorem cmpR (x y : Rel) (w : World) (hx : OkR x) (hy : OkR y) :
    Calls Tryz.prog 42 #[.agg #[.int .i64 x.sec, .int .i64 x.at_, .int .i64 x.kd, .int .i64 x.add, .string x.nm], .agg #[.int .i64 y.sec, .int .i64 y.at_, .int .i64 y.kd, .int .i64 y.add, .string y.nm]] w fun e w' => (∃ r : Int, e = .returned (.int .i64 r) ∧ (r < 0 ↔ keyR x < keyR y)) ∧ Below w.heap.size w w' := by
  obtain ⟨a1, a2, a3, a4⟩ := hx
  obtain ⟨b1, b2, b3, b4⟩ := hy
  have HB : Hid (∀ o1 o2, Below w.heap.size w ((w.alloc o1).alloc o2)) := fun o1 o2 => ((Below.refl w.heap.size w).alloc (Nat.le_refl _) o1).alloc (by simp) o2
  have HK1 : Hid (keyR x = x.sec * 2199023255552 + x.at_) := rfl
  have HK2 : Hid (keyR y = y.sec * 2199023255552 + y.at_) := rfl
  by_cases hs : x.sec = y.sec
  · have q1 : (x.sec != y.sec) = false := by simp [hs]
    have e1 : IntKind.i64.wrap (x.at_ - y.at_) = x.at_ - y.at_ := IntWalk.i64_in _ (by omega)
    have HS := Lib.hid hs
    clear hs
    go_enter Tryz.func42, Tryz.ntmps42
    go_wp2_with fail
    go_ret
    exact ⟨⟨_, rfl, by rw [HK1.out, HK2.out, HS.out]; omega⟩, HB.out _ _⟩
  · have q1 : (x.sec != y.sec) = true := by simp [hs]
    have e1 : IntKind.i64.wrap (x.sec - y.sec) = x.sec - y.sec := IntWalk.i64_in _ (by omega)
    have HS := Lib.hid hs
    clear hs
    go_enter Tryz.func42, Tryz.ntmps42
    go_wp2_with fail
    go_ret
    exact ⟨⟨_, rfl, by have := HS.out; rw [HK1.out, HK2.out]; omega⟩, HB.out _ _⟩
/-- Where the inner loop stands: x is on its way down. -/
structure InsIR (w : World) (B g N cap : Nat) (P Q S : List Rel) (x : Rel) (U1 U2 : List Rel) (wr : World) : Prop where
  row : SrtR wr B g N cap (P ++ (U1 ++ x :: U2) ++ S)
  srt : StS keyR Q (U1 ++ U2)
  gt : ∀ u ∈ U2, keyR x < keyR u
  keeps : Keeps (fun i => i = g ∨ w.heap.size ≤ i) w wr
theorem InsIR.drew {w wr : World} {B g N cap : Nat} {P Q S U1 U2 : List Rel} {x : Rel} (h : InsIR w B g N cap P Q S x U1 U2 wr) : InsIR w B g N cap P Q S x U1 U2 wr.drew := ⟨h.row, h.srt, h.gt, h.keeps.drew⟩
theorem InsIR.below {w wr w' : World} {B g N cap : Nat} {P Q S U1 U2 : List Rel} {x : Rel} (h : InsIR w B g N cap P Q S x U1 U2 wr) (hb : Below wr.heap.size wr w') : InsIR w B g N cap P Q S x U1 U2 w' :=
  ⟨h.row.keep (keeps_of_below (fun _ => False) hb) (fun e => e), h.srt, h.gt, h.keeps.trans (keeps_of_below (fun _ => False) hb) (fun _ _ e => e.elim)⟩
/-- Where the outer loop stands. -/
structure InsOR (w : World) (B g N cap : Nat) (P M S : List Rel) (k : Nat) (U : List Rel) (wr : World) : Prop where
  row : SrtR wr B g N cap (P ++ (U ++ M.drop k) ++ S)
  srt : StS keyR (M.take k) U
  keeps : Keeps (fun i => i = g ∨ w.heap.size ≤ i) w wr
theorem InsIR.stop {w wr : World} {B g N cap k : Nat} {P M S U1 U2 : List Rel} {x : Rel} (h : InsIR w B g N cap P (M.take k) (M.drop (k + 1) ++ S) x U1 U2 wr) (hx : M.take (k + 1) = M.take k ++ [x]) (hle : ∀ u ∈ U1, keyR u ≤ keyR x) : InsOR w B g N cap P M S (k + 1) (U1 ++ x :: U2) wr := by
  refine ⟨?_, ?_, h.keeps⟩
  · have := h.row
    simpa only [List.append_assoc, List.cons_append, List.nil_append] using this
  · rw [hx]
    exact sts_insert h.srt hle h.gt
theorem InsOR.drewN {w wr : World} {B g N cap k : Nat} {P M S U : List Rel} (h : InsOR w B g N cap P M S k U wr) (q : Nat) : InsOR w B g N cap P M S k U (wr.drewN q) := ⟨h.row, h.srt, h.keeps.drewN q⟩
set_option maxRecDepth 100000 in
set_option maxHeartbeats 2000000 in
theorem insR (B g N cap a b : Nat) (P M S : List Rel) (w : World) (h : SrtR w B g N cap (P ++ M ++ S)) (ha : P.length = a) (hb : a + M.length = b) (hok : ∀ x ∈ M, OkR x) (hN : N ≤ 1099511627776) :
    Calls Tryz.prog 90 #[.slice (some ⟨g, 0, none⟩) N cap, .int .i64 a, .int .i64 b, .func (.func 42) #[] #[]] w fun e w' => e = .returned (.tuple #[]) ∧ ∃ M', StS keyR M M' ∧ SrtR w' B g N cap (P ++ M' ++ S) ∧ Keeps (fun i => i = g ∨ w.heap.size ≤ i) w w' := by
  have hNl := h.1
  simp only [List.length_append] at hNl
  have hbN : b ≤ N := by omega
  obtain ⟨L, hL⟩ : ∃ L, M.length = L := ⟨_, rfl⟩
  have HS : Hid (∃ U, InsOR w B g N cap P M S 1 U w) := by
    refine ⟨M.take 1, by rw [List.take_append_drop]; exact h, ⟨?_, Same.refl _, rfl⟩, Keeps.refl _ _⟩
    cases M with
    | nil => simp [Up]
    | cons x M => simpa using up_one (key := keyR) x
  have HOK := Lib.hid hok
  have HA := Lib.hid ha
  have HL := Lib.hid hL
  rw [hL] at hb
  clear h hok hNl ha hL
  have e0 : IntKind.i64.wrap ((a : Int) + 1) = ((a + 1 : Nat) : Int) := by rw [IntWalk.i64_in _ (by omega)]; omega
  go_enter Tryz.func90, Tryz.ntmps90
  go_wp2_with fail
  go_loopw [8] (fun vi wr => ∃ i k : Nat, 1 ≤ k ∧ (k ≤ L ∨ k = 1) ∧ i = a + k ∧ vi = .int .i64 i ∧ Hid (∃ U, InsOR w B g N cap P M S k U wr)) (fun vi _ => b + 1 - (intOf vi).toNat)
  case atStart => exact ⟨a + 1, 1, Nat.le_refl _, Or.inr rfl, rfl, by go_num, HS.out⟩
  case round =>
    obtain ⟨i, k, hk1, hkL, hik, rfl, HR⟩ := hrel
    have HIK := Lib.hid hik
    have hai : a ≤ i := by omega
    by_cases hlt : i < b
    · have hkl : k < M.length := by rw [HL.out]; omega
      have hkL2 : k < L := by omega
      obtain ⟨x, hx⟩ : ∃ x, M[k] = x := ⟨_, rfl⟩
      have hxok : OkR x := by rw [← hx]; exact HOK.out _ (List.getElem_mem hkl)
      have HXOK := Lib.hid hxok
      have HKX : Hid (M.drop k = x :: M.drop (k + 1) ∧ M.take (k + 1) = M.take k ++ [x]) := by
        rw [← hx]
        exact ⟨List.drop_eq_getElem_cons hkl, List.take_succ_eq_append_getElem hkl⟩
      have HST : Hid (∃ U1 U2 : List Rel, a + U1.length = i ∧ InsIR w B g N cap P (M.take k) (M.drop (k + 1) ++ S) x U1 U2 wr) := by
        obtain ⟨U, hU⟩ := HR.out
        refine ⟨U, [], ?_, ?_, by rw [List.append_nil]; exact hU.srt, (fun u hu => by cases hu), hU.keeps⟩
        · have := hU.srt.len
          rw [List.length_take] at this
          omega
        · have := hU.row
          rw [HKX.out.1] at this
          simpa only [List.append_assoc, List.cons_append, List.nil_append] using this
      clear hx hxok HR hik
      go_wp2_with fail
      obtain ⟨wo, hwo⟩ : ∃ wo : World, wo = wr := ⟨_, rfl⟩
      go_loopw [9] (fun vj wi => ∃ j : Nat, a ≤ j ∧ j ≤ i ∧ vj = .int .i64 j ∧ Hid (∃ U1 U2 : List Rel, a + U1.length = j ∧ InsIR w B g N cap P (M.take k) (M.drop (k + 1) ++ S) x U1 U2 wi)) (fun vj _ => (intOf vj).toNat)
      case atStart => exact ⟨i, hai, Nat.le_refl _, rfl, HST.out⟩
      case round =>
        obtain ⟨j, haj, hji, rfl, HI⟩ := hrel
        by_cases hja : a < j
        · obtain ⟨jp, hjp⟩ : ∃ jp, j = jp + 1 := ⟨j - 1, by omega⟩
          have HI2 : Hid (∃ (U0 : List Rel) (y : Rel) (U2 : List Rel), a + U0.length = jp ∧ OkR y ∧ InsIR w B g N cap P (M.take k) (M.drop (k + 1) ++ S) x (U0 ++ [y]) U2 wr) := by
            obtain ⟨U1, U2, h1, h2⟩ := HI.out
            have hne : U1 ≠ [] := by rintro rfl; simp at h1; omega
            refine ⟨U1.dropLast, U1.getLast hne, U2, ?_, ?_, by rw [List.dropLast_concat_getLast]; exact h2⟩
            · rw [List.length_dropLast]; omega
            · have hm : U1.getLast hne ∈ M.take k := h2.srt.mem (List.mem_append_left _ (List.getLast_mem hne))
              exact HOK.out _ (List.mem_of_mem_take hm)
          obtain ⟨U0, y, U2, hjl, hyok, hI⟩ := HI2.out
          have hlen := hI.row.1
          simp only [List.length_append, List.length_cons, List.length_nil] at hlen
          have hA := HA.out
          have hiN : i < N := by omega
          have hjN : j < N := by omega
          have hrow : SrtR wr B g N cap ((P ++ U0) ++ y :: x :: (U2 ++ (M.drop (k + 1) ++ S))) := by have := hI.row; simpa only [List.append_assoc, List.cons_append, List.nil_append] using this
          have hrow2 : SrtR wr B g N cap ((P ++ U0 ++ [y]) ++ x :: (U2 ++ (M.drop (k + 1) ++ S))) := by have := hI.row; simpa only [List.append_assoc, List.cons_append, List.nil_append] using this
          obtain ⟨c0, c1, c2, c3, c4⟩ := hrow2.mid (i := j) (by simp; omega)
          obtain ⟨d0, d1, d2, d3, d4⟩ := hrow.mid (i := jp) (by simp; omega)
          have HGL : Hid (g < wr.heap.size) := hI.row.lt.2.1
          have HYOK := Lib.hid hyok
          have HII := Lib.hid hI
          have HJL := Lib.hid hjl
          obtain ⟨_, _, hnc, hcm⟩ := hI.row.lt
          unfold maxLen at hcm
          have e1 : IntKind.i64.wrap ((j : Int) - 1) = (jp : Int) := by rw [IntWalk.i64_in _ (by omega)]; omega
          have e3 : (0 : Int) ≤ (j : Int) := by omega
          have e4 : (j : Int) < ((N : Nat) : Int) := by omega
          have e5 : (0 : Int) ≤ (jp : Int) := by omega
          have e6 : (jp : Int) < ((N : Nat) : Int) := by omega
          have e7 : (a : Int) < (j : Int) := by omega
          have HJP := Lib.hid hjp
          clear hrow hrow2 hI hyok hjl HI HI2 hlen hA hjp
          go_wp2_with fail
          go_region_held3 (fun w' => w'.cell? ⟨g, j * 5, none⟩ = some (.int .i64 x.sec) ∧ w'.cell? ⟨g, j * 5 + 1, none⟩ = some (.int .i64 x.at_) ∧ w'.cell? ⟨g, j * 5 + 2, none⟩ = some (.int .i64 x.kd) ∧ w'.cell? ⟨g, j * 5 + 3, none⟩ = some (.int .i64 x.add) ∧ w'.cell? ⟨g, j * 5 + 4, none⟩ = some (.string x.nm) ∧ w'.cell? ⟨g, jp * 5, none⟩ = some (.int .i64 y.sec) ∧ w'.cell? ⟨g, jp * 5 + 1, none⟩ = some (.int .i64 y.at_) ∧ w'.cell? ⟨g, jp * 5 + 2, none⟩ = some (.int .i64 y.kd) ∧ w'.cell? ⟨g, jp * 5 + 3, none⟩ = some (.int .i64 y.add) ∧ w'.cell? ⟨g, jp * 5 + 4, none⟩ = some (.string y.nm)) (first | go_keep | exact ⟨t0, t1, t2, t3, t4, t5, t6, t7, t8, t9⟩)
            (first
              | (go_at_call 42; refine (cmpR x y _ HXOK.out HYOK.out).mono ?_; rintro e w3 ⟨⟨r, rfl, hr⟩, hb3⟩
                 have t0 : w3.cell? ⟨g, j * 5, none⟩ = some (.int .i64 x.sec) := (hb3.cell (p := ⟨g, j * 5, none⟩) HGL.out).trans c0
                 have t1 : w3.cell? ⟨g, j * 5 + 1, none⟩ = some (.int .i64 x.at_) := (hb3.cell (p := ⟨g, j * 5 + 1, none⟩) HGL.out).trans c1
                 have t2 : w3.cell? ⟨g, j * 5 + 2, none⟩ = some (.int .i64 x.kd) := (hb3.cell (p := ⟨g, j * 5 + 2, none⟩) HGL.out).trans c2
                 have t3 : w3.cell? ⟨g, j * 5 + 3, none⟩ = some (.int .i64 x.add) := (hb3.cell (p := ⟨g, j * 5 + 3, none⟩) HGL.out).trans c3
                 have t4 : w3.cell? ⟨g, j * 5 + 4, none⟩ = some (.string x.nm) := (hb3.cell (p := ⟨g, j * 5 + 4, none⟩) HGL.out).trans c4
                 have t5 : w3.cell? ⟨g, jp * 5, none⟩ = some (.int .i64 y.sec) := (hb3.cell (p := ⟨g, jp * 5, none⟩) HGL.out).trans d0
                 have t6 : w3.cell? ⟨g, jp * 5 + 1, none⟩ = some (.int .i64 y.at_) := (hb3.cell (p := ⟨g, jp * 5 + 1, none⟩) HGL.out).trans d1
                 have t7 : w3.cell? ⟨g, jp * 5 + 2, none⟩ = some (.int .i64 y.kd) := (hb3.cell (p := ⟨g, jp * 5 + 2, none⟩) HGL.out).trans d2
                 have t8 : w3.cell? ⟨g, jp * 5 + 3, none⟩ = some (.int .i64 y.add) := (hb3.cell (p := ⟨g, jp * 5 + 3, none⟩) HGL.out).trans d3
                 have t9 : w3.cell? ⟨g, jp * 5 + 4, none⟩ = some (.string y.nm) := (hb3.cell (p := ⟨g, jp * 5 + 4, none⟩) HGL.out).trans d4
                 have HB3 := Lib.hid hb3
                 have HRK := Lib.hid hr
                 clear hb3 hr))
          have HI3 := Lib.hid (HII.out.drew.below HB3.out)
          clear HB3
          by_cases hxy : keyR x < keyR y
          · have hr' : r < 0 := HRK.out.2 hxy
            have hrow3 : SrtR w3 B g N cap ((P ++ U0) ++ y :: x :: (U2 ++ (M.drop (k + 1) ++ S))) := by have := HI3.out.row; simpa only [List.append_assoc, List.cons_append, List.nil_append] using this
            have hx3 := hrow3.xch HI3.out.keeps (Or.inl rfl) (i := jp) (j := j) (by have := HJL.out; have := HA.out; simp; omega) HJP.out.symm
            have HNX : Hid (∃ U1 U2 : List Rel, a + U1.length = jp ∧ InsIR w B g N cap P (M.take k) (M.drop (k + 1) ++ S) x U1 U2 (((((((((((((((((((((w3).setCell ⟨g, j * 5, none⟩ (.int .i64 y.sec))).setCell ⟨g, j * 5 + 1, none⟩ (.int .i64 y.at_))).setCell ⟨g, j * 5 + 2, none⟩ (.int .i64 y.kd))).setCell ⟨g, j * 5 + 3, none⟩ (.int .i64 y.add))).setCell ⟨g, j * 5 + 4, none⟩ (.string y.nm))).setCell ⟨g, jp * 5, none⟩ (.int .i64 x.sec))).setCell ⟨g, jp * 5 + 1, none⟩ (.int .i64 x.at_))).setCell ⟨g, jp * 5 + 2, none⟩ (.int .i64 x.kd))).setCell ⟨g, jp * 5 + 3, none⟩ (.int .i64 x.add))).setCell ⟨g, jp * 5 + 4, none⟩ (.string x.nm)).drew)) := by
              refine ⟨U0, y :: U2, HJL.out, ?_, ?_, fun u hu => ?_, hx3.2.drew⟩
              · have := hx3.1.drew
                simpa only [List.append_assoc, List.cons_append, List.nil_append] using this
              · have := HI3.out.srt
                simpa only [List.append_assoc, List.cons_append, List.nil_append] using this
              · rcases List.mem_cons.1 hu with rfl | hu
                · exact hxy
                · exact HI3.out.gt u hu
            have y0 := hrow3.fz (j * 5)
            have y1 := hrow3.fz (j * 5 + 1)
            have y2 := hrow3.fz (j * 5 + 2)
            have y3 := hrow3.fz (j * 5 + 3)
            have y4 := hrow3.fz (j * 5 + 4)
            have z0 := hrow3.fz (jp * 5)
            have z1 := hrow3.fz (jp * 5 + 1)
            have z2 := hrow3.fz (jp * 5 + 2)
            have z3 := hrow3.fz (jp * 5 + 3)
            have z4 := hrow3.fz (jp * 5 + 4)
            have hjpj : jp < j := by have := HJP.out; omega
            have hajp : a ≤ jp := by have := HJP.out; omega
            have hjpi : jp ≤ i := by omega
            clear hrow3 hx3 hxy HI3 HII
            go_wp2_with fail
            go_region
            go_wp2_with fail
            go_roundw
            case rel => exact ⟨jp, hajp, hjpi, rfl, HNX.out⟩
            case measure => simp [intOf]; omega
          · have hr' : 0 ≤ r := Int.not_lt.1 (fun h => hxy (HRK.out.1 h))
            have HNX : Hid (∃ U, InsOR w B g N cap P M S (k + 1) U w3) := by
              refine ⟨_, HI3.out.stop HKX.out.2 (fun u hu => ?_)⟩
              have hup := HI3.out.srt.up
              rcases List.mem_append.1 hu with hu | hu
              · have := (up_append.1 (up_append.1 hup).1).2.2 u hu y (by simp)
                omega
              · obtain rfl := List.mem_singleton.1 hu
                omega
            clear hxy HI3 HII
            go_wp2_with fail
            go_roundw
            case rel => exact ⟨i + 1, k + 1, by omega, by omega, by have := HIK.out; omega, by go_num, HNX.out⟩
            case measure => simp [intOf]; omega
        · have q1 : decide ((a : Int) < (j : Int)) = false := by simp; omega
          have HNX : Hid (∃ U, InsOR w B g N cap P M S (k + 1) U wr.drew) := by
            obtain ⟨U1, U2, h1, h2⟩ := HI.out
            have : U1 = [] := List.eq_nil_of_length_eq_zero (by omega)
            subst this
            exact ⟨_, (h2.stop HKX.out.2 (fun u hu => by cases hu)).drewN 1⟩
          obtain rfl : j = a := by omega
          clear hja HI q1
          go_wp2_with fail
          go_region
          go_wp2_with fail
          go_roundw
          case rel => exact ⟨i + 1, k + 1, by omega, by omega, by have := HIK.out; omega, by go_num, HNX.out⟩
          case measure => simp [intOf]; omega
    · have HFIN : Hid (∃ M', StS keyR M M' ∧ SrtR wr B g N cap (P ++ M' ++ S) ∧ Keeps (fun i => i = g ∨ w.heap.size ≤ i) w wr) := by
        obtain ⟨U, hU⟩ := HR.out
        have hle : M.length ≤ k := by rw [HL.out]; omega
        have h1 := hU.row
        have h2 := hU.srt
        rw [List.drop_of_length_le hle, List.append_nil] at h1
        rw [List.take_of_length_le hle] at h2
        exact ⟨U, h2, h1, hU.keeps⟩
      clear HR hik
      go_wp2_with fail
      go_end0
      exact ⟨rfl, HFIN.out⟩
end Go.Proofs.YteoglkofeogknaaGreatDoor

/- Walk: asm.fits, joined. Conditions: what each states. -/
import Derived.Test.YteoglkofeogknaaGreatDoorFA
import Derived.Test.YteoglkofeogknaaGreatDoorDC
import Derived.Deep.RegionHeld3
set_option linter.unusedVariables false
set_option linter.unusedSimpArgs false
namespace Go.Proofs.YteoglkofeogknaaGreatDoor
open Go.RowKit
set_option maxRecDepth 100000 in
set_option maxHeartbeats 8000000 in
theorem fits_ok (A1 : Option Addr) (n1 k1 : Nat) (A2 : Option Addr) (n2 k2 : Nat) (v3 v4 : Value) (As : Option Addr) (ns ks : Nat) (s : Int) (k : Nat) (kd add L : Int) (nm : ByteArray) (w : World) (V op imm er d a b : Int) (h1 : decide (s < 0) = false) (h2 : decide (1 < s) = false) (h4 : (k : Int).tmod 4 = 0) (e5 : IntKind.i64.wrap ((ns : Int) - 4) = L) (c5 : decide (L < (k : Int)) = false) (c6 : decide (add < 0) = false) (c7 : decide (65535 < add) = false) (hP : ∀ W, Calls Tryz.prog 37 #[.agg #[.slice A1 n1 k1, .slice A2 n2 k2, v3, v4], .int .i64 s] W fun e w' => e = .returned (.slice As ns ks) ∧ Below W.heap.size W w') (hS : ∀ W, Below w.heap.size w W ∧ w.heap.size ≤ W.heap.size → Calls Tryz.prog 36 #[.string nm] W fun e w' => e = .returned (.bool true) ∧ Below W.heap.size W w') (hA : ∀ W, Below w.heap.size w W ∧ w.heap.size ≤ W.heap.size → Calls Tryz.prog 62 #[.slice As ns ks, .int .i64 k] W fun e w' => e = .returned (.int .u32 V) ∧ Below W.heap.size W w') (hD : ∀ W, Calls Tryz.prog 34 #[.int .u32 V] W fun e w' => e = .returned (.tuple #[.agg #[.int .i64 op, .int .i64 d, .int .i64 a, .int .i64 b, .int .i64 imm], .int .i64 er]) ∧ Below W.heap.size W w') :
    Calls Tryz.prog 38 #[.agg #[.slice A1 n1 k1, .slice A2 n2 k2, v3, v4], .agg #[.int .i64 s, .int .i64 k, .int .i64 kd, .int .i64 add, .string nm]] w fun e w' => e = .returned (.bool (fitK s kd op imm er V)) ∧ Below w.heap.size w w' := by
  obtain ⟨R, hR⟩ : ∃ R, fitK s kd op imm er V = R := ⟨_, rfl⟩
  rw [hR]
  have HP := Lib.hid hP
  clear hP
  have HS := Lib.hid hS
  clear hS
  have HA := Lib.hid hA
  clear hA
  have HD := Lib.hid hD
  clear hD
  have HR := Lib.hid hR
  clear hR
  go_enter Tryz.func38, Tryz.ntmps38
  go_wp2_with fail
  have hc := fresh2 w (.slice A1 n1 k1) (.slice A2 n2 k2) v3 v4 s (k : Int) kd add nm 41 51
  generalize ((w.alloc (.cells #[.slice A1 n1 k1, .slice A2 n2 k2, v3, v4] 41)).alloc (.cells #[.int .i64 s, .int .i64 k, .int .i64 kd, .int .i64 add, .string nm] 51)) = w1 at hc ⊢
  obtain ⟨nw, hnw⟩ : ∃ nw, w.heap.size = nw := ⟨_, rfl⟩
  obtain ⟨q, hq⟩ : ∃ q, w.heap.size + 1 = q := ⟨_, rfl⟩
  rw [hq] at hc ⊢
  rw [hnw] at hc ⊢
  have HNW := Lib.hid hnw
  clear hq hnw
  have HC := Lib.hid hc
  obtain ⟨a0, a1, a2, a3, b0, b1, b2, b3, b4, _, _⟩ := hc
  first
  | go_region_held3 (fun W => W.cell? ⟨nw, 0, none⟩ = some (.slice A1 n1 k1) ∧ W.cell? ⟨nw, 1, none⟩ = some (.slice A2 n2 k2) ∧ W.cell? ⟨nw, 2, none⟩ = some v3 ∧ W.cell? ⟨nw, 3, none⟩ = some v4 ∧ W.cell? ⟨q, 0, none⟩ = some (.int .i64 s) ∧ W.cell? ⟨q, 1, none⟩ = some (.int .i64 k) ∧ W.cell? ⟨q, 2, none⟩ = some (.int .i64 kd) ∧ W.cell? ⟨q, 3, none⟩ = some (.int .i64 add) ∧ W.cell? ⟨q, 4, none⟩ = some (.string nm) ∧ Below nw w W ∧ nw ≤ W.heap.size) (first | exact sf_drew HC.out | exact t1 | exact t2 | go_keep)
      (first
        | (go_at_call 37; refine (HP.out _).mono ?_; rintro e w2 ⟨rfl, hb⟩; have t1 := sf_step (by assumption) hb; clear hb)
        | (go_at_call 36; refine (HS.out _ (sf_nw HNW.out (by assumption))).mono ?_; rintro e w3 ⟨rfl, hb⟩; have t2 := sf_step (by assumption) hb; clear hb))
  | fail
  clear HC a0 a1 a2 a3 b0 b1 b2 b3 b4
  have HC := Lib.hid t2
  clear t2 t1 HS c5 c6 c7
  obtain ⟨a0, a1, a2, a3, b0, b1, b2, b3, b4, _, _⟩ := HC.out
  go_wp2_with fail
  first
  | go_region_held3 (fun W => W.cell? ⟨nw, 0, none⟩ = some (.slice A1 n1 k1) ∧ W.cell? ⟨nw, 1, none⟩ = some (.slice A2 n2 k2) ∧ W.cell? ⟨nw, 2, none⟩ = some v3 ∧ W.cell? ⟨nw, 3, none⟩ = some v4 ∧ W.cell? ⟨q, 0, none⟩ = some (.int .i64 s) ∧ W.cell? ⟨q, 1, none⟩ = some (.int .i64 k) ∧ W.cell? ⟨q, 2, none⟩ = some (.int .i64 kd) ∧ W.cell? ⟨q, 3, none⟩ = some (.int .i64 add) ∧ W.cell? ⟨q, 4, none⟩ = some (.string nm) ∧ Below nw w W ∧ nw ≤ W.heap.size) (first | exact sf_drew HC.out | exact t1 | exact t2 | go_keep)
      (first
        | (go_at_call 37; refine (HP.out _).mono ?_; rintro e w4 ⟨rfl, hb⟩; have t1 := sf_step (by assumption) hb; clear hb)
        | (go_at_call 62; refine (HA.out _ (sf_nw HNW.out (by assumption))).mono ?_; rintro e w5 ⟨rfl, hb⟩; have t2 := sf_step (by assumption) hb; clear hb))
  | fail
  clear HC a0 a1 a2 a3 b0 b1 b2 b3 b4
  have HC := Lib.hid t2
  clear t2 t1 HP HA
  obtain ⟨a0, a1, a2, a3, b0, b1, b2, b3, b4, _, _⟩ := HC.out
  by_cases hk1 : kd = 1
  · subst hk1
    go_wp2_with fail
    go_ret
    exact ⟨ret_bool (by rw [← HR.out]; unfold fitK; simp), (sf_nw HNW.out HC.out).1⟩
  have k1 : (kd == 1) = false := by simpa using hk1
  go_wp2_with fail
  refine (HD.out _).mono ?_
  rintro e w6 ⟨rfl, hb⟩
  have HC6 := Lib.hid (sf_step (sf_step HC.out hb) ((Below.refl _ _).alloc (Nat.le_refl _) (.cells #[.int .i64 op, .int .i64 d, .int .i64 a, .int .i64 b, .int .i64 imm] 94)))
  have HX := Lib.hid (XAt.fresh w6 op d a b imm 94)
  clear hb HC HD a0 a1 a2 a3 b0 b1 b2 b3 b4
  obtain ⟨a0, a1, a2, a3, b0, b1, b2, b3, b4, _, _⟩ := HC6.out
  obtain ⟨x0, x1, x2, x3, x4, _⟩ := HX.out
  by_cases hg : er ≠ 0 ∨ s ≠ 0 ∨ imm ≠ 0
  · have HF : Hid (R = false) := by rw [← HR.out]; unfold fitK; rw [if_neg hk1, if_pos hg]; try rfl
    clear HR
    have hcs : (s == 0) = false ∨ s = 0 ∧ (er == 0) = false ∨ s = 0 ∧ er = 0 ∧ (imm == 0) = false := by by_cases h : s = 0 <;> by_cases h2 : er = 0 <;> simp_all
    rcases hcs with c1 | ⟨rfl, c1⟩ | ⟨rfl, rfl, c1⟩
    all_goals
      go_wp2_with fail
      all_goals
        go_ret
        exact ⟨ret_bool HF.out.symm, (sf_nw HNW.out HC6.out).1⟩
  · obtain ⟨rfl, rfl, rfl⟩ : er = 0 ∧ s = 0 ∧ imm = 0 := by omega
    have HF : Hid (R = if kd = 2 then op == 26 else if kd = 3 then op == 20 else if kd = 4 then (op == 37 || op == 38) else if kd = 5 then (op == 34 || op == 35 || op == 36) else false) := by rw [← HR.out]; unfold fitK; rw [if_neg hk1, if_neg hg]; try rfl
    clear HR hg
    by_cases hk2 : kd = 2
    · subst hk2
      go_wp2_with fail
      go_ret
      exact ⟨ret_bool (by rw [HF.out]; first | (simp; done) | (rw [Bool.eq_iff_iff]; simp; done)), (sf_nw HNW.out HC6.out).1⟩
    by_cases hk3 : kd = 3
    · subst hk3
      go_wp2_with fail
      go_ret
      exact ⟨ret_bool (by rw [HF.out]; first | (simp; done) | (rw [Bool.eq_iff_iff]; simp; done)), (sf_nw HNW.out HC6.out).1⟩
    by_cases hk4 : kd = 4
    · subst hk4
      by_cases ho : op = 37
      · subst ho
        go_wp2_with fail
        go_ret
        exact ⟨ret_bool (by rw [HF.out]; first | (simp; done) | (rw [Bool.eq_iff_iff]; simp; done)), (sf_nw HNW.out HC6.out).1⟩
      · have o1 : (op == 37) = false := by simpa using ho
        go_wp2_with fail
        go_ret
        exact ⟨ret_bool (by rw [HF.out]; first | (simp [ho]; done) | (rw [Bool.eq_iff_iff]; simp [ho]; done)), (sf_nw HNW.out HC6.out).1⟩
    by_cases hk5 : kd = 5
    · subst hk5
      by_cases ho : op = 34
      · subst ho
        go_wp2_with fail
        go_ret
        exact ⟨ret_bool (by rw [HF.out]; first | (simp; done) | (rw [Bool.eq_iff_iff]; simp; done)), (sf_nw HNW.out HC6.out).1⟩
      have o1 : (op == 34) = false := by simpa using ho
      by_cases ho2 : op = 35
      · subst ho2
        go_wp2_with fail
        go_ret
        exact ⟨ret_bool (by rw [HF.out]; first | (simp; done) | (rw [Bool.eq_iff_iff]; simp; done)), (sf_nw HNW.out HC6.out).1⟩
      · have o2 : (op == 35) = false := by simpa using ho2
        go_wp2_with fail
        go_ret
        exact ⟨ret_bool (by rw [HF.out]; first | (simp [ho, ho2]; done) | (rw [Bool.eq_iff_iff]; simp [ho, ho2]; done)), (sf_nw HNW.out HC6.out).1⟩
    have q2 : (kd == 2) = false := by simpa using hk2
    have q3 : (kd == 3) = false := by simpa using hk3
    have q4 : (kd == 4) = false := by simpa using hk4
    have q5 : (kd == 5) = false := by simpa using hk5
    go_wp2_with fail
    go_ret
    exact ⟨ret_bool (by rw [HF.out, if_neg hk2, if_neg hk3, if_neg hk4, if_neg hk5]), (sf_nw HNW.out HC6.out).1⟩
open Go.RowKit
set_option maxRecDepth 100000 in
set_option maxHeartbeats 2000000 in
theorem fits_c4 (A1 : Option Addr) (n1 k1 : Nat) (A2 : Option Addr) (n2 k2 : Nat) (v3 v4 : Value) (s k kd add : Int) (nm : ByteArray) (w : World) (h1 : decide (s < 0) = false) (h2 : decide (1 < s) = false) (h3 : decide (k < 0) = false) (h4 : (k.tmod 4 != 0) = true) :
    Calls Tryz.prog 38 #[.agg #[.slice A1 n1 k1, .slice A2 n2 k2, v3, v4], .agg #[.int .i64 s, .int .i64 k, .int .i64 kd, .int .i64 add, .string nm]] w fun e w' => e = .returned (.bool false) ∧ Below w.heap.size w w' := by
  go_enter Tryz.func38, Tryz.ntmps38
  go_wp2_with fail
  go_quiet (fail)
  go_wp2_with fail
  go_ret
  exact ⟨rfl, below_dN (((Below.refl _ _).alloc (Nat.le_refl _) _).alloc (by simp) _) _⟩
end Go.Proofs.YteoglkofeogknaaGreatDoor

/- Walks: the reference's fits, Check, Encode. Conditions: what each states. -/
import Derived.Test.YtlgdfacaeahcaaaDoorEA
import Derived.Test.YtlgdfacaeahcaaaDoorDB
set_option linter.unusedVariables false
set_option linter.unusedSimpArgs false
namespace Go.Proofs.YtlgdfacaeahcaaaDoor
open Go.RowKit
def rfB (f n : Int) : Bool :=
  if f = 83 ∨ f = 76 ∨ f = 66 ∨ f = 84 then decide (-32768 ≤ n) && decide (n ≤ 32767) else if f = 85 ∨ f = 72 ∨ f = 87 then decide (0 ≤ n) && decide (n ≤ 65535) else if f = 67 then decide (0 ≤ n) && decide (n ≤ 31)
  else if f = 69 then decide (n = 8) || decide (n = 16) else if f = 74 then decide (-8388608 ≤ n) && decide (n ≤ 8388607) else decide (n = 0)
theorem RF_is (o : Int) : IsF (RF o) := by
  unfold RF IsF
  by_cases h0 : 1 ≤ o ∧ o ≤ 17
  · rw [if_pos h0]; decide
  rw [if_neg h0]
  by_cases h1 : o = 18
  · rw [if_pos h1]; decide
  rw [if_neg h1]
  by_cases h2 : 19 ≤ o ∧ o ≤ 21
  · rw [if_pos h2]; decide
  rw [if_neg h2]
  by_cases h3 : 22 ≤ o ∧ o ≤ 24
  · rw [if_pos h3]; decide
  rw [if_neg h3]
  by_cases h4 : o = 25
  · rw [if_pos h4]; decide
  rw [if_neg h4]
  by_cases h5 : o = 26
  · rw [if_pos h5]; decide
  rw [if_neg h5]
  by_cases h6 : o = 27
  · rw [if_pos h6]; decide
  rw [if_neg h6]
  by_cases h7 : 28 ≤ o ∧ o ≤ 33
  · rw [if_pos h7]; decide
  rw [if_neg h7]
  by_cases h8 : 34 ≤ o ∧ o ≤ 35
  · rw [if_pos h8]; decide
  rw [if_neg h8]
  by_cases h9 : o = 36
  · rw [if_pos h9]; decide
  rw [if_neg h9]
  by_cases h10 : 37 ≤ o ∧ o ≤ 38
  · rw [if_pos h10]; decide
  rw [if_neg h10]
  by_cases h11 : 39 ≤ o ∧ o ≤ 40
  · rw [if_pos h11]; decide
  rw [if_neg h11]
  by_cases h12 : 41 ≤ o ∧ o ≤ 42
  · rw [if_pos h12]; decide
  rw [if_neg h12]
  decide
set_option maxRecDepth 100000 in
set_option maxHeartbeats 4000000 in
theorem rfits_any (f n : Int) (w : World) (h : IsF f) : Calls Tryd.prog 85 #[.int .u8 f, .int .i64 n] w fun e w' => e = .returned (.bool (rfB f n)) ∧ w = w' := by
  rcases h with rfl | rfl | rfl | rfl | rfl | rfl | rfl | rfl | rfl | rfl | rfl | rfl | rfl
  · go_enter Tryd.func85, Tryd.ntmps85
    go_wp2
    go_ret
    exact ⟨ret_bool (by rw [Bool.eq_iff_iff]; simp [rfB]; try omega), rfl⟩
  · by_cases hl : -32768 ≤ n
    · go_enter Tryd.func85, Tryd.ntmps85
      go_wp2
      go_ret
      exact ⟨ret_bool (by rw [Bool.eq_iff_iff]; simp [rfB]; try omega), rfl⟩
    go_enter Tryd.func85, Tryd.ntmps85
    go_wp2
    go_ret
    exact ⟨ret_bool (by rw [Bool.eq_iff_iff]; simp [rfB]; try omega), rfl⟩
  · by_cases hl : 0 ≤ n
    · go_enter Tryd.func85, Tryd.ntmps85
      go_wp2
      go_ret
      exact ⟨ret_bool (by rw [Bool.eq_iff_iff]; simp [rfB]; try omega), rfl⟩
    go_enter Tryd.func85, Tryd.ntmps85
    go_wp2
    go_ret
    exact ⟨ret_bool (by rw [Bool.eq_iff_iff]; simp [rfB]; try omega), rfl⟩
  · by_cases hl : 0 ≤ n
    · go_enter Tryd.func85, Tryd.ntmps85
      go_wp2
      go_ret
      exact ⟨ret_bool (by rw [Bool.eq_iff_iff]; simp [rfB]; try omega), rfl⟩
    go_enter Tryd.func85, Tryd.ntmps85
    go_wp2
    go_ret
    exact ⟨ret_bool (by rw [Bool.eq_iff_iff]; simp [rfB]; try omega), rfl⟩
  · by_cases hl : n = 8
    · subst hl
      go_enter Tryd.func85, Tryd.ntmps85
      go_wp2
      go_ret
      exact ⟨ret_bool (by rw [Bool.eq_iff_iff]; simp [rfB]; try omega), rfl⟩
    have g8 : (n == 8) = false := by simpa using hl
    have HL := Lib.hid hl
    clear hl
    go_enter Tryd.func85, Tryd.ntmps85
    go_wp2
    go_ret
    exact ⟨ret_bool (by rw [Bool.eq_iff_iff]; simp [rfB, HL.out]; try omega), rfl⟩
  · by_cases hl : -32768 ≤ n
    · go_enter Tryd.func85, Tryd.ntmps85
      go_wp2
      go_ret
      exact ⟨ret_bool (by rw [Bool.eq_iff_iff]; simp [rfB]; try omega), rfl⟩
    go_enter Tryd.func85, Tryd.ntmps85
    go_wp2
    go_ret
    exact ⟨ret_bool (by rw [Bool.eq_iff_iff]; simp [rfB]; try omega), rfl⟩
  · by_cases hl : -32768 ≤ n
    · go_enter Tryd.func85, Tryd.ntmps85
      go_wp2
      go_ret
      exact ⟨ret_bool (by rw [Bool.eq_iff_iff]; simp [rfB]; try omega), rfl⟩
    go_enter Tryd.func85, Tryd.ntmps85
    go_wp2
    go_ret
    exact ⟨ret_bool (by rw [Bool.eq_iff_iff]; simp [rfB]; try omega), rfl⟩
  · by_cases hl : 0 ≤ n
    · go_enter Tryd.func85, Tryd.ntmps85
      go_wp2
      go_ret
      exact ⟨ret_bool (by rw [Bool.eq_iff_iff]; simp [rfB]; try omega), rfl⟩
    go_enter Tryd.func85, Tryd.ntmps85
    go_wp2
    go_ret
    exact ⟨ret_bool (by rw [Bool.eq_iff_iff]; simp [rfB]; try omega), rfl⟩
  · by_cases hl : -32768 ≤ n
    · go_enter Tryd.func85, Tryd.ntmps85
      go_wp2
      go_ret
      exact ⟨ret_bool (by rw [Bool.eq_iff_iff]; simp [rfB]; try omega), rfl⟩
    go_enter Tryd.func85, Tryd.ntmps85
    go_wp2
    go_ret
    exact ⟨ret_bool (by rw [Bool.eq_iff_iff]; simp [rfB]; try omega), rfl⟩
  · by_cases hl : -8388608 ≤ n
    · go_enter Tryd.func85, Tryd.ntmps85
      go_wp2
      go_ret
      exact ⟨ret_bool (by rw [Bool.eq_iff_iff]; simp [rfB]; try omega), rfl⟩
    go_enter Tryd.func85, Tryd.ntmps85
    go_wp2
    go_ret
    exact ⟨ret_bool (by rw [Bool.eq_iff_iff]; simp [rfB]; try omega), rfl⟩
  · by_cases hl : 0 ≤ n
    · go_enter Tryd.func85, Tryd.ntmps85
      go_wp2
      go_ret
      exact ⟨ret_bool (by rw [Bool.eq_iff_iff]; simp [rfB]; try omega), rfl⟩
    go_enter Tryd.func85, Tryd.ntmps85
    go_wp2
    go_ret
    exact ⟨ret_bool (by rw [Bool.eq_iff_iff]; simp [rfB]; try omega), rfl⟩
  · go_enter Tryd.func85, Tryd.ntmps85
    go_wp2
    go_ret
    exact ⟨ret_bool (by rw [Bool.eq_iff_iff]; simp [rfB]; try omega), rfl⟩
  · go_enter Tryd.func85, Tryd.ntmps85
    go_wp2
    go_ret
    exact ⟨ret_bool (by rw [Bool.eq_iff_iff]; simp [rfB]; try omega), rfl⟩
def chkR (op d a b i : Int) : Bool := decide (RF op ≠ 32) && regOk (inB (RF op) 100) d && regOk (inB (RF op) 97) a && regOk (inB (RF op) 98) b && rfB (RF op) i
open Go.RowKit
set_option maxRecDepth 100000 in
set_option maxHeartbeats 4000000 in
theorem rcheck_any (op d a b i : Int) (w : World) : Calls Tryd.prog 76 #[.agg #[.int .i64 op, .int .i64 d, .int .i64 a, .int .i64 b, .int .i64 i]] w fun e w' => e = .returned (.int .i64 (if chkR op d a b i then 0 else 20)) ∧ Below w.heap.size w w' := by
  have HF := Lib.hid (fun W => rform_any op W)
  have hi := RF_is op
  unfold chkR
  obtain ⟨f, hf⟩ : ∃ f, RF op = f := ⟨_, rfl⟩
  rw [hf] at HF hi ⊢
  clear hf
  have HD := Lib.hid (fun W => rreg_any f 100 d W hi)
  have HA := Lib.hid (fun W => rreg_any f 97 a W hi)
  have HB := Lib.hid (fun W => rreg_any f 98 b W hi)
  have HI := Lib.hid (fun W => rfits_any f i W hi)
  clear hi
  generalize regOk (inB f 100) d = rD at HD ⊢
  generalize regOk (inB f 97) a = rA at HA ⊢
  generalize regOk (inB f 98) b = rB at HB ⊢
  generalize rfB f i = rI at HI ⊢
  have HW : Hid (Below w.heap.size w (w.alloc (.cells #[.int .i64 op, .int .i64 d, .int .i64 a, .int .i64 b, .int .i64 i] 65))) := (Below.refl _ _).alloc (Nat.le_refl _) _
  obtain ⟨z, hz⟩ : ∃ z : Int, (if decide (f ≠ 32) && rD && rA && rB && rI then 0 else 20) = z := ⟨_, rfl⟩
  rw [hz]
  have HZ := Lib.hid hz
  clear hz
  by_cases h32 : f = 32
  · subst h32
    go_enter Tryd.func76, Tryd.ntmps76
    go_wp2_with fail
    refine (HF.out _).mono ?_
    rintro e w' ⟨rfl, rfl⟩
    go_wp2_with fail
    go_ret
    exact ⟨ret_chk (n := 20) HZ.out (R := false) (by simp) (by decide), HW.out⟩
  have g32 : (f == 32) = false := by simpa using h32
  have G32 := Lib.hid h32
  clear h32
  cases rD with
  | false =>
    go_enter Tryd.func76, Tryd.ntmps76
    go_wp2_with fail
    refine (HF.out _).mono ?_
    rintro e w' ⟨rfl, rfl⟩
    go_wp2_with fail
    refine (HD.out _).mono ?_
    rintro e w' ⟨rfl, rfl⟩
    go_wp2_with fail
    go_ret
    exact ⟨ret_chk (n := 20) HZ.out (R := false) (by simp) (by decide), HW.out⟩
  | true =>
    cases rA with
    | false =>
      go_enter Tryd.func76, Tryd.ntmps76
      go_wp2_with fail
      refine (HF.out _).mono ?_
      rintro e w' ⟨rfl, rfl⟩
      go_wp2_with fail
      refine (HD.out _).mono ?_
      rintro e w' ⟨rfl, rfl⟩
      go_wp2_with fail
      refine (HA.out _).mono ?_
      rintro e w' ⟨rfl, rfl⟩
      go_wp2_with fail
      go_ret
      exact ⟨ret_chk (n := 20) HZ.out (R := false) (by simp) (by decide), HW.out⟩
    | true =>
      cases rB with
      | false =>
        go_enter Tryd.func76, Tryd.ntmps76
        go_wp2_with fail
        refine (HF.out _).mono ?_
        rintro e w' ⟨rfl, rfl⟩
        go_wp2_with fail
        refine (HD.out _).mono ?_
        rintro e w' ⟨rfl, rfl⟩
        go_wp2_with fail
        refine (HA.out _).mono ?_
        rintro e w' ⟨rfl, rfl⟩
        go_wp2_with fail
        refine (HB.out _).mono ?_
        rintro e w' ⟨rfl, rfl⟩
        go_wp2_with fail
        go_ret
        exact ⟨ret_chk (n := 20) HZ.out (R := false) (by simp) (by decide), HW.out⟩
      | true =>
        cases rI with
        | false =>
          go_enter Tryd.func76, Tryd.ntmps76
          go_wp2_with fail
          refine (HF.out _).mono ?_
          rintro e w' ⟨rfl, rfl⟩
          go_wp2_with fail
          refine (HD.out _).mono ?_
          rintro e w' ⟨rfl, rfl⟩
          go_wp2_with fail
          refine (HA.out _).mono ?_
          rintro e w' ⟨rfl, rfl⟩
          go_wp2_with fail
          refine (HB.out _).mono ?_
          rintro e w' ⟨rfl, rfl⟩
          go_wp2_with fail
          refine (HI.out _).mono ?_
          rintro e w' ⟨rfl, rfl⟩
          go_wp2_with fail
          go_ret
          exact ⟨ret_chk (n := 20) HZ.out (R := false) (by simp) (by decide), HW.out⟩
        | true =>
          go_enter Tryd.func76, Tryd.ntmps76
          go_wp2_with fail
          refine (HF.out _).mono ?_
          rintro e w' ⟨rfl, rfl⟩
          go_wp2_with fail
          refine (HD.out _).mono ?_
          rintro e w' ⟨rfl, rfl⟩
          go_wp2_with fail
          refine (HA.out _).mono ?_
          rintro e w' ⟨rfl, rfl⟩
          go_wp2_with fail
          refine (HB.out _).mono ?_
          rintro e w' ⟨rfl, rfl⟩
          go_wp2_with fail
          refine (HI.out _).mono ?_
          rintro e w' ⟨rfl, rfl⟩
          go_wp2_with fail
          go_ret
          exact ⟨ret_chk (n := 0) HZ.out (R := true) (by simp [G32.out]) (by decide), HW.out⟩
open Go.RowKit
def rencW (f : Int) (o d a b : Nat) (i : Int) : Int := ((o : Int) * 16777216 + (d : Int) * 1048576 + (a : Int) * 65536 + (b : Int) * 4096 + (if i < 0 then (if f = 74 then i + 16777216 else i + 65536) else i)) % 4294967296
theorem ret_enc2 {z z' : Int} (h : z = z') : Ending.returned (.tuple #[.int .u32 z, .int .i64 0]) = .returned (.tuple #[.int .u32 z', .int .i64 0]) := by rw [h]
set_option maxRecDepth 100000 in
set_option maxHeartbeats 4000000 in
theorem rencode_bad (op d a b i : Int) (w : World) (h : chkR op d a b i = false) : Calls Tryd.prog 63 #[.agg #[.int .i64 op, .int .i64 d, .int .i64 a, .int .i64 b, .int .i64 i]] w fun e w' => e = .returned (.tuple #[.int .u32 0, .int .i64 20]) ∧ Below w.heap.size w w' := by
  have HC := Lib.hid (fun W => rcheck_any op d a b i W)
  rw [h] at HC
  clear h
  go_enter Tryd.func63, Tryd.ntmps63
  go_wp2_with fail
  refine (HC.out _).mono ?_
  rintro e w1 ⟨rfl, hw⟩
  have HB1 := Lib.hid (((Below.refl _ _).alloc (Nat.le_refl _) (.cells #[.int .i64 op, .int .i64 d, .int .i64 a, .int .i64 b, .int .i64 i] 65) : Below w.heap.size w _).trans (hw.mono (by simp)))
  clear hw
  go_wp2_with fail
  go_ret2
  exact ⟨rfl, HB1.out⟩
set_option maxRecDepth 100000 in
set_option maxHeartbeats 4000000 in
theorem rencode_ok (o d a b : Nat) (i : Int) (w : World) (h : chkR o d a b i = true) (ho : o ≤ 42) (hd : d ≤ 15) (ha : a ≤ 15) (hb : b ≤ 15) (h1 : -8388608 ≤ i) (h2 : i ≤ 8388607) : Calls Tryd.prog 63 #[.agg #[.int .i64 o, .int .i64 d, .int .i64 a, .int .i64 b, .int .i64 i]] w fun e w' => e = .returned (.tuple #[.int .u32 (rencW (RF o) o d a b i), .int .i64 0]) ∧ Below w.heap.size w w' := by
  have HC := Lib.hid (fun W => rcheck_any o d a b i W)
  rw [h] at HC
  have HF := Lib.hid (fun W => rform_any o W)
  clear h
  generalize RF o = f at HF ⊢
  obtain ⟨z, hz⟩ : ∃ z, rencW f o d a b i = z := ⟨_, rfl⟩
  rw [hz]
  have HZ := Lib.hid hz
  clear hz
  by_cases hn : 0 ≤ i
  · have HN : Hid (¬ i < 0) := by show ¬ i < 0; omega
    go_enter Tryd.func63, Tryd.ntmps63
    go_wp2_with fail
    refine (HC.out _).mono ?_
    rintro e w1 ⟨rfl, hw⟩
    have HX1 := Lib.hid ((XAt.fresh w o d a b i 65).below hw)
    have HB1 := Lib.hid (((Below.refl _ _).alloc (Nat.le_refl _) (.cells #[.int .i64 o, .int .i64 d, .int .i64 a, .int .i64 b, .int .i64 i] 65) : Below w.heap.size w _).trans (hw.mono (by simp)))
    clear hw
    obtain ⟨x0, x1, x2, x3, x4, _⟩ := HX1.out
    go_wp2_with fail
    go_ret2
    exact ⟨ret_enc2 (by rw [← HZ.out]; unfold rencW; rw [if_neg (Int.not_lt.2 HN.out)]; try omega), HB1.out⟩
  have hn2 : i < 0 := by omega
  have HN := Lib.hid hn2
  clear hn
  by_cases h74 : f = 74
  · subst h74
    go_enter Tryd.func63, Tryd.ntmps63
    go_wp2_with fail
    refine (HC.out _).mono ?_
    rintro e w1 ⟨rfl, hw⟩
    have HX1 := Lib.hid ((XAt.fresh w o d a b i 65).below hw)
    have HB1 := Lib.hid (((Below.refl _ _).alloc (Nat.le_refl _) (.cells #[.int .i64 o, .int .i64 d, .int .i64 a, .int .i64 b, .int .i64 i] 65) : Below w.heap.size w _).trans (hw.mono (by simp)))
    clear hw
    obtain ⟨x0, x1, x2, x3, x4, _⟩ := HX1.out
    go_wp2_with fail
    refine (HF.out _).mono ?_
    rintro e w' ⟨rfl, rfl⟩
    go_wp2_with fail
    go_ret2
    exact ⟨ret_enc2 (by rw [← HZ.out]; unfold rencW; rw [if_pos HN.out, if_pos rfl]; try omega), HB1.out⟩
  have g74 : (f == 74) = false := by simpa using h74
  have G74 := Lib.hid h74
  clear h74
  go_enter Tryd.func63, Tryd.ntmps63
  go_wp2_with fail
  refine (HC.out _).mono ?_
  rintro e w1 ⟨rfl, hw⟩
  have HX1 := Lib.hid ((XAt.fresh w o d a b i 65).below hw)
  have HB1 := Lib.hid (((Below.refl _ _).alloc (Nat.le_refl _) (.cells #[.int .i64 o, .int .i64 d, .int .i64 a, .int .i64 b, .int .i64 i] 65) : Below w.heap.size w _).trans (hw.mono (by simp)))
  clear hw
  obtain ⟨x0, x1, x2, x3, x4, _⟩ := HX1.out
  go_wp2_with fail
  refine (HF.out _).mono ?_
  rintro e w' ⟨rfl, rfl⟩
  go_wp2_with fail
  go_ret2
  exact ⟨ret_enc2 (by rw [← HZ.out]; unfold rencW; rw [if_pos HN.out, if_neg G74.out]; try omega), HB1.out⟩
end Go.Proofs.YtlgdfacaeahcaaaDoor

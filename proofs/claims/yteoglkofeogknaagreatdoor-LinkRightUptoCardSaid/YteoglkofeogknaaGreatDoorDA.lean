/- Walks: isa.plain, signed, upto, formOf. Conditions: what each states. -/
import Derived.Test.YteoglkofeogknaaGreatDoorIA
import Derived.Laws.ResultCell
set_option linter.unusedVariables false
set_option linter.unusedSimpArgs false
namespace Go.Proofs.YteoglkofeogknaaGreatDoor
open Go.RowKit
/-- A form's value. -/
def formV (fs : ByteArray) (lo hi bits : Int) : Value := .agg #[.string fs, .int .i64 lo, .int .i64 hi, .int .i64 bits]
theorem plain_any (w : World) : Calls Tryz.prog 75 #[] w fun e w' => e = .returned (.agg #[.string ⟨#[68, 65, 66]⟩, .int .i64 0, .int .i64 0, .int .i64 0]) ∧ w.alloc (.cells #[.string ⟨#[68, 65, 66]⟩, .int .i64 0, .int .i64 0, .int .i64 0] 115) = w' := by
  go_enter Tryz.func75, Tryz.ntmps75
  go_wp2
  refine bodyPost_ret (v := formV ⟨#[68, 65, 66]⟩ 0 0 0) (by simp [results, Tryz.results75, formV, go_sem]) rfl ?_
  exact ⟨rfl, rfl⟩
theorem signed_any (s : ByteArray) (w : World) : Calls Tryz.prog 76 #[.string s] w fun e w' => e = .returned (.agg #[.string s, .int .i64 (-32768), .int .i64 32767, .int .i64 16]) ∧ w.alloc (.cells #[.string s, .int .i64 (-32768), .int .i64 32767, .int .i64 16] 115) = w' := by
  go_enter Tryz.func76, Tryz.ntmps76
  go_wp2
  refine bodyPost_ret (v := formV s (-32768) 32767 16) (by simp [results, Tryz.results76, formV, go_sem]) rfl ?_
  exact ⟨rfl, rfl⟩
theorem upto_any (s : ByteArray) (h : Int) (w : World) : Calls Tryz.prog 77 #[.string s, .int .i64 h] w fun e w' => e = .returned (.agg #[.string s, .int .i64 0, .int .i64 h, .int .i64 16]) ∧ w.alloc (.cells #[.string s, .int .i64 0, .int .i64 h, .int .i64 16] 115) = w' := by
  go_enter Tryz.func77, Tryz.ntmps77
  go_wp2
  refine bodyPost_ret (v := formV s 0 h 16) (by simp [results, Tryz.results77, formV, go_sem]) rfl ?_
  exact ⟨rfl, rfl⟩
open Go.RowKit
/-- What formOf comes to: the fields, the least and the greatest number, its bits, and is there one. -/
def FM (n : Int) : ByteArray × Int × Int × Int × Bool :=
  if 1 ≤ n ∧ n ≤ 17 then (⟨#[68, 65, 66]⟩, 0, 0, 0, true)
  else if n = 18 ∨ 28 ≤ n ∧ n ≤ 33 then (⟨#[68, 65, 73]⟩, -32768, 32767, 16, true)
  else if n = 19 ∨ n = 20 ∨ n = 21 then (⟨#[68, 65, 73]⟩, 0, 65535, 16, true)
  else if n = 22 ∨ n = 23 ∨ n = 24 then (⟨#[68, 65, 73]⟩, 0, 31, 16, true)
  else if n = 25 then (⟨#[68, 73]⟩, -32768, 32767, 16, true)
  else if n = 26 then (⟨#[68, 73]⟩, 0, 65535, 16, true)
  else if n = 27 then (⟨#[68, 65, 73]⟩, 8, 16, 16, true)
  else if n = 34 ∨ n = 35 then (⟨#[65, 73]⟩, -32768, 32767, 16, true)
  else if n = 36 then (⟨#[68, 65, 73]⟩, -32768, 32767, 16, true)
  else if n = 37 ∨ n = 38 then (⟨#[73]⟩, -8388608, 8388607, 24, true)
  else if n = 39 ∨ n = 40 then (⟨#[65]⟩, 0, 0, 0, true)
  else if n = 41 ∨ n = 42 then (⟨#[73]⟩, 0, 65535, 16, true)
  else (⟨#[]⟩, 0, 0, 0, false)
def FMv (n : Int) : Value := .tuple #[formV (FM n).1 (FM n).2.1 (FM n).2.2.1 (FM n).2.2.2.1, .bool (FM n).2.2.2.2]
theorem FM_plain {n : Int} (h1 : 1 ≤ n) (h2 : n ≤ 17) : FM n = (⟨#[68, 65, 66]⟩, 0, 0, 0, true) := by
  unfold FM; rw [if_pos ⟨h1, h2⟩]
theorem FM_none {n : Int} (h : n < 1 ∨ 42 < n) : FM n = (⟨#[]⟩, 0, 0, 0, false) := by
  unfold FM
  repeat rw [if_neg (by omega)]
set_option maxRecDepth 100000 in
set_option maxHeartbeats 4000000 in
theorem formOf_any (n : Int) (w : World) : Calls Tryz.prog 52 #[.int .i64 n] w fun e w' => e = .returned (FMv n) ∧ Below w.heap.size w w' := by
  by_cases h1 : n < 1
  · have HF := Lib.hid (FM_none (Or.inl h1))
    have g1 : ¬ 1 ≤ n := by omega
    have g2 : ¬ 28 ≤ n := by omega
    have e18 : (n == 18) = false := by simp; omega
    have e19 : (n == 19) = false := by simp; omega
    have e20 : (n == 20) = false := by simp; omega
    have e21 : (n == 21) = false := by simp; omega
    have e22 : (n == 22) = false := by simp; omega
    have e23 : (n == 23) = false := by simp; omega
    have e24 : (n == 24) = false := by simp; omega
    have e25 : (n == 25) = false := by simp; omega
    have e26 : (n == 26) = false := by simp; omega
    have e27 : (n == 27) = false := by simp; omega
    have e34 : (n == 34) = false := by simp; omega
    have e35 : (n == 35) = false := by simp; omega
    have e36 : (n == 36) = false := by simp; omega
    have e37 : (n == 37) = false := by simp; omega
    have e38 : (n == 38) = false := by simp; omega
    have e39 : (n == 39) = false := by simp; omega
    have e40 : (n == 40) = false := by simp; omega
    have e41 : (n == 41) = false := by simp; omega
    have e42 : (n == 42) = false := by simp; omega
    go_enter Tryz.func52, Tryz.ntmps52
    go_wp2_with (first | (go_at_call 75; refine (plain_any _).mono ?_; rintro e w' ⟨rfl, rfl⟩) | (go_at_call 76; refine (signed_any _ _).mono ?_; rintro e w' ⟨rfl, rfl⟩) | (go_at_call 77; refine (upto_any _ _ _).mono ?_; rintro e w' ⟨rfl, rfl⟩))
    refine bodyPost_ret (v := FMv n) (by simp [results, Tryz.results52, FMv, HF.out, formV, go_sem]) rfl ?_
    exact ⟨rfl, by first | exact ((Below.refl _ _).alloc (Nat.le_refl _) _) | exact (((Below.refl _ _).alloc (Nat.le_refl _) _).alloc (by simp) _) | exact ((((Below.refl _ _).alloc (Nat.le_refl _) _).alloc (by simp) _).setCell (Nat.le_refl _) _)⟩
  by_cases h2 : 42 < n
  · have HF := Lib.hid (FM_none (Or.inr h2))
    have g1 : 1 ≤ n := by omega
    have g0 : ¬ n ≤ 17 := by omega
    have g2 : 28 ≤ n := by omega
    have g3 : ¬ n ≤ 33 := by omega
    have e18 : (n == 18) = false := by simp; omega
    have e19 : (n == 19) = false := by simp; omega
    have e20 : (n == 20) = false := by simp; omega
    have e21 : (n == 21) = false := by simp; omega
    have e22 : (n == 22) = false := by simp; omega
    have e23 : (n == 23) = false := by simp; omega
    have e24 : (n == 24) = false := by simp; omega
    have e25 : (n == 25) = false := by simp; omega
    have e26 : (n == 26) = false := by simp; omega
    have e27 : (n == 27) = false := by simp; omega
    have e34 : (n == 34) = false := by simp; omega
    have e35 : (n == 35) = false := by simp; omega
    have e36 : (n == 36) = false := by simp; omega
    have e37 : (n == 37) = false := by simp; omega
    have e38 : (n == 38) = false := by simp; omega
    have e39 : (n == 39) = false := by simp; omega
    have e40 : (n == 40) = false := by simp; omega
    have e41 : (n == 41) = false := by simp; omega
    have e42 : (n == 42) = false := by simp; omega
    go_enter Tryz.func52, Tryz.ntmps52
    go_wp2_with (first | (go_at_call 75; refine (plain_any _).mono ?_; rintro e w' ⟨rfl, rfl⟩) | (go_at_call 76; refine (signed_any _ _).mono ?_; rintro e w' ⟨rfl, rfl⟩) | (go_at_call 77; refine (upto_any _ _ _).mono ?_; rintro e w' ⟨rfl, rfl⟩))
    refine bodyPost_ret (v := FMv n) (by simp [results, Tryz.results52, FMv, HF.out, formV, go_sem]) rfl ?_
    exact ⟨rfl, by first | exact ((Below.refl _ _).alloc (Nat.le_refl _) _) | exact (((Below.refl _ _).alloc (Nat.le_refl _) _).alloc (by simp) _) | exact ((((Below.refl _ _).alloc (Nat.le_refl _) _).alloc (by simp) _).setCell (Nat.le_refl _) _)⟩
  by_cases h3 : n ≤ 17
  · have g1 : 1 ≤ n := by omega
    have HF := Lib.hid (FM_plain g1 h3)
    go_enter Tryz.func52, Tryz.ntmps52
    go_wp2_with (first | (go_at_call 75; refine (plain_any _).mono ?_; rintro e w' ⟨rfl, rfl⟩) | (go_at_call 76; refine (signed_any _ _).mono ?_; rintro e w' ⟨rfl, rfl⟩) | (go_at_call 77; refine (upto_any _ _ _).mono ?_; rintro e w' ⟨rfl, rfl⟩))
    refine bodyPost_ret (v := FMv n) (by simp [results, Tryz.results52, FMv, HF.out, formV, go_sem]) rfl ?_
    exact ⟨rfl, by first | exact ((Below.refl _ _).alloc (Nat.le_refl _) _) | exact (((Below.refl _ _).alloc (Nat.le_refl _) _).alloc (by simp) _) | exact ((((Below.refl _ _).alloc (Nat.le_refl _) _).alloc (by simp) _).setCell (Nat.le_refl _) _)⟩
  have hc : n = 18 ∨ n = 19 ∨ n = 20 ∨ n = 21 ∨ n = 22 ∨ n = 23 ∨ n = 24 ∨ n = 25 ∨ n = 26 ∨ n = 27 ∨ n = 28 ∨ n = 29 ∨ n = 30 ∨ n = 31 ∨ n = 32 ∨ n = 33 ∨ n = 34 ∨ n = 35 ∨ n = 36 ∨ n = 37 ∨ n = 38 ∨ n = 39 ∨ n = 40 ∨ n = 41 ∨ n = 42 := by omega
  clear h1 h2 h3
  rcases hc with rfl | rfl | rfl | rfl | rfl | rfl | rfl | rfl | rfl | rfl | rfl | rfl | rfl | rfl | rfl | rfl | rfl | rfl | rfl | rfl | rfl | rfl | rfl | rfl | rfl
  · go_enter Tryz.func52, Tryz.ntmps52
    go_wp2_with (first | (go_at_call 75; refine (plain_any _).mono ?_; rintro e w' ⟨rfl, rfl⟩) | (go_at_call 76; refine (signed_any _ _).mono ?_; rintro e w' ⟨rfl, rfl⟩) | (go_at_call 77; refine (upto_any _ _ _).mono ?_; rintro e w' ⟨rfl, rfl⟩))
    refine bodyPost_ret (v := FMv 18) (by simp [results, Tryz.results52, FMv, FM, formV, go_sem]) rfl ?_
    exact ⟨rfl, by first | exact ((Below.refl _ _).alloc (Nat.le_refl _) _) | exact (((Below.refl _ _).alloc (Nat.le_refl _) _).alloc (by simp) _) | exact ((((Below.refl _ _).alloc (Nat.le_refl _) _).alloc (by simp) _).setCell (Nat.le_refl _) _)⟩
  · go_enter Tryz.func52, Tryz.ntmps52
    go_wp2_with (first | (go_at_call 75; refine (plain_any _).mono ?_; rintro e w' ⟨rfl, rfl⟩) | (go_at_call 76; refine (signed_any _ _).mono ?_; rintro e w' ⟨rfl, rfl⟩) | (go_at_call 77; refine (upto_any _ _ _).mono ?_; rintro e w' ⟨rfl, rfl⟩))
    refine bodyPost_ret (v := FMv 19) (by simp [results, Tryz.results52, FMv, FM, formV, go_sem]) rfl ?_
    exact ⟨rfl, by first | exact ((Below.refl _ _).alloc (Nat.le_refl _) _) | exact (((Below.refl _ _).alloc (Nat.le_refl _) _).alloc (by simp) _) | exact ((((Below.refl _ _).alloc (Nat.le_refl _) _).alloc (by simp) _).setCell (Nat.le_refl _) _)⟩
  · go_enter Tryz.func52, Tryz.ntmps52
    go_wp2_with (first | (go_at_call 75; refine (plain_any _).mono ?_; rintro e w' ⟨rfl, rfl⟩) | (go_at_call 76; refine (signed_any _ _).mono ?_; rintro e w' ⟨rfl, rfl⟩) | (go_at_call 77; refine (upto_any _ _ _).mono ?_; rintro e w' ⟨rfl, rfl⟩))
    refine bodyPost_ret (v := FMv 20) (by simp [results, Tryz.results52, FMv, FM, formV, go_sem]) rfl ?_
    exact ⟨rfl, by first | exact ((Below.refl _ _).alloc (Nat.le_refl _) _) | exact (((Below.refl _ _).alloc (Nat.le_refl _) _).alloc (by simp) _) | exact ((((Below.refl _ _).alloc (Nat.le_refl _) _).alloc (by simp) _).setCell (Nat.le_refl _) _)⟩
  · go_enter Tryz.func52, Tryz.ntmps52
    go_wp2_with (first | (go_at_call 75; refine (plain_any _).mono ?_; rintro e w' ⟨rfl, rfl⟩) | (go_at_call 76; refine (signed_any _ _).mono ?_; rintro e w' ⟨rfl, rfl⟩) | (go_at_call 77; refine (upto_any _ _ _).mono ?_; rintro e w' ⟨rfl, rfl⟩))
    refine bodyPost_ret (v := FMv 21) (by simp [results, Tryz.results52, FMv, FM, formV, go_sem]) rfl ?_
    exact ⟨rfl, by first | exact ((Below.refl _ _).alloc (Nat.le_refl _) _) | exact (((Below.refl _ _).alloc (Nat.le_refl _) _).alloc (by simp) _) | exact ((((Below.refl _ _).alloc (Nat.le_refl _) _).alloc (by simp) _).setCell (Nat.le_refl _) _)⟩
  · go_enter Tryz.func52, Tryz.ntmps52
    go_wp2_with (first | (go_at_call 75; refine (plain_any _).mono ?_; rintro e w' ⟨rfl, rfl⟩) | (go_at_call 76; refine (signed_any _ _).mono ?_; rintro e w' ⟨rfl, rfl⟩) | (go_at_call 77; refine (upto_any _ _ _).mono ?_; rintro e w' ⟨rfl, rfl⟩))
    refine bodyPost_ret (v := FMv 22) (by simp [results, Tryz.results52, FMv, FM, formV, go_sem]) rfl ?_
    exact ⟨rfl, by first | exact ((Below.refl _ _).alloc (Nat.le_refl _) _) | exact (((Below.refl _ _).alloc (Nat.le_refl _) _).alloc (by simp) _) | exact ((((Below.refl _ _).alloc (Nat.le_refl _) _).alloc (by simp) _).setCell (Nat.le_refl _) _)⟩
  · go_enter Tryz.func52, Tryz.ntmps52
    go_wp2_with (first | (go_at_call 75; refine (plain_any _).mono ?_; rintro e w' ⟨rfl, rfl⟩) | (go_at_call 76; refine (signed_any _ _).mono ?_; rintro e w' ⟨rfl, rfl⟩) | (go_at_call 77; refine (upto_any _ _ _).mono ?_; rintro e w' ⟨rfl, rfl⟩))
    refine bodyPost_ret (v := FMv 23) (by simp [results, Tryz.results52, FMv, FM, formV, go_sem]) rfl ?_
    exact ⟨rfl, by first | exact ((Below.refl _ _).alloc (Nat.le_refl _) _) | exact (((Below.refl _ _).alloc (Nat.le_refl _) _).alloc (by simp) _) | exact ((((Below.refl _ _).alloc (Nat.le_refl _) _).alloc (by simp) _).setCell (Nat.le_refl _) _)⟩
  · go_enter Tryz.func52, Tryz.ntmps52
    go_wp2_with (first | (go_at_call 75; refine (plain_any _).mono ?_; rintro e w' ⟨rfl, rfl⟩) | (go_at_call 76; refine (signed_any _ _).mono ?_; rintro e w' ⟨rfl, rfl⟩) | (go_at_call 77; refine (upto_any _ _ _).mono ?_; rintro e w' ⟨rfl, rfl⟩))
    refine bodyPost_ret (v := FMv 24) (by simp [results, Tryz.results52, FMv, FM, formV, go_sem]) rfl ?_
    exact ⟨rfl, by first | exact ((Below.refl _ _).alloc (Nat.le_refl _) _) | exact (((Below.refl _ _).alloc (Nat.le_refl _) _).alloc (by simp) _) | exact ((((Below.refl _ _).alloc (Nat.le_refl _) _).alloc (by simp) _).setCell (Nat.le_refl _) _)⟩
  · go_enter Tryz.func52, Tryz.ntmps52
    go_wp2_with (first | (go_at_call 75; refine (plain_any _).mono ?_; rintro e w' ⟨rfl, rfl⟩) | (go_at_call 76; refine (signed_any _ _).mono ?_; rintro e w' ⟨rfl, rfl⟩) | (go_at_call 77; refine (upto_any _ _ _).mono ?_; rintro e w' ⟨rfl, rfl⟩))
    refine bodyPost_ret (v := FMv 25) (by simp [results, Tryz.results52, FMv, FM, formV, go_sem]) rfl ?_
    exact ⟨rfl, by first | exact ((Below.refl _ _).alloc (Nat.le_refl _) _) | exact (((Below.refl _ _).alloc (Nat.le_refl _) _).alloc (by simp) _) | exact ((((Below.refl _ _).alloc (Nat.le_refl _) _).alloc (by simp) _).setCell (Nat.le_refl _) _)⟩
  · go_enter Tryz.func52, Tryz.ntmps52
    go_wp2_with (first | (go_at_call 75; refine (plain_any _).mono ?_; rintro e w' ⟨rfl, rfl⟩) | (go_at_call 76; refine (signed_any _ _).mono ?_; rintro e w' ⟨rfl, rfl⟩) | (go_at_call 77; refine (upto_any _ _ _).mono ?_; rintro e w' ⟨rfl, rfl⟩))
    refine bodyPost_ret (v := FMv 26) (by simp [results, Tryz.results52, FMv, FM, formV, go_sem]) rfl ?_
    exact ⟨rfl, by first | exact ((Below.refl _ _).alloc (Nat.le_refl _) _) | exact (((Below.refl _ _).alloc (Nat.le_refl _) _).alloc (by simp) _) | exact ((((Below.refl _ _).alloc (Nat.le_refl _) _).alloc (by simp) _).setCell (Nat.le_refl _) _)⟩
  · go_enter Tryz.func52, Tryz.ntmps52
    go_wp2_with (first | (go_at_call 75; refine (plain_any _).mono ?_; rintro e w' ⟨rfl, rfl⟩) | (go_at_call 76; refine (signed_any _ _).mono ?_; rintro e w' ⟨rfl, rfl⟩) | (go_at_call 77; refine (upto_any _ _ _).mono ?_; rintro e w' ⟨rfl, rfl⟩))
    refine bodyPost_ret (v := FMv 27) (by simp [results, Tryz.results52, FMv, FM, formV, go_sem]) rfl ?_
    exact ⟨rfl, by first | exact ((Below.refl _ _).alloc (Nat.le_refl _) _) | exact (((Below.refl _ _).alloc (Nat.le_refl _) _).alloc (by simp) _) | exact ((((Below.refl _ _).alloc (Nat.le_refl _) _).alloc (by simp) _).setCell (Nat.le_refl _) _)⟩
  · go_enter Tryz.func52, Tryz.ntmps52
    go_wp2_with (first | (go_at_call 75; refine (plain_any _).mono ?_; rintro e w' ⟨rfl, rfl⟩) | (go_at_call 76; refine (signed_any _ _).mono ?_; rintro e w' ⟨rfl, rfl⟩) | (go_at_call 77; refine (upto_any _ _ _).mono ?_; rintro e w' ⟨rfl, rfl⟩))
    refine bodyPost_ret (v := FMv 28) (by simp [results, Tryz.results52, FMv, FM, formV, go_sem]) rfl ?_
    exact ⟨rfl, by first | exact ((Below.refl _ _).alloc (Nat.le_refl _) _) | exact (((Below.refl _ _).alloc (Nat.le_refl _) _).alloc (by simp) _) | exact ((((Below.refl _ _).alloc (Nat.le_refl _) _).alloc (by simp) _).setCell (Nat.le_refl _) _)⟩
  · go_enter Tryz.func52, Tryz.ntmps52
    go_wp2_with (first | (go_at_call 75; refine (plain_any _).mono ?_; rintro e w' ⟨rfl, rfl⟩) | (go_at_call 76; refine (signed_any _ _).mono ?_; rintro e w' ⟨rfl, rfl⟩) | (go_at_call 77; refine (upto_any _ _ _).mono ?_; rintro e w' ⟨rfl, rfl⟩))
    refine bodyPost_ret (v := FMv 29) (by simp [results, Tryz.results52, FMv, FM, formV, go_sem]) rfl ?_
    exact ⟨rfl, by first | exact ((Below.refl _ _).alloc (Nat.le_refl _) _) | exact (((Below.refl _ _).alloc (Nat.le_refl _) _).alloc (by simp) _) | exact ((((Below.refl _ _).alloc (Nat.le_refl _) _).alloc (by simp) _).setCell (Nat.le_refl _) _)⟩
  · go_enter Tryz.func52, Tryz.ntmps52
    go_wp2_with (first | (go_at_call 75; refine (plain_any _).mono ?_; rintro e w' ⟨rfl, rfl⟩) | (go_at_call 76; refine (signed_any _ _).mono ?_; rintro e w' ⟨rfl, rfl⟩) | (go_at_call 77; refine (upto_any _ _ _).mono ?_; rintro e w' ⟨rfl, rfl⟩))
    refine bodyPost_ret (v := FMv 30) (by simp [results, Tryz.results52, FMv, FM, formV, go_sem]) rfl ?_
    exact ⟨rfl, by first | exact ((Below.refl _ _).alloc (Nat.le_refl _) _) | exact (((Below.refl _ _).alloc (Nat.le_refl _) _).alloc (by simp) _) | exact ((((Below.refl _ _).alloc (Nat.le_refl _) _).alloc (by simp) _).setCell (Nat.le_refl _) _)⟩
  · go_enter Tryz.func52, Tryz.ntmps52
    go_wp2_with (first | (go_at_call 75; refine (plain_any _).mono ?_; rintro e w' ⟨rfl, rfl⟩) | (go_at_call 76; refine (signed_any _ _).mono ?_; rintro e w' ⟨rfl, rfl⟩) | (go_at_call 77; refine (upto_any _ _ _).mono ?_; rintro e w' ⟨rfl, rfl⟩))
    refine bodyPost_ret (v := FMv 31) (by simp [results, Tryz.results52, FMv, FM, formV, go_sem]) rfl ?_
    exact ⟨rfl, by first | exact ((Below.refl _ _).alloc (Nat.le_refl _) _) | exact (((Below.refl _ _).alloc (Nat.le_refl _) _).alloc (by simp) _) | exact ((((Below.refl _ _).alloc (Nat.le_refl _) _).alloc (by simp) _).setCell (Nat.le_refl _) _)⟩
  · go_enter Tryz.func52, Tryz.ntmps52
    go_wp2_with (first | (go_at_call 75; refine (plain_any _).mono ?_; rintro e w' ⟨rfl, rfl⟩) | (go_at_call 76; refine (signed_any _ _).mono ?_; rintro e w' ⟨rfl, rfl⟩) | (go_at_call 77; refine (upto_any _ _ _).mono ?_; rintro e w' ⟨rfl, rfl⟩))
    refine bodyPost_ret (v := FMv 32) (by simp [results, Tryz.results52, FMv, FM, formV, go_sem]) rfl ?_
    exact ⟨rfl, by first | exact ((Below.refl _ _).alloc (Nat.le_refl _) _) | exact (((Below.refl _ _).alloc (Nat.le_refl _) _).alloc (by simp) _) | exact ((((Below.refl _ _).alloc (Nat.le_refl _) _).alloc (by simp) _).setCell (Nat.le_refl _) _)⟩
  · go_enter Tryz.func52, Tryz.ntmps52
    go_wp2_with (first | (go_at_call 75; refine (plain_any _).mono ?_; rintro e w' ⟨rfl, rfl⟩) | (go_at_call 76; refine (signed_any _ _).mono ?_; rintro e w' ⟨rfl, rfl⟩) | (go_at_call 77; refine (upto_any _ _ _).mono ?_; rintro e w' ⟨rfl, rfl⟩))
    refine bodyPost_ret (v := FMv 33) (by simp [results, Tryz.results52, FMv, FM, formV, go_sem]) rfl ?_
    exact ⟨rfl, by first | exact ((Below.refl _ _).alloc (Nat.le_refl _) _) | exact (((Below.refl _ _).alloc (Nat.le_refl _) _).alloc (by simp) _) | exact ((((Below.refl _ _).alloc (Nat.le_refl _) _).alloc (by simp) _).setCell (Nat.le_refl _) _)⟩
  · go_enter Tryz.func52, Tryz.ntmps52
    go_wp2_with (first | (go_at_call 75; refine (plain_any _).mono ?_; rintro e w' ⟨rfl, rfl⟩) | (go_at_call 76; refine (signed_any _ _).mono ?_; rintro e w' ⟨rfl, rfl⟩) | (go_at_call 77; refine (upto_any _ _ _).mono ?_; rintro e w' ⟨rfl, rfl⟩))
    refine bodyPost_ret (v := FMv 34) (by simp [results, Tryz.results52, FMv, FM, formV, go_sem]) rfl ?_
    exact ⟨rfl, by first | exact ((Below.refl _ _).alloc (Nat.le_refl _) _) | exact (((Below.refl _ _).alloc (Nat.le_refl _) _).alloc (by simp) _) | exact ((((Below.refl _ _).alloc (Nat.le_refl _) _).alloc (by simp) _).setCell (Nat.le_refl _) _)⟩
  · go_enter Tryz.func52, Tryz.ntmps52
    go_wp2_with (first | (go_at_call 75; refine (plain_any _).mono ?_; rintro e w' ⟨rfl, rfl⟩) | (go_at_call 76; refine (signed_any _ _).mono ?_; rintro e w' ⟨rfl, rfl⟩) | (go_at_call 77; refine (upto_any _ _ _).mono ?_; rintro e w' ⟨rfl, rfl⟩))
    refine bodyPost_ret (v := FMv 35) (by simp [results, Tryz.results52, FMv, FM, formV, go_sem]) rfl ?_
    exact ⟨rfl, by first | exact ((Below.refl _ _).alloc (Nat.le_refl _) _) | exact (((Below.refl _ _).alloc (Nat.le_refl _) _).alloc (by simp) _) | exact ((((Below.refl _ _).alloc (Nat.le_refl _) _).alloc (by simp) _).setCell (Nat.le_refl _) _)⟩
  · go_enter Tryz.func52, Tryz.ntmps52
    go_wp2_with (first | (go_at_call 75; refine (plain_any _).mono ?_; rintro e w' ⟨rfl, rfl⟩) | (go_at_call 76; refine (signed_any _ _).mono ?_; rintro e w' ⟨rfl, rfl⟩) | (go_at_call 77; refine (upto_any _ _ _).mono ?_; rintro e w' ⟨rfl, rfl⟩))
    refine bodyPost_ret (v := FMv 36) (by simp [results, Tryz.results52, FMv, FM, formV, go_sem]) rfl ?_
    exact ⟨rfl, by first | exact ((Below.refl _ _).alloc (Nat.le_refl _) _) | exact (((Below.refl _ _).alloc (Nat.le_refl _) _).alloc (by simp) _) | exact ((((Below.refl _ _).alloc (Nat.le_refl _) _).alloc (by simp) _).setCell (Nat.le_refl _) _)⟩
  · go_enter Tryz.func52, Tryz.ntmps52
    go_wp2_with (first | (go_at_call 75; refine (plain_any _).mono ?_; rintro e w' ⟨rfl, rfl⟩) | (go_at_call 76; refine (signed_any _ _).mono ?_; rintro e w' ⟨rfl, rfl⟩) | (go_at_call 77; refine (upto_any _ _ _).mono ?_; rintro e w' ⟨rfl, rfl⟩))
    refine bodyPost_ret (v := FMv 37) (by simp [results, Tryz.results52, FMv, FM, formV, go_sem]) rfl ?_
    exact ⟨rfl, by first | exact ((Below.refl _ _).alloc (Nat.le_refl _) _) | exact (((Below.refl _ _).alloc (Nat.le_refl _) _).alloc (by simp) _) | exact ((((Below.refl _ _).alloc (Nat.le_refl _) _).alloc (by simp) _).setCell (Nat.le_refl _) _)⟩
  · go_enter Tryz.func52, Tryz.ntmps52
    go_wp2_with (first | (go_at_call 75; refine (plain_any _).mono ?_; rintro e w' ⟨rfl, rfl⟩) | (go_at_call 76; refine (signed_any _ _).mono ?_; rintro e w' ⟨rfl, rfl⟩) | (go_at_call 77; refine (upto_any _ _ _).mono ?_; rintro e w' ⟨rfl, rfl⟩))
    refine bodyPost_ret (v := FMv 38) (by simp [results, Tryz.results52, FMv, FM, formV, go_sem]) rfl ?_
    exact ⟨rfl, by first | exact ((Below.refl _ _).alloc (Nat.le_refl _) _) | exact (((Below.refl _ _).alloc (Nat.le_refl _) _).alloc (by simp) _) | exact ((((Below.refl _ _).alloc (Nat.le_refl _) _).alloc (by simp) _).setCell (Nat.le_refl _) _)⟩
  · go_enter Tryz.func52, Tryz.ntmps52
    go_wp2_with (first | (go_at_call 75; refine (plain_any _).mono ?_; rintro e w' ⟨rfl, rfl⟩) | (go_at_call 76; refine (signed_any _ _).mono ?_; rintro e w' ⟨rfl, rfl⟩) | (go_at_call 77; refine (upto_any _ _ _).mono ?_; rintro e w' ⟨rfl, rfl⟩))
    refine bodyPost_ret (v := FMv 39) (by simp [results, Tryz.results52, FMv, FM, formV, go_sem]) rfl ?_
    exact ⟨rfl, by first | exact ((Below.refl _ _).alloc (Nat.le_refl _) _) | exact (((Below.refl _ _).alloc (Nat.le_refl _) _).alloc (by simp) _) | exact ((((Below.refl _ _).alloc (Nat.le_refl _) _).alloc (by simp) _).setCell (Nat.le_refl _) _)⟩
  · go_enter Tryz.func52, Tryz.ntmps52
    go_wp2_with (first | (go_at_call 75; refine (plain_any _).mono ?_; rintro e w' ⟨rfl, rfl⟩) | (go_at_call 76; refine (signed_any _ _).mono ?_; rintro e w' ⟨rfl, rfl⟩) | (go_at_call 77; refine (upto_any _ _ _).mono ?_; rintro e w' ⟨rfl, rfl⟩))
    refine bodyPost_ret (v := FMv 40) (by simp [results, Tryz.results52, FMv, FM, formV, go_sem]) rfl ?_
    exact ⟨rfl, by first | exact ((Below.refl _ _).alloc (Nat.le_refl _) _) | exact (((Below.refl _ _).alloc (Nat.le_refl _) _).alloc (by simp) _) | exact ((((Below.refl _ _).alloc (Nat.le_refl _) _).alloc (by simp) _).setCell (Nat.le_refl _) _)⟩
  · go_enter Tryz.func52, Tryz.ntmps52
    go_wp2_with (first | (go_at_call 75; refine (plain_any _).mono ?_; rintro e w' ⟨rfl, rfl⟩) | (go_at_call 76; refine (signed_any _ _).mono ?_; rintro e w' ⟨rfl, rfl⟩) | (go_at_call 77; refine (upto_any _ _ _).mono ?_; rintro e w' ⟨rfl, rfl⟩))
    refine bodyPost_ret (v := FMv 41) (by simp [results, Tryz.results52, FMv, FM, formV, go_sem]) rfl ?_
    exact ⟨rfl, by first | exact ((Below.refl _ _).alloc (Nat.le_refl _) _) | exact (((Below.refl _ _).alloc (Nat.le_refl _) _).alloc (by simp) _) | exact ((((Below.refl _ _).alloc (Nat.le_refl _) _).alloc (by simp) _).setCell (Nat.le_refl _) _)⟩
  · go_enter Tryz.func52, Tryz.ntmps52
    go_wp2_with (first | (go_at_call 75; refine (plain_any _).mono ?_; rintro e w' ⟨rfl, rfl⟩) | (go_at_call 76; refine (signed_any _ _).mono ?_; rintro e w' ⟨rfl, rfl⟩) | (go_at_call 77; refine (upto_any _ _ _).mono ?_; rintro e w' ⟨rfl, rfl⟩))
    refine bodyPost_ret (v := FMv 42) (by simp [results, Tryz.results52, FMv, FM, formV, go_sem]) rfl ?_
    exact ⟨rfl, by first | exact ((Below.refl _ _).alloc (Nat.le_refl _) _) | exact (((Below.refl _ _).alloc (Nat.le_refl _) _).alloc (by simp) _) | exact ((((Below.refl _ _).alloc (Nat.le_refl _) _).alloc (by simp) _).setCell (Nat.le_refl _) _)⟩
end Go.Proofs.YteoglkofeogknaaGreatDoor

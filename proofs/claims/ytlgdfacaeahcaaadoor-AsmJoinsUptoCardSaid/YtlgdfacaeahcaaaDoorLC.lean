/- Plain law: both Decodes answer the same, of every word. No conditions beyond what each states. -/
import Derived.Test.YtlgdfacaeahcaaaDoorLB
import Derived.Test.YtlgdfacaeahcaaaDoorD8b
import Derived.Test.YtlgdfacaeahcaaaDoorDD
import Derived.Test.YtlgdfacaeahcaaaDoorE6b
import Derived.Test.YtlgdfacaeahcaaaDoorE6c
import Derived.Test.YtlgdfacaeahcaaaDoorFA
set_option linter.unusedVariables false
set_option linter.unusedSimpArgs false
namespace Go.Proofs.YtlgdfacaeahcaaaDoor
open Go.RowKit
theorem enc16_r (o d a : Nat) (i f : Int) (ho : o ≤ 42) (hd : d ≤ 15) (ha : a ≤ 15) (hf : f ≠ 74) (h1 : -32768 ≤ i) (h2 : i ≤ 65535) : encW 16 o d a 0 i = rencW f o d a 0 i := by
  rw [encW_sum16 o d a i ho hd ha]
  unfold rencW
  rw [if_neg hf]
  clear hf
  by_cases h : i < 0
  · rw [if_pos h]; omega
  · rw [if_neg h]; omega
theorem enc24_r (o : Nat) (i : Int) (ho : o ≤ 42) (h1 : -8388608 ≤ i) (h2 : i ≤ 8388607) : encW 24 o 0 0 0 i = rencW 74 o 0 0 0 i := by
  rw [encW_sum24 o i ho]
  unfold rencW
  by_cases h : i < 0
  · rw [if_pos h, if_pos rfl]; omega
  · rw [if_neg h]; omega
theorem enc0_r (o d a : Nat) (f : Int) (ho : o ≤ 42) (hd : d ≤ 15) (ha : a ≤ 15) : encW 0 o d a 0 0 = rencW f o d a 0 0 := by
  rw [encW_0, headW_sum o d a 0 ho hd ha (by omega)]
  unfold rencW
  rw [if_neg (by omega)]
  omega
theorem mask_lu16 (v : Nat) (hv : v < 4294967296) : bits .and .u32 (v : Int) 65535 = ((v % 65536 : Nat) : Int) := mask_u32 v 16 hv (by omega)
theorem mask_lu24 (v : Nat) (hv : v < 4294967296) : bits .and .u32 (v : Int) 16777215 = ((v % 16777216 : Nat) : Int) := mask_u32 v 24 hv (by omega)
theorem mask_li16 (v : Nat) (hv : v < 4294967296) : bits .and .i64 (v : Int) 65535 = ((v % 65536 : Nat) : Int) := mask_i64 v 16 hv (by omega)
theorem mask_li24 (v : Nat) (hv : v < 4294967296) : bits .and .i64 (v : Int) 16777215 = ((v % 16777216 : Nat) : Int) := mask_i64 v 24 hv (by omega)
theorem same_18 (v : Nat) (hv : v < 4294967296) (ho : v / 16777216 = 18) : Same2 v := by
  have ho' : (v : Int) / 16777216 = ((18 : Nat) : Int) := by omega
  have hfm : FM ((18 : Nat) : Int) = _ := FM_18
  have hrf : RF ((18 : Nat) : Int) = _ := RF_18
  obtain ⟨d, hd⟩ : ∃ d, v / 1048576 % 16 = d := ⟨_, rfl⟩
  have ud := mask_fu v 1048576 hv
  have id := mask_fi v 1048576 hv
  rw [hd] at ud id
  obtain ⟨a, ha⟩ : ∃ a, v / 65536 % 16 = a := ⟨_, rfl⟩
  have ua := mask_fu v 65536 hv
  have ia := mask_fi v 65536 hv
  rw [ha] at ua ia
  obtain ⟨m, hm⟩ : ∃ m, v % 65536 = m := ⟨_, rfl⟩
  have um := mask_lu16 v hv
  have im := mask_li16 v hv
  rw [hm] at um im
  obtain ⟨z, hz⟩ : ∃ z, sg16 v = z := ⟨_, rfl⟩
  have hz0 := sg16_le v
  have hz2 : (if (m : Int) < 32768 then (m : Int) else (m : Int) - 65536) = z := by rw [← hz]; unfold sg16; rw [hm]; split <;> split <;> omega
  rw [hz] at hz0
  have hc : chkA ((18 : Nat) : Int) (d : Nat) (a : Nat) ((0 : Nat) : Int) z = chkR ((18 : Nat) : Int) (d : Nat) (a : Nat) ((0 : Nat) : Int) z := chk_18 _ _ _ _
  cases h : chkR ((18 : Nat) : Int) (d : Nat) (a : Nat) ((0 : Nat) : Int) z with
  | false =>
    rw [h] at hc
    exact ⟨_, _, _, _, _, _, fun w => decDAIn_bad v 18 d a m _ z w hv ho' (by omega) ud (by omega) ua (by omega) um (by omega) hz (Int.le_trans (by decide) hz0.1) (Int.le_trans hz0.2 (by decide)) hfm (fun W => encode_bad _ _ _ _ _ W hc), fun w => rdecS_bad v 18 d a m z w hv ho' (by omega) id (by omega) ia (by omega) im (by omega) hz2 hrf (fun W => rencode_bad _ _ _ _ _ W h)⟩
  | true =>
    rw [h] at hc
    have e1 := fun W => encode_ok 18 d a 0 z W hc (by omega) (by omega) (by omega) (by omega)
    have e2 := fun W => rencode_ok 18 d a 0 z W h (by omega) (by omega) (by omega) (by omega) (Int.le_trans (by decide) hz0.1) (Int.le_trans hz0.2 (by decide))
    rw [hfm] at e1
    have hw : encW 16 18 d a 0 z = rencW (RF ((18 : Nat) : Int)) 18 d a 0 z := by
      rw [hrf]
      exact enc16_r 18 _ _ _ _ (by omega) (by omega) (by omega) (by decide) hz0.1 (Int.le_trans hz0.2 (by decide))
    rw [← hw] at e2
    dsimp only at e1
    by_cases he : encW 16 18 d a 0 z = (v : Int)
    · rw [he] at e1 e2
      exact ⟨_, _, _, _, _, _, fun w => decDAIn_eq v 18 d a m _ z w hv ho' (by omega) ud (by omega) ua (by omega) um (by omega) hz (Int.le_trans (by decide) hz0.1) (Int.le_trans hz0.2 (by decide)) hfm e1, fun w => rdecS_eq v 18 d a m z w hv ho' (by omega) id (by omega) ia (by omega) im (by omega) hz2 hrf e2⟩
    · have hu : (encW 16 18 d a 0 z != (v : Int)) = true := by simpa using he
      exact ⟨_, _, _, _, _, _, fun w => decDAIn_ne v 18 d a m _ z _ w hv ho' (by omega) ud (by omega) ua (by omega) um (by omega) hz (Int.le_trans (by decide) hz0.1) (Int.le_trans hz0.2 (by decide)) hu hfm e1, fun w => rdecS_ne v 18 d a m z _ w hv ho' (by omega) id (by omega) ia (by omega) im (by omega) hz2 hu hrf e2⟩
theorem same_19 (v : Nat) (hv : v < 4294967296) (ho : v / 16777216 = 19) : Same2 v := by
  have ho' : (v : Int) / 16777216 = ((19 : Nat) : Int) := by omega
  have hfm : FM ((19 : Nat) : Int) = _ := FM_19
  have hrf : RF ((19 : Nat) : Int) = _ := RF_19
  obtain ⟨d, hd⟩ : ∃ d, v / 1048576 % 16 = d := ⟨_, rfl⟩
  have ud := mask_fu v 1048576 hv
  have id := mask_fi v 1048576 hv
  rw [hd] at ud id
  obtain ⟨a, ha⟩ : ∃ a, v / 65536 % 16 = a := ⟨_, rfl⟩
  have ua := mask_fu v 65536 hv
  have ia := mask_fi v 65536 hv
  rw [ha] at ua ia
  obtain ⟨m, hm⟩ : ∃ m, v % 65536 = m := ⟨_, rfl⟩
  have um := mask_lu16 v hv
  have im := mask_li16 v hv
  rw [hm] at um im
  have hc : chkA ((19 : Nat) : Int) (d : Nat) (a : Nat) ((0 : Nat) : Int) m = chkR ((19 : Nat) : Int) (d : Nat) (a : Nat) ((0 : Nat) : Int) m := chk_19 _ _ _ _
  cases h : chkR ((19 : Nat) : Int) (d : Nat) (a : Nat) ((0 : Nat) : Int) m with
  | false =>
    rw [h] at hc
    exact ⟨_, _, _, _, _, _, fun w => decDAIp_bad v 19 d a m _ _ w hv ho' (by omega) ud (by omega) ua (by omega) um (by omega) (by omega) hfm (fun W => encode_bad _ _ _ _ _ W hc), fun w => rdecU_bad v 19 d a m w hv ho' (by omega) id (by omega) ia (by omega) im (by omega) hrf (fun W => rencode_bad _ _ _ _ _ W h)⟩
  | true =>
    rw [h] at hc
    have e1 := fun W => encode_ok 19 d a 0 m W hc (by omega) (by omega) (by omega) (by omega)
    have e2 := fun W => rencode_ok 19 d a 0 m W h (by omega) (by omega) (by omega) (by omega) (by omega) (by omega)
    rw [hfm] at e1
    have hw : encW 16 19 d a 0 m = rencW (RF ((19 : Nat) : Int)) 19 d a 0 m := by
      rw [hrf]
      exact enc16_r 19 _ _ _ _ (by omega) (by omega) (by omega) (by decide) (by omega) (by omega)
    rw [← hw] at e2
    dsimp only at e1
    by_cases he : encW 16 19 d a 0 m = (v : Int)
    · rw [he] at e1 e2
      exact ⟨_, _, _, _, _, _, fun w => decDAIp_eq v 19 d a m _ _ w hv ho' (by omega) ud (by omega) ua (by omega) um (by omega) (by omega) hfm e1, fun w => rdecU_eq v 19 d a m w hv ho' (by omega) id (by omega) ia (by omega) im (by omega) hrf e2⟩
    · have hu : (encW 16 19 d a 0 m != (v : Int)) = true := by simpa using he
      exact ⟨_, _, _, _, _, _, fun w => decDAIp_ne v 19 d a m _ _ _ w hv ho' (by omega) ud (by omega) ua (by omega) um (by omega) (by omega) hu hfm e1, fun w => rdecU_ne v 19 d a m _ w hv ho' (by omega) id (by omega) ia (by omega) im (by omega) hu hrf e2⟩
theorem same_20 (v : Nat) (hv : v < 4294967296) (ho : v / 16777216 = 20) : Same2 v := by
  have ho' : (v : Int) / 16777216 = ((20 : Nat) : Int) := by omega
  have hfm : FM ((20 : Nat) : Int) = _ := FM_20
  have hrf : RF ((20 : Nat) : Int) = _ := RF_20
  obtain ⟨d, hd⟩ : ∃ d, v / 1048576 % 16 = d := ⟨_, rfl⟩
  have ud := mask_fu v 1048576 hv
  have id := mask_fi v 1048576 hv
  rw [hd] at ud id
  obtain ⟨a, ha⟩ : ∃ a, v / 65536 % 16 = a := ⟨_, rfl⟩
  have ua := mask_fu v 65536 hv
  have ia := mask_fi v 65536 hv
  rw [ha] at ua ia
  obtain ⟨m, hm⟩ : ∃ m, v % 65536 = m := ⟨_, rfl⟩
  have um := mask_lu16 v hv
  have im := mask_li16 v hv
  rw [hm] at um im
  have hc : chkA ((20 : Nat) : Int) (d : Nat) (a : Nat) ((0 : Nat) : Int) m = chkR ((20 : Nat) : Int) (d : Nat) (a : Nat) ((0 : Nat) : Int) m := chk_20 _ _ _ _
  cases h : chkR ((20 : Nat) : Int) (d : Nat) (a : Nat) ((0 : Nat) : Int) m with
  | false =>
    rw [h] at hc
    exact ⟨_, _, _, _, _, _, fun w => decDAIp_bad v 20 d a m _ _ w hv ho' (by omega) ud (by omega) ua (by omega) um (by omega) (by omega) hfm (fun W => encode_bad _ _ _ _ _ W hc), fun w => rdecU_bad v 20 d a m w hv ho' (by omega) id (by omega) ia (by omega) im (by omega) hrf (fun W => rencode_bad _ _ _ _ _ W h)⟩
  | true =>
    rw [h] at hc
    have e1 := fun W => encode_ok 20 d a 0 m W hc (by omega) (by omega) (by omega) (by omega)
    have e2 := fun W => rencode_ok 20 d a 0 m W h (by omega) (by omega) (by omega) (by omega) (by omega) (by omega)
    rw [hfm] at e1
    have hw : encW 16 20 d a 0 m = rencW (RF ((20 : Nat) : Int)) 20 d a 0 m := by
      rw [hrf]
      exact enc16_r 20 _ _ _ _ (by omega) (by omega) (by omega) (by decide) (by omega) (by omega)
    rw [← hw] at e2
    dsimp only at e1
    by_cases he : encW 16 20 d a 0 m = (v : Int)
    · rw [he] at e1 e2
      exact ⟨_, _, _, _, _, _, fun w => decDAIp_eq v 20 d a m _ _ w hv ho' (by omega) ud (by omega) ua (by omega) um (by omega) (by omega) hfm e1, fun w => rdecU_eq v 20 d a m w hv ho' (by omega) id (by omega) ia (by omega) im (by omega) hrf e2⟩
    · have hu : (encW 16 20 d a 0 m != (v : Int)) = true := by simpa using he
      exact ⟨_, _, _, _, _, _, fun w => decDAIp_ne v 20 d a m _ _ _ w hv ho' (by omega) ud (by omega) ua (by omega) um (by omega) (by omega) hu hfm e1, fun w => rdecU_ne v 20 d a m _ w hv ho' (by omega) id (by omega) ia (by omega) im (by omega) hu hrf e2⟩
theorem same_21 (v : Nat) (hv : v < 4294967296) (ho : v / 16777216 = 21) : Same2 v := by
  have ho' : (v : Int) / 16777216 = ((21 : Nat) : Int) := by omega
  have hfm : FM ((21 : Nat) : Int) = _ := FM_21
  have hrf : RF ((21 : Nat) : Int) = _ := RF_21
  obtain ⟨d, hd⟩ : ∃ d, v / 1048576 % 16 = d := ⟨_, rfl⟩
  have ud := mask_fu v 1048576 hv
  have id := mask_fi v 1048576 hv
  rw [hd] at ud id
  obtain ⟨a, ha⟩ : ∃ a, v / 65536 % 16 = a := ⟨_, rfl⟩
  have ua := mask_fu v 65536 hv
  have ia := mask_fi v 65536 hv
  rw [ha] at ua ia
  obtain ⟨m, hm⟩ : ∃ m, v % 65536 = m := ⟨_, rfl⟩
  have um := mask_lu16 v hv
  have im := mask_li16 v hv
  rw [hm] at um im
  have hc : chkA ((21 : Nat) : Int) (d : Nat) (a : Nat) ((0 : Nat) : Int) m = chkR ((21 : Nat) : Int) (d : Nat) (a : Nat) ((0 : Nat) : Int) m := chk_21 _ _ _ _
  cases h : chkR ((21 : Nat) : Int) (d : Nat) (a : Nat) ((0 : Nat) : Int) m with
  | false =>
    rw [h] at hc
    exact ⟨_, _, _, _, _, _, fun w => decDAIp_bad v 21 d a m _ _ w hv ho' (by omega) ud (by omega) ua (by omega) um (by omega) (by omega) hfm (fun W => encode_bad _ _ _ _ _ W hc), fun w => rdecU_bad v 21 d a m w hv ho' (by omega) id (by omega) ia (by omega) im (by omega) hrf (fun W => rencode_bad _ _ _ _ _ W h)⟩
  | true =>
    rw [h] at hc
    have e1 := fun W => encode_ok 21 d a 0 m W hc (by omega) (by omega) (by omega) (by omega)
    have e2 := fun W => rencode_ok 21 d a 0 m W h (by omega) (by omega) (by omega) (by omega) (by omega) (by omega)
    rw [hfm] at e1
    have hw : encW 16 21 d a 0 m = rencW (RF ((21 : Nat) : Int)) 21 d a 0 m := by
      rw [hrf]
      exact enc16_r 21 _ _ _ _ (by omega) (by omega) (by omega) (by decide) (by omega) (by omega)
    rw [← hw] at e2
    dsimp only at e1
    by_cases he : encW 16 21 d a 0 m = (v : Int)
    · rw [he] at e1 e2
      exact ⟨_, _, _, _, _, _, fun w => decDAIp_eq v 21 d a m _ _ w hv ho' (by omega) ud (by omega) ua (by omega) um (by omega) (by omega) hfm e1, fun w => rdecU_eq v 21 d a m w hv ho' (by omega) id (by omega) ia (by omega) im (by omega) hrf e2⟩
    · have hu : (encW 16 21 d a 0 m != (v : Int)) = true := by simpa using he
      exact ⟨_, _, _, _, _, _, fun w => decDAIp_ne v 21 d a m _ _ _ w hv ho' (by omega) ud (by omega) ua (by omega) um (by omega) (by omega) hu hfm e1, fun w => rdecU_ne v 21 d a m _ w hv ho' (by omega) id (by omega) ia (by omega) im (by omega) hu hrf e2⟩
theorem same_22 (v : Nat) (hv : v < 4294967296) (ho : v / 16777216 = 22) : Same2 v := by
  have ho' : (v : Int) / 16777216 = ((22 : Nat) : Int) := by omega
  have hfm : FM ((22 : Nat) : Int) = _ := FM_22
  have hrf : RF ((22 : Nat) : Int) = _ := RF_22
  obtain ⟨d, hd⟩ : ∃ d, v / 1048576 % 16 = d := ⟨_, rfl⟩
  have ud := mask_fu v 1048576 hv
  have id := mask_fi v 1048576 hv
  rw [hd] at ud id
  obtain ⟨a, ha⟩ : ∃ a, v / 65536 % 16 = a := ⟨_, rfl⟩
  have ua := mask_fu v 65536 hv
  have ia := mask_fi v 65536 hv
  rw [ha] at ua ia
  obtain ⟨m, hm⟩ : ∃ m, v % 65536 = m := ⟨_, rfl⟩
  have um := mask_lu16 v hv
  have im := mask_li16 v hv
  rw [hm] at um im
  have hc : chkA ((22 : Nat) : Int) (d : Nat) (a : Nat) ((0 : Nat) : Int) m = chkR ((22 : Nat) : Int) (d : Nat) (a : Nat) ((0 : Nat) : Int) m := chk_22 _ _ _ _
  cases h : chkR ((22 : Nat) : Int) (d : Nat) (a : Nat) ((0 : Nat) : Int) m with
  | false =>
    rw [h] at hc
    exact ⟨_, _, _, _, _, _, fun w => decDAIp_bad v 22 d a m _ _ w hv ho' (by omega) ud (by omega) ua (by omega) um (by omega) (by omega) hfm (fun W => encode_bad _ _ _ _ _ W hc), fun w => rdecC_bad v 22 d a m w hv ho' (by omega) id (by omega) ia (by omega) im (by omega) hrf (fun W => rencode_bad _ _ _ _ _ W h)⟩
  | true =>
    rw [h] at hc
    have e1 := fun W => encode_ok 22 d a 0 m W hc (by omega) (by omega) (by omega) (by omega)
    have e2 := fun W => rencode_ok 22 d a 0 m W h (by omega) (by omega) (by omega) (by omega) (by omega) (by omega)
    rw [hfm] at e1
    have hw : encW 16 22 d a 0 m = rencW (RF ((22 : Nat) : Int)) 22 d a 0 m := by
      rw [hrf]
      exact enc16_r 22 _ _ _ _ (by omega) (by omega) (by omega) (by decide) (by omega) (by omega)
    rw [← hw] at e2
    dsimp only at e1
    by_cases he : encW 16 22 d a 0 m = (v : Int)
    · rw [he] at e1 e2
      exact ⟨_, _, _, _, _, _, fun w => decDAIp_eq v 22 d a m _ _ w hv ho' (by omega) ud (by omega) ua (by omega) um (by omega) (by omega) hfm e1, fun w => rdecC_eq v 22 d a m w hv ho' (by omega) id (by omega) ia (by omega) im (by omega) hrf e2⟩
    · have hu : (encW 16 22 d a 0 m != (v : Int)) = true := by simpa using he
      exact ⟨_, _, _, _, _, _, fun w => decDAIp_ne v 22 d a m _ _ _ w hv ho' (by omega) ud (by omega) ua (by omega) um (by omega) (by omega) hu hfm e1, fun w => rdecC_ne v 22 d a m _ w hv ho' (by omega) id (by omega) ia (by omega) im (by omega) hu hrf e2⟩
theorem same_23 (v : Nat) (hv : v < 4294967296) (ho : v / 16777216 = 23) : Same2 v := by
  have ho' : (v : Int) / 16777216 = ((23 : Nat) : Int) := by omega
  have hfm : FM ((23 : Nat) : Int) = _ := FM_23
  have hrf : RF ((23 : Nat) : Int) = _ := RF_23
  obtain ⟨d, hd⟩ : ∃ d, v / 1048576 % 16 = d := ⟨_, rfl⟩
  have ud := mask_fu v 1048576 hv
  have id := mask_fi v 1048576 hv
  rw [hd] at ud id
  obtain ⟨a, ha⟩ : ∃ a, v / 65536 % 16 = a := ⟨_, rfl⟩
  have ua := mask_fu v 65536 hv
  have ia := mask_fi v 65536 hv
  rw [ha] at ua ia
  obtain ⟨m, hm⟩ : ∃ m, v % 65536 = m := ⟨_, rfl⟩
  have um := mask_lu16 v hv
  have im := mask_li16 v hv
  rw [hm] at um im
  have hc : chkA ((23 : Nat) : Int) (d : Nat) (a : Nat) ((0 : Nat) : Int) m = chkR ((23 : Nat) : Int) (d : Nat) (a : Nat) ((0 : Nat) : Int) m := chk_23 _ _ _ _
  cases h : chkR ((23 : Nat) : Int) (d : Nat) (a : Nat) ((0 : Nat) : Int) m with
  | false =>
    rw [h] at hc
    exact ⟨_, _, _, _, _, _, fun w => decDAIp_bad v 23 d a m _ _ w hv ho' (by omega) ud (by omega) ua (by omega) um (by omega) (by omega) hfm (fun W => encode_bad _ _ _ _ _ W hc), fun w => rdecC_bad v 23 d a m w hv ho' (by omega) id (by omega) ia (by omega) im (by omega) hrf (fun W => rencode_bad _ _ _ _ _ W h)⟩
  | true =>
    rw [h] at hc
    have e1 := fun W => encode_ok 23 d a 0 m W hc (by omega) (by omega) (by omega) (by omega)
    have e2 := fun W => rencode_ok 23 d a 0 m W h (by omega) (by omega) (by omega) (by omega) (by omega) (by omega)
    rw [hfm] at e1
    have hw : encW 16 23 d a 0 m = rencW (RF ((23 : Nat) : Int)) 23 d a 0 m := by
      rw [hrf]
      exact enc16_r 23 _ _ _ _ (by omega) (by omega) (by omega) (by decide) (by omega) (by omega)
    rw [← hw] at e2
    dsimp only at e1
    by_cases he : encW 16 23 d a 0 m = (v : Int)
    · rw [he] at e1 e2
      exact ⟨_, _, _, _, _, _, fun w => decDAIp_eq v 23 d a m _ _ w hv ho' (by omega) ud (by omega) ua (by omega) um (by omega) (by omega) hfm e1, fun w => rdecC_eq v 23 d a m w hv ho' (by omega) id (by omega) ia (by omega) im (by omega) hrf e2⟩
    · have hu : (encW 16 23 d a 0 m != (v : Int)) = true := by simpa using he
      exact ⟨_, _, _, _, _, _, fun w => decDAIp_ne v 23 d a m _ _ _ w hv ho' (by omega) ud (by omega) ua (by omega) um (by omega) (by omega) hu hfm e1, fun w => rdecC_ne v 23 d a m _ w hv ho' (by omega) id (by omega) ia (by omega) im (by omega) hu hrf e2⟩
theorem same_24 (v : Nat) (hv : v < 4294967296) (ho : v / 16777216 = 24) : Same2 v := by
  have ho' : (v : Int) / 16777216 = ((24 : Nat) : Int) := by omega
  have hfm : FM ((24 : Nat) : Int) = _ := FM_24
  have hrf : RF ((24 : Nat) : Int) = _ := RF_24
  obtain ⟨d, hd⟩ : ∃ d, v / 1048576 % 16 = d := ⟨_, rfl⟩
  have ud := mask_fu v 1048576 hv
  have id := mask_fi v 1048576 hv
  rw [hd] at ud id
  obtain ⟨a, ha⟩ : ∃ a, v / 65536 % 16 = a := ⟨_, rfl⟩
  have ua := mask_fu v 65536 hv
  have ia := mask_fi v 65536 hv
  rw [ha] at ua ia
  obtain ⟨m, hm⟩ : ∃ m, v % 65536 = m := ⟨_, rfl⟩
  have um := mask_lu16 v hv
  have im := mask_li16 v hv
  rw [hm] at um im
  have hc : chkA ((24 : Nat) : Int) (d : Nat) (a : Nat) ((0 : Nat) : Int) m = chkR ((24 : Nat) : Int) (d : Nat) (a : Nat) ((0 : Nat) : Int) m := chk_24 _ _ _ _
  cases h : chkR ((24 : Nat) : Int) (d : Nat) (a : Nat) ((0 : Nat) : Int) m with
  | false =>
    rw [h] at hc
    exact ⟨_, _, _, _, _, _, fun w => decDAIp_bad v 24 d a m _ _ w hv ho' (by omega) ud (by omega) ua (by omega) um (by omega) (by omega) hfm (fun W => encode_bad _ _ _ _ _ W hc), fun w => rdecC_bad v 24 d a m w hv ho' (by omega) id (by omega) ia (by omega) im (by omega) hrf (fun W => rencode_bad _ _ _ _ _ W h)⟩
  | true =>
    rw [h] at hc
    have e1 := fun W => encode_ok 24 d a 0 m W hc (by omega) (by omega) (by omega) (by omega)
    have e2 := fun W => rencode_ok 24 d a 0 m W h (by omega) (by omega) (by omega) (by omega) (by omega) (by omega)
    rw [hfm] at e1
    have hw : encW 16 24 d a 0 m = rencW (RF ((24 : Nat) : Int)) 24 d a 0 m := by
      rw [hrf]
      exact enc16_r 24 _ _ _ _ (by omega) (by omega) (by omega) (by decide) (by omega) (by omega)
    rw [← hw] at e2
    dsimp only at e1
    by_cases he : encW 16 24 d a 0 m = (v : Int)
    · rw [he] at e1 e2
      exact ⟨_, _, _, _, _, _, fun w => decDAIp_eq v 24 d a m _ _ w hv ho' (by omega) ud (by omega) ua (by omega) um (by omega) (by omega) hfm e1, fun w => rdecC_eq v 24 d a m w hv ho' (by omega) id (by omega) ia (by omega) im (by omega) hrf e2⟩
    · have hu : (encW 16 24 d a 0 m != (v : Int)) = true := by simpa using he
      exact ⟨_, _, _, _, _, _, fun w => decDAIp_ne v 24 d a m _ _ _ w hv ho' (by omega) ud (by omega) ua (by omega) um (by omega) (by omega) hu hfm e1, fun w => rdecC_ne v 24 d a m _ w hv ho' (by omega) id (by omega) ia (by omega) im (by omega) hu hrf e2⟩
theorem same_25 (v : Nat) (hv : v < 4294967296) (ho : v / 16777216 = 25) : Same2 v := by
  have ho' : (v : Int) / 16777216 = ((25 : Nat) : Int) := by omega
  have hfm : FM ((25 : Nat) : Int) = _ := FM_25
  have hrf : RF ((25 : Nat) : Int) = _ := RF_25
  obtain ⟨d, hd⟩ : ∃ d, v / 1048576 % 16 = d := ⟨_, rfl⟩
  have ud := mask_fu v 1048576 hv
  have id := mask_fi v 1048576 hv
  rw [hd] at ud id
  obtain ⟨m, hm⟩ : ∃ m, v % 65536 = m := ⟨_, rfl⟩
  have um := mask_lu16 v hv
  have im := mask_li16 v hv
  rw [hm] at um im
  obtain ⟨z, hz⟩ : ∃ z, sg16 v = z := ⟨_, rfl⟩
  have hz0 := sg16_le v
  have hz2 : (if (m : Int) < 32768 then (m : Int) else (m : Int) - 65536) = z := by rw [← hz]; unfold sg16; rw [hm]; split <;> split <;> omega
  rw [hz] at hz0
  have hc : chkA ((25 : Nat) : Int) (d : Nat) (0 : Nat) ((0 : Nat) : Int) z = chkR ((25 : Nat) : Int) (d : Nat) (0 : Nat) ((0 : Nat) : Int) z := chk_25 _ _ _ _
  cases h : chkR ((25 : Nat) : Int) (d : Nat) (0 : Nat) ((0 : Nat) : Int) z with
  | false =>
    rw [h] at hc
    exact ⟨_, _, _, _, _, _, fun w => decDIn_bad v 25 d m _ z w hv ho' (by omega) ud (by omega) um (by omega) hz (Int.le_trans (by decide) hz0.1) (Int.le_trans hz0.2 (by decide)) hfm (fun W => encode_bad _ _ _ _ _ W hc), fun w => rdecL_bad v 25 d m z w hv ho' (by omega) id (by omega) im (by omega) hz2 hrf (fun W => rencode_bad _ _ _ _ _ W h)⟩
  | true =>
    rw [h] at hc
    have e1 := fun W => encode_ok 25 d 0 0 z W hc (by omega) (by omega) (by omega) (by omega)
    have e2 := fun W => rencode_ok 25 d 0 0 z W h (by omega) (by omega) (by omega) (by omega) (Int.le_trans (by decide) hz0.1) (Int.le_trans hz0.2 (by decide))
    rw [hfm] at e1
    have hw : encW 16 25 d 0 0 z = rencW (RF ((25 : Nat) : Int)) 25 d 0 0 z := by
      rw [hrf]
      exact enc16_r 25 _ _ _ _ (by omega) (by omega) (by omega) (by decide) hz0.1 (Int.le_trans hz0.2 (by decide))
    rw [← hw] at e2
    dsimp only at e1
    by_cases he : encW 16 25 d 0 0 z = (v : Int)
    · rw [he] at e1 e2
      exact ⟨_, _, _, _, _, _, fun w => decDIn_eq v 25 d m _ z w hv ho' (by omega) ud (by omega) um (by omega) hz (Int.le_trans (by decide) hz0.1) (Int.le_trans hz0.2 (by decide)) hfm e1, fun w => rdecL_eq v 25 d m z w hv ho' (by omega) id (by omega) im (by omega) hz2 hrf e2⟩
    · have hu : (encW 16 25 d 0 0 z != (v : Int)) = true := by simpa using he
      exact ⟨_, _, _, _, _, _, fun w => decDIn_ne v 25 d m _ z _ w hv ho' (by omega) ud (by omega) um (by omega) hz (Int.le_trans (by decide) hz0.1) (Int.le_trans hz0.2 (by decide)) hu hfm e1, fun w => rdecL_ne v 25 d m z _ w hv ho' (by omega) id (by omega) im (by omega) hz2 hu hrf e2⟩
theorem same_26 (v : Nat) (hv : v < 4294967296) (ho : v / 16777216 = 26) : Same2 v := by
  have ho' : (v : Int) / 16777216 = ((26 : Nat) : Int) := by omega
  have hfm : FM ((26 : Nat) : Int) = _ := FM_26
  have hrf : RF ((26 : Nat) : Int) = _ := RF_26
  obtain ⟨d, hd⟩ : ∃ d, v / 1048576 % 16 = d := ⟨_, rfl⟩
  have ud := mask_fu v 1048576 hv
  have id := mask_fi v 1048576 hv
  rw [hd] at ud id
  obtain ⟨m, hm⟩ : ∃ m, v % 65536 = m := ⟨_, rfl⟩
  have um := mask_lu16 v hv
  have im := mask_li16 v hv
  rw [hm] at um im
  have hc : chkA ((26 : Nat) : Int) (d : Nat) (0 : Nat) ((0 : Nat) : Int) m = chkR ((26 : Nat) : Int) (d : Nat) (0 : Nat) ((0 : Nat) : Int) m := chk_26 _ _ _ _
  cases h : chkR ((26 : Nat) : Int) (d : Nat) (0 : Nat) ((0 : Nat) : Int) m with
  | false =>
    rw [h] at hc
    exact ⟨_, _, _, _, _, _, fun w => decDIp_bad v 26 d m _ _ w hv ho' (by omega) ud (by omega) um (by omega) (by omega) hfm (fun W => encode_bad _ _ _ _ _ W hc), fun w => rdecH_bad v 26 d m w hv ho' (by omega) id (by omega) im (by omega) hrf (fun W => rencode_bad _ _ _ _ _ W h)⟩
  | true =>
    rw [h] at hc
    have e1 := fun W => encode_ok 26 d 0 0 m W hc (by omega) (by omega) (by omega) (by omega)
    have e2 := fun W => rencode_ok 26 d 0 0 m W h (by omega) (by omega) (by omega) (by omega) (by omega) (by omega)
    rw [hfm] at e1
    have hw : encW 16 26 d 0 0 m = rencW (RF ((26 : Nat) : Int)) 26 d 0 0 m := by
      rw [hrf]
      exact enc16_r 26 _ _ _ _ (by omega) (by omega) (by omega) (by decide) (by omega) (by omega)
    rw [← hw] at e2
    dsimp only at e1
    by_cases he : encW 16 26 d 0 0 m = (v : Int)
    · rw [he] at e1 e2
      exact ⟨_, _, _, _, _, _, fun w => decDIp_eq v 26 d m _ _ w hv ho' (by omega) ud (by omega) um (by omega) (by omega) hfm e1, fun w => rdecH_eq v 26 d m w hv ho' (by omega) id (by omega) im (by omega) hrf e2⟩
    · have hu : (encW 16 26 d 0 0 m != (v : Int)) = true := by simpa using he
      exact ⟨_, _, _, _, _, _, fun w => decDIp_ne v 26 d m _ _ _ w hv ho' (by omega) ud (by omega) um (by omega) (by omega) hu hfm e1, fun w => rdecH_ne v 26 d m _ w hv ho' (by omega) id (by omega) im (by omega) hu hrf e2⟩
theorem same_27 (v : Nat) (hv : v < 4294967296) (ho : v / 16777216 = 27) : Same2 v := by
  have ho' : (v : Int) / 16777216 = ((27 : Nat) : Int) := by omega
  have hfm : FM ((27 : Nat) : Int) = _ := FM_27
  have hrf : RF ((27 : Nat) : Int) = _ := RF_27
  obtain ⟨d, hd⟩ : ∃ d, v / 1048576 % 16 = d := ⟨_, rfl⟩
  have ud := mask_fu v 1048576 hv
  have id := mask_fi v 1048576 hv
  rw [hd] at ud id
  obtain ⟨a, ha⟩ : ∃ a, v / 65536 % 16 = a := ⟨_, rfl⟩
  have ua := mask_fu v 65536 hv
  have ia := mask_fi v 65536 hv
  rw [ha] at ua ia
  obtain ⟨m, hm⟩ : ∃ m, v % 65536 = m := ⟨_, rfl⟩
  have um := mask_lu16 v hv
  have im := mask_li16 v hv
  rw [hm] at um im
  have hc : chkA ((27 : Nat) : Int) (d : Nat) (a : Nat) ((0 : Nat) : Int) m = chkR ((27 : Nat) : Int) (d : Nat) (a : Nat) ((0 : Nat) : Int) m := chk_27 _ _ _ _
  cases h : chkR ((27 : Nat) : Int) (d : Nat) (a : Nat) ((0 : Nat) : Int) m with
  | false =>
    rw [h] at hc
    exact ⟨_, _, _, _, _, _, fun w => decDAIp_bad v 27 d a m _ _ w hv ho' (by omega) ud (by omega) ua (by omega) um (by omega) (by omega) hfm (fun W => encode_bad _ _ _ _ _ W hc), fun w => rdecE_bad v 27 d a m w hv ho' (by omega) id (by omega) ia (by omega) im (by omega) hrf (fun W => rencode_bad _ _ _ _ _ W h)⟩
  | true =>
    rw [h] at hc
    have e1 := fun W => encode_ok 27 d a 0 m W hc (by omega) (by omega) (by omega) (by omega)
    have e2 := fun W => rencode_ok 27 d a 0 m W h (by omega) (by omega) (by omega) (by omega) (by omega) (by omega)
    rw [hfm] at e1
    have hw : encW 16 27 d a 0 m = rencW (RF ((27 : Nat) : Int)) 27 d a 0 m := by
      rw [hrf]
      exact enc16_r 27 _ _ _ _ (by omega) (by omega) (by omega) (by decide) (by omega) (by omega)
    rw [← hw] at e2
    dsimp only at e1
    by_cases he : encW 16 27 d a 0 m = (v : Int)
    · rw [he] at e1 e2
      exact ⟨_, _, _, _, _, _, fun w => decDAIp_eq v 27 d a m _ _ w hv ho' (by omega) ud (by omega) ua (by omega) um (by omega) (by omega) hfm e1, fun w => rdecE_eq v 27 d a m w hv ho' (by omega) id (by omega) ia (by omega) im (by omega) hrf e2⟩
    · have hu : (encW 16 27 d a 0 m != (v : Int)) = true := by simpa using he
      exact ⟨_, _, _, _, _, _, fun w => decDAIp_ne v 27 d a m _ _ _ w hv ho' (by omega) ud (by omega) ua (by omega) um (by omega) (by omega) hu hfm e1, fun w => rdecE_ne v 27 d a m _ w hv ho' (by omega) id (by omega) ia (by omega) im (by omega) hu hrf e2⟩
theorem same_28 (v : Nat) (hv : v < 4294967296) (ho : v / 16777216 = 28) : Same2 v := by
  have ho' : (v : Int) / 16777216 = ((28 : Nat) : Int) := by omega
  have hfm : FM ((28 : Nat) : Int) = _ := FM_28
  have hrf : RF ((28 : Nat) : Int) = _ := RF_28
  obtain ⟨d, hd⟩ : ∃ d, v / 1048576 % 16 = d := ⟨_, rfl⟩
  have ud := mask_fu v 1048576 hv
  have id := mask_fi v 1048576 hv
  rw [hd] at ud id
  obtain ⟨a, ha⟩ : ∃ a, v / 65536 % 16 = a := ⟨_, rfl⟩
  have ua := mask_fu v 65536 hv
  have ia := mask_fi v 65536 hv
  rw [ha] at ua ia
  obtain ⟨m, hm⟩ : ∃ m, v % 65536 = m := ⟨_, rfl⟩
  have um := mask_lu16 v hv
  have im := mask_li16 v hv
  rw [hm] at um im
  obtain ⟨z, hz⟩ : ∃ z, sg16 v = z := ⟨_, rfl⟩
  have hz0 := sg16_le v
  have hz2 : (if (m : Int) < 32768 then (m : Int) else (m : Int) - 65536) = z := by rw [← hz]; unfold sg16; rw [hm]; split <;> split <;> omega
  rw [hz] at hz0
  have hc : chkA ((28 : Nat) : Int) (d : Nat) (a : Nat) ((0 : Nat) : Int) z = chkR ((28 : Nat) : Int) (d : Nat) (a : Nat) ((0 : Nat) : Int) z := chk_28 _ _ _ _
  cases h : chkR ((28 : Nat) : Int) (d : Nat) (a : Nat) ((0 : Nat) : Int) z with
  | false =>
    rw [h] at hc
    exact ⟨_, _, _, _, _, _, fun w => decDAIn_bad v 28 d a m _ z w hv ho' (by omega) ud (by omega) ua (by omega) um (by omega) hz (Int.le_trans (by decide) hz0.1) (Int.le_trans hz0.2 (by decide)) hfm (fun W => encode_bad _ _ _ _ _ W hc), fun w => rdecS_bad v 28 d a m z w hv ho' (by omega) id (by omega) ia (by omega) im (by omega) hz2 hrf (fun W => rencode_bad _ _ _ _ _ W h)⟩
  | true =>
    rw [h] at hc
    have e1 := fun W => encode_ok 28 d a 0 z W hc (by omega) (by omega) (by omega) (by omega)
    have e2 := fun W => rencode_ok 28 d a 0 z W h (by omega) (by omega) (by omega) (by omega) (Int.le_trans (by decide) hz0.1) (Int.le_trans hz0.2 (by decide))
    rw [hfm] at e1
    have hw : encW 16 28 d a 0 z = rencW (RF ((28 : Nat) : Int)) 28 d a 0 z := by
      rw [hrf]
      exact enc16_r 28 _ _ _ _ (by omega) (by omega) (by omega) (by decide) hz0.1 (Int.le_trans hz0.2 (by decide))
    rw [← hw] at e2
    dsimp only at e1
    by_cases he : encW 16 28 d a 0 z = (v : Int)
    · rw [he] at e1 e2
      exact ⟨_, _, _, _, _, _, fun w => decDAIn_eq v 28 d a m _ z w hv ho' (by omega) ud (by omega) ua (by omega) um (by omega) hz (Int.le_trans (by decide) hz0.1) (Int.le_trans hz0.2 (by decide)) hfm e1, fun w => rdecS_eq v 28 d a m z w hv ho' (by omega) id (by omega) ia (by omega) im (by omega) hz2 hrf e2⟩
    · have hu : (encW 16 28 d a 0 z != (v : Int)) = true := by simpa using he
      exact ⟨_, _, _, _, _, _, fun w => decDAIn_ne v 28 d a m _ z _ w hv ho' (by omega) ud (by omega) ua (by omega) um (by omega) hz (Int.le_trans (by decide) hz0.1) (Int.le_trans hz0.2 (by decide)) hu hfm e1, fun w => rdecS_ne v 28 d a m z _ w hv ho' (by omega) id (by omega) ia (by omega) im (by omega) hz2 hu hrf e2⟩
theorem same_29 (v : Nat) (hv : v < 4294967296) (ho : v / 16777216 = 29) : Same2 v := by
  have ho' : (v : Int) / 16777216 = ((29 : Nat) : Int) := by omega
  have hfm : FM ((29 : Nat) : Int) = _ := FM_29
  have hrf : RF ((29 : Nat) : Int) = _ := RF_29
  obtain ⟨d, hd⟩ : ∃ d, v / 1048576 % 16 = d := ⟨_, rfl⟩
  have ud := mask_fu v 1048576 hv
  have id := mask_fi v 1048576 hv
  rw [hd] at ud id
  obtain ⟨a, ha⟩ : ∃ a, v / 65536 % 16 = a := ⟨_, rfl⟩
  have ua := mask_fu v 65536 hv
  have ia := mask_fi v 65536 hv
  rw [ha] at ua ia
  obtain ⟨m, hm⟩ : ∃ m, v % 65536 = m := ⟨_, rfl⟩
  have um := mask_lu16 v hv
  have im := mask_li16 v hv
  rw [hm] at um im
  obtain ⟨z, hz⟩ : ∃ z, sg16 v = z := ⟨_, rfl⟩
  have hz0 := sg16_le v
  have hz2 : (if (m : Int) < 32768 then (m : Int) else (m : Int) - 65536) = z := by rw [← hz]; unfold sg16; rw [hm]; split <;> split <;> omega
  rw [hz] at hz0
  have hc : chkA ((29 : Nat) : Int) (d : Nat) (a : Nat) ((0 : Nat) : Int) z = chkR ((29 : Nat) : Int) (d : Nat) (a : Nat) ((0 : Nat) : Int) z := chk_29 _ _ _ _
  cases h : chkR ((29 : Nat) : Int) (d : Nat) (a : Nat) ((0 : Nat) : Int) z with
  | false =>
    rw [h] at hc
    exact ⟨_, _, _, _, _, _, fun w => decDAIn_bad v 29 d a m _ z w hv ho' (by omega) ud (by omega) ua (by omega) um (by omega) hz (Int.le_trans (by decide) hz0.1) (Int.le_trans hz0.2 (by decide)) hfm (fun W => encode_bad _ _ _ _ _ W hc), fun w => rdecS_bad v 29 d a m z w hv ho' (by omega) id (by omega) ia (by omega) im (by omega) hz2 hrf (fun W => rencode_bad _ _ _ _ _ W h)⟩
  | true =>
    rw [h] at hc
    have e1 := fun W => encode_ok 29 d a 0 z W hc (by omega) (by omega) (by omega) (by omega)
    have e2 := fun W => rencode_ok 29 d a 0 z W h (by omega) (by omega) (by omega) (by omega) (Int.le_trans (by decide) hz0.1) (Int.le_trans hz0.2 (by decide))
    rw [hfm] at e1
    have hw : encW 16 29 d a 0 z = rencW (RF ((29 : Nat) : Int)) 29 d a 0 z := by
      rw [hrf]
      exact enc16_r 29 _ _ _ _ (by omega) (by omega) (by omega) (by decide) hz0.1 (Int.le_trans hz0.2 (by decide))
    rw [← hw] at e2
    dsimp only at e1
    by_cases he : encW 16 29 d a 0 z = (v : Int)
    · rw [he] at e1 e2
      exact ⟨_, _, _, _, _, _, fun w => decDAIn_eq v 29 d a m _ z w hv ho' (by omega) ud (by omega) ua (by omega) um (by omega) hz (Int.le_trans (by decide) hz0.1) (Int.le_trans hz0.2 (by decide)) hfm e1, fun w => rdecS_eq v 29 d a m z w hv ho' (by omega) id (by omega) ia (by omega) im (by omega) hz2 hrf e2⟩
    · have hu : (encW 16 29 d a 0 z != (v : Int)) = true := by simpa using he
      exact ⟨_, _, _, _, _, _, fun w => decDAIn_ne v 29 d a m _ z _ w hv ho' (by omega) ud (by omega) ua (by omega) um (by omega) hz (Int.le_trans (by decide) hz0.1) (Int.le_trans hz0.2 (by decide)) hu hfm e1, fun w => rdecS_ne v 29 d a m z _ w hv ho' (by omega) id (by omega) ia (by omega) im (by omega) hz2 hu hrf e2⟩
theorem same_30 (v : Nat) (hv : v < 4294967296) (ho : v / 16777216 = 30) : Same2 v := by
  have ho' : (v : Int) / 16777216 = ((30 : Nat) : Int) := by omega
  have hfm : FM ((30 : Nat) : Int) = _ := FM_30
  have hrf : RF ((30 : Nat) : Int) = _ := RF_30
  obtain ⟨d, hd⟩ : ∃ d, v / 1048576 % 16 = d := ⟨_, rfl⟩
  have ud := mask_fu v 1048576 hv
  have id := mask_fi v 1048576 hv
  rw [hd] at ud id
  obtain ⟨a, ha⟩ : ∃ a, v / 65536 % 16 = a := ⟨_, rfl⟩
  have ua := mask_fu v 65536 hv
  have ia := mask_fi v 65536 hv
  rw [ha] at ua ia
  obtain ⟨m, hm⟩ : ∃ m, v % 65536 = m := ⟨_, rfl⟩
  have um := mask_lu16 v hv
  have im := mask_li16 v hv
  rw [hm] at um im
  obtain ⟨z, hz⟩ : ∃ z, sg16 v = z := ⟨_, rfl⟩
  have hz0 := sg16_le v
  have hz2 : (if (m : Int) < 32768 then (m : Int) else (m : Int) - 65536) = z := by rw [← hz]; unfold sg16; rw [hm]; split <;> split <;> omega
  rw [hz] at hz0
  have hc : chkA ((30 : Nat) : Int) (d : Nat) (a : Nat) ((0 : Nat) : Int) z = chkR ((30 : Nat) : Int) (d : Nat) (a : Nat) ((0 : Nat) : Int) z := chk_30 _ _ _ _
  cases h : chkR ((30 : Nat) : Int) (d : Nat) (a : Nat) ((0 : Nat) : Int) z with
  | false =>
    rw [h] at hc
    exact ⟨_, _, _, _, _, _, fun w => decDAIn_bad v 30 d a m _ z w hv ho' (by omega) ud (by omega) ua (by omega) um (by omega) hz (Int.le_trans (by decide) hz0.1) (Int.le_trans hz0.2 (by decide)) hfm (fun W => encode_bad _ _ _ _ _ W hc), fun w => rdecS_bad v 30 d a m z w hv ho' (by omega) id (by omega) ia (by omega) im (by omega) hz2 hrf (fun W => rencode_bad _ _ _ _ _ W h)⟩
  | true =>
    rw [h] at hc
    have e1 := fun W => encode_ok 30 d a 0 z W hc (by omega) (by omega) (by omega) (by omega)
    have e2 := fun W => rencode_ok 30 d a 0 z W h (by omega) (by omega) (by omega) (by omega) (Int.le_trans (by decide) hz0.1) (Int.le_trans hz0.2 (by decide))
    rw [hfm] at e1
    have hw : encW 16 30 d a 0 z = rencW (RF ((30 : Nat) : Int)) 30 d a 0 z := by
      rw [hrf]
      exact enc16_r 30 _ _ _ _ (by omega) (by omega) (by omega) (by decide) hz0.1 (Int.le_trans hz0.2 (by decide))
    rw [← hw] at e2
    dsimp only at e1
    by_cases he : encW 16 30 d a 0 z = (v : Int)
    · rw [he] at e1 e2
      exact ⟨_, _, _, _, _, _, fun w => decDAIn_eq v 30 d a m _ z w hv ho' (by omega) ud (by omega) ua (by omega) um (by omega) hz (Int.le_trans (by decide) hz0.1) (Int.le_trans hz0.2 (by decide)) hfm e1, fun w => rdecS_eq v 30 d a m z w hv ho' (by omega) id (by omega) ia (by omega) im (by omega) hz2 hrf e2⟩
    · have hu : (encW 16 30 d a 0 z != (v : Int)) = true := by simpa using he
      exact ⟨_, _, _, _, _, _, fun w => decDAIn_ne v 30 d a m _ z _ w hv ho' (by omega) ud (by omega) ua (by omega) um (by omega) hz (Int.le_trans (by decide) hz0.1) (Int.le_trans hz0.2 (by decide)) hu hfm e1, fun w => rdecS_ne v 30 d a m z _ w hv ho' (by omega) id (by omega) ia (by omega) im (by omega) hz2 hu hrf e2⟩
theorem same_31 (v : Nat) (hv : v < 4294967296) (ho : v / 16777216 = 31) : Same2 v := by
  have ho' : (v : Int) / 16777216 = ((31 : Nat) : Int) := by omega
  have hfm : FM ((31 : Nat) : Int) = _ := FM_31
  have hrf : RF ((31 : Nat) : Int) = _ := RF_31
  obtain ⟨d, hd⟩ : ∃ d, v / 1048576 % 16 = d := ⟨_, rfl⟩
  have ud := mask_fu v 1048576 hv
  have id := mask_fi v 1048576 hv
  rw [hd] at ud id
  obtain ⟨a, ha⟩ : ∃ a, v / 65536 % 16 = a := ⟨_, rfl⟩
  have ua := mask_fu v 65536 hv
  have ia := mask_fi v 65536 hv
  rw [ha] at ua ia
  obtain ⟨m, hm⟩ : ∃ m, v % 65536 = m := ⟨_, rfl⟩
  have um := mask_lu16 v hv
  have im := mask_li16 v hv
  rw [hm] at um im
  obtain ⟨z, hz⟩ : ∃ z, sg16 v = z := ⟨_, rfl⟩
  have hz0 := sg16_le v
  have hz2 : (if (m : Int) < 32768 then (m : Int) else (m : Int) - 65536) = z := by rw [← hz]; unfold sg16; rw [hm]; split <;> split <;> omega
  rw [hz] at hz0
  have hc : chkA ((31 : Nat) : Int) (d : Nat) (a : Nat) ((0 : Nat) : Int) z = chkR ((31 : Nat) : Int) (d : Nat) (a : Nat) ((0 : Nat) : Int) z := chk_31 _ _ _ _
  cases h : chkR ((31 : Nat) : Int) (d : Nat) (a : Nat) ((0 : Nat) : Int) z with
  | false =>
    rw [h] at hc
    exact ⟨_, _, _, _, _, _, fun w => decDAIn_bad v 31 d a m _ z w hv ho' (by omega) ud (by omega) ua (by omega) um (by omega) hz (Int.le_trans (by decide) hz0.1) (Int.le_trans hz0.2 (by decide)) hfm (fun W => encode_bad _ _ _ _ _ W hc), fun w => rdecS_bad v 31 d a m z w hv ho' (by omega) id (by omega) ia (by omega) im (by omega) hz2 hrf (fun W => rencode_bad _ _ _ _ _ W h)⟩
  | true =>
    rw [h] at hc
    have e1 := fun W => encode_ok 31 d a 0 z W hc (by omega) (by omega) (by omega) (by omega)
    have e2 := fun W => rencode_ok 31 d a 0 z W h (by omega) (by omega) (by omega) (by omega) (Int.le_trans (by decide) hz0.1) (Int.le_trans hz0.2 (by decide))
    rw [hfm] at e1
    have hw : encW 16 31 d a 0 z = rencW (RF ((31 : Nat) : Int)) 31 d a 0 z := by
      rw [hrf]
      exact enc16_r 31 _ _ _ _ (by omega) (by omega) (by omega) (by decide) hz0.1 (Int.le_trans hz0.2 (by decide))
    rw [← hw] at e2
    dsimp only at e1
    by_cases he : encW 16 31 d a 0 z = (v : Int)
    · rw [he] at e1 e2
      exact ⟨_, _, _, _, _, _, fun w => decDAIn_eq v 31 d a m _ z w hv ho' (by omega) ud (by omega) ua (by omega) um (by omega) hz (Int.le_trans (by decide) hz0.1) (Int.le_trans hz0.2 (by decide)) hfm e1, fun w => rdecS_eq v 31 d a m z w hv ho' (by omega) id (by omega) ia (by omega) im (by omega) hz2 hrf e2⟩
    · have hu : (encW 16 31 d a 0 z != (v : Int)) = true := by simpa using he
      exact ⟨_, _, _, _, _, _, fun w => decDAIn_ne v 31 d a m _ z _ w hv ho' (by omega) ud (by omega) ua (by omega) um (by omega) hz (Int.le_trans (by decide) hz0.1) (Int.le_trans hz0.2 (by decide)) hu hfm e1, fun w => rdecS_ne v 31 d a m z _ w hv ho' (by omega) id (by omega) ia (by omega) im (by omega) hz2 hu hrf e2⟩
theorem same_32 (v : Nat) (hv : v < 4294967296) (ho : v / 16777216 = 32) : Same2 v := by
  have ho' : (v : Int) / 16777216 = ((32 : Nat) : Int) := by omega
  have hfm : FM ((32 : Nat) : Int) = _ := FM_32
  have hrf : RF ((32 : Nat) : Int) = _ := RF_32
  obtain ⟨d, hd⟩ : ∃ d, v / 1048576 % 16 = d := ⟨_, rfl⟩
  have ud := mask_fu v 1048576 hv
  have id := mask_fi v 1048576 hv
  rw [hd] at ud id
  obtain ⟨a, ha⟩ : ∃ a, v / 65536 % 16 = a := ⟨_, rfl⟩
  have ua := mask_fu v 65536 hv
  have ia := mask_fi v 65536 hv
  rw [ha] at ua ia
  obtain ⟨m, hm⟩ : ∃ m, v % 65536 = m := ⟨_, rfl⟩
  have um := mask_lu16 v hv
  have im := mask_li16 v hv
  rw [hm] at um im
  obtain ⟨z, hz⟩ : ∃ z, sg16 v = z := ⟨_, rfl⟩
  have hz0 := sg16_le v
  have hz2 : (if (m : Int) < 32768 then (m : Int) else (m : Int) - 65536) = z := by rw [← hz]; unfold sg16; rw [hm]; split <;> split <;> omega
  rw [hz] at hz0
  have hc : chkA ((32 : Nat) : Int) (d : Nat) (a : Nat) ((0 : Nat) : Int) z = chkR ((32 : Nat) : Int) (d : Nat) (a : Nat) ((0 : Nat) : Int) z := chk_32 _ _ _ _
  cases h : chkR ((32 : Nat) : Int) (d : Nat) (a : Nat) ((0 : Nat) : Int) z with
  | false =>
    rw [h] at hc
    exact ⟨_, _, _, _, _, _, fun w => decDAIn_bad v 32 d a m _ z w hv ho' (by omega) ud (by omega) ua (by omega) um (by omega) hz (Int.le_trans (by decide) hz0.1) (Int.le_trans hz0.2 (by decide)) hfm (fun W => encode_bad _ _ _ _ _ W hc), fun w => rdecS_bad v 32 d a m z w hv ho' (by omega) id (by omega) ia (by omega) im (by omega) hz2 hrf (fun W => rencode_bad _ _ _ _ _ W h)⟩
  | true =>
    rw [h] at hc
    have e1 := fun W => encode_ok 32 d a 0 z W hc (by omega) (by omega) (by omega) (by omega)
    have e2 := fun W => rencode_ok 32 d a 0 z W h (by omega) (by omega) (by omega) (by omega) (Int.le_trans (by decide) hz0.1) (Int.le_trans hz0.2 (by decide))
    rw [hfm] at e1
    have hw : encW 16 32 d a 0 z = rencW (RF ((32 : Nat) : Int)) 32 d a 0 z := by
      rw [hrf]
      exact enc16_r 32 _ _ _ _ (by omega) (by omega) (by omega) (by decide) hz0.1 (Int.le_trans hz0.2 (by decide))
    rw [← hw] at e2
    dsimp only at e1
    by_cases he : encW 16 32 d a 0 z = (v : Int)
    · rw [he] at e1 e2
      exact ⟨_, _, _, _, _, _, fun w => decDAIn_eq v 32 d a m _ z w hv ho' (by omega) ud (by omega) ua (by omega) um (by omega) hz (Int.le_trans (by decide) hz0.1) (Int.le_trans hz0.2 (by decide)) hfm e1, fun w => rdecS_eq v 32 d a m z w hv ho' (by omega) id (by omega) ia (by omega) im (by omega) hz2 hrf e2⟩
    · have hu : (encW 16 32 d a 0 z != (v : Int)) = true := by simpa using he
      exact ⟨_, _, _, _, _, _, fun w => decDAIn_ne v 32 d a m _ z _ w hv ho' (by omega) ud (by omega) ua (by omega) um (by omega) hz (Int.le_trans (by decide) hz0.1) (Int.le_trans hz0.2 (by decide)) hu hfm e1, fun w => rdecS_ne v 32 d a m z _ w hv ho' (by omega) id (by omega) ia (by omega) im (by omega) hz2 hu hrf e2⟩
theorem same_33 (v : Nat) (hv : v < 4294967296) (ho : v / 16777216 = 33) : Same2 v := by
  have ho' : (v : Int) / 16777216 = ((33 : Nat) : Int) := by omega
  have hfm : FM ((33 : Nat) : Int) = _ := FM_33
  have hrf : RF ((33 : Nat) : Int) = _ := RF_33
  obtain ⟨d, hd⟩ : ∃ d, v / 1048576 % 16 = d := ⟨_, rfl⟩
  have ud := mask_fu v 1048576 hv
  have id := mask_fi v 1048576 hv
  rw [hd] at ud id
  obtain ⟨a, ha⟩ : ∃ a, v / 65536 % 16 = a := ⟨_, rfl⟩
  have ua := mask_fu v 65536 hv
  have ia := mask_fi v 65536 hv
  rw [ha] at ua ia
  obtain ⟨m, hm⟩ : ∃ m, v % 65536 = m := ⟨_, rfl⟩
  have um := mask_lu16 v hv
  have im := mask_li16 v hv
  rw [hm] at um im
  obtain ⟨z, hz⟩ : ∃ z, sg16 v = z := ⟨_, rfl⟩
  have hz0 := sg16_le v
  have hz2 : (if (m : Int) < 32768 then (m : Int) else (m : Int) - 65536) = z := by rw [← hz]; unfold sg16; rw [hm]; split <;> split <;> omega
  rw [hz] at hz0
  have hc : chkA ((33 : Nat) : Int) (d : Nat) (a : Nat) ((0 : Nat) : Int) z = chkR ((33 : Nat) : Int) (d : Nat) (a : Nat) ((0 : Nat) : Int) z := chk_33 _ _ _ _
  cases h : chkR ((33 : Nat) : Int) (d : Nat) (a : Nat) ((0 : Nat) : Int) z with
  | false =>
    rw [h] at hc
    exact ⟨_, _, _, _, _, _, fun w => decDAIn_bad v 33 d a m _ z w hv ho' (by omega) ud (by omega) ua (by omega) um (by omega) hz (Int.le_trans (by decide) hz0.1) (Int.le_trans hz0.2 (by decide)) hfm (fun W => encode_bad _ _ _ _ _ W hc), fun w => rdecS_bad v 33 d a m z w hv ho' (by omega) id (by omega) ia (by omega) im (by omega) hz2 hrf (fun W => rencode_bad _ _ _ _ _ W h)⟩
  | true =>
    rw [h] at hc
    have e1 := fun W => encode_ok 33 d a 0 z W hc (by omega) (by omega) (by omega) (by omega)
    have e2 := fun W => rencode_ok 33 d a 0 z W h (by omega) (by omega) (by omega) (by omega) (Int.le_trans (by decide) hz0.1) (Int.le_trans hz0.2 (by decide))
    rw [hfm] at e1
    have hw : encW 16 33 d a 0 z = rencW (RF ((33 : Nat) : Int)) 33 d a 0 z := by
      rw [hrf]
      exact enc16_r 33 _ _ _ _ (by omega) (by omega) (by omega) (by decide) hz0.1 (Int.le_trans hz0.2 (by decide))
    rw [← hw] at e2
    dsimp only at e1
    by_cases he : encW 16 33 d a 0 z = (v : Int)
    · rw [he] at e1 e2
      exact ⟨_, _, _, _, _, _, fun w => decDAIn_eq v 33 d a m _ z w hv ho' (by omega) ud (by omega) ua (by omega) um (by omega) hz (Int.le_trans (by decide) hz0.1) (Int.le_trans hz0.2 (by decide)) hfm e1, fun w => rdecS_eq v 33 d a m z w hv ho' (by omega) id (by omega) ia (by omega) im (by omega) hz2 hrf e2⟩
    · have hu : (encW 16 33 d a 0 z != (v : Int)) = true := by simpa using he
      exact ⟨_, _, _, _, _, _, fun w => decDAIn_ne v 33 d a m _ z _ w hv ho' (by omega) ud (by omega) ua (by omega) um (by omega) hz (Int.le_trans (by decide) hz0.1) (Int.le_trans hz0.2 (by decide)) hu hfm e1, fun w => rdecS_ne v 33 d a m z _ w hv ho' (by omega) id (by omega) ia (by omega) im (by omega) hz2 hu hrf e2⟩
theorem same_34 (v : Nat) (hv : v < 4294967296) (ho : v / 16777216 = 34) : Same2 v := by
  have ho' : (v : Int) / 16777216 = ((34 : Nat) : Int) := by omega
  have hfm : FM ((34 : Nat) : Int) = _ := FM_34
  have hrf : RF ((34 : Nat) : Int) = _ := RF_34
  obtain ⟨a, ha⟩ : ∃ a, v / 65536 % 16 = a := ⟨_, rfl⟩
  have ua := mask_fu v 65536 hv
  have ia := mask_fi v 65536 hv
  rw [ha] at ua ia
  obtain ⟨m, hm⟩ : ∃ m, v % 65536 = m := ⟨_, rfl⟩
  have um := mask_lu16 v hv
  have im := mask_li16 v hv
  rw [hm] at um im
  obtain ⟨z, hz⟩ : ∃ z, sg16 v = z := ⟨_, rfl⟩
  have hz0 := sg16_le v
  have hz2 : (if (m : Int) < 32768 then (m : Int) else (m : Int) - 65536) = z := by rw [← hz]; unfold sg16; rw [hm]; split <;> split <;> omega
  rw [hz] at hz0
  have hc : chkA ((34 : Nat) : Int) (0 : Nat) (a : Nat) ((0 : Nat) : Int) z = chkR ((34 : Nat) : Int) (0 : Nat) (a : Nat) ((0 : Nat) : Int) z := chk_34 _ _ _ _
  cases h : chkR ((34 : Nat) : Int) (0 : Nat) (a : Nat) ((0 : Nat) : Int) z with
  | false =>
    rw [h] at hc
    exact ⟨_, _, _, _, _, _, fun w => decAIn_bad v 34 a m _ z w hv ho' (by omega) ua (by omega) um (by omega) hz (Int.le_trans (by decide) hz0.1) (Int.le_trans hz0.2 (by decide)) hfm (fun W => encode_bad _ _ _ _ _ W hc), fun w => rdecB_bad v 34 a m z w hv ho' (by omega) ia (by omega) im (by omega) hz2 hrf (fun W => rencode_bad _ _ _ _ _ W h)⟩
  | true =>
    rw [h] at hc
    have e1 := fun W => encode_ok 34 0 a 0 z W hc (by omega) (by omega) (by omega) (by omega)
    have e2 := fun W => rencode_ok 34 0 a 0 z W h (by omega) (by omega) (by omega) (by omega) (Int.le_trans (by decide) hz0.1) (Int.le_trans hz0.2 (by decide))
    rw [hfm] at e1
    have hw : encW 16 34 0 a 0 z = rencW (RF ((34 : Nat) : Int)) 34 0 a 0 z := by
      rw [hrf]
      exact enc16_r 34 _ _ _ _ (by omega) (by omega) (by omega) (by decide) hz0.1 (Int.le_trans hz0.2 (by decide))
    rw [← hw] at e2
    dsimp only at e1
    by_cases he : encW 16 34 0 a 0 z = (v : Int)
    · rw [he] at e1 e2
      exact ⟨_, _, _, _, _, _, fun w => decAIn_eq v 34 a m _ z w hv ho' (by omega) ua (by omega) um (by omega) hz (Int.le_trans (by decide) hz0.1) (Int.le_trans hz0.2 (by decide)) hfm e1, fun w => rdecB_eq v 34 a m z w hv ho' (by omega) ia (by omega) im (by omega) hz2 hrf e2⟩
    · have hu : (encW 16 34 0 a 0 z != (v : Int)) = true := by simpa using he
      exact ⟨_, _, _, _, _, _, fun w => decAIn_ne v 34 a m _ z _ w hv ho' (by omega) ua (by omega) um (by omega) hz (Int.le_trans (by decide) hz0.1) (Int.le_trans hz0.2 (by decide)) hu hfm e1, fun w => rdecB_ne v 34 a m z _ w hv ho' (by omega) ia (by omega) im (by omega) hz2 hu hrf e2⟩
theorem same_35 (v : Nat) (hv : v < 4294967296) (ho : v / 16777216 = 35) : Same2 v := by
  have ho' : (v : Int) / 16777216 = ((35 : Nat) : Int) := by omega
  have hfm : FM ((35 : Nat) : Int) = _ := FM_35
  have hrf : RF ((35 : Nat) : Int) = _ := RF_35
  obtain ⟨a, ha⟩ : ∃ a, v / 65536 % 16 = a := ⟨_, rfl⟩
  have ua := mask_fu v 65536 hv
  have ia := mask_fi v 65536 hv
  rw [ha] at ua ia
  obtain ⟨m, hm⟩ : ∃ m, v % 65536 = m := ⟨_, rfl⟩
  have um := mask_lu16 v hv
  have im := mask_li16 v hv
  rw [hm] at um im
  obtain ⟨z, hz⟩ : ∃ z, sg16 v = z := ⟨_, rfl⟩
  have hz0 := sg16_le v
  have hz2 : (if (m : Int) < 32768 then (m : Int) else (m : Int) - 65536) = z := by rw [← hz]; unfold sg16; rw [hm]; split <;> split <;> omega
  rw [hz] at hz0
  have hc : chkA ((35 : Nat) : Int) (0 : Nat) (a : Nat) ((0 : Nat) : Int) z = chkR ((35 : Nat) : Int) (0 : Nat) (a : Nat) ((0 : Nat) : Int) z := chk_35 _ _ _ _
  cases h : chkR ((35 : Nat) : Int) (0 : Nat) (a : Nat) ((0 : Nat) : Int) z with
  | false =>
    rw [h] at hc
    exact ⟨_, _, _, _, _, _, fun w => decAIn_bad v 35 a m _ z w hv ho' (by omega) ua (by omega) um (by omega) hz (Int.le_trans (by decide) hz0.1) (Int.le_trans hz0.2 (by decide)) hfm (fun W => encode_bad _ _ _ _ _ W hc), fun w => rdecB_bad v 35 a m z w hv ho' (by omega) ia (by omega) im (by omega) hz2 hrf (fun W => rencode_bad _ _ _ _ _ W h)⟩
  | true =>
    rw [h] at hc
    have e1 := fun W => encode_ok 35 0 a 0 z W hc (by omega) (by omega) (by omega) (by omega)
    have e2 := fun W => rencode_ok 35 0 a 0 z W h (by omega) (by omega) (by omega) (by omega) (Int.le_trans (by decide) hz0.1) (Int.le_trans hz0.2 (by decide))
    rw [hfm] at e1
    have hw : encW 16 35 0 a 0 z = rencW (RF ((35 : Nat) : Int)) 35 0 a 0 z := by
      rw [hrf]
      exact enc16_r 35 _ _ _ _ (by omega) (by omega) (by omega) (by decide) hz0.1 (Int.le_trans hz0.2 (by decide))
    rw [← hw] at e2
    dsimp only at e1
    by_cases he : encW 16 35 0 a 0 z = (v : Int)
    · rw [he] at e1 e2
      exact ⟨_, _, _, _, _, _, fun w => decAIn_eq v 35 a m _ z w hv ho' (by omega) ua (by omega) um (by omega) hz (Int.le_trans (by decide) hz0.1) (Int.le_trans hz0.2 (by decide)) hfm e1, fun w => rdecB_eq v 35 a m z w hv ho' (by omega) ia (by omega) im (by omega) hz2 hrf e2⟩
    · have hu : (encW 16 35 0 a 0 z != (v : Int)) = true := by simpa using he
      exact ⟨_, _, _, _, _, _, fun w => decAIn_ne v 35 a m _ z _ w hv ho' (by omega) ua (by omega) um (by omega) hz (Int.le_trans (by decide) hz0.1) (Int.le_trans hz0.2 (by decide)) hu hfm e1, fun w => rdecB_ne v 35 a m z _ w hv ho' (by omega) ia (by omega) im (by omega) hz2 hu hrf e2⟩
theorem same_36 (v : Nat) (hv : v < 4294967296) (ho : v / 16777216 = 36) : Same2 v := by
  have ho' : (v : Int) / 16777216 = ((36 : Nat) : Int) := by omega
  have hfm : FM ((36 : Nat) : Int) = _ := FM_36
  have hrf : RF ((36 : Nat) : Int) = _ := RF_36
  obtain ⟨d, hd⟩ : ∃ d, v / 1048576 % 16 = d := ⟨_, rfl⟩
  have ud := mask_fu v 1048576 hv
  have id := mask_fi v 1048576 hv
  rw [hd] at ud id
  obtain ⟨a, ha⟩ : ∃ a, v / 65536 % 16 = a := ⟨_, rfl⟩
  have ua := mask_fu v 65536 hv
  have ia := mask_fi v 65536 hv
  rw [ha] at ua ia
  obtain ⟨m, hm⟩ : ∃ m, v % 65536 = m := ⟨_, rfl⟩
  have um := mask_lu16 v hv
  have im := mask_li16 v hv
  rw [hm] at um im
  obtain ⟨z, hz⟩ : ∃ z, sg16 v = z := ⟨_, rfl⟩
  have hz0 := sg16_le v
  have hz2 : (if (m : Int) < 32768 then (m : Int) else (m : Int) - 65536) = z := by rw [← hz]; unfold sg16; rw [hm]; split <;> split <;> omega
  rw [hz] at hz0
  have hc : chkA ((36 : Nat) : Int) (d : Nat) (a : Nat) ((0 : Nat) : Int) z = chkR ((36 : Nat) : Int) (d : Nat) (a : Nat) ((0 : Nat) : Int) z := chk_36 _ _ _ _
  cases h : chkR ((36 : Nat) : Int) (d : Nat) (a : Nat) ((0 : Nat) : Int) z with
  | false =>
    rw [h] at hc
    exact ⟨_, _, _, _, _, _, fun w => decDAIn_bad v 36 d a m _ z w hv ho' (by omega) ud (by omega) ua (by omega) um (by omega) hz (Int.le_trans (by decide) hz0.1) (Int.le_trans hz0.2 (by decide)) hfm (fun W => encode_bad _ _ _ _ _ W hc), fun w => rdecT_bad v 36 d a m z w hv ho' (by omega) id (by omega) ia (by omega) im (by omega) hz2 hrf (fun W => rencode_bad _ _ _ _ _ W h)⟩
  | true =>
    rw [h] at hc
    have e1 := fun W => encode_ok 36 d a 0 z W hc (by omega) (by omega) (by omega) (by omega)
    have e2 := fun W => rencode_ok 36 d a 0 z W h (by omega) (by omega) (by omega) (by omega) (Int.le_trans (by decide) hz0.1) (Int.le_trans hz0.2 (by decide))
    rw [hfm] at e1
    have hw : encW 16 36 d a 0 z = rencW (RF ((36 : Nat) : Int)) 36 d a 0 z := by
      rw [hrf]
      exact enc16_r 36 _ _ _ _ (by omega) (by omega) (by omega) (by decide) hz0.1 (Int.le_trans hz0.2 (by decide))
    rw [← hw] at e2
    dsimp only at e1
    by_cases he : encW 16 36 d a 0 z = (v : Int)
    · rw [he] at e1 e2
      exact ⟨_, _, _, _, _, _, fun w => decDAIn_eq v 36 d a m _ z w hv ho' (by omega) ud (by omega) ua (by omega) um (by omega) hz (Int.le_trans (by decide) hz0.1) (Int.le_trans hz0.2 (by decide)) hfm e1, fun w => rdecT_eq v 36 d a m z w hv ho' (by omega) id (by omega) ia (by omega) im (by omega) hz2 hrf e2⟩
    · have hu : (encW 16 36 d a 0 z != (v : Int)) = true := by simpa using he
      exact ⟨_, _, _, _, _, _, fun w => decDAIn_ne v 36 d a m _ z _ w hv ho' (by omega) ud (by omega) ua (by omega) um (by omega) hz (Int.le_trans (by decide) hz0.1) (Int.le_trans hz0.2 (by decide)) hu hfm e1, fun w => rdecT_ne v 36 d a m z _ w hv ho' (by omega) id (by omega) ia (by omega) im (by omega) hz2 hu hrf e2⟩
theorem same_37 (v : Nat) (hv : v < 4294967296) (ho : v / 16777216 = 37) : Same2 v := by
  have ho' : (v : Int) / 16777216 = ((37 : Nat) : Int) := by omega
  have hfm : FM ((37 : Nat) : Int) = _ := FM_37
  have hrf : RF ((37 : Nat) : Int) = _ := RF_37
  obtain ⟨m, hm⟩ : ∃ m, v % 16777216 = m := ⟨_, rfl⟩
  have um := mask_lu24 v hv
  have im := mask_li24 v hv
  rw [hm] at um im
  obtain ⟨z, hz⟩ : ∃ z, sg24 v = z := ⟨_, rfl⟩
  have hz0 := sg24_le v
  have hz2 : (if (m : Int) < 8388608 then (m : Int) else (m : Int) - 16777216) = z := by rw [← hz]; unfold sg24; rw [hm]; split <;> split <;> omega
  rw [hz] at hz0
  have hc : chkA ((37 : Nat) : Int) (0 : Nat) (0 : Nat) ((0 : Nat) : Int) z = chkR ((37 : Nat) : Int) (0 : Nat) (0 : Nat) ((0 : Nat) : Int) z := chk_37 _ _ _ _
  cases h : chkR ((37 : Nat) : Int) (0 : Nat) (0 : Nat) ((0 : Nat) : Int) z with
  | false =>
    rw [h] at hc
    exact ⟨_, _, _, _, _, _, fun w => decIn_bad v 37 m _ z w hv ho' (by omega) um (by omega) hz (Int.le_trans (by decide) hz0.1) (Int.le_trans hz0.2 (by decide)) hfm (fun W => encode_bad _ _ _ _ _ W hc), fun w => rdecJ_bad v 37 m z w hv ho' (by omega) im (by omega) hz2 hrf (fun W => rencode_bad _ _ _ _ _ W h)⟩
  | true =>
    rw [h] at hc
    have e1 := fun W => encode_ok 37 0 0 0 z W hc (by omega) (by omega) (by omega) (by omega)
    have e2 := fun W => rencode_ok 37 0 0 0 z W h (by omega) (by omega) (by omega) (by omega) (Int.le_trans (by decide) hz0.1) (Int.le_trans hz0.2 (by decide))
    rw [hfm] at e1
    have hw : encW 24 37 0 0 0 z = rencW (RF ((37 : Nat) : Int)) 37 0 0 0 z := by
      rw [hrf]
      exact enc24_r 37 _ (by omega) hz0.1 hz0.2
    rw [← hw] at e2
    dsimp only at e1
    by_cases he : encW 24 37 0 0 0 z = (v : Int)
    · rw [he] at e1 e2
      exact ⟨_, _, _, _, _, _, fun w => decIn_eq v 37 m _ z w hv ho' (by omega) um (by omega) hz (Int.le_trans (by decide) hz0.1) (Int.le_trans hz0.2 (by decide)) hfm e1, fun w => rdecJ_eq v 37 m z w hv ho' (by omega) im (by omega) hz2 hrf e2⟩
    · have hu : (encW 24 37 0 0 0 z != (v : Int)) = true := by simpa using he
      exact ⟨_, _, _, _, _, _, fun w => decIn_ne v 37 m _ z _ w hv ho' (by omega) um (by omega) hz (Int.le_trans (by decide) hz0.1) (Int.le_trans hz0.2 (by decide)) hu hfm e1, fun w => rdecJ_ne v 37 m z _ w hv ho' (by omega) im (by omega) hz2 hu hrf e2⟩
theorem same_38 (v : Nat) (hv : v < 4294967296) (ho : v / 16777216 = 38) : Same2 v := by
  have ho' : (v : Int) / 16777216 = ((38 : Nat) : Int) := by omega
  have hfm : FM ((38 : Nat) : Int) = _ := FM_38
  have hrf : RF ((38 : Nat) : Int) = _ := RF_38
  obtain ⟨m, hm⟩ : ∃ m, v % 16777216 = m := ⟨_, rfl⟩
  have um := mask_lu24 v hv
  have im := mask_li24 v hv
  rw [hm] at um im
  obtain ⟨z, hz⟩ : ∃ z, sg24 v = z := ⟨_, rfl⟩
  have hz0 := sg24_le v
  have hz2 : (if (m : Int) < 8388608 then (m : Int) else (m : Int) - 16777216) = z := by rw [← hz]; unfold sg24; rw [hm]; split <;> split <;> omega
  rw [hz] at hz0
  have hc : chkA ((38 : Nat) : Int) (0 : Nat) (0 : Nat) ((0 : Nat) : Int) z = chkR ((38 : Nat) : Int) (0 : Nat) (0 : Nat) ((0 : Nat) : Int) z := chk_38 _ _ _ _
  cases h : chkR ((38 : Nat) : Int) (0 : Nat) (0 : Nat) ((0 : Nat) : Int) z with
  | false =>
    rw [h] at hc
    exact ⟨_, _, _, _, _, _, fun w => decIn_bad v 38 m _ z w hv ho' (by omega) um (by omega) hz (Int.le_trans (by decide) hz0.1) (Int.le_trans hz0.2 (by decide)) hfm (fun W => encode_bad _ _ _ _ _ W hc), fun w => rdecJ_bad v 38 m z w hv ho' (by omega) im (by omega) hz2 hrf (fun W => rencode_bad _ _ _ _ _ W h)⟩
  | true =>
    rw [h] at hc
    have e1 := fun W => encode_ok 38 0 0 0 z W hc (by omega) (by omega) (by omega) (by omega)
    have e2 := fun W => rencode_ok 38 0 0 0 z W h (by omega) (by omega) (by omega) (by omega) (Int.le_trans (by decide) hz0.1) (Int.le_trans hz0.2 (by decide))
    rw [hfm] at e1
    have hw : encW 24 38 0 0 0 z = rencW (RF ((38 : Nat) : Int)) 38 0 0 0 z := by
      rw [hrf]
      exact enc24_r 38 _ (by omega) hz0.1 hz0.2
    rw [← hw] at e2
    dsimp only at e1
    by_cases he : encW 24 38 0 0 0 z = (v : Int)
    · rw [he] at e1 e2
      exact ⟨_, _, _, _, _, _, fun w => decIn_eq v 38 m _ z w hv ho' (by omega) um (by omega) hz (Int.le_trans (by decide) hz0.1) (Int.le_trans hz0.2 (by decide)) hfm e1, fun w => rdecJ_eq v 38 m z w hv ho' (by omega) im (by omega) hz2 hrf e2⟩
    · have hu : (encW 24 38 0 0 0 z != (v : Int)) = true := by simpa using he
      exact ⟨_, _, _, _, _, _, fun w => decIn_ne v 38 m _ z _ w hv ho' (by omega) um (by omega) hz (Int.le_trans (by decide) hz0.1) (Int.le_trans hz0.2 (by decide)) hu hfm e1, fun w => rdecJ_ne v 38 m z _ w hv ho' (by omega) im (by omega) hz2 hu hrf e2⟩
theorem same_39 (v : Nat) (hv : v < 4294967296) (ho : v / 16777216 = 39) : Same2 v := by
  have ho' : (v : Int) / 16777216 = ((39 : Nat) : Int) := by omega
  have hfm : FM ((39 : Nat) : Int) = _ := FM_39
  have hrf : RF ((39 : Nat) : Int) = _ := RF_39
  obtain ⟨a, ha⟩ : ∃ a, v / 65536 % 16 = a := ⟨_, rfl⟩
  have ua := mask_fu v 65536 hv
  have ia := mask_fi v 65536 hv
  rw [ha] at ua ia
  have hc : chkA ((39 : Nat) : Int) (0 : Nat) (a : Nat) ((0 : Nat) : Int) 0 = chkR ((39 : Nat) : Int) (0 : Nat) (a : Nat) ((0 : Nat) : Int) 0 := chk_39 _ _ _ _
  cases h : chkR ((39 : Nat) : Int) (0 : Nat) (a : Nat) ((0 : Nat) : Int) 0 with
  | false =>
    rw [h] at hc
    exact ⟨_, _, _, _, _, _, fun w => decA_bad v 39 a w hv ho' (by omega) ua (by omega) hfm (fun W => encode_bad _ _ _ _ _ W hc), fun w => rdecG_bad v 39 a w hv ho' (by omega) ia (by omega) hrf (fun W => rencode_bad _ _ _ _ _ W h)⟩
  | true =>
    rw [h] at hc
    have e1 := fun W => encode_ok 39 0 a 0 0 W hc (by omega) (by omega) (by omega) (by omega)
    have e2 := fun W => rencode_ok 39 0 a 0 0 W h (by omega) (by omega) (by omega) (by omega) (by omega) (by omega)
    rw [hfm] at e1
    have hw : encW 0 39 0 a 0 0 = rencW (RF ((39 : Nat) : Int)) 39 0 a 0 0 := by
      rw [hrf]
      exact enc0_r 39 _ _ _ (by omega) (by omega) (by omega)
    rw [← hw] at e2
    dsimp only at e1
    by_cases he : encW 0 39 0 a 0 0 = (v : Int)
    · rw [he] at e1 e2
      exact ⟨_, _, _, _, _, _, fun w => decA_eq v 39 a w hv ho' (by omega) ua (by omega) hfm e1, fun w => rdecG_eq v 39 a w hv ho' (by omega) ia (by omega) hrf e2⟩
    · have hu : (encW 0 39 0 a 0 0 != (v : Int)) = true := by simpa using he
      exact ⟨_, _, _, _, _, _, fun w => decA_ne v 39 a _ w hv ho' (by omega) ua (by omega) hu hfm e1, fun w => rdecG_ne v 39 a _ w hv ho' (by omega) ia (by omega) hu hrf e2⟩
theorem same_40 (v : Nat) (hv : v < 4294967296) (ho : v / 16777216 = 40) : Same2 v := by
  have ho' : (v : Int) / 16777216 = ((40 : Nat) : Int) := by omega
  have hfm : FM ((40 : Nat) : Int) = _ := FM_40
  have hrf : RF ((40 : Nat) : Int) = _ := RF_40
  obtain ⟨a, ha⟩ : ∃ a, v / 65536 % 16 = a := ⟨_, rfl⟩
  have ua := mask_fu v 65536 hv
  have ia := mask_fi v 65536 hv
  rw [ha] at ua ia
  have hc : chkA ((40 : Nat) : Int) (0 : Nat) (a : Nat) ((0 : Nat) : Int) 0 = chkR ((40 : Nat) : Int) (0 : Nat) (a : Nat) ((0 : Nat) : Int) 0 := chk_40 _ _ _ _
  cases h : chkR ((40 : Nat) : Int) (0 : Nat) (a : Nat) ((0 : Nat) : Int) 0 with
  | false =>
    rw [h] at hc
    exact ⟨_, _, _, _, _, _, fun w => decA_bad v 40 a w hv ho' (by omega) ua (by omega) hfm (fun W => encode_bad _ _ _ _ _ W hc), fun w => rdecG_bad v 40 a w hv ho' (by omega) ia (by omega) hrf (fun W => rencode_bad _ _ _ _ _ W h)⟩
  | true =>
    rw [h] at hc
    have e1 := fun W => encode_ok 40 0 a 0 0 W hc (by omega) (by omega) (by omega) (by omega)
    have e2 := fun W => rencode_ok 40 0 a 0 0 W h (by omega) (by omega) (by omega) (by omega) (by omega) (by omega)
    rw [hfm] at e1
    have hw : encW 0 40 0 a 0 0 = rencW (RF ((40 : Nat) : Int)) 40 0 a 0 0 := by
      rw [hrf]
      exact enc0_r 40 _ _ _ (by omega) (by omega) (by omega)
    rw [← hw] at e2
    dsimp only at e1
    by_cases he : encW 0 40 0 a 0 0 = (v : Int)
    · rw [he] at e1 e2
      exact ⟨_, _, _, _, _, _, fun w => decA_eq v 40 a w hv ho' (by omega) ua (by omega) hfm e1, fun w => rdecG_eq v 40 a w hv ho' (by omega) ia (by omega) hrf e2⟩
    · have hu : (encW 0 40 0 a 0 0 != (v : Int)) = true := by simpa using he
      exact ⟨_, _, _, _, _, _, fun w => decA_ne v 40 a _ w hv ho' (by omega) ua (by omega) hu hfm e1, fun w => rdecG_ne v 40 a _ w hv ho' (by omega) ia (by omega) hu hrf e2⟩
theorem same_41 (v : Nat) (hv : v < 4294967296) (ho : v / 16777216 = 41) : Same2 v := by
  have ho' : (v : Int) / 16777216 = ((41 : Nat) : Int) := by omega
  have hfm : FM ((41 : Nat) : Int) = _ := FM_41
  have hrf : RF ((41 : Nat) : Int) = _ := RF_41
  obtain ⟨m, hm⟩ : ∃ m, v % 65536 = m := ⟨_, rfl⟩
  have um := mask_lu16 v hv
  have im := mask_li16 v hv
  rw [hm] at um im
  have hc : chkA ((41 : Nat) : Int) (0 : Nat) (0 : Nat) ((0 : Nat) : Int) m = chkR ((41 : Nat) : Int) (0 : Nat) (0 : Nat) ((0 : Nat) : Int) m := chk_41 _ _ _ _
  cases h : chkR ((41 : Nat) : Int) (0 : Nat) (0 : Nat) ((0 : Nat) : Int) m with
  | false =>
    rw [h] at hc
    exact ⟨_, _, _, _, _, _, fun w => decIp_bad v 41 m _ _ w hv ho' (by omega) um (by omega) (by omega) hfm (fun W => encode_bad _ _ _ _ _ W hc), fun w => rdecW_bad v 41 m w hv ho' (by omega) im (by omega) hrf (fun W => rencode_bad _ _ _ _ _ W h)⟩
  | true =>
    rw [h] at hc
    have e1 := fun W => encode_ok 41 0 0 0 m W hc (by omega) (by omega) (by omega) (by omega)
    have e2 := fun W => rencode_ok 41 0 0 0 m W h (by omega) (by omega) (by omega) (by omega) (by omega) (by omega)
    rw [hfm] at e1
    have hw : encW 16 41 0 0 0 m = rencW (RF ((41 : Nat) : Int)) 41 0 0 0 m := by
      rw [hrf]
      exact enc16_r 41 _ _ _ _ (by omega) (by omega) (by omega) (by decide) (by omega) (by omega)
    rw [← hw] at e2
    dsimp only at e1
    by_cases he : encW 16 41 0 0 0 m = (v : Int)
    · rw [he] at e1 e2
      exact ⟨_, _, _, _, _, _, fun w => decIp_eq v 41 m _ _ w hv ho' (by omega) um (by omega) (by omega) hfm e1, fun w => rdecW_eq v 41 m w hv ho' (by omega) im (by omega) hrf e2⟩
    · have hu : (encW 16 41 0 0 0 m != (v : Int)) = true := by simpa using he
      exact ⟨_, _, _, _, _, _, fun w => decIp_ne v 41 m _ _ _ w hv ho' (by omega) um (by omega) (by omega) hu hfm e1, fun w => rdecW_ne v 41 m _ w hv ho' (by omega) im (by omega) hu hrf e2⟩
theorem same_42 (v : Nat) (hv : v < 4294967296) (ho : v / 16777216 = 42) : Same2 v := by
  have ho' : (v : Int) / 16777216 = ((42 : Nat) : Int) := by omega
  have hfm : FM ((42 : Nat) : Int) = _ := FM_42
  have hrf : RF ((42 : Nat) : Int) = _ := RF_42
  obtain ⟨m, hm⟩ : ∃ m, v % 65536 = m := ⟨_, rfl⟩
  have um := mask_lu16 v hv
  have im := mask_li16 v hv
  rw [hm] at um im
  have hc : chkA ((42 : Nat) : Int) (0 : Nat) (0 : Nat) ((0 : Nat) : Int) m = chkR ((42 : Nat) : Int) (0 : Nat) (0 : Nat) ((0 : Nat) : Int) m := chk_42 _ _ _ _
  cases h : chkR ((42 : Nat) : Int) (0 : Nat) (0 : Nat) ((0 : Nat) : Int) m with
  | false =>
    rw [h] at hc
    exact ⟨_, _, _, _, _, _, fun w => decIp_bad v 42 m _ _ w hv ho' (by omega) um (by omega) (by omega) hfm (fun W => encode_bad _ _ _ _ _ W hc), fun w => rdecW_bad v 42 m w hv ho' (by omega) im (by omega) hrf (fun W => rencode_bad _ _ _ _ _ W h)⟩
  | true =>
    rw [h] at hc
    have e1 := fun W => encode_ok 42 0 0 0 m W hc (by omega) (by omega) (by omega) (by omega)
    have e2 := fun W => rencode_ok 42 0 0 0 m W h (by omega) (by omega) (by omega) (by omega) (by omega) (by omega)
    rw [hfm] at e1
    have hw : encW 16 42 0 0 0 m = rencW (RF ((42 : Nat) : Int)) 42 0 0 0 m := by
      rw [hrf]
      exact enc16_r 42 _ _ _ _ (by omega) (by omega) (by omega) (by decide) (by omega) (by omega)
    rw [← hw] at e2
    dsimp only at e1
    by_cases he : encW 16 42 0 0 0 m = (v : Int)
    · rw [he] at e1 e2
      exact ⟨_, _, _, _, _, _, fun w => decIp_eq v 42 m _ _ w hv ho' (by omega) um (by omega) (by omega) hfm e1, fun w => rdecW_eq v 42 m w hv ho' (by omega) im (by omega) hrf e2⟩
    · have hu : (encW 16 42 0 0 0 m != (v : Int)) = true := by simpa using he
      exact ⟨_, _, _, _, _, _, fun w => decIp_ne v 42 m _ _ _ w hv ho' (by omega) um (by omega) (by omega) hu hfm e1, fun w => rdecW_ne v 42 m _ w hv ho' (by omega) im (by omega) hu hrf e2⟩
open Go.RowKit
theorem same_none (v o : Nat) (hv : v < 4294967296) (ho : v / 16777216 = o) (h : o = 0 ∨ 42 < o) : Same2 v := by
  have ho' : (v : Int) / 16777216 = (o : Int) := by omega
  have hfm : FM (o : Int) = (⟨#[]⟩, 0, 0, 0, false) := by
    rcases h with rfl | h
    · rfl
    · exact FM_none (by omega)
  have hrf : RF (o : Int) = 32 := by unfold RF; repeat rw [if_neg (by omega)]
  have hc : chkR (o : Int) (0 : Nat) (0 : Nat) (0 : Nat) 0 = false := by
    unfold chkR
    rw [hrf]
    rfl
  exact ⟨_, _, _, _, _, _, fun w => decNone v o w hv ho' (by omega) hfm, fun w => rdecN_bad v o w hv ho' (by omega) hrf (fun W => rencode_bad _ _ _ _ _ W hc)⟩
theorem same_all (v : Nat) (hv : v < 4294967296) : Same2 v := by
  obtain ⟨o, ho⟩ : ∃ o, v / 16777216 = o := ⟨_, rfl⟩
  by_cases h : o = 0 ∨ 42 < o
  · exact same_none v o hv ho h
  · by_cases h2 : o ≤ 17
    · exact same_R v o hv ho (by omega) h2
    · have hc : o = 18 ∨ o = 19 ∨ o = 20 ∨ o = 21 ∨ o = 22 ∨ o = 23 ∨ o = 24 ∨ o = 25 ∨ o = 26 ∨ o = 27 ∨ o = 28 ∨ o = 29 ∨ o = 30 ∨ o = 31 ∨ o = 32 ∨ o = 33 ∨ o = 34 ∨ o = 35 ∨ o = 36 ∨ o = 37 ∨ o = 38 ∨ o = 39 ∨ o = 40 ∨ o = 41 ∨ o = 42 := by omega
      rcases hc with rfl | rfl | rfl | rfl | rfl | rfl | rfl | rfl | rfl | rfl | rfl | rfl | rfl | rfl | rfl | rfl | rfl | rfl | rfl | rfl | rfl | rfl | rfl | rfl | rfl
      · exact same_18 v hv ho
      · exact same_19 v hv ho
      · exact same_20 v hv ho
      · exact same_21 v hv ho
      · exact same_22 v hv ho
      · exact same_23 v hv ho
      · exact same_24 v hv ho
      · exact same_25 v hv ho
      · exact same_26 v hv ho
      · exact same_27 v hv ho
      · exact same_28 v hv ho
      · exact same_29 v hv ho
      · exact same_30 v hv ho
      · exact same_31 v hv ho
      · exact same_32 v hv ho
      · exact same_33 v hv ho
      · exact same_34 v hv ho
      · exact same_35 v hv ho
      · exact same_36 v hv ho
      · exact same_37 v hv ho
      · exact same_38 v hv ho
      · exact same_39 v hv ho
      · exact same_40 v hv ho
      · exact same_41 v hv ho
      · exact same_42 v hv ho
theorem dec_ok (v : Int) (h : ∃ n : Nat, v = (n : Int) ∧ n < 4294967296) : ∃ op imm er, DecOK v op imm er := by
  obtain ⟨n, rfl, hn⟩ := h
  obtain ⟨op, d, a, b, i, er, h1, h2⟩ := same_all n hn
  exact ⟨op, i, er, d, a, b, h1, h2⟩
end Go.Proofs.YtlgdfacaeahcaaaDoor

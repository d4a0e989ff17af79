/- Walks: both IsSymbols. Conditions: the program's own table is laid. -/
import Derived.Test.YteoglkofeogknaaGreatDoorIA
set_option linter.unusedVariables false
set_option linter.unusedSimpArgs false
namespace Go.Proofs.YteoglkofeogknaaGreatDoor
open Go.RowKit
theorem toList_empty {s : ByteArray} (h : 0 < s.size) : s.toList.isEmpty = false := by
  rw [Lib.toList_data]
  cases hd : s.data.toList with
  | nil => have := size_data s; rw [hd, List.length_nil] at this; omega
  | cons _ _ => rfl
theorem toList_nil {s : ByteArray} (h : s.size = 0) : s.toList = [] := by
  rw [Lib.toList_data]
  exact List.length_eq_zero_iff.1 ((size_data s).trans h)
set_option maxHeartbeats 2000000 in
set_option maxRecDepth 100000 in
theorem sym_any (s : ByteArray) (w : World) (hs : s.size ≤ maxLen) (h : OpsAt w) (h0 : 0 < w.heap.size) :
    Calls Tryz.prog 36 #[.string s] w fun e w' => e = .returned (.bool (symA s)) ∧ Below w.heap.size w w' := by
  obtain ⟨R, hR⟩ : ∃ R, symA s = R := ⟨_, rfl⟩
  have HR := Lib.hid hR
  have HO := Lib.hid h
  rw [hR]
  clear hR h
  unfold maxLen at hs
  by_cases hz : s.size = 0
  · have h1 := toList_nil hz
    have h2 : s.toList.isEmpty = true := by rw [h1]; rfl
    have HF := Lib.hid (sym_false HR.out (Or.inl hz))
    clear hz
    go_enter Tryz.func36, Tryz.ntmps36
    go_wp2
    go_ret
    exact ⟨ret_bool HF.out.symm, Below.refl _ _⟩
  have hpos : 0 < s.size := by omega
  have he := toList_empty hpos
  clear hz
  by_cases hlong : 63 < s.size
  · have HF := Lib.hid (sym_false HR.out (Or.inr (Or.inl hlong)))
    go_enter Tryz.func36, Tryz.ntmps36
    go_wp2
    go_ret
    exact ⟨ret_bool HF.out.symm, Below.refl _ _⟩
  have hshort : s.size ≤ 63 := by omega
  clear hlong
  have hc0 := c0_eq s hpos
  obtain ⟨c, hc⟩ : ∃ c, c0 s = c := ⟨_, rfl⟩
  rw [hc] at hc0
  have HC := Lib.hid hc
  clear hc
  cases hd : digB c with
  | true =>
    have HF := Lib.hid (sym_false HR.out (Or.inr (Or.inr (Or.inl (by rw [HC.out]; exact hd)))))
    go_enter Tryz.func36, Tryz.ntmps36
    go_wp2_with (go_at_call 57; refine (digit_any _ _).mono ?_; rintro e w' ⟨rfl, rfl⟩)
    go_ret
    exact ⟨ret_bool HF.out.symm, Below.refl _ _⟩
  | false =>
    have HD := Lib.hid hd
    go_enter Tryz.func36, Tryz.ntmps36
    go_wp2_with (go_at_call 57; refine (digit_any _ _).mono ?_; rintro e w' ⟨rfl, rfl⟩)
    clear hd
    go_loop [19] (fun i => ∃ k : Nat, k ≤ s.size ∧ i = .int .i64 k ∧ Hid (((chars s).take k).all okC = true)) (fun i => s.size - (intOf i).toNat)
    case atStart => exact ⟨0, Nat.zero_le _, rfl, rfl⟩
    case round =>
      obtain ⟨k, hk, rfl, HA⟩ := hrel
      by_cases hlt : k < s.size
      · have hck := chars_get s k hlt
        obtain ⟨x, hx⟩ : ∃ x : Int, (s[k].toNat : Int) = x := ⟨_, rfl⟩
        rw [hx] at hck
        have HCK := Lib.hid hck
        clear hck
        cases hl : letB x with
        | true =>
          have ho : okC x = true := by simp [letB] at hl; simp [okC, letR]; omega
          have HN := Lib.hid (all_step HA.out HCK.out ho)
          clear ho
          go_wp2_with (first | (go_at_call 57; refine (digit_any _ _).mono ?_; rintro e w' ⟨rfl, rfl⟩) | (go_at_call 58; refine (letter_any _ _).mono ?_; rintro e w' ⟨rfl, rfl⟩))
          go_round
          case rel => exact ⟨k + 1, by omega, by go_num, HN.out⟩
          case measure => simp [intOf]; omega
        | false =>
          cases hg : digB x with
          | true =>
            have ho : okC x = true := by simp [okC, hg]
            have HN := Lib.hid (all_step HA.out HCK.out ho)
            clear ho
            go_wp2_with (first | (go_at_call 57; refine (digit_any _ _).mono ?_; rintro e w' ⟨rfl, rfl⟩) | (go_at_call 58; refine (letter_any _ _).mono ?_; rintro e w' ⟨rfl, rfl⟩))
            go_round
            case rel => exact ⟨k + 1, by omega, by go_num, HN.out⟩
            case measure => simp [intOf]; omega
          | false =>
            cases h1 : (x != 95) with
            | false =>
              have ho : okC x = true := by simp at h1; simp [okC, letR, h1]
              have HN := Lib.hid (all_step HA.out HCK.out ho)
              clear ho
              go_wp2_with (first | (go_at_call 57; refine (digit_any _ _).mono ?_; rintro e w' ⟨rfl, rfl⟩) | (go_at_call 58; refine (letter_any _ _).mono ?_; rintro e w' ⟨rfl, rfl⟩))
              go_round
              case rel => exact ⟨k + 1, by omega, by go_num, HN.out⟩
              case measure => simp [intOf]; omega
            | true =>
              cases h2 : (x != 46) with
              | false =>
                have ho : okC x = true := by simp at h2; simp [okC, letR, h2]
                have HN := Lib.hid (all_step HA.out HCK.out ho)
                clear ho
                go_wp2_with (first | (go_at_call 57; refine (digit_any _ _).mono ?_; rintro e w' ⟨rfl, rfl⟩) | (go_at_call 58; refine (letter_any _ _).mono ?_; rintro e w' ⟨rfl, rfl⟩))
                go_round
                case rel => exact ⟨k + 1, by omega, by go_num, HN.out⟩
                case measure => simp [intOf]; omega
              | true =>
                cases h3 : (x != 36) with
                | false =>
                  have ho : okC x = true := by simp at h3; simp [okC, letR, h3]
                  have HN := Lib.hid (all_step HA.out HCK.out ho)
                  clear ho
                  go_wp2_with (first | (go_at_call 57; refine (digit_any _ _).mono ?_; rintro e w' ⟨rfl, rfl⟩) | (go_at_call 58; refine (letter_any _ _).mono ?_; rintro e w' ⟨rfl, rfl⟩))
                  go_round
                  case rel => exact ⟨k + 1, by omega, by go_num, HN.out⟩
                  case measure => simp [intOf]; omega
                | true =>
                  have ho : okC x = false := by
                    simp [letB] at hl
                    simp at h1 h2 h3
                    simp [okC, letR, hg]
                    omega
                  have HF := Lib.hid (sym_false HR.out (Or.inr (Or.inr (Or.inr (Or.inl (all_not HCK.out ho))))))
                  clear ho
                  go_wp2_with (first | (go_at_call 57; refine (digit_any _ _).mono ?_; rintro e w' ⟨rfl, rfl⟩) | (go_at_call 58; refine (letter_any _ _).mono ?_; rintro e w' ⟨rfl, rfl⟩))
                  go_ret
                  exact ⟨ret_bool HF.out.symm, Below.refl _ _⟩
      · have hall : (chars s).all okC = true := by
          have := HA.out
          rwa [List.take_of_length_le (by rw [chars_len]; omega)] at this
        have HALL := Lib.hid hall
        clear hall
        go_wp2_with fail
        refine (dirs_any s w).mono ?_
        rintro e w1 ⟨rfl, rfl⟩
        cases hdir : amongB (dirA ++ dirB) s with
        | true =>
          have HF := Lib.hid (sym_false HR.out (Or.inr (Or.inr (Or.inr (Or.inr (Or.inl hdir))))))
          go_wp2_with fail
          go_ret
          exact ⟨ret_bool HF.out.symm, (Below.refl _ _).alloc (Nat.le_refl _) _⟩
        | false =>
          have HDIR := Lib.hid hdir
          clear hdir
          have hb1 : ∀ o, Below w.heap.size w (w.alloc o) := fun o => (Below.refl _ _).alloc (Nat.le_refl _) o
          have HB1 := Lib.hid hb1
          clear hb1
          cases hr : (c == 114) with
          | false =>
            have hreg : regB s = false := by unfold regB; rw [HC.out, hr]; rfl
            have HL := Lib.hid (sym_last HR.out hpos hshort (by rw [HC.out]; exact HD.out) HALL.out HDIR.out hreg)
            clear hreg
            go_wp2_with fail
            refine (operation_any s _ (HO.out.below h0 (HB1.out _))).mono ?_
            rintro e w1 ⟨rfl, rfl⟩
            go_wp2_with fail
            go_ret
            exact ⟨ret_bool HL.out.symm, HB1.out _⟩
          | true =>
            by_cases h1 : 1 < s.size
            · have htr := fun W => Tryz.strings_Trim_ascii (s.extract 1 s.size) ⟨#[48, 49, 50, 51, 52, 53, 54, 55, 56, 57]⟩ W (by rw [Lib.size_eq, Lib.extract_data]; simp; omega) (by decide) (ascii_of_all (by decide))
              have htr2 : ∀ W, Calls Tryz.prog 60 #[.string (s.extract 1 s.size), .string ⟨#[48, 49, 50, 51, 52, 53, 54, 55, 56, 57]⟩] W (fun e w' => ∃ t : ByteArray, e = .returned (.string t) ∧ t.toList.isEmpty = ((chars s).drop 1).all digB ∧ Below W.heap.size W w') := fun W => (htr W).mono (by
                rintro e w' ⟨rfl, hb⟩
                refine ⟨_, rfl, ?_, hb⟩
                rw [Lib.toList_data]
                exact trim_digits s)
              have HTR := Lib.hid htr2
              clear htr htr2
              go_wp2_with fail
              refine (HTR.out _).mono ?_
              rintro e w1 ⟨t, rfl, ht, hb1⟩
              have hbw : Below w.heap.size w w1 := (HB1.out _).trans (hb1.mono (HB1.out _).size)
              have HBW := Lib.hid hbw
              clear hb1 hbw
              cases hreg : ((chars s).drop 1).all digB with
              | true =>
                rw [hreg] at ht
                have hnil : t.toList = [] := List.isEmpty_iff.1 ht
                have HF := Lib.hid (sym_false HR.out (Or.inr (Or.inr (Or.inr (Or.inr (Or.inr (by unfold regB; rw [HC.out, hr, hreg]; simp [h1])))))))
                clear hreg
                go_wp2_with fail
                go_ret
                exact ⟨ret_bool HF.out.symm, HBW.out⟩
              | false =>
                rw [hreg] at ht
                have HL := Lib.hid (sym_last HR.out hpos hshort (by rw [HC.out]; exact HD.out) HALL.out HDIR.out (by unfold regB; rw [hreg]; simp))
                clear hreg
                go_wp2_with fail
                refine (operation_any s _ (HO.out.below h0 HBW.out)).mono ?_
                rintro e w2 ⟨rfl, rfl⟩
                go_wp2_with fail
                go_ret
                exact ⟨ret_bool HL.out.symm, HBW.out⟩
            · have hd1 : decide (1 < s.size) = false := by simpa using h1
              have HL := Lib.hid (sym_last HR.out hpos hshort (by rw [HC.out]; exact HD.out) HALL.out HDIR.out (by unfold regB; rw [hd1]; simp))
              go_wp2_with fail
              refine (operation_any s _ (HO.out.below h0 (HB1.out _))).mono ?_
              rintro e w1 ⟨rfl, rfl⟩
              go_wp2_with fail
              go_ret
              exact ⟨ret_bool HL.out.symm, HB1.out _⟩
open Go.RowKit
def symR (s : ByteArray) : Bool :=
  decide (0 < s.size) && decide (s.size ≤ 63) && letR (c0 s) && !amongB (opsL ++ dirB ++ dirA) s && (chars s).all okC && !regB s
def regK (s : ByteArray) (k : Nat) : Bool := c0 s == 114 && decide (1 < s.size) && (((chars s).take k).drop 1).all digB
theorem regK_zero {s : ByteArray} {x : Int} (hx : (chars s)[0]? = some x) : regK s 1 = regK s 0 := by
  unfold regK
  have : ((chars s).take 1).drop 1 = [] := List.drop_of_length_le (by simp; omega)
  rw [this]
  rfl
theorem regK_step {s : ByteArray} {k : Nat} {x : Int} (h : 0 < k) (hx : (chars s)[k]? = some x) : regK s (k + 1) = (regK s k && digB x) := by
  obtain ⟨hk, rfl⟩ := List.getElem?_eq_some_iff.1 hx
  unfold regK
  rw [List.take_succ_eq_append_getElem hk, List.drop_append_of_le_length (by simp; omega), List.all_append]
  simp [Bool.and_assoc]
theorem regK_all (s : ByteArray) (k : Nat) (h : s.size ≤ k) : regK s k = regB s := by
  unfold regK regB
  rw [List.take_of_length_le (by rw [chars_len]; exact h)]
theorem symR_false {s : ByteArray} {R : Bool} (hR : symR s = R) (h : s.size = 0 ∨ 63 < s.size ∨ letR (c0 s) = false ∨ (chars s).all okC = false ∨ amongB (opsL ++ dirB ++ dirA) s = true) : R = false := by
  rw [← hR]
  unfold symR
  generalize amongB (opsL ++ dirB ++ dirA) s = a at h ⊢
  rcases h with h | h | h | h | h
  · simp [h]
  · have : decide (s.size ≤ 63) = false := by simp; omega
    simp [this]
  · simp [h]
  · simp [h]
  · simp [h]
theorem symR_last {s : ByteArray} {R : Bool} (hR : symR s = R) (h1 : 0 < s.size) (h2 : s.size ≤ 63) (h3 : letR (c0 s) = true) (h4 : (chars s).all okC = true) (h5 : amongB (opsL ++ dirB ++ dirA) s = false) : R = !regB s := by
  rw [← hR]
  unfold symR
  rw [h5]
  simp [h1, h2, h3, h4]
/-- The two texts call the same strings symbols. -/
theorem sym_same (s : ByteArray) : symA s = symR s := by
  unfold symA symR
  rw [among_words]
  by_cases h0 : 0 < s.size
  · have hd : ∀ c, letR c = true → digB c = false := fun c h => by simp [letR] at h; simp [digB]; omega
    have hm : (chars s).all okC = true → okC (c0 s) = true := fun h => by
      rw [List.all_eq_true] at h
      refine h _ ?_
      unfold c0
      cases hc : chars s with
      | nil => have := chars_len s; rw [hc] at this; simp at this; omega
      | cons a r => simp
    generalize amongB (dirA ++ dirB) s = x1
    generalize amongB opsL s = x2
    generalize (chars s).all okC = x3 at hm ⊢
    have hd' := hd (c0 s)
    unfold okC at hm
    generalize letR (c0 s) = x4 at hm hd' ⊢
    generalize digB (c0 s) = x5 at hm hd' ⊢
    generalize regB s = x6
    generalize decide (0 < s.size) = x7
    generalize decide (s.size ≤ 63) = x8
    revert hm hd'
    revert x1 x2 x3 x4 x5 x6 x7 x8
    decide
  · have : decide (0 < s.size) = false := by simpa using h0
    rw [this]
    rfl
end Go.Proofs.YteoglkofeogknaaGreatDoor

/- Walks: lex.IsKey, IsName. Conditions: the table of keywords as the program's text lays it. Walks: isBuilt, word, (bounds).reg, ruleOf. No conditions. -/
import Derived.Test.YtlmoblmkhicoeaaGreatDoorI2
import Derived.Test.YtlmoblmkhicoeaaGreatDoorShelf
set_option linter.unusedVariables false
set_option linter.unusedSimpArgs false
namespace Go.Proofs.YtlmoblmkhicoeaaGreatDoor
open Go.RowKit
theorem among_iff (ss : List ByteArray) (s : ByteArray) : amongB ss s = true ↔ s ∈ ss := by
  unfold amongB
  rw [List.any_eq_true]
  constructor
  · rintro ⟨x, hx, he⟩
    have : x = s := eq_of_toList (by simpa using he)
    exact this ▸ hx
  · intro h
    exact ⟨s, h, by simp⟩
theorem contains_among (ss : List ByteArray) (s : ByteArray) : Lib.containsS ss s = amongB ss s := by
  rw [Bool.eq_iff_iff, Lib.containsS_iff, among_iff]
/-- The table of keywords. -/
def KeysAt (w : World) : Prop := ∀ j, j < keysL.length → w.cell? ⟨1, 0 + j, none⟩ = some (.string (keysL.getD j ByteArray.empty))
theorem KeysAt.lt {w : World} (h : KeysAt w) : 1 < w.heap.size := cell_lt (h 0 (by decide))
theorem KeysAt.keeps {w w' : World} {F : Nat → Prop} (h : KeysAt w) (hk : Keeps F w w') (hF : ¬ F 1) : KeysAt w' := fun j hj => (hk.cell (p := ⟨1, 0 + j, none⟩) h.lt hF).trans (h j hj)
theorem KeysAt.below {w w' : World} (h : KeysAt w) (hb : Below w.heap.size w w') : KeysAt w' := h.keeps (keeps_of_below (fun _ => False) hb) id
theorem isKey_any (s : ByteArray) (w : World) (h : KeysAt w) : Calls Tryz.prog 93 #[.string s] w fun e w' => e = .returned (.bool (amongB keysL s)) ∧ w' = w := by
  have hc := Tryz.slices_Contains_string 1 0 20 20 keysL s w (by decide) (by decide) h
  have ht : keysL.take 20 = keysL := rfl
  rw [ht, contains_among] at hc
  have HC := Lib.hid hc
  clear hc ht h
  go_enter Tryz.func93, Tryz.ntmps93
  go_wp2_with fail
  refine HC.out.mono ?_
  rintro e w' ⟨rfl, rfl⟩
  go_wp2_with fail
  go_ret
  exact ⟨rfl, rfl⟩
theorem isEmpty_of (s : ByteArray) (h : 0 < s.size) : s.toList.isEmpty = false := by
  cases hl : s.toList with
  | nil =>
    have h2 : s.data.toList = [] := by rw [← hl, Lib.toList_data]
    have h4 := congrArg List.length h2
    rw [Array.length_toList] at h4
    exact absurd (show s.size = 0 from h4) (by omega)
  | cons _ _ => rfl
theorem isEmpty_nil (s : ByteArray) (h : ¬ 0 < s.size) : s.toList.isEmpty = true := by
  have h2 : s.data.toList = [] := by
    apply List.length_eq_zero_iff.1
    rw [Array.length_toList]
    exact (show s.size = 0 by omega)
  rw [Lib.toList_data, h2]; rfl
set_option maxRecDepth 100000 in
set_option maxHeartbeats 2000000 in
theorem isName_any (s : ByteArray) (w : World) (hs : s.size ≤ maxLen) (hk : KeysAt w) : Calls Tryz.prog 72 #[.string s] w fun e w' => e = .returned (.bool (isNameB s)) ∧ Below w.heap.size w w' := by
  have hs' := hs
  unfold maxLen at hs
  have hblk : Blk (w.alloc (.cells #[.string s, .int .i64 0] 161)) w.heap.size 161 #[.string s, .int .i64 0] := Blk.new _ _ _
  have HW := Lib.hid (word_any s w.heap.size _ hblk hs')
  have HB := Lib.hid ((Below.refl w.heap.size w).alloc (Nat.le_refl _) (.cells #[.string s, .int .i64 0] 161))
  have HK := Lib.hid hk
  have hklt := hk.lt
  clear hk hblk hs'
  by_cases h0 : 0 < s.size
  · have e0 := isEmpty_of s h0
    by_cases h1 : s.size ≤ 31
    · obtain ⟨c, hc⟩ : ∃ c : Nat, (s[0]'h0).toNat = c := ⟨_, rfl⟩
      have LQ := Lib.hid (fun w => letter_any c w)
      cases hl : letterB c with
      | true =>
        rw [hl] at LQ
        have hfin : isNameB s = (s.data.toList.all (fun c => wcB c.toNat) && !amongB keysL s) := by simp [isNameB, h0, h1, hc, hl]
        have HFIN := Lib.hid hfin
        clear hfin hl
        go_enter Tryz.func72, Tryz.ntmps72
        go_wp2_with fail
        refine (LQ.out _).mono ?_
        rintro e w1 ⟨rfl, rfl⟩
        go_wp2_with fail
        refine HW.out.mono ?_
        rintro e w1 ⟨r, rfl, hr, hkp⟩
        have HB1 := Lib.hid ((HB.out).trans (hkp.toBelow (by simp) (fun k hk => by omega)))
        have HKK := Lib.hid (HK.out.below HB1.out)
        have KQ := Lib.hid (isKey_any s w1 HKK.out)
        clear hkp
        cases ha : s.data.toList.all (fun c => wcB c.toNat) with
        | true =>
          rw [ha] at hr HFIN
          clear ha
          go_wp2_with fail
          refine KQ.out.mono ?_
          rintro e w2 ⟨rfl, rfl⟩
          cases hka : amongB keysL s with
          | true =>
            rw [hka] at HFIN
            go_wp2_with fail
            go_ret
            exact ⟨ret_bool (by rw [HFIN.out]; rfl), HB1.out⟩
          | false =>
            rw [hka] at HFIN
            go_wp2_with fail
            go_ret
            exact ⟨ret_bool (by rw [HFIN.out]; rfl), HB1.out⟩
        | false =>
          rw [ha] at hr HFIN
          clear ha
          go_wp2_with fail
          go_ret
          exact ⟨ret_bool (by rw [HFIN.out]; rfl), HB1.out⟩
      | false =>
        rw [hl] at LQ
        have hfin : isNameB s = false := by simp [isNameB, h0, h1, hc, hl]
        have HFIN := Lib.hid hfin
        clear hfin hl
        go_enter Tryz.func72, Tryz.ntmps72
        go_wp2_with fail
        refine (LQ.out _).mono ?_
        rintro e w1 ⟨rfl, rfl⟩
        go_wp2_with fail
        go_ret
        exact ⟨ret_bool HFIN.out.symm, HB.out⟩
    · have hfin : isNameB s = false := by simp [isNameB, h0, h1]
      have HFIN := Lib.hid hfin
      clear hfin
      go_enter Tryz.func72, Tryz.ntmps72
      go_wp2_with fail
      go_ret
      exact ⟨ret_bool HFIN.out.symm, HB.out⟩
  · have e0 := isEmpty_nil s h0
    have hfin : isNameB s = false := by simp [isNameB, h0]
    have HFIN := Lib.hid hfin
    clear hfin
    go_enter Tryz.func72, Tryz.ntmps72
    go_wp2_with fail
    go_ret
    exact ⟨ret_bool HFIN.out.symm, HB.out⟩
end Go.Proofs.YtlmoblmkhicoeaaGreatDoor
namespace Go.Proofs.YtlmoblmkhicoeaaGreatDoor
open Go.RowKit
theorem isBuilt_any (s : ByteArray) (w : World) : Calls Tryz.prog 108 #[.string s] w fun e w' => e = .returned (.bool (builtL s).isSome) ∧ w' = w := by
  have HB := Lib.hid (built_any s w)
  have HV := Lib.hid (show ∃ n a, builtV s = .tuple #[.int .i64 n, .bool a, .bool (builtL s).isSome] by
    unfold builtV
    cases builtL s with
    | none => exact ⟨_, _, rfl⟩
    | some p => exact ⟨_, _, rfl⟩)
  go_enter Tryz.func108, Tryz.ntmps108
  go_wp2_with fail
  refine HB.out.mono ?_
  rintro e w1 ⟨rfl, rfl⟩
  obtain ⟨n, a, hv⟩ := HV.out
  rw [hv]
  go_wp2_with fail
  go_ret
  exact ⟨rfl, rfl⟩
theorem tx_any (k : TxK) (s : ByteArray) (w : World) (hs : s.size ≤ maxLen) (hk : KeysAt w) : Calls Tryz.prog (txF k) #[.string s] w fun e w' => e = .returned (.bool (txB k s)) ∧ Below w.heap.size w w' := by
  cases k
  · exact (empty_any s w).mono (fun e w' h => ⟨h.1, h.2 ▸ Below.refl _ _⟩)
  · exact isName_any s w hs hk
  · exact (isBuilt_any s w).mono (fun e w' h => ⟨h.1, h.2 ▸ Below.refl _ _⟩)
def wordsV : Value := .agg #[.string ⟨#[97, 100, 100]⟩, .string ⟨#[115, 117, 98]⟩, .string ⟨#[109, 117, 108]⟩, .string ⟨#[100, 105, 118]⟩, .string ⟨#[100, 105, 118, 117]⟩, .string ⟨#[114, 101, 109]⟩, .string ⟨#[114, 101, 109, 117]⟩, .string ⟨#[97, 110, 100]⟩, .string ⟨#[111, 114]⟩, .string ⟨#[120, 111, 114]⟩, .string ⟨#[115, 104, 108]⟩, .string ⟨#[115, 104, 114]⟩, .string ⟨#[115, 104, 114, 117]⟩, .string ⟨#[108, 116]⟩, .string ⟨#[108, 116, 117]⟩, .string ⟨#[101, 113]⟩, .string ⟨#[110, 101]⟩]
theorem words_at (w : World) : ∀ j, j < 17 → ∃ r, (Instr.index 176 wordsV (.int .i64 (j : Nat))).run Tryz.prog w = .ok (.string r) w
  | 0, _ => ⟨⟨#[97, 100, 100]⟩, by kernel_rfl⟩
  | 1, _ => ⟨⟨#[115, 117, 98]⟩, by kernel_rfl⟩
  | 2, _ => ⟨⟨#[109, 117, 108]⟩, by kernel_rfl⟩
  | 3, _ => ⟨⟨#[100, 105, 118]⟩, by kernel_rfl⟩
  | 4, _ => ⟨⟨#[100, 105, 118, 117]⟩, by kernel_rfl⟩
  | 5, _ => ⟨⟨#[114, 101, 109]⟩, by kernel_rfl⟩
  | 6, _ => ⟨⟨#[114, 101, 109, 117]⟩, by kernel_rfl⟩
  | 7, _ => ⟨⟨#[97, 110, 100]⟩, by kernel_rfl⟩
  | 8, _ => ⟨⟨#[111, 114]⟩, by kernel_rfl⟩
  | 9, _ => ⟨⟨#[120, 111, 114]⟩, by kernel_rfl⟩
  | 10, _ => ⟨⟨#[115, 104, 108]⟩, by kernel_rfl⟩
  | 11, _ => ⟨⟨#[115, 104, 114]⟩, by kernel_rfl⟩
  | 12, _ => ⟨⟨#[115, 104, 114, 117]⟩, by kernel_rfl⟩
  | 13, _ => ⟨⟨#[108, 116]⟩, by kernel_rfl⟩
  | 14, _ => ⟨⟨#[108, 116, 117]⟩, by kernel_rfl⟩
  | 15, _ => ⟨⟨#[101, 113]⟩, by kernel_rfl⟩
  | 16, _ => ⟨⟨#[110, 101]⟩, by kernel_rfl⟩
  | _ + 17, h => absurd h (by omega)
set_option maxRecDepth 100000 in
theorem word_op_any (n : Int) (h : 3 ≤ n ∧ n ≤ 19) (w : World) : Calls Tryz.prog 100 #[.int .i64 n] w fun e w' => ∃ r, e = .returned (.string r) ∧ w' = w := by
  obtain ⟨h1, h2⟩ := h
  obtain ⟨j, hj⟩ : ∃ j : Nat, n - 3 = (j : Int) := ⟨(n - 3).toNat, by omega⟩
  obtain ⟨r, hr⟩ := words_at w j (by omega)
  rw [← hj] at hr
  unfold wordsV at hr
  clear hj j
  go_enter Tryz.func100, Tryz.ntmps100
  go_wp2
  go_ret
  exact ⟨_, rfl, rfl⟩
def bnds (regs sl st : Int) : Value := .agg #[.int .i64 regs, .int .i64 sl, .int .i64 st]
theorem reg_any (regs sl st r : Int) (u m : Bool) (w : World) : Calls Tryz.prog 86 #[bnds regs sl st, .int .i64 r, .bool u, .bool m] w fun e w' => e = .returned (.bool (regB regs r u m)) ∧ Below w.heap.size w w' := by
  unfold bnds
  rcases (show r = -1 ∨ (r ≠ -1 ∧ r < 0) ∨ (r ≠ -1 ∧ 0 ≤ r ∧ r < regs) ∨ (r ≠ -1 ∧ 0 ≤ r ∧ regs ≤ r) by omega) with rfl | ⟨h, h'⟩ | ⟨h, h', h''⟩ | ⟨h, h', h''⟩
  all_goals
    cases u <;> cases m
  all_goals
    go_enter Tryz.func86, Tryz.ntmps86
    go_wp2
    go_ret
    refine ⟨ret_bool (by rw [Bool.eq_iff_iff]; simp [regB]; try omega), ?_⟩
    exact (by repeat (first | exact Below.refl _ _ | refine Below.alloc ?_ (Nat.le_refl _) _))
@[local go_sem] theorem store_func_ (P : Program) (w : World) (a : Addr) (fn : Go.Fn) (first captured : Array Value) (m : Mode) : (store a (.func fn first captured) m).run P w = stored P w a (.func fn first captured) m := run_store P w a _ m rfl
@[local go_sem] theorem store_nil_ (P : Program) (w : World) (a : Addr) (m : Mode) : (store a .nilFunc m).run P w = stored P w a .nilFunc m := run_store P w a _ m rfl
def rulV (r : Rule) (s : ByteArray) : Value := .agg #[.string s, .bool r.d, .bool r.a, .bool r.b, .func (.func (imF r.im)) #[] #[], .func (.func (txF r.tx)) #[] #[], .bool r.ar, .bool r.mb]
def rul0 : Value := .agg #[.string ⟨#[]⟩, .bool false, .bool false, .bool false, .nilFunc, .nilFunc, .bool false, .bool false]
set_option maxRecDepth 100000 in
set_option maxHeartbeats 2000000 in
theorem ruleOf_any (k : Int) (w : World) : Calls Tryz.prog 85 #[.int .i64 k] w fun e w' => (∃ rv, e = .returned (.tuple #[rv, .bool (ruleL k).isSome]) ∧ (∀ r, ruleL k = some r → ∃ s, rv = rulV r s) ∧ (ruleL k = none → rv = rul0)) ∧ Below w.heap.size w w' := by
  rcases (show k < 1 ∨ (3 ≤ k ∧ k ≤ 19) ∨ k = 1 ∨ k = 2 ∨ k = 20 ∨ k = 21 ∨ k = 22 ∨ k = 23 ∨ k = 24 ∨ k = 25 ∨ k = 26 ∨ k = 27 ∨ k = 28 ∨ k = 29 ∨ 29 < k by omega) with h | h | rfl | rfl | rfl | rfl | rfl | rfl | rfl | rfl | rfl | rfl | rfl | rfl | h
  case inr.inl =>
    have HW := Lib.hid (fun w => word_op_any k h w)
    have hr : ruleL k = some ⟨true, true, true, .none, .empty, false, false⟩ := by simp [ruleL, h]
    have HR := Lib.hid hr
    clear hr
    obtain ⟨h1, h2⟩ := h
    go_enter Tryz.func85, Tryz.ntmps85
    go_wp2_with fail
    refine (HW.out _).mono ?_
    rintro e w1 ⟨r, rfl, rfl⟩
    go_wp2_with fail
    refine bodyPost_ret (v := .tuple #[rulV ⟨true, true, true, .none, .empty, false, false⟩ r, .bool true]) (by simp [results, Tryz.results85, go_sem, rulV, imF, txF]) rfl ⟨⟨_, by rw [HR.out]; rfl, ?_, fun h => by rw [HR.out] at h; cases h⟩, ?_⟩
    · intro r' h'
      rw [HR.out] at h'
      cases h'
      exact ⟨_, rfl⟩
    · exact (by repeat (first | exact Below.refl _ _ | refine Below.alloc ?_ (Nat.le_refl _) _))
  · have HR := Lib.hid (show ruleL k = none by unfold ruleL; repeat (first | rw [if_neg (by omega)] | rfl))
    go_enter Tryz.func85, Tryz.ntmps85
    go_wp2
    refine bodyPost_ret (v := .tuple #[.agg #[.string ⟨#[]⟩, .bool false, .bool false, .bool false, .nilFunc, .nilFunc, .bool false, .bool false], .bool false]) (by simp [results, Tryz.results85, go_sem]) rfl ⟨⟨_, by rw [HR.out]; rfl, ?_, fun _ => rfl⟩, ?_⟩
    · intro r' h'
      rw [HR.out] at h'
      cases h'
    · exact (by repeat (first | exact Below.refl _ _ | refine Below.alloc ?_ (Nat.le_refl _) _))
  · go_enter Tryz.func85, Tryz.ntmps85
    go_wp2
    refine bodyPost_ret (v := .tuple #[rulV ⟨true, false, false, .const, .empty, false, false⟩ ⟨#[99, 111, 110, 115, 116]⟩, .bool true]) (by simp [results, Tryz.results85, go_sem, rulV, imF, txF]) rfl ⟨⟨_, rfl, ?_, fun h => by cases h⟩, ?_⟩
    · intro r' h'
      cases h'
      exact ⟨_, rfl⟩
    · exact (by repeat (first | exact Below.refl _ _ | refine Below.alloc ?_ (Nat.le_refl _) _))
  · go_enter Tryz.func85, Tryz.ntmps85
    go_wp2
    refine bodyPost_ret (v := .tuple #[rulV ⟨true, true, false, .none, .empty, false, false⟩ ⟨#[109, 111, 118, 101]⟩, .bool true]) (by simp [results, Tryz.results85, go_sem, rulV, imF, txF]) rfl ⟨⟨_, rfl, ?_, fun h => by cases h⟩, ?_⟩
    · intro r' h'
      cases h'
      exact ⟨_, rfl⟩
    · exact (by repeat (first | exact Below.refl _ _ | refine Below.alloc ?_ (Nat.le_refl _) _))
  · go_enter Tryz.func85, Tryz.ntmps85
    go_wp2
    refine bodyPost_ret (v := .tuple #[rulV ⟨true, true, false, .halves, .empty, false, false⟩ ⟨#[101, 120, 116]⟩, .bool true]) (by simp [results, Tryz.results85, go_sem, rulV, imF, txF]) rfl ⟨⟨_, rfl, ?_, fun h => by cases h⟩, ?_⟩
    · intro r' h'
      cases h'
      exact ⟨_, rfl⟩
    · exact (by repeat (first | exact Below.refl _ _ | refine Below.alloc ?_ (Nat.le_refl _) _))
  · go_enter Tryz.func85, Tryz.ntmps85
    go_wp2
    refine bodyPost_ret (v := .tuple #[rulV ⟨true, false, false, .from0, .empty, false, false⟩ ⟨#[115, 108, 111, 116]⟩, .bool true]) (by simp [results, Tryz.results85, go_sem, rulV, imF, txF]) rfl ⟨⟨_, rfl, ?_, fun h => by cases h⟩, ?_⟩
    · intro r' h'
      cases h'
      exact ⟨_, rfl⟩
    · exact (by repeat (first | exact Below.refl _ _ | refine Below.alloc ?_ (Nat.le_refl _) _))
  · go_enter Tryz.func85, Tryz.ntmps85
    go_wp2
    refine bodyPost_ret (v := .tuple #[rulV ⟨true, false, false, .none, .name, false, false⟩ ⟨#[103, 108, 111, 98, 97, 108]⟩, .bool true]) (by simp [results, Tryz.results85, go_sem, rulV, imF, txF]) rfl ⟨⟨_, rfl, ?_, fun h => by cases h⟩, ?_⟩
    · intro r' h'
      cases h'
      exact ⟨_, rfl⟩
    · exact (by repeat (first | exact Below.refl _ _ | refine Below.alloc ?_ (Nat.le_refl _) _))
  · go_enter Tryz.func85, Tryz.ntmps85
    go_wp2
    refine bodyPost_ret (v := .tuple #[rulV ⟨true, false, false, .from0, .empty, false, false⟩ ⟨#[115, 116, 114, 105, 110, 103]⟩, .bool true]) (by simp [results, Tryz.results85, go_sem, rulV, imF, txF]) rfl ⟨⟨_, rfl, ?_, fun h => by cases h⟩, ?_⟩
    · intro r' h'
      cases h'
      exact ⟨_, rfl⟩
    · exact (by repeat (first | exact Below.refl _ _ | refine Below.alloc ?_ (Nat.le_refl _) _))
  · go_enter Tryz.func85, Tryz.ntmps85
    go_wp2
    refine bodyPost_ret (v := .tuple #[rulV ⟨true, false, false, .none, .name, false, false⟩ ⟨#[102, 117, 110, 99]⟩, .bool true]) (by simp [results, Tryz.results85, go_sem, rulV, imF, txF]) rfl ⟨⟨_, rfl, ?_, fun h => by cases h⟩, ?_⟩
    · intro r' h'
      cases h'
      exact ⟨_, rfl⟩
    · exact (by repeat (first | exact Below.refl _ _ | refine Below.alloc ?_ (Nat.le_refl _) _))
  · go_enter Tryz.func85, Tryz.ntmps85
    go_wp2
    refine bodyPost_ret (v := .tuple #[rulV ⟨true, true, false, .widths, .empty, false, false⟩ ⟨#[108, 111, 97, 100]⟩, .bool true]) (by simp [results, Tryz.results85, go_sem, rulV, imF, txF]) rfl ⟨⟨_, rfl, ?_, fun h => by cases h⟩, ?_⟩
    · intro r' h'
      cases h'
      exact ⟨_, rfl⟩
    · exact (by repeat (first | exact Below.refl _ _ | refine Below.alloc ?_ (Nat.le_refl _) _))
  · go_enter Tryz.func85, Tryz.ntmps85
    go_wp2
    refine bodyPost_ret (v := .tuple #[rulV ⟨false, true, true, .widths, .empty, false, false⟩ ⟨#[115, 116, 111, 114, 101]⟩, .bool true]) (by simp [results, Tryz.results85, go_sem, rulV, imF, txF]) rfl ⟨⟨_, rfl, ?_, fun h => by cases h⟩, ?_⟩
    · intro r' h'
      cases h'
      exact ⟨_, rfl⟩
    · exact (by repeat (first | exact Below.refl _ _ | refine Below.alloc ?_ (Nat.le_refl _) _))
  · go_enter Tryz.func85, Tryz.ntmps85
    go_wp2
    refine bodyPost_ret (v := .tuple #[rulV ⟨false, true, true, .copied, .empty, false, false⟩ ⟨#[99, 111, 112, 121]⟩, .bool true]) (by simp [results, Tryz.results85, go_sem, rulV, imF, txF]) rfl ⟨⟨_, rfl, ?_, fun h => by cases h⟩, ?_⟩
    · intro r' h'
      cases h'
      exact ⟨_, rfl⟩
    · exact (by repeat (first | exact Below.refl _ _ | refine Below.alloc ?_ (Nat.le_refl _) _))
  · go_enter Tryz.func85, Tryz.ntmps85
    go_wp2
    refine bodyPost_ret (v := .tuple #[rulV ⟨true, true, false, .none, .empty, true, true⟩ ⟨#[99, 97, 108, 108]⟩, .bool true]) (by simp [results, Tryz.results85, go_sem, rulV, imF, txF]) rfl ⟨⟨_, rfl, ?_, fun h => by cases h⟩, ?_⟩
    · intro r' h'
      cases h'
      exact ⟨_, rfl⟩
    · exact (by repeat (first | exact Below.refl _ _ | refine Below.alloc ?_ (Nat.le_refl _) _))
  · go_enter Tryz.func85, Tryz.ntmps85
    go_wp2
    refine bodyPost_ret (v := .tuple #[rulV ⟨true, false, false, .none, .built, true, true⟩ ⟨#[98, 117, 105, 108, 116]⟩, .bool true]) (by simp [results, Tryz.results85, go_sem, rulV, imF, txF]) rfl ⟨⟨_, rfl, ?_, fun h => by cases h⟩, ?_⟩
    · intro r' h'
      cases h'
      exact ⟨_, rfl⟩
    · exact (by repeat (first | exact Below.refl _ _ | refine Below.alloc ?_ (Nat.le_refl _) _))
  · have HR := Lib.hid (show ruleL k = none by unfold ruleL; repeat (first | rw [if_neg (by omega)] | rfl))
    go_enter Tryz.func85, Tryz.ntmps85
    go_wp2
    refine bodyPost_ret (v := .tuple #[.agg #[.string ⟨#[]⟩, .bool false, .bool false, .bool false, .nilFunc, .nilFunc, .bool false, .bool false], .bool false]) (by simp [results, Tryz.results85, go_sem]) rfl ⟨⟨_, by rw [HR.out]; rfl, ?_, fun _ => rfl⟩, ?_⟩
    · intro r' h'
      rw [HR.out] at h'
      cases h'
    · exact (by repeat (first | exact Below.refl _ _ | refine Below.alloc ?_ (Nat.le_refl _) _))
end Go.Proofs.YtlmoblmkhicoeaaGreatDoor

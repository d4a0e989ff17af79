/- Walks: the reference's form, signed, has, in, reg. Conditions: what each states. -/
import Derived.Test.YtlgdfacaeahcaaaDoorDC
import Derived.Test.YtlgdfacaeahcaaaDoorIA
set_option linter.unusedVariables false
set_option linter.unusedSimpArgs false
namespace Go.Proofs.YtlgdfacaeahcaaaDoor
open Go.RowKit
/-- The document's form of an operation. -/
def RF (o : Int) : Int :=
  if 1 ≤ o ∧ o ≤ 17 then 82 else if o = 18 then 83 else if 19 ≤ o ∧ o ≤ 21 then 85 else if 22 ≤ o ∧ o ≤ 24 then 67 else if o = 25 then 76 else if o = 26 then 72 else if o = 27 then 69
  else if 28 ≤ o ∧ o ≤ 33 then 83 else if 34 ≤ o ∧ o ≤ 35 then 66 else if o = 36 then 84 else if 37 ≤ o ∧ o ≤ 38 then 74 else if 39 ≤ o ∧ o ≤ 40 then 71 else if 41 ≤ o ∧ o ≤ 42 then 87 else 32
theorem ret_u8 {z z' : Int} (h : z = z') : Ending.returned (.int .u8 z) = .returned (.int .u8 z') := by rw [h]
set_option maxRecDepth 100000 in
set_option maxHeartbeats 4000000 in
theorem rform_any (o : Int) (w : World) : Calls Tryd.prog 60 #[.int .i64 o] w fun e w' => e = .returned (.int .u8 (RF o)) ∧ w = w' := by
  by_cases h1 : o < 1
  · have h : RF o = 32 := by unfold RF; repeat rw [if_neg (by omega)]
    have H := Lib.hid h
    clear h
    go_enter Tryd.func60, Tryd.ntmps60
    go_wp2
    go_ret
    exact ⟨ret_u8 H.out.symm, rfl⟩
  by_cases h2 : 42 < o
  · have h : RF o = 32 := by unfold RF; repeat rw [if_neg (by omega)]
    have H := Lib.hid h
    clear h
    go_enter Tryd.func60, Tryd.ntmps60
    go_wp2
    go_ret
    exact ⟨ret_u8 H.out.symm, rfl⟩
  have hc : o = 1 ∨ o = 2 ∨ o = 3 ∨ o = 4 ∨ o = 5 ∨ o = 6 ∨ o = 7 ∨ o = 8 ∨ o = 9 ∨ o = 10 ∨ o = 11 ∨ o = 12 ∨ o = 13 ∨ o = 14 ∨ o = 15 ∨ o = 16 ∨ o = 17 ∨ o = 18 ∨ o = 19 ∨ o = 20 ∨ o = 21 ∨ o = 22 ∨ o = 23 ∨ o = 24 ∨ o = 25 ∨ o = 26 ∨ o = 27 ∨ o = 28 ∨ o = 29 ∨ o = 30 ∨ o = 31 ∨ o = 32 ∨ o = 33 ∨ o = 34 ∨ o = 35 ∨ o = 36 ∨ o = 37 ∨ o = 38 ∨ o = 39 ∨ o = 40 ∨ o = 41 ∨ o = 42 := by omega
  clear h1 h2
  rcases hc with rfl | rfl | rfl | rfl | rfl | rfl | rfl | rfl | rfl | rfl | rfl | rfl | rfl | rfl | rfl | rfl | rfl | rfl | rfl | rfl | rfl | rfl | rfl | rfl | rfl | rfl | rfl | rfl | rfl | rfl | rfl | rfl | rfl | rfl | rfl | rfl | rfl | rfl | rfl | rfl | rfl | rfl
  all_goals
    go_enter Tryd.func60, Tryd.ntmps60
    go_wp2
    go_ret
    exact ⟨rfl, rfl⟩
theorem rsigned_16 (n : Int) (w : World) (h : 0 ≤ n) (h2 : n ≤ 65535) : Calls Tryd.prog 62 #[.int .i64 n, .int .i64 16] w fun e w' => e = .returned (.int .i64 (if n < 32768 then n else n - 65536)) ∧ w = w' := by
  by_cases h1 : n < 32768
  · go_enter Tryd.func62, Tryd.ntmps62
    go_wp2
    go_ret
    exact ⟨ret_i64 (by first | rfl | (rw [if_pos h1])), rfl⟩
  · go_enter Tryd.func62, Tryd.ntmps62
    go_wp2
    go_ret
    exact ⟨ret_i64 (by first | rfl | (rw [if_neg h1])), rfl⟩
theorem rsigned_24 (n : Int) (w : World) (h : 0 ≤ n) (h2 : n ≤ 16777215) : Calls Tryd.prog 62 #[.int .i64 n, .int .i64 24] w fun e w' => e = .returned (.int .i64 (if n < 8388608 then n else n - 16777216)) ∧ w = w' := by
  by_cases h1 : n < 8388608
  · go_enter Tryd.func62, Tryd.ntmps62
    go_wp2
    go_ret
    exact ⟨ret_i64 (by first | rfl | (rw [if_pos h1])), rfl⟩
  · go_enter Tryd.func62, Tryd.ntmps62
    go_wp2
    go_ret
    exact ⟨ret_i64 (by first | rfl | (rw [if_neg h1])), rfl⟩
open Go.RowKit
/-- The forms. -/
def IsF (f : Int) : Prop := f = 82 ∨ f = 83 ∨ f = 85 ∨ f = 67 ∨ f = 69 ∨ f = 84 ∨ f = 76 ∨ f = 72 ∨ f = 66 ∨ f = 74 ∨ f = 87 ∨ f = 71 ∨ f = 32
def RH (f : Int) : ByteArray :=
  if f = 82 then ⟨#[100, 97, 98]⟩ else if f = 83 ∨ f = 85 ∨ f = 67 ∨ f = 69 ∨ f = 84 then ⟨#[100, 97, 105]⟩ else if f = 76 ∨ f = 72 then ⟨#[100, 105]⟩ else if f = 66 then ⟨#[97, 105]⟩
  else if f = 74 ∨ f = 87 then ⟨#[105]⟩ else if f = 71 then ⟨#[97]⟩ else ⟨#[]⟩
set_option maxRecDepth 100000 in
set_option maxHeartbeats 4000000 in
theorem rhas_any (f : Int) (w : World) (h : IsF f) : Calls Tryd.prog 75 #[.int .u8 f] w fun e w' => e = .returned (.string (RH f)) ∧ w = w' := by
  rcases h with rfl | rfl | rfl | rfl | rfl | rfl | rfl | rfl | rfl | rfl | rfl | rfl | rfl
  all_goals
    go_enter Tryd.func75, Tryd.ntmps75
    go_wp2
    go_ret
    exact ⟨rfl, rfl⟩
theorem RH_len {f : Int} (h : IsF f) : (RH f).size ≤ 3 := by
  rcases h with rfl | rfl | rfl | rfl | rfl | rfl | rfl | rfl | rfl | rfl | rfl | rfl | rfl <;> decide
/-- Has a form a field? -/
def inB (f c : Int) : Bool := (chars (RH f)).any fun x => x == c
theorem any_hit {l : List Int} {c x : Int} {k : Nat} (h : l[k]? = some x) (he : (x == c) = true) : (l.any fun x => x == c) = true := by
  rw [List.any_eq_true]
  exact ⟨x, List.mem_of_getElem? h, he⟩
theorem any_miss {l : List Int} {c x : Int} {k : Nat} (hx : l[k]? = some x) (h : ((l.take k).any fun x => x == c) = false) (he : (x == c) = false) : ((l.take (k + 1)).any fun x => x == c) = false := by
  obtain ⟨hk, rfl⟩ := List.getElem?_eq_some_iff.1 hx
  rw [List.take_succ_eq_append_getElem hk, List.any_append, h]
  simp only [List.any_cons, List.any_nil, he, Bool.or_false]
set_option maxHeartbeats 1000000 in
theorem rin_any (f c : Int) (w : World) (h : IsF f) : Calls Tryd.prog 61 #[.int .u8 f, .int .u8 c] w fun e w' => e = .returned (.bool (inB f c)) ∧ w = w' := by
  obtain ⟨R, hR⟩ : ∃ R, inB f c = R := ⟨_, rfl⟩
  have HR := Lib.hid hR
  rw [hR]
  clear hR
  have HH := Lib.hid (fun W => rhas_any f W h)
  have hl := RH_len h
  unfold inB at HR
  obtain ⟨s, hs⟩ : ∃ s, RH f = s := ⟨_, rfl⟩
  rw [hs] at HR HH hl
  clear hs h
  go_enter Tryd.func61, Tryd.ntmps61
  go_wp2_with fail
  refine (HH.out _).mono ?_
  rintro e w1 ⟨rfl, rfl⟩
  go_wp2_with fail
  go_loop [6] (fun i => ∃ k : Nat, k ≤ s.size ∧ i = .int .i64 k ∧ Hid (((chars s).take k).any (fun x => x == c) = false)) (fun i => s.size - (intOf i).toNat)
  case atStart => exact ⟨0, Nat.zero_le _, rfl, rfl⟩
  case round =>
    obtain ⟨k, hk, rfl, HA⟩ := hrel
    by_cases hlt : k < s.size
    · have hck := chars_get s k hlt
      obtain ⟨x, hx⟩ : ∃ x : Int, (s[k].toNat : Int) = x := ⟨_, rfl⟩
      rw [hx] at hck
      have HCK := Lib.hid hck
      clear hck
      cases he : (x == c) with
      | true =>
        have hfin : R = true := by rw [← HR.out]; exact any_hit HCK.out he
        have HF := Lib.hid hfin
        clear hfin
        go_wp2
        go_ret
        exact ⟨ret_bool HF.out.symm, rfl⟩
      | false =>
        have HF := Lib.hid (any_miss HCK.out HA.out he)
        go_wp2
        go_round
        case rel => exact ⟨k + 1, by omega, by go_num, HF.out⟩
        case measure => simp [intOf]; omega
    · have hfin : R = false := by
        rw [← HR.out]
        have := HA.out
        rwa [List.take_of_length_le (by rw [chars_len]; omega)] at this
      have HF := Lib.hid hfin
      clear hfin
      go_wp2
      go_ret
      exact ⟨ret_bool HF.out.symm, rfl⟩
theorem rreg_any (f c n : Int) (w : World) (h : IsF f) : Calls Tryd.prog 84 #[.int .u8 f, .int .u8 c, .int .i64 n] w fun e w' => e = .returned (.bool (regOk (inB f c) n)) ∧ w = w' := by
  have HX := Lib.hid (fun W => rin_any f c W h)
  obtain ⟨b, hb⟩ : ∃ b, inB f c = b := ⟨_, rfl⟩
  rw [hb] at HX ⊢
  clear hb h
  cases b with
  | false =>
    go_enter Tryd.func84, Tryd.ntmps84
    go_wp2_with fail
    refine (HX.out _).mono ?_
    rintro e w' ⟨rfl, rfl⟩
    go_wp2_with fail
    go_ret
    exact ⟨ret_bool (by simp [regOk]; rw [Bool.eq_iff_iff]; simp), rfl⟩
  | true =>
    by_cases h0 : 0 ≤ n
    · go_enter Tryd.func84, Tryd.ntmps84
      go_wp2_with fail
      refine (HX.out _).mono ?_
      rintro e w' ⟨rfl, rfl⟩
      go_wp2_with fail
      go_ret
      exact ⟨ret_bool (by simp [regOk, h0]), rfl⟩
    · go_enter Tryd.func84, Tryd.ntmps84
      go_wp2_with fail
      refine (HX.out _).mono ?_
      rintro e w' ⟨rfl, rfl⟩
      go_wp2_with fail
      go_ret
      exact ⟨ret_bool (by simp [regOk, h0]; try omega), rfl⟩
end Go.Proofs.YtlgdfacaeahcaaaDoor

/- What a word is decoded to, in plain words; isa.Decode answers that, of every word. Conditions: what each states. -/
import Derived.Test.YteoglkofeogknaaGreatDoorD8a
import Derived.Test.YteoglkofeogknaaGreatDoorD8b
import Derived.Test.YteoglkofeogknaaGreatDoorDD
import Derived.Test.YteoglkofeogknaaGreatDoorLA
set_option linter.unusedVariables false
set_option linter.unusedSimpArgs false
namespace Go.Proofs.YteoglkofeogknaaGreatDoor
open Go.RowKit
def dcF (v p : Nat) (c : Int) (fs : ByteArray) : Nat := if hasB fs c then v / p % 16 else 0
def dcI (v : Nat) (fs : ByteArray) (lo bt : Int) : Int := if hasB fs 73 then (if bt = 24 then sg24 v else if lo < 0 then sg16 v else ((v % 65536 : Nat) : Int)) else 0
/-- An instruction, or that there is none. -/
def dcR (c : Bool) (o d a b i : Int) : Int × Int × Int × Int × Int × Int := if c then (o, d, a, b, i, 0) else (0, 0, 0, 0, 0, 20)
def dcQ (v o d a b : Nat) (i : Int) (bt : Int) (ok : Bool) : Int × Int × Int × Int × Int × Int := dcR (ok && (chkA o d a b i && (encW bt o d a b i == (v : Int)))) o d a b i
/-- What a word is decoded to: operation, D, A, B, number, error. -/
def dcA (v : Nat) : Int × Int × Int × Int × Int × Int :=
  dcQ v (v / 16777216) (dcF v 1048576 68 (FM (v / 16777216 : Nat)).1) (dcF v 65536 65 (FM (v / 16777216 : Nat)).1) (dcF v 4096 66 (FM (v / 16777216 : Nat)).1) (dcI v (FM (v / 16777216 : Nat)).1 (FM (v / 16777216 : Nat)).2.1 (FM (v / 16777216 : Nat)).2.2.2.1) (FM (v / 16777216 : Nat)).2.2.2.1 (FM (v / 16777216 : Nat)).2.2.2.2
def dcV (x : Int × Int × Int × Int × Int × Int) : Value := .tuple #[.agg #[.int .i64 x.1, .int .i64 x.2.1, .int .i64 x.2.2.1, .int .i64 x.2.2.2.1, .int .i64 x.2.2.2.2.1], .int .i64 x.2.2.2.2.2]
theorem dec3 (v o d a b : Nat) (i bt : Int) (w : World) (ho : o ≤ 42) (hd : d ≤ 15) (ha : a ≤ 15) (hb : b ≤ 15) (hfm : (FM o).2.2.2.1 = bt)
    (bad : (∀ W, Calls Tryz.prog 35 #[.agg #[.int .i64 o, .int .i64 d, .int .i64 a, .int .i64 b, .int .i64 i]] W fun e w' => e = .returned (.tuple #[.int .u32 0, .int .i64 20]) ∧ Below W.heap.size W w') → Calls Tryz.prog 34 #[.int .u32 v] w fun e w' => e = .returned (.tuple #[.agg #[.int .i64 0, .int .i64 0, .int .i64 0, .int .i64 0, .int .i64 0], .int .i64 20]) ∧ Below w.heap.size w w')
    (ne : ∀ u : Int, (u != (v : Int)) = true → (∀ W, Calls Tryz.prog 35 #[.agg #[.int .i64 o, .int .i64 d, .int .i64 a, .int .i64 b, .int .i64 i]] W fun e w' => e = .returned (.tuple #[.int .u32 u, .int .i64 0]) ∧ Below W.heap.size W w') → Calls Tryz.prog 34 #[.int .u32 v] w fun e w' => e = .returned (.tuple #[.agg #[.int .i64 0, .int .i64 0, .int .i64 0, .int .i64 0, .int .i64 0], .int .i64 20]) ∧ Below w.heap.size w w')
    (eq : (∀ W, Calls Tryz.prog 35 #[.agg #[.int .i64 o, .int .i64 d, .int .i64 a, .int .i64 b, .int .i64 i]] W fun e w' => e = .returned (.tuple #[.int .u32 v, .int .i64 0]) ∧ Below W.heap.size W w') → Calls Tryz.prog 34 #[.int .u32 v] w fun e w' => e = .returned (.tuple #[.agg #[.int .i64 o, .int .i64 d, .int .i64 a, .int .i64 b, .int .i64 i], .int .i64 0]) ∧ Below w.heap.size w w') :
    Calls Tryz.prog 34 #[.int .u32 v] w fun e w' => e = .returned (dcV (dcQ v o d a b i bt true)) ∧ Below w.heap.size w w' := by
  unfold dcQ
  cases hc : chkA o d a b i with
  | false => exact bad (fun W => encode_bad o d a b i W hc)
  | true =>
    have e1 := fun W => encode_ok o d a b i W hc ho hd ha hb
    rw [hfm] at e1
    by_cases he : encW bt o d a b i = (v : Int)
    · rw [he] at e1 ⊢
      have := eq e1
      simpa [dcR, dcV] using this
    · have hu : (encW bt o d a b i != (v : Int)) = true := by simpa using he
      have hf : (encW bt o d a b i == (v : Int)) = false := by simpa using he
      rw [hf]
      exact ne _ hu e1
theorem mask_fu' (v p : Nat) (hv : v < 4294967296) : bits .and .u32 ((v : Int) / (p : Int)) 15 = ((v / p % 16 : Nat) : Int) := by
  have := mask_u32 (v / p) 4 (Nat.lt_of_le_of_lt (Nat.div_le_self _ _) hv) (by omega)
  rw [Int.natCast_ediv] at this
  exact this
theorem dcA_eq (v o : Nat) (ho : v / 16777216 = o) (fs : ByteArray) (lo hi bt : Int) (ok : Bool) (h : FM o = (fs, lo, hi, bt, ok)) : dcA v = dcQ v o (dcF v 1048576 68 fs) (dcF v 65536 65 fs) (dcF v 4096 66 fs) (dcI v fs lo bt) bt ok := by
  unfold dcA
  rw [ho, h]
theorem FM_cases (o : Nat) (h : o ≤ 42) (h0 : 1 ≤ o) : (FM o = (⟨#[68, 65, 66]⟩, 0, 0, 0, true)) ∨ (∃ hi, FM o = (⟨#[68, 65, 73]⟩, (-32768), hi, 16, true)) ∨ (∃ lo hi, 0 ≤ lo ∧ FM o = (⟨#[68, 65, 73]⟩, lo, hi, 16, true)) ∨ (∃ hi, FM o = (⟨#[68, 73]⟩, (-32768), hi, 16, true)) ∨ (∃ lo hi, 0 ≤ lo ∧ FM o = (⟨#[68, 73]⟩, lo, hi, 16, true)) ∨ (∃ hi, FM o = (⟨#[65, 73]⟩, (-32768), hi, 16, true)) ∨ (∃ hi, FM o = (⟨#[73]⟩, (-8388608), hi, 24, true)) ∨ (∃ lo hi, 0 ≤ lo ∧ FM o = (⟨#[73]⟩, lo, hi, 16, true)) ∨ (FM o = (⟨#[65]⟩, 0, 0, 0, true)) := by
  unfold FM
  by_cases c1 : 1 ≤ (o : Int) ∧ (o : Int) ≤ 17
  · rw [if_pos c1]; exact Or.inl rfl
  rw [if_neg c1]
  by_cases c2 : (o : Int) = 18 ∨ 28 ≤ (o : Int) ∧ (o : Int) ≤ 33
  · rw [if_pos c2]; exact Or.inr (Or.inl ⟨_, rfl⟩)
  rw [if_neg c2]
  by_cases c3 : (o : Int) = 19 ∨ (o : Int) = 20 ∨ (o : Int) = 21
  · rw [if_pos c3]; exact Or.inr (Or.inr (Or.inl ⟨_, _, Int.le_refl _, rfl⟩))
  rw [if_neg c3]
  by_cases c4 : (o : Int) = 22 ∨ (o : Int) = 23 ∨ (o : Int) = 24
  · rw [if_pos c4]; exact Or.inr (Or.inr (Or.inl ⟨_, _, Int.le_refl _, rfl⟩))
  rw [if_neg c4]
  by_cases c5 : (o : Int) = 25
  · rw [if_pos c5]; exact Or.inr (Or.inr (Or.inr (Or.inl ⟨_, rfl⟩)))
  rw [if_neg c5]
  by_cases c6 : (o : Int) = 26
  · rw [if_pos c6]; exact Or.inr (Or.inr (Or.inr (Or.inr (Or.inl ⟨_, _, Int.le_refl _, rfl⟩))))
  rw [if_neg c6]
  by_cases c7 : (o : Int) = 27
  · rw [if_pos c7]; exact Or.inr (Or.inr (Or.inl ⟨_, _, by decide, rfl⟩))
  rw [if_neg c7]
  by_cases c8 : (o : Int) = 34 ∨ (o : Int) = 35
  · rw [if_pos c8]; exact Or.inr (Or.inr (Or.inr (Or.inr (Or.inr (Or.inl ⟨_, rfl⟩)))))
  rw [if_neg c8]
  by_cases c9 : (o : Int) = 36
  · rw [if_pos c9]; exact Or.inr (Or.inl ⟨_, rfl⟩)
  rw [if_neg c9]
  by_cases c10 : (o : Int) = 37 ∨ (o : Int) = 38
  · rw [if_pos c10]; exact Or.inr (Or.inr (Or.inr (Or.inr (Or.inr (Or.inr (Or.inl ⟨_, rfl⟩))))))
  rw [if_neg c10]
  by_cases c11 : (o : Int) = 39 ∨ (o : Int) = 40
  · rw [if_pos c11]; exact Or.inr (Or.inr (Or.inr (Or.inr (Or.inr (Or.inr (Or.inr (Or.inr rfl)))))))
  rw [if_neg c11]
  rw [if_pos (by omega)]
  exact Or.inr (Or.inr (Or.inr (Or.inr (Or.inr (Or.inr (Or.inr (Or.inl ⟨_, _, Int.le_refl _, rfl⟩)))))))
set_option maxRecDepth 100000 in
theorem dec_any (v : Nat) (hv : v < 4294967296) (w : World) : Calls Tryz.prog 34 #[.int .u32 v] w fun e w' => e = .returned (dcV (dcA v)) ∧ Below w.heap.size w w' := by
  obtain ⟨o, ho⟩ : ∃ o, v / 16777216 = o := ⟨_, rfl⟩
  have ho' : (v : Int) / 16777216 = (o : Int) := by omega
  have ho2 : o ≤ 255 := by omega
  have ud := mask_fu' v 1048576 hv
  have ua := mask_fu' v 65536 hv
  have ub := mask_fu' v 4096 hv
  have um : bits .and .u32 (v : Int) 65535 = ((v % 65536 : Nat) : Int) := mask_u32 v 16 hv (by omega)
  have un : bits .and .u32 (v : Int) 16777215 = ((v % 16777216 : Nat) : Int) := mask_u32 v 24 hv (by omega)
  have hz := sg16_le v
  have hy := sg24_le v
  by_cases h : 1 ≤ o ∧ o ≤ 42
  · rcases FM_cases o h.2 h.1 with hf | ⟨hi, hf⟩ | ⟨lo, hi, hl, hf⟩ | ⟨hi, hf⟩ | ⟨lo, hi, hl, hf⟩ | ⟨hi, hf⟩ | ⟨hi, hf⟩ | ⟨lo, hi, hl, hf⟩ | hf
    · rw [dcA_eq v o ho _ _ _ _ _ hf, show dcF v 1048576 68 ⟨#[68, 65, 66]⟩ = v / 1048576 % 16 from rfl, show dcF v 65536 65 ⟨#[68, 65, 66]⟩ = v / 65536 % 16 from rfl, show dcF v 4096 66 ⟨#[68, 65, 66]⟩ = v / 4096 % 16 from rfl, show dcI v ⟨#[68, 65, 66]⟩ 0 0 = 0 from rfl]
      exact dec3 v o _ _ _ _ _ w h.2 (by omega) (by omega) (by omega) (by rw [hf]) (fun hE => decDAB_bad v o _ _ _ w hv ho' ho2 ud (by omega) ua (by omega) ub (by omega) hf hE) (fun u hu hE => decDAB_ne v o _ _ _ u w hv ho' ho2 ud (by omega) ua (by omega) ub (by omega) hu hf hE) (fun hE => decDAB_eq v o _ _ _ w hv ho' ho2 ud (by omega) ua (by omega) ub (by omega) hf hE)
    · rw [dcA_eq v o ho _ _ _ _ _ hf, show dcF v 1048576 68 ⟨#[68, 65, 73]⟩ = v / 1048576 % 16 from rfl, show dcF v 65536 65 ⟨#[68, 65, 73]⟩ = v / 65536 % 16 from rfl, show dcF v 4096 66 ⟨#[68, 65, 73]⟩ = 0 from rfl, show dcI v ⟨#[68, 65, 73]⟩ (-32768) 16 = sg16 v from rfl]
      exact dec3 v o _ _ 0 _ _ w h.2 (by omega) (by omega) (by omega) (by rw [hf]) (fun hE => decDAIn_bad v o _ _ _ hi _ w hv ho' ho2 ud (by omega) ua (by omega) um (by omega) rfl (by omega) (by omega) hf hE) (fun u hu hE => decDAIn_ne v o _ _ _ hi _ u w hv ho' ho2 ud (by omega) ua (by omega) um (by omega) rfl (by omega) (by omega) hu hf hE) (fun hE => decDAIn_eq v o _ _ _ hi _ w hv ho' ho2 ud (by omega) ua (by omega) um (by omega) rfl (by omega) (by omega) hf hE)
    · rw [dcA_eq v o ho _ _ _ _ _ hf, show dcF v 1048576 68 ⟨#[68, 65, 73]⟩ = v / 1048576 % 16 from rfl, show dcF v 65536 65 ⟨#[68, 65, 73]⟩ = v / 65536 % 16 from rfl, show dcF v 4096 66 ⟨#[68, 65, 73]⟩ = 0 from rfl, show dcI v ⟨#[68, 65, 73]⟩ lo 16 = ((v % 65536 : Nat) : Int) by show (if lo < 0 then sg16 v else ((v % 65536 : Nat) : Int)) = _; rw [if_neg (by omega)]]
      exact dec3 v o _ _ 0 _ _ w h.2 (by omega) (by omega) (by omega) (by rw [hf]) (fun hE => decDAIp_bad v o _ _ _ lo hi w hv ho' ho2 ud (by omega) ua (by omega) um (by omega) hl hf hE) (fun u hu hE => decDAIp_ne v o _ _ _ lo hi u w hv ho' ho2 ud (by omega) ua (by omega) um (by omega) hl hu hf hE) (fun hE => decDAIp_eq v o _ _ _ lo hi w hv ho' ho2 ud (by omega) ua (by omega) um (by omega) hl hf hE)
    · rw [dcA_eq v o ho _ _ _ _ _ hf, show dcF v 1048576 68 ⟨#[68, 73]⟩ = v / 1048576 % 16 from rfl, show dcF v 65536 65 ⟨#[68, 73]⟩ = 0 from rfl, show dcF v 4096 66 ⟨#[68, 73]⟩ = 0 from rfl, show dcI v ⟨#[68, 73]⟩ (-32768) 16 = sg16 v from rfl]
      exact dec3 v o _ 0 0 _ _ w h.2 (by omega) (by omega) (by omega) (by rw [hf]) (fun hE => decDIn_bad v o _ _ hi _ w hv ho' ho2 ud (by omega) um (by omega) rfl (by omega) (by omega) hf hE) (fun u hu hE => decDIn_ne v o _ _ hi _ u w hv ho' ho2 ud (by omega) um (by omega) rfl (by omega) (by omega) hu hf hE) (fun hE => decDIn_eq v o _ _ hi _ w hv ho' ho2 ud (by omega) um (by omega) rfl (by omega) (by omega) hf hE)
    · rw [dcA_eq v o ho _ _ _ _ _ hf, show dcF v 1048576 68 ⟨#[68, 73]⟩ = v / 1048576 % 16 from rfl, show dcF v 65536 65 ⟨#[68, 73]⟩ = 0 from rfl, show dcF v 4096 66 ⟨#[68, 73]⟩ = 0 from rfl, show dcI v ⟨#[68, 73]⟩ lo 16 = ((v % 65536 : Nat) : Int) by show (if lo < 0 then sg16 v else ((v % 65536 : Nat) : Int)) = _; rw [if_neg (by omega)]]
      exact dec3 v o _ 0 0 _ _ w h.2 (by omega) (by omega) (by omega) (by rw [hf]) (fun hE => decDIp_bad v o _ _ lo hi w hv ho' ho2 ud (by omega) um (by omega) hl hf hE) (fun u hu hE => decDIp_ne v o _ _ lo hi u w hv ho' ho2 ud (by omega) um (by omega) hl hu hf hE) (fun hE => decDIp_eq v o _ _ lo hi w hv ho' ho2 ud (by omega) um (by omega) hl hf hE)
    · rw [dcA_eq v o ho _ _ _ _ _ hf, show dcF v 1048576 68 ⟨#[65, 73]⟩ = 0 from rfl, show dcF v 65536 65 ⟨#[65, 73]⟩ = v / 65536 % 16 from rfl, show dcF v 4096 66 ⟨#[65, 73]⟩ = 0 from rfl, show dcI v ⟨#[65, 73]⟩ (-32768) 16 = sg16 v from rfl]
      exact dec3 v o 0 _ 0 _ _ w h.2 (by omega) (by omega) (by omega) (by rw [hf]) (fun hE => decAIn_bad v o _ _ hi _ w hv ho' ho2 ua (by omega) um (by omega) rfl (by omega) (by omega) hf hE) (fun u hu hE => decAIn_ne v o _ _ hi _ u w hv ho' ho2 ua (by omega) um (by omega) rfl (by omega) (by omega) hu hf hE) (fun hE => decAIn_eq v o _ _ hi _ w hv ho' ho2 ua (by omega) um (by omega) rfl (by omega) (by omega) hf hE)
    · rw [dcA_eq v o ho _ _ _ _ _ hf, show dcF v 1048576 68 ⟨#[73]⟩ = 0 from rfl, show dcF v 65536 65 ⟨#[73]⟩ = 0 from rfl, show dcF v 4096 66 ⟨#[73]⟩ = 0 from rfl, show dcI v ⟨#[73]⟩ (-8388608) 24 = sg24 v from rfl]
      exact dec3 v o 0 0 0 _ _ w h.2 (by omega) (by omega) (by omega) (by rw [hf]) (fun hE => decIn_bad v o _ hi _ w hv ho' ho2 un (by omega) rfl (by omega) (by omega) hf hE) (fun u hu hE => decIn_ne v o _ hi _ u w hv ho' ho2 un (by omega) rfl (by omega) (by omega) hu hf hE) (fun hE => decIn_eq v o _ hi _ w hv ho' ho2 un (by omega) rfl (by omega) (by omega) hf hE)
    · rw [dcA_eq v o ho _ _ _ _ _ hf, show dcF v 1048576 68 ⟨#[73]⟩ = 0 from rfl, show dcF v 65536 65 ⟨#[73]⟩ = 0 from rfl, show dcF v 4096 66 ⟨#[73]⟩ = 0 from rfl, show dcI v ⟨#[73]⟩ lo 16 = ((v % 65536 : Nat) : Int) by show (if lo < 0 then sg16 v else ((v % 65536 : Nat) : Int)) = _; rw [if_neg (by omega)]]
      exact dec3 v o 0 0 0 _ _ w h.2 (by omega) (by omega) (by omega) (by rw [hf]) (fun hE => decIp_bad v o _ lo hi w hv ho' ho2 um (by omega) hl hf hE) (fun u hu hE => decIp_ne v o _ lo hi u w hv ho' ho2 um (by omega) hl hu hf hE) (fun hE => decIp_eq v o _ lo hi w hv ho' ho2 um (by omega) hl hf hE)
    · rw [dcA_eq v o ho _ _ _ _ _ hf, show dcF v 1048576 68 ⟨#[65]⟩ = 0 from rfl, show dcF v 65536 65 ⟨#[65]⟩ = v / 65536 % 16 from rfl, show dcF v 4096 66 ⟨#[65]⟩ = 0 from rfl, show dcI v ⟨#[65]⟩ 0 0 = 0 from rfl]
      exact dec3 v o 0 _ 0 _ _ w h.2 (by omega) (by omega) (by omega) (by rw [hf]) (fun hE => decA_bad v o _ w hv ho' ho2 ua (by omega) hf hE) (fun u hu hE => decA_ne v o _ u w hv ho' ho2 ua (by omega) hu hf hE) (fun hE => decA_eq v o _ w hv ho' ho2 ua (by omega) hf hE)
  · have hf : FM o = (⟨#[]⟩, 0, 0, 0, false) := by
      by_cases h0 : o = 0
      · subst h0; rfl
      · exact FM_none (Or.inr (by omega))
    rw [dcA_eq v o ho _ _ _ _ _ hf]
    exact decNone v o w hv ho' ho2 hf
end Go.Proofs.YteoglkofeogknaaGreatDoor

/- Walks: IndexFunc, ContainsFunc at ints, operations, blocks, whatever the test. No conditions beyond what they state. -/
import Derived.Test.YtlmoblmkhicoeaaGreatDoorI5
set_option linter.unusedVariables false
set_option linter.unusedSimpArgs false
namespace Go.Proofs.YtlmoblmkhicoeaaGreatDoor
open Go.RowKit
def intOf : Value → Int
  | .int _ n => n
  | _ => 0
/-- A function value that tests: it turns nothing that was there, and its answer hangs on the argument alone. -/
def Tests {α : Type} (w : World) (k : Nat) (cap : Array Value) (val : World → α → Value → Prop) (p : α → Bool) : Prop :=
  ∀ W, Below w.heap.size w W → ∀ x v, val W x v → Calls Tryz.prog k (#[v] ++ cap) W fun e W' => e = .returned (.bool (p x)) ∧ Below W.heap.size W W'
theorem Tests.on {α : Type} {w : World} {k : Nat} {cap : Array Value} {val : World → α → Value → Prop} {p : α → Bool} {l : List α} (h : Tests w k cap val p) : Tests w k cap (fun W x v => val W x v ∧ x ∈ l) p := fun W hb x v hv => h W hb x v hv.1
theorem any_step {α : Type} {l : List α} {p : α → Bool} {k : Nat} (hk : k < l.length) (h : (l.take k).any p = false) (h2 : p l[k] = false) : (l.take (k + 1)).any p = false := by
  rw [List.take_succ_eq_append_getElem hk, List.any_append, h]; simp [h2]
theorem any_hit {α : Type} {l : List α} {p : α → Bool} {k : Nat} (hk : k < l.length) (h2 : p l[k] = true) : l.any p = true := by
  rw [List.any_eq_true]
  exact ⟨l[k], List.getElem_mem _, h2⟩
theorem any_end {α : Type} {l : List α} {p : α → Bool} {k : Nat} (hk : l.length ≤ k) (h : (l.take k).any p = false) : l.any p = false := by
  rwa [List.take_of_length_le hk] at h
def opv (x : Op) (av : Value) : Value := .agg #[.int .i64 x.k, .int .i64 x.d, .int .i64 x.a, .int .i64 x.b, .int .i64 x.im, .string x.tx, av]
def blv (x : Bl) (ov : Value) : Value := .agg #[ov, .int .i64 x.x.k, .int .i64 x.x.a, .int .i64 x.x.d, .int .i64 x.x.t, .int .i64 x.x.e]
def atI (_ : World) (x : Int) (v : Value) : Prop := v = .int .i64 x
def atO (W : World) (x : Op) (v : Value) : Prop := ∃ av, Ints W av x.ar ∧ v = opv x av
def atB (W : World) (x : Bl) (v : Value) : Prop := ∃ ov, OpsAt W ov x.os ∧ v = blv x ov
theorem Ints.form {W : World} {v : Value} {l : List Int} (h : Ints W v l) : ∃ A c, v = .slice A l.length c ∧ l.length ≤ c ∧ c ≤ maxLen := RowOf.form h
theorem OpsAt.form {W : World} {v : Value} {l : List Op} (h : OpsAt W v l) : ∃ A c, v = .slice A l.length c ∧ l.length ≤ c ∧ c ≤ maxLen := by
  obtain ⟨vs, _, h2, _⟩ := h
  exact h2.form
theorem BlsAt.form {W : World} {v : Value} {l : List Bl} (h : BlsAt W v l) : ∃ A c, v = .slice A l.length c ∧ l.length ≤ c ∧ c ≤ maxLen := by
  obtain ⟨vs, _, h2, _⟩ := h
  exact h2.form
theorem idx_lt {j : Nat} {α : Type} {l : List α} (h : j < l.length) (hl : l.length ≤ 2 ^ 63 - 1) : j < 2 ^ 63 - 1 := by omega
set_option maxRecDepth 100000 in
set_option maxHeartbeats 1000000 in
theorem indexI_any (l : List Int) (v : Value) (k : Nat) (cap : Array Value) (p : Int → Bool) (w : World) (he : ∀ (a : Array Value) (w : World), (callFunc k a).run Tryz.prog w = .ok (.enter k a) w) (hl : Ints w v l) (ht : Tests w k cap (fun W x v => atI W x v ∧ x ∈ l) p) :
    Calls Tryz.prog 67 #[v, .func (.func k) #[] cap] w fun e w' => ∃ i : Int, e = .returned (.int .i64 i) ∧ decide (0 ≤ i) = l.any p ∧ Below w.heap.size w w' := by
  obtain ⟨A, c, rfl, h1, h2⟩ := Ints.form hl
  unfold maxLen at h2
  have HL := Lib.hid hl
  have HT := Lib.hid ht
  clear hl ht
  go_enter Tryz.func67, Tryz.ntmps67
  go_wp2
  go_loopw [8] (fun i wr => ∃ j : Nat, j ≤ l.length ∧ i = .int .i64 j ∧ Hid ((l.take j).any p = false) ∧ Hid (Below w.heap.size w wr)) (fun i _ => l.length - (intOf i).toNat)
  case atStart => exact ⟨0, Nat.zero_le _, rfl, rfl, Below.refl _ _⟩
  case round =>
    obtain ⟨j, hj, rfl, HF, HB⟩ := hrel
    by_cases hlt : j < l.length
    · obtain ⟨g, off, cap', ea, h3, h4, hg, hc⟩ := (Ints.below HL.out HB.out).open_ (Nat.lt_of_le_of_lt (Nat.zero_le _) hlt)
      cases ea
      have c0 := hc j hlt
      have HX := Lib.hid (show atI wr l[j] (.int .i64 l[j]) from rfl)
      clear hc
      go_wp2_with fail
      refine (HT.out _ HB.out _ _ ⟨HX.out, List.getElem_mem _⟩).mono ?_
      rintro e w1 ⟨rfl, hb1⟩
      have HB1 := Lib.hid (HB.out.trans (below_of_le hb1 HB.out.size))
      clear hb1
      cases hp : p l[j] with
      | true =>
        have HT := Lib.hid (any_hit hlt hp)
        clear hp
        go_wp2
        go_ret
        exact ⟨j, rfl, by rw [HT.out]; simp, HB1.out⟩
      | false =>
        have HT := Lib.hid (any_step hlt HF.out hp)
        clear hp
        go_wp2
        go_roundw
        case rel => exact ⟨j + 1, by omega, by go_num, HT.out, HB1.out⟩
        case measure => simp [intOf]; omega
    · have HE := Lib.hid (any_end (Nat.le_of_not_lt hlt) HF.out)
      have hkn : j = l.length := by omega
      clear HF
      go_wp2
      go_ret
      exact ⟨-1, rfl, by rw [HE.out]; rfl, HB.out⟩
theorem containsI_any (l : List Int) (v : Value) (k : Nat) (cap : Array Value) (p : Int → Bool) (w : World) (he : ∀ (a : Array Value) (w : World), (callFunc k a).run Tryz.prog w = .ok (.enter k a) w) (hl : Ints w v l) (ht : Tests w k cap (fun W x v => atI W x v ∧ x ∈ l) p) :
    Calls Tryz.prog 87 #[v, .func (.func k) #[] cap] w fun e w' => e = .returned (.bool (l.any p)) ∧ Below w.heap.size w w' := by
  have HI := Lib.hid (indexI_any l v k cap p w he hl ht)
  clear hl ht
  go_enter Tryz.func87, Tryz.ntmps87
  go_wp2_with fail
  refine HI.out.mono ?_
  rintro e w1 ⟨i, rfl, hd, hb1⟩
  have HD := Lib.hid hd
  have HB1 := Lib.hid hb1
  clear hd hb1
  go_wp2
  go_ret
  exact ⟨by rw [← HD.out]; rfl, HB1.out⟩
set_option maxRecDepth 100000 in
set_option maxHeartbeats 1000000 in
theorem indexO_any (l : List Op) (v : Value) (k : Nat) (cap : Array Value) (p : Op → Bool) (w : World) (he : ∀ (a : Array Value) (w : World), (callFunc k a).run Tryz.prog w = .ok (.enter k a) w) (hl : OpsAt w v l) (ht : Tests w k cap (fun W x v => atO W x v ∧ x ∈ l) p) :
    Calls Tryz.prog 95 #[v, .func (.func k) #[] cap] w fun e w' => ∃ i : Int, e = .returned (.int .i64 i) ∧ decide (0 ≤ i) = l.any p ∧ Below w.heap.size w w' := by
  obtain ⟨A, c, rfl, h1, h2⟩ := OpsAt.form hl
  unfold maxLen at h2
  have HL := Lib.hid hl
  have HT := Lib.hid ht
  clear hl ht
  go_enter Tryz.func95, Tryz.ntmps95
  go_wp2
  go_loopw [8] (fun i wr => ∃ j : Nat, j ≤ l.length ∧ i = .int .i64 j ∧ Hid ((l.take j).any p = false) ∧ Hid (Below w.heap.size w wr)) (fun i _ => l.length - (intOf i).toNat)
  case atStart => exact ⟨0, Nat.zero_le _, rfl, rfl, Below.refl _ _⟩
  case round =>
    obtain ⟨j, hj, rfl, HF, HB⟩ := hrel
    by_cases hlt : j < l.length
    · obtain ⟨g, off, cap', ea, h3, h4, hg, hc⟩ := (OpsAt.below HL.out HB.out).open_ (Nat.lt_of_le_of_lt (Nat.zero_le _) hlt)
      cases ea
      obtain ⟨av, hcc⟩ := hc j hlt
      obtain ⟨c0, c1, c2, c3, c4, c5, c6, car⟩ := hcc
      have HX := Lib.hid (show atO wr l[j] (opv l[j] av) from ⟨av, car, rfl⟩)
      clear car
      unfold opv at HX
      clear hc
      go_wp2_with fail
      refine (HT.out _ HB.out _ _ ⟨HX.out, List.getElem_mem _⟩).mono ?_
      rintro e w1 ⟨rfl, hb1⟩
      have HB1 := Lib.hid (HB.out.trans (below_of_le hb1 HB.out.size))
      clear hb1
      cases hp : p l[j] with
      | true =>
        have HT := Lib.hid (any_hit hlt hp)
        clear hp
        go_wp2
        go_ret
        exact ⟨j, rfl, by rw [HT.out]; simp, HB1.out⟩
      | false =>
        have HT := Lib.hid (any_step hlt HF.out hp)
        clear hp
        go_wp2
        go_roundw
        case rel => exact ⟨j + 1, by omega, by go_num, HT.out, HB1.out⟩
        case measure => simp [intOf]; omega
    · have HE := Lib.hid (any_end (Nat.le_of_not_lt hlt) HF.out)
      have hkn : j = l.length := by omega
      clear HF
      go_wp2
      go_ret
      exact ⟨-1, rfl, by rw [HE.out]; rfl, HB.out⟩
theorem containsO_any (l : List Op) (v : Value) (k : Nat) (cap : Array Value) (p : Op → Bool) (w : World) (he : ∀ (a : Array Value) (w : World), (callFunc k a).run Tryz.prog w = .ok (.enter k a) w) (hl : OpsAt w v l) (ht : Tests w k cap (fun W x v => atO W x v ∧ x ∈ l) p) :
    Calls Tryz.prog 74 #[v, .func (.func k) #[] cap] w fun e w' => e = .returned (.bool (l.any p)) ∧ Below w.heap.size w w' := by
  have HI := Lib.hid (indexO_any l v k cap p w he hl ht)
  clear hl ht
  go_enter Tryz.func74, Tryz.ntmps74
  go_wp2_with fail
  refine HI.out.mono ?_
  rintro e w1 ⟨i, rfl, hd, hb1⟩
  have HD := Lib.hid hd
  have HB1 := Lib.hid hb1
  clear hd hb1
  go_wp2
  go_ret
  exact ⟨by rw [← HD.out]; rfl, HB1.out⟩
set_option maxRecDepth 100000 in
set_option maxHeartbeats 1000000 in
theorem indexB_any (l : List Bl) (v : Value) (k : Nat) (cap : Array Value) (p : Bl → Bool) (w : World) (he : ∀ (a : Array Value) (w : World), (callFunc k a).run Tryz.prog w = .ok (.enter k a) w) (hl : BlsAt w v l) (ht : Tests w k cap (fun W x v => atB W x v ∧ x ∈ l) p) :
    Calls Tryz.prog 112 #[v, .func (.func k) #[] cap] w fun e w' => ∃ i : Int, e = .returned (.int .i64 i) ∧ decide (0 ≤ i) = l.any p ∧ Below w.heap.size w w' := by
  obtain ⟨A, c, rfl, h1, h2⟩ := BlsAt.form hl
  unfold maxLen at h2
  have HL := Lib.hid hl
  have HT := Lib.hid ht
  clear hl ht
  go_enter Tryz.func112, Tryz.ntmps112
  go_wp2
  go_loopw [8] (fun i wr => ∃ j : Nat, j ≤ l.length ∧ i = .int .i64 j ∧ Hid ((l.take j).any p = false) ∧ Hid (Below w.heap.size w wr)) (fun i _ => l.length - (intOf i).toNat)
  case atStart => exact ⟨0, Nat.zero_le _, rfl, rfl, Below.refl _ _⟩
  case round =>
    obtain ⟨j, hj, rfl, HF, HB⟩ := hrel
    by_cases hlt : j < l.length
    · obtain ⟨g, off, cap', ea, h3, h4, hg, hc⟩ := (BlsAt.below HL.out HB.out).open_ (Nat.lt_of_le_of_lt (Nat.zero_le _) hlt)
      cases ea
      obtain ⟨ov, hcc⟩ := hc j hlt
      obtain ⟨c0, c1, c2, c3, c4, c5, car⟩ := hcc
      have HX := Lib.hid (show atB wr l[j] (blv l[j] ov) from ⟨ov, car, rfl⟩)
      clear car
      unfold blv at HX
      clear hc
      go_wp2_with fail
      refine (HT.out _ HB.out _ _ ⟨HX.out, List.getElem_mem _⟩).mono ?_
      rintro e w1 ⟨rfl, hb1⟩
      have HB1 := Lib.hid (HB.out.trans (below_of_le hb1 HB.out.size))
      clear hb1
      cases hp : p l[j] with
      | true =>
        have HT := Lib.hid (any_hit hlt hp)
        clear hp
        go_wp2
        go_ret
        exact ⟨j, rfl, by rw [HT.out]; simp, HB1.out⟩
      | false =>
        have HT := Lib.hid (any_step hlt HF.out hp)
        clear hp
        go_wp2
        go_roundw
        case rel => exact ⟨j + 1, by omega, by go_num, HT.out, HB1.out⟩
        case measure => simp [intOf]; omega
    · have HE := Lib.hid (any_end (Nat.le_of_not_lt hlt) HF.out)
      have hkn : j = l.length := by omega
      clear HF
      go_wp2
      go_ret
      exact ⟨-1, rfl, by rw [HE.out]; rfl, HB.out⟩
theorem containsB_any (l : List Bl) (v : Value) (k : Nat) (cap : Array Value) (p : Bl → Bool) (w : World) (he : ∀ (a : Array Value) (w : World), (callFunc k a).run Tryz.prog w = .ok (.enter k a) w) (hl : BlsAt w v l) (ht : Tests w k cap (fun W x v => atB W x v ∧ x ∈ l) p) :
    Calls Tryz.prog 96 #[v, .func (.func k) #[] cap] w fun e w' => e = .returned (.bool (l.any p)) ∧ Below w.heap.size w w' := by
  have HI := Lib.hid (indexB_any l v k cap p w he hl ht)
  clear hl ht
  go_enter Tryz.func96, Tryz.ntmps96
  go_wp2_with fail
  refine HI.out.mono ?_
  rintro e w1 ⟨i, rfl, hd, hb1⟩
  have HD := Lib.hid hd
  have HB1 := Lib.hid hb1
  clear hd hb1
  go_wp2
  go_ret
  exact ⟨by rw [← HD.out]; rfl, HB1.out⟩
end Go.Proofs.YtlmoblmkhicoeaaGreatDoor

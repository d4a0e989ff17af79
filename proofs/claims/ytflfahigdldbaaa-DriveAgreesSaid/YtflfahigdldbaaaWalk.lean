/- What each function that DriveAgrees reaches comes to. Conditions: lengths within the model. -/
import Derived.Test.YtflfahigdldbaaaRows
import Derived.WalkKit
import Derived.WalkSpells
import Derived.WalkLawsBesides
import Derived.Lib.Hide
import Derived.Deep.QuietTactic
import Derived.BigQuiet
import Derived.Deep.Draws
namespace Go.Proofs.Ytflfahigdldbaaa
open Go.RowKit
def beginsB (s t : ByteArray) : Bool := decide (t.size ≤ s.size) && ((s.extract 0 t.size).toList == t.toList)
def sameB (s t : ByteArray) : Bool := s.toList == t.toList
set_option maxHeartbeats 400000 in
theorem begins_any (s t : ByteArray) (w : World) (_hs : s.size ≤ maxLen) (_ht : t.size ≤ maxLen) :
    Calls Try.prog 5 #[.string s, .string t] w fun e w' => (e = .returned (.bool (beginsB s t))) ∧ w = w' := by
  go_enter Try.func5, Try.ntmps5
  go_wp2
  all_goals go_ret
  all_goals simp [beginsB, *]
set_option maxHeartbeats 400000 in
theorem has_any (s t : ByteArray) (w : World) (_hs : s.size ≤ maxLen) (_ht : t.size ≤ maxLen) :
    Calls Try.prog 7 #[.string s, .string t] w fun e w' => (e = .returned (.bool (beginsB s t))) ∧ w = w' := by
  go_enter Try.func7, Try.ntmps7
  go_wp2
  all_goals go_ret
  all_goals simp [beginsB, *]
/-- What the conversion of a slice of bytes to a string tells, in every world that has not turned below. -/
def Conv (w : World) (v : Value) (s : ByteArray) : Prop :=
  ∀ w', Below w.heap.size w w' → (convert 22 9 v).run Try.prog w' = .ok (.string s) w'
theorem below2 (w : World) (o1 o2 : Obj) : Below w.heap.size w ((w.alloc o1).alloc o2) :=
  (((Below.refl _ _).alloc (Nat.le_refl _) _).alloc (by simp) _)
theorem below2d (w : World) (o1 o2 : Obj) (n : Nat) : Below w.heap.size w (((w.alloc o1).alloc o2).drewN n) :=
  (below2 w o1 o2).trans ⟨rfl, rfl, rfl, Nat.le_refl _, fun _ _ => rfl⟩
set_option maxHeartbeats 400000 in
theorem same_any (ae ac be bc : Int) (va vb : Value) (sa sb : ByteArray) (w : World) (ha : Conv w va sa) (hb : Conv w vb sb) :
    Calls Try.prog 4 #[.agg #[.int .i64 ae, .int .i64 ac, va], .agg #[.int .i64 be, .int .i64 bc, vb]] w
      fun e w' => (e = .returned (.bool (ae == be && ac == bc && sameB sa sb))) ∧ Below w.heap.size w w' := by
  have ha1 := fun o1 o2 => ha _ (below2 w o1 o2)
  have hb1 := fun o1 o2 => hb _ (below2 w o1 o2)
  clear ha hb
  go_enter Try.func4, Try.ntmps4
  go_wp2
  all_goals go_ret
  all_goals exact ⟨by simp [sameB, *], below2 _ _ _⟩
def want (ae ac be bc : Int) (sa sb : ByteArray) (wt : Bool) : Bool :=
  if ae == 1 || ae == 2 then (ae == be && ac == bc && sameB sa sb) || (be == 3 && wt && beginsB sa sb)
  else !(ae != 0 && ae != 4 && ae != 3)
set_option maxHeartbeats 1000000 in
theorem agree_12 (ae ac be bc : Int) (va vb : Value) (sa sb : ByteArray) (wt : Bool) (w : World) (ha : Conv w va sa) (hb : Conv w vb sb)
    (hs : sa.size ≤ maxLen) (ht : sb.size ≤ maxLen) (hae : ae = 1 ∨ ae = 2) :
    Calls Try.prog 6 #[.agg #[.int .i64 ae, .int .i64 ac, va], .agg #[.int .i64 be, .int .i64 bc, vb], .bool wt] w
      fun e w' => (e = .returned (.bool (want ae ac be bc sa sb wt))) ∧ Below w.heap.size w w' := by
  have ha1 := fun o1 o2 n => ha _ (below2d w o1 o2 n)
  have hb1 := fun o1 o2 n => hb _ (below2d w o1 o2 n)
  clear ha hb
  have hbb := fun o1 o2 n => below2d w o1 o2 n
  have HB := Lib.hid hbb
  clear hbb
  rcases hae with rfl | rfl
  all_goals
    go_enter Try.func6, Try.ntmps6
    go_wp2
    go_quiet (fail)
    go_wp2_with (go_at_call 7; refine (has_any _ _ _ hs ht).mono ?_; rintro e w' ⟨rfl, rfl⟩)
  all_goals go_ret
  all_goals refine ⟨?_, HB.out _ _ _⟩
  all_goals simp only [beq_iff_eq, beq_eq_false_iff_ne, ne_eq] at *
  all_goals simp [want, sameB, *]
  all_goals (intros; first | omega | (subst_vars; simp_all))
set_option maxHeartbeats 1000000 in
theorem agree_other (ae ac be bc : Int) (va vb : Value) (sa sb : ByteArray) (wt : Bool) (w : World) (h1 : (ae == 1) = false) (h2 : (ae == 2) = false) :
    Calls Try.prog 6 #[.agg #[.int .i64 ae, .int .i64 ac, va], .agg #[.int .i64 be, .int .i64 bc, vb], .bool wt] w
      fun e w' => (e = .returned (.bool (want ae ac be bc sa sb wt))) ∧ Below w.heap.size w w' := by
  have hbb := fun o1 o2 => below2 w o1 o2
  have HB := Lib.hid hbb
  clear hbb
  go_enter Try.func6, Try.ntmps6
  go_wp2
  all_goals go_ret
  all_goals refine ⟨?_, HB.out _ _⟩
  all_goals simp only [beq_iff_eq, beq_eq_false_iff_ne, ne_eq] at *
  all_goals simp [want, *]
theorem agree_any (ae ac be bc : Int) (va vb : Value) (sa sb : ByteArray) (wt : Bool) (w : World) (ha : Conv w va sa) (hb : Conv w vb sb)
    (hs : sa.size ≤ maxLen) (ht : sb.size ≤ maxLen) :
    Calls Try.prog 6 #[.agg #[.int .i64 ae, .int .i64 ac, va], .agg #[.int .i64 be, .int .i64 bc, vb], .bool wt] w
      fun e w' => (e = .returned (.bool (want ae ac be bc sa sb wt))) ∧ Below w.heap.size w w' := by
  by_cases h1 : ae = 1
  · exact agree_12 ae ac be bc va vb sa sb wt w ha hb hs ht (Or.inl h1)
  · by_cases h2 : ae = 2
    · exact agree_12 ae ac be bc va vb sa sb wt w ha hb hs ht (Or.inr h2)
    · exact agree_other ae ac be bc va vb sa sb wt w (by simpa using h1) (by simpa using h2)
theorem Conv.later {w w1 : World} {v : Value} {s : ByteArray} (h : Conv w v s) (hb : Below w.heap.size w w1) : Conv w1 v s :=
  fun w' hw => h w' (hb.trans (hw.mono hb.size))
theorem bcell {W w1 : World} (hb : Below W.heap.size W w1) : (∀ b o, b < W.heap.size → w1.cell? ⟨b, o, none⟩ = W.cell? ⟨b, o, none⟩) ∧ (∀ b o, b < W.heap.size → w1.frozen? ⟨b, o, none⟩ = W.frozen? ⟨b, o, none⟩) :=
  ⟨fun b o h => hb.cell (p := ⟨b, o, none⟩) h, fun b o h => hb.frozen (p := ⟨b, o, none⟩) h⟩
set_option maxHeartbeats 1000000 in
theorem law_12 (ae ac be bc : Int) (va vb : Value) (sa sb : ByteArray) (wt : Bool) (w : World) (ha : Conv w va sa) (hb : Conv w vb sb)
    (hs : sa.size ≤ maxLen) (ht : sb.size ≤ maxLen) (hae : ae = 1 ∨ ae = 2) :
    Calls Try.prog 3 #[.agg #[.int .i64 ae, .int .i64 ac, va], .agg #[.int .i64 be, .int .i64 bc, vb], .bool wt] w
      fun e w' => (e = .returned (.bool true)) ∧ Below w.heap.size w w' := by
  have HA := Lib.hid ha
  have HB := Lib.hid hb
  clear ha hb
  rcases hae with rfl | rfl
  all_goals
    go_enter Try.func3, Try.ntmps3
    go_wp2_with fail
    refine (same_any _ _ _ _ _ _ sa sb _ (HA.out.later ?_) (HB.out.later ?_)).mono ?_
  all_goals first | exact below2 _ _ _ | skip
  all_goals
    rintro e w1 ⟨rfl, hb1⟩
    have hbw := (below2 w _ _).trans (hb1.mono (by simp; omega))
    have hz : w.heap.size + 2 ≤ w1.heap.size := by have := hb1.size; simpa using this
    obtain ⟨hc, hf⟩ := bcell hb1
    clear hb1
    have ha1 := HA.out _ hbw
    have hb1 := HB.out _ hbw
    have HBW := Lib.hid hbw
    clear hbw
    generalize hsm : (_ && sameB sa sb) = sm
    have HSM := Lib.hid hsm
    clear hsm
    cases sm
    all_goals
      go_wp2_with (go_at_call 5; refine (begins_any _ _ _ hs ht).mono ?_; rintro e w' ⟨rfl, rfl⟩)
      all_goals
        refine (agree_any _ _ _ _ _ _ sa sb _ _ (HA.out.later HBW.out) (HB.out.later HBW.out) hs ht).mono ?_
        rintro e w2 ⟨rfl, hb2⟩
        have HB2 := Lib.hid (HBW.out.trans (hb2.mono (by omega)))
        clear hb2
  all_goals
    go_wp2
    go_ret
    refine ⟨?_, HB2.out⟩
    have hsm := HSM.out
    clear hc hf ha1 hb1 HA HB HBW HSM HB2
    simp only [want] at *
    simp_all
    try (cases hsb : sameB sa sb <;> simp_all <;> omega)
set_option maxHeartbeats 1000000 in
theorem law_other (ae ac be bc : Int) (va vb : Value) (sa sb : ByteArray) (wt : Bool) (w : World) (ha : Conv w va sa) (hb : Conv w vb sb)
    (hs : sa.size ≤ maxLen) (ht : sb.size ≤ maxLen) (h1 : (ae == 1) = false) (h2 : (ae == 2) = false) :
    Calls Try.prog 3 #[.agg #[.int .i64 ae, .int .i64 ac, va], .agg #[.int .i64 be, .int .i64 bc, vb], .bool wt] w
      fun e w' => (e = .returned (.bool true)) ∧ Below w.heap.size w w' := by
  have HA := Lib.hid ha
  have HB := Lib.hid hb
  clear ha hb
  go_enter Try.func3, Try.ntmps3
  go_wp2_with fail
  all_goals
    refine (agree_any _ _ _ _ _ _ sa sb _ _ (HA.out.later ?_) (HB.out.later ?_) hs ht).mono ?_
  all_goals first | exact below2 _ _ _ | skip
  all_goals
    rintro e w2 ⟨rfl, hb2⟩
    have HB2 := Lib.hid ((below2 w _ _).trans (hb2.mono (by simp; omega)))
    clear hb2
    go_wp2
    go_ret
    refine ⟨?_, HB2.out⟩
    simp only [want] at *
    simp_all
theorem law_any (ae ac be bc : Int) (va vb : Value) (sa sb : ByteArray) (wt : Bool) (w : World) (ha : Conv w va sa) (hb : Conv w vb sb)
    (hs : sa.size ≤ maxLen) (ht : sb.size ≤ maxLen) :
    Calls Try.prog 3 #[.agg #[.int .i64 ae, .int .i64 ac, va], .agg #[.int .i64 be, .int .i64 bc, vb], .bool wt] w
      fun e w' => (e = .returned (.bool true)) ∧ Below w.heap.size w w' := by
  by_cases h1 : ae = 1
  · exact law_12 ae ac be bc va vb sa sb wt w ha hb hs ht (Or.inl h1)
  · by_cases h2 : ae = 2
    · exact law_12 ae ac be bc va vb sa sb wt w ha hb hs ht (Or.inr h2)
    · exact law_other ae ac be bc va vb sa sb wt w ha hb hs ht (by simpa using h1) (by simpa using h2)
end Go.Proofs.Ytflfahigdldbaaa

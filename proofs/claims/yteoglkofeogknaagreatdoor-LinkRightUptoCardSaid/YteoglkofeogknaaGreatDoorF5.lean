/- Both fits answer one Bool, of every object and relocation. Conditions: what each theorem states. -/
import Derived.Test.YteoglkofeogknaaGreatDoorF3a
import Derived.Test.YteoglkofeogknaaGreatDoorF3b
import Derived.Test.YteoglkofeogknaaGreatDoorFC
import Derived.Test.YteoglkofeogknaaGreatDoorDV
set_option linter.unusedVariables false
set_option linter.unusedSimpArgs false
namespace Go.Proofs.YteoglkofeogknaaGreatDoor
open Go.RowKit
/-- What a word is decoded to: operation, number, error. -/
def decT (v : Int) : Int × Int × Int := ((dcA v.toNat).1, (dcA v.toNat).2.2.2.2.1, (dcA v.toNat).2.2.2.2.2)
theorem decT_ok {v : Int} (h : ∃ n : Nat, v = (n : Int) ∧ n < 4294967296) : ∃ d a b : Int, (∀ w, Calls Tryz.prog 34 #[.int .u32 v] w fun e w' => e = .returned (.tuple #[.agg #[.int .i64 (decT v).1, .int .i64 d, .int .i64 a, .int .i64 b, .int .i64 (decT v).2.1], .int .i64 (decT v).2.2]) ∧ Below w.heap.size w w') ∧ True := by
  obtain ⟨n, rfl, hn⟩ := h
  exact ⟨_, _, _, fun w => dec_any n hn w, trivial⟩
/-- Does a relocation fit an object? -/
def fitsP (o : Ob) (r : Rel) : Bool :=
  if relBad (o.sec r.sec).length r then false else fitK r.sec r.kd (decT (w4 (o.sec r.sec) r.at_.toNat)).1 (decT (w4 (o.sec r.sec) r.at_.toNat)).2.1 (decT (w4 (o.sec r.sec) r.at_.toNat)).2.2 (w4 (o.sec r.sec) r.at_.toNat)
theorem ObAt.sec {W : World} {v1 v2 v3 v4 : Value} {o : Ob} (h : ObAt W v1 v2 v3 v4 o) (s : Int) : Bys W (if s = 0 then v1 else v2) (o.sec s) := by
  unfold Ob.sec
  split
  · exact h.tx
  · exact h.dt
theorem Bys.form {W : World} {v : Value} {bs : List UInt8} (h : Bys W v bs) : ∃ A cap, v = .slice A bs.length cap ∧ bs.length ≤ maxLen := by
  obtain ⟨A, cap, rfl, h1, h2, _⟩ := h
  exact ⟨A, cap, rfl, Nat.le_trans h1 h2⟩
set_option maxHeartbeats 1000000 in
theorem fits_any (v1 v2 v3 v4 : Value) (o : Ob) (r : Rel) (w : World) (h : ObAt w v1 v2 v3 v4 o) (ho : OpsAt w) (h0 : 0 < w.heap.size) (hs : r.nm.size ≤ maxLen) :
    Calls Tryz.prog 38 #[.agg #[v1, v2, v3, v4], .agg #[.int .i64 r.sec, .int .i64 r.at_, .int .i64 r.kd, .int .i64 r.add, .string r.nm]] w fun e w' => e = .returned (.bool (fitsP o r)) ∧ Below w.heap.size w w' := by
  have hsec := h.sec r.sec
  obtain ⟨A1, k1, rfl, l1⟩ := h.tx.form
  obtain ⟨A2, k2, rfl, l2⟩ := h.dt.form
  obtain ⟨As, ks, hv, ls⟩ := hsec.form
  have hP : ∀ W, Calls Tryz.prog 37 #[.agg #[.slice A1 o.tx.length k1, .slice A2 o.dt.length k2, v3, v4], .int .i64 r.sec] W fun e w' => e = .returned (.slice As (o.sec r.sec).length ks) ∧ Below W.heap.size W w' := fun W => by
    rw [← hv]
    exact part_any _ _ v3 v4 r.sec W
  rw [hv] at hsec
  obtain ⟨sec, at_, kd, add, nm⟩ := r
  dsimp only at *
  by_cases c1 : sec < 0
  · have e : fitsP o ⟨sec, at_, kd, add, nm⟩ = false := by unfold fitsP; rw [if_pos (by simp [relBad, c1])]
    rw [e]
    exact fits_c1 _ _ _ _ _ _ v3 v4 sec at_ kd add nm w c1
  have d1 : decide (sec < 0) = false := decide_eq_false c1
  by_cases c2 : 1 < sec
  · have e : fitsP o ⟨sec, at_, kd, add, nm⟩ = false := by unfold fitsP; rw [if_pos (by simp [relBad, c2])]
    rw [e]
    exact fits_c2 _ _ _ _ _ _ v3 v4 sec at_ kd add nm w d1 c2
  have d2 : decide (1 < sec) = false := decide_eq_false c2
  by_cases c3 : at_ < 0
  · have e : fitsP o ⟨sec, at_, kd, add, nm⟩ = false := by unfold fitsP; rw [if_pos (by simp [relBad, c3])]
    rw [e]
    exact fits_c3 _ _ _ _ _ _ v3 v4 sec at_ kd add nm w d1 d2 c3
  have d3 : decide (at_ < 0) = false := decide_eq_false c3
  by_cases c4 : (at_.tmod 4 != 0) = true
  · have e : fitsP o ⟨sec, at_, kd, add, nm⟩ = false := by unfold fitsP; rw [if_pos (by simp [relBad, c4])]
    rw [e]
    exact fits_c4 _ _ _ _ _ _ v3 v4 sec at_ kd add nm w d1 d2 d3 c4
  obtain ⟨k, rfl⟩ := Int.eq_ofNat_of_zero_le (Int.not_lt.1 c3)
  have d4 : (k : Int).tmod 4 = 0 := by simpa using c4
  have hlen : ((o.sec sec).length : Int) ≤ 9223372036854775807 := by unfold maxLen at ls; omega
  have e5 : IntKind.i64.wrap (((o.sec sec).length : Int) - 4) = ((o.sec sec).length : Int) - 4 := IntWalk.i64_in _ (by omega)
  by_cases c5 : ((o.sec sec).length : Int) - 4 < (k : Int)
  · have e : fitsP o ⟨sec, k, kd, add, nm⟩ = false := by unfold fitsP; rw [if_pos (by simp [relBad, c5])]
    rw [e]
    exact fits_c5 _ _ _ _ _ _ v3 v4 _ _ _ sec k kd add _ nm w d1 d2 d4 e5 c5 hP
  have d5 : decide (((o.sec sec).length : Int) - 4 < (k : Int)) = false := decide_eq_false c5
  by_cases c6 : add < 0
  · have e : fitsP o ⟨sec, k, kd, add, nm⟩ = false := by unfold fitsP; rw [if_pos (by simp [relBad, c6])]
    rw [e]
    exact fits_c6 _ _ _ _ _ _ v3 v4 _ _ _ sec k kd add _ nm w d1 d2 d4 e5 d5 c6 hP
  have d6 : decide (add < 0) = false := decide_eq_false c6
  by_cases c7 : 65535 < add
  · have e : fitsP o ⟨sec, k, kd, add, nm⟩ = false := by unfold fitsP; rw [if_pos (by simp [relBad, c7])]
    rw [e]
    exact fits_c7 _ _ _ _ _ _ v3 v4 _ _ _ sec k kd add _ nm w d1 d2 d4 e5 d5 d6 c7 hP
  have d7 : decide (65535 < add) = false := decide_eq_false c7
  have hS : ∀ W, Below w.heap.size w W ∧ w.heap.size ≤ W.heap.size → Calls Tryz.prog 36 #[.string nm] W fun e w' => e = .returned (.bool (symA nm)) ∧ Below W.heap.size W w' := fun W hW => sym_any nm W hs (ho.below h0 hW.1) (Nat.lt_of_lt_of_le h0 hW.2)
  cases c8 : symA nm with
  | false =>
    rw [c8] at hS
    have e : fitsP o ⟨sec, k, kd, add, nm⟩ = false := by unfold fitsP; rw [if_pos (by simp [relBad, c8])]
    rw [e]
    exact fits_c8 _ _ _ _ _ _ v3 v4 _ _ _ sec k kd add _ nm w d1 d2 d4 e5 d5 d6 d7 hP hS
  | true =>
    rw [c8] at hS
    have hb : relBad (o.sec sec).length ⟨sec, k, kd, add, nm⟩ = false := by unfold relBad; simp only [d1, d2, d3, d5, d6, d7, c8]; rw [d4]; rfl
    have e : fitsP o ⟨sec, k, kd, add, nm⟩ = fitK sec kd (decT (w4 (o.sec sec) k)).1 (decT (w4 (o.sec sec) k)).2.1 (decT (w4 (o.sec sec) k)).2.2 (w4 (o.sec sec) k) := by
      unfold fitsP
      dsimp only
      rw [hb, if_neg (by decide)]
      rfl
    rw [e]
    obtain ⟨d, a, b, hA, hR⟩ := decT_ok (w4_lt (o.sec sec) k)
    exact fits_ok _ _ _ _ _ _ v3 v4 _ _ _ sec k kd add _ nm w _ _ _ _ d a b d1 d2 d4 e5 d5 d6 d7 hP hS (fun W hW => at_any (o.sec sec) _ k W (hsec.below hW.1) (by omega)) hA
end Go.Proofs.YteoglkofeogknaaGreatDoor

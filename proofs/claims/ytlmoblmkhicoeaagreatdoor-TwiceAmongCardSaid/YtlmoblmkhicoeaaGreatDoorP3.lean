/- Plain: where blocks lead; which are reached. No conditions. -/
import Derived.Test.YtlmoblmkhicoeaaGreatDoorP2
set_option linter.unusedVariables false
set_option linter.unusedSimpArgs false
namespace Go.Proofs.YtlmoblmkhicoeaaGreatDoor
def onceS (o : List Int) (k : Int) : List Int := if o.contains k then o else o ++ [k]
def onceL (l : List Int) : List Int := l.foldl onceS []
def toL (F : Fn) : List (List Int) := F.bl.map (fun b => onceL (exT b.x))
theorem onceS_len (o : List Int) (k : Int) : (onceS o k).length ≤ o.length + 1 := by
  unfold onceS
  split <;> simp
theorem onceL_fold (l : List Int) : ∀ o : List Int, (l.foldl onceS o).length ≤ o.length + l.length := by
  induction l with
  | nil => intro o; simp
  | cons a l ih =>
    intro o
    rw [List.foldl_cons, List.length_cons]
    have := ih (onceS o a)
    have := onceS_len o a
    omega
theorem onceL_len (l : List Int) : (onceL l).length ≤ l.length := by
  have := onceL_fold l []
  simp only [List.length_nil, Nat.zero_add] at this
  exact this
theorem onceL_mem (l : List Int) : ∀ o : List Int, ∀ x, x ∈ l.foldl onceS o ↔ x ∈ o ∨ x ∈ l := by
  induction l with
  | nil => intro o x; simp
  | cons a l ih =>
    intro o x
    rw [List.foldl_cons, ih]
    unfold onceS
    by_cases h : o.contains a
    · rw [if_pos h]
      have h' : a ∈ o := by simpa using h
      constructor
      · rintro (h1 | h1)
        · exact Or.inl h1
        · exact Or.inr (List.mem_cons_of_mem _ h1)
      · rintro (h1 | h1)
        · exact Or.inl h1
        · rcases List.mem_cons.1 h1 with rfl | h2
          · exact Or.inl h'
          · exact Or.inr h2
    · rw [if_neg h]
      simp only [List.mem_append, List.mem_cons, List.not_mem_nil, or_false]
      exact or_assoc
theorem mem_onceL {l : List Int} {x : Int} : x ∈ onceL l ↔ x ∈ l := by
  rw [onceL, onceL_mem]; simp
theorem once_step {l : List Int} {k : Nat} (hk : k < l.length) : onceL (l.take (k + 1)) = onceS (onceL (l.take k)) l[k] := by
  rw [List.take_succ_eq_append_getElem hk, onceL, List.foldl_append]; rfl
theorem toL_len (F : Fn) : (toL F).length = F.bl.length := by simp [toL]
/-- One look at a successor. -/
def visit (s : List Bool × List Int) (n : Int) : List Bool × List Int := if s.1.getD n.toNat false then s else (s.1.set n.toNat true, s.2 ++ [n])
def fromStep (tl : List (List Int)) (s : List Bool × List Int) : List Bool × List Int := (tl.getD (s.2.getLastD 0).toNat []).foldl visit (s.1, s.2.dropLast)
def reachF (tl : List (List Int)) : Nat → List Bool × List Int → List Bool
  | 0, s => s.1
  | f + 1, s => if s.2 = [] then s.1 else reachF tl f (fromStep tl s)
def reach0 (n : Nat) : List Bool × List Int := ((List.replicate n false).set 0 true, [0])
def reachL (tl : List (List Int)) : List Bool := reachF tl (2 * tl.length + 1) (reach0 tl.length)
def unseen (l : List Bool) : Nat := l.countP (fun b => !b)
theorem unseen_set : ∀ (l : List Bool) (n : Nat), n < l.length → l.getD n false = false → unseen (l.set n true) + 1 = unseen l
  | [], n, h, _ => absurd h (by simp)
  | b :: l, 0, h, h2 => by
    have : b = false := by simpa using h2
    subst this
    simp [unseen]
  | b :: l, n + 1, h, h2 => by
    have := unseen_set l n (by simpa using h) (by simpa using h2)
    unfold unseen at *
    rw [List.set_cons_succ, List.countP_cons, List.countP_cons]
    omega
theorem unseen_le (l : List Bool) : unseen l ≤ l.length := List.countP_le_length
def meas (s : List Bool × List Int) : Nat := 2 * unseen s.1 + s.2.length
theorem visit_len (s : List Bool × List Int) (n : Int) : (visit s n).1.length = s.1.length := by
  unfold visit
  split <;> simp
theorem visit_meas (s : List Bool × List Int) (n : Int) (h : n.toNat < s.1.length) : meas (visit s n) ≤ meas s := by
  unfold visit
  split
  · exact Nat.le_refl _
  · rename_i h2
    have := unseen_set s.1 n.toNat h (by simpa using h2)
    simp [meas]
    omega
theorem visits_meas (l : List Int) : ∀ s : List Bool × List Int, (∀ n ∈ l, n.toNat < s.1.length) → meas (l.foldl visit s) ≤ meas s ∧ (l.foldl visit s).1.length = s.1.length := by
  induction l with
  | nil => intro s _; exact ⟨Nat.le_refl _, rfl⟩
  | cons a l ih =>
    intro s h
    have h1 := visit_meas s a (h a (List.mem_cons_self ..))
    have h2 := ih (visit s a) (fun n hn => by rw [visit_len]; exact h n (List.mem_cons_of_mem _ hn))
    rw [List.foldl_cons]
    exact ⟨Nat.le_trans h2.1 h1, by rw [h2.2, visit_len]⟩
/-- The lists lead to blocks. -/
def ToOk (tl : List (List Int)) : Prop := ∀ l ∈ tl, ∀ t ∈ l, 0 ≤ t ∧ t < (tl.length : Int)
theorem getD_ok {tl : List (List Int)} (h : ToOk tl) (k : Nat) : ∀ t ∈ tl.getD k [], 0 ≤ t ∧ t < (tl.length : Int) := by
  rcases Nat.lt_or_ge k tl.length with hl | hl
  · have e : tl.getD k [] = tl[k] := by simp [hl]
    rw [e]; exact h _ (List.getElem_mem hl)
  · have e : tl.getD k [] = [] := by simp [hl]
    rw [e]; intro t ht; cases ht
theorem fromStep_meas {tl : List (List Int)} (h : ToOk tl) (s : List Bool × List Int) (hl : s.1.length = tl.length) (hs : s.2 ≠ []) : meas (fromStep tl s) < meas s ∧ (fromStep tl s).1.length = tl.length := by
  have hm := visits_meas (tl.getD (s.2.getLastD 0).toNat []) (s.1, s.2.dropLast) (fun n hn => by
    have := getD_ok h _ n hn
    simp [hl]; omega)
  have h1 : meas (s.1, s.2.dropLast) < meas s := by
    have : 0 < s.2.length := List.length_pos_iff.2 hs
    simp [meas]; omega
  exact ⟨Nat.lt_of_le_of_lt hm.1 h1, by rw [fromStep, hm.2]; exact hl⟩
/-- What is seen leads to what is seen, or is still to do. -/
structure RInv (tl : List (List Int)) (s : List Bool × List Int) : Prop where
  z : s.1.getD 0 false = true
  c : ∀ k : Nat, s.1.getD k false = true → (k : Int) ∈ s.2 ∨ ∀ t ∈ tl.getD k [], s.1.getD t.toNat false = true
  d : ∀ t ∈ s.2, 0 ≤ t ∧ t < (tl.length : Int) ∧ s.1.getD t.toNat false = true
theorem getD_set {l : List Bool} {i j : Nat} (h : l.getD i false = true) : (l.set j true).getD i false = true := by
  simp only [List.getD_eq_getElem?_getD] at *
  by_cases e : j = i
  · subst e
    rcases Nat.lt_or_ge j l.length with hl | hl
    · simp [hl]
    · rw [List.getElem?_eq_none (by simpa using hl)] at h; simp at h
  · rw [List.getElem?_set_ne e]; exact h
theorem visit_mono (s : List Bool × List Int) (n : Int) {i : Nat} (h : s.1.getD i false = true) : (visit s n).1.getD i false = true := by
  unfold visit
  split
  · exact h
  · exact getD_set h
theorem visit_sees (s : List Bool × List Int) (n : Int) (hn : n.toNat < s.1.length) : (visit s n).1.getD n.toNat false = true := by
  unfold visit
  split
  · assumption
  · simp [hn]
theorem visits_mono (l : List Int) : ∀ s : List Bool × List Int, ∀ i : Nat, s.1.getD i false = true → (l.foldl visit s).1.getD i false = true := by
  induction l with
  | nil => intro s i h; exact h
  | cons a l ih => intro s i h; rw [List.foldl_cons]; exact ih _ i (visit_mono s a h)
theorem visits_sees (l : List Int) : ∀ s : List Bool × List Int, (∀ n ∈ l, n.toNat < s.1.length) → ∀ t ∈ l, (l.foldl visit s).1.getD t.toNat false = true := by
  induction l with
  | nil => intro s _ t ht; cases ht
  | cons a l ih =>
    intro s h t ht
    rw [List.foldl_cons]
    rcases List.mem_cons.1 ht with rfl | ht
    · exact visits_mono l _ _ (visit_sees s t (h t (List.mem_cons_self ..)))
    · exact ih (visit s a) (fun n hn => by rw [visit_len]; exact h n (List.mem_cons_of_mem _ hn)) t ht
/-- New ones come to what is to do; the old ones stay there. -/
theorem visits_new (n : Nat) (l : List Int) : ∀ s : List Bool × List Int, s.1.length = n → (∀ t ∈ l, 0 ≤ t ∧ t < (n : Int)) → (∀ t ∈ s.2, 0 ≤ t ∧ t < (n : Int) ∧ s.1.getD t.toNat false = true) →
    (∀ k : Nat, (l.foldl visit s).1.getD k false = true → s.1.getD k false = true ∨ (k : Int) ∈ (l.foldl visit s).2) ∧ (∀ t ∈ s.2, t ∈ (l.foldl visit s).2) ∧ (∀ t ∈ (l.foldl visit s).2, 0 ≤ t ∧ t < (n : Int) ∧ (l.foldl visit s).1.getD t.toNat false = true) := by
  induction l with
  | nil => intro s _ _ h; exact ⟨fun k hk => Or.inl hk, fun t ht => ht, h⟩
  | cons a l ih =>
    intro s hl ha hd
    rw [List.foldl_cons]
    have haa := ha a (List.mem_cons_self ..)
    have hv : (∀ k : Nat, (visit s a).1.getD k false = true → s.1.getD k false = true ∨ (k : Int) ∈ (visit s a).2) ∧ (∀ t ∈ s.2, t ∈ (visit s a).2) ∧ (∀ t ∈ (visit s a).2, 0 ≤ t ∧ t < (n : Int) ∧ (visit s a).1.getD t.toNat false = true) := by
      refine ⟨fun k hk => ?_, fun t ht => ?_, fun t ht => ?_⟩
      · unfold visit at hk ⊢
        split at hk
        · exact Or.inl hk
        · rename_i h2
          rw [if_neg h2]
          by_cases e : a.toNat = k
          · right
            rw [List.mem_append]; right
            rw [List.mem_singleton]
            omega
          · left
            simp only [List.getD_eq_getElem?_getD] at *
            rwa [List.getElem?_set_ne e] at hk
      · unfold visit
        split
        · exact ht
        · exact List.mem_append_left _ ht
      · have hm : t ∈ s.2 ∨ t = a := by
          unfold visit at ht
          split at ht
          · exact Or.inl ht
          · rcases List.mem_append.1 ht with h | h
            · exact Or.inl h
            · exact Or.inr (List.mem_singleton.1 h)
        rcases hm with h | rfl
        · exact ⟨(hd t h).1, (hd t h).2.1, visit_mono s a (hd t h).2.2⟩
        · exact ⟨haa.1, haa.2, visit_sees s t (by omega)⟩
    obtain ⟨i1, i2, i3⟩ := ih (visit s a) (by rw [visit_len]; exact hl) (fun t ht => ha t (List.mem_cons_of_mem _ ht)) hv.2.2
    refine ⟨fun k hk => ?_, fun t ht => i2 t (hv.2.1 t ht), i3⟩
    rcases i1 k hk with h | h
    · rcases hv.1 k h with h | h
      · exact Or.inl h
      · exact Or.inr (i2 _ h)
    · exact Or.inr h
theorem rinv_step {tl : List (List Int)} (h : ToOk tl) {s : List Bool × List Int} (hl : s.1.length = tl.length) (hs : s.2 ≠ []) (hi : RInv tl s) : RInv tl (fromStep tl s) := by
  have hlast : s.2 = s.2.dropLast ++ [s.2.getLast hs] := (List.dropLast_concat_getLast hs).symm
  have hgl : s.2.getLastD 0 = s.2.getLast hs := by rw [List.getLastD_eq_getLast?, List.getLast?_eq_some_getLast hs]; rfl
  have hok := getD_ok h (s.2.getLastD 0).toNat
  have hdl : ∀ t ∈ s.2.dropLast, 0 ≤ t ∧ t < (tl.length : Int) ∧ s.1.getD t.toNat false = true := fun t ht => hi.d t (List.dropLast_subset _ ht)
  obtain ⟨n1, n2, n3⟩ := visits_new tl.length (tl.getD (s.2.getLastD 0).toNat []) (s.1, s.2.dropLast) hl hok hdl
  refine ⟨visits_mono _ _ 0 hi.z, fun k hk => ?_, n3⟩
  rcases n1 k hk with h1 | h1
  · rcases hi.c k h1 with h2 | h2
    · rw [hlast, List.mem_append] at h2
      rcases h2 with h2 | h2
      · exact Or.inl (n2 _ h2)
      · right
        intro t ht
        have e : (s.2.getLastD 0).toNat = k := by
          rw [List.mem_singleton] at h2
          rw [hgl, ← h2]; omega
        exact visits_sees _ _ (fun n hn => by have := hok n hn; simp [hl]; omega) t (by rw [e]; exact ht)
    · exact Or.inr (fun t ht => visits_mono _ _ _ (h2 t ht))
  · exact Or.inl h1
theorem reachF_inv {tl : List (List Int)} (h : ToOk tl) : ∀ f (s : List Bool × List Int), s.1.length = tl.length → meas s ≤ f → RInv tl s → (reachF tl f s).length = tl.length ∧ (reachF tl f s).getD 0 false = true ∧ ∀ k : Nat, (reachF tl f s).getD k false = true → ∀ t ∈ tl.getD k [], (reachF tl f s).getD t.toNat false = true
  | 0, s, hl, hm, hi => by
    have h0 : s.2 = [] := by
      apply List.length_eq_zero_iff.1
      unfold meas at hm; omega
    refine ⟨hl, hi.z, fun k hk => ?_⟩
    rcases hi.c k hk with h2 | h2
    · rw [h0] at h2; cases h2
    · exact h2
  | f + 1, s, hl, hm, hi => by
    rw [reachF]
    by_cases h0 : s.2 = []
    · rw [if_pos h0]
      refine ⟨hl, hi.z, fun k hk => ?_⟩
      rcases hi.c k hk with h2 | h2
      · rw [h0] at h2; cases h2
      · exact h2
    · rw [if_neg h0]
      have := fromStep_meas h s hl h0
      exact reachF_inv h f _ this.2 (by omega) (rinv_step h hl h0 hi)
theorem reach0_inv {tl : List (List Int)} (hn : 0 < tl.length) : (reach0 tl.length).1.length = tl.length ∧ meas (reach0 tl.length) ≤ 2 * tl.length + 1 ∧ RInv tl (reach0 tl.length) := by
  refine ⟨by simp [reach0], ?_, ?_, ?_, ?_⟩
  · have h1 := unseen_le (reach0 tl.length).1
    have h2 : (reach0 tl.length).1.length = tl.length := by simp [reach0]
    have h3 : (reach0 tl.length).2.length = 1 := rfl
    unfold meas
    omega
  · simp [reach0, hn]
  · intro k hk
    left
    have : k = 0 := by
      rcases Nat.eq_zero_or_pos k with h | h
      · exact h
      · exfalso
        simp only [reach0, List.getD_eq_getElem?_getD] at hk
        rw [List.getElem?_set_ne (by omega)] at hk
        rw [List.getElem?_replicate] at hk
        split at hk <;> simp at hk
    rw [this]; simp [reach0]
  · intro t ht
    have : t = 0 := by simpa [reach0] using ht
    subst this
    exact ⟨by omega, by omega, by simp [reach0, hn]⟩
/-- Which blocks are reached: block 0 is; what one that is reached leads to is. -/
theorem reachL_ok {tl : List (List Int)} (h : ToOk tl) (hn : 0 < tl.length) : (reachL tl).length = tl.length ∧ (reachL tl).getD 0 false = true ∧ ∀ k : Nat, (reachL tl).getD k false = true → ∀ t ∈ tl.getD k [], (reachL tl).getD t.toNat false = true := by
  obtain ⟨h1, h2, h3⟩ := reach0_inv (tl := tl) hn
  exact reachF_inv h _ _ h1 h2 h3
end Go.Proofs.YtlmoblmkhicoeaaGreatDoor

/- Plain law of MemChanges: gaps of changed bytes. Conditions: those of the ranges. -/
import Derived.Test.YtbffclcjhcbejaaL2
import Derived.Test.YtbffclcjhcbejaaM2
namespace Go.Proofs.Ytbffclcjhcbejaa
open Go.RowKit
/-- The first j bytes' addresses that differ. -/
def chgJ (a : Area) : Nat → List Int
  | 0 => []
  | j + 1 => if a.xs.getD j 0 = a.ys.getD j 0 then chgJ a j else chgJ a j ++ [a.r.fr + j]
def chgA (a : Area) : List Int := chgJ a a.xs.length
def chgD (ms : List Area) : List Int := ms.flatMap chgA
theorem areaG_fold (a : Area) (gs : List (Int × Int)) : ∀ j, areaG a gs j = (chgJ a j).foldl putG gs
  | 0 => rfl
  | j + 1 => by
    show (if a.xs.getD j 0 = a.ys.getD j 0 then areaG a gs j else putG (areaG a gs j) (a.r.fr + j)) = (if a.xs.getD j 0 = a.ys.getD j 0 then chgJ a j else chgJ a j ++ [a.r.fr + (j : Int)]).foldl putG gs
    rw [areaG_fold a gs j]
    split
    · rfl
    · rw [List.foldl_append]; rfl
theorem allG_fold (ms : List Area) : allG ms = (chgD ms).foldl putG [] := by
  unfold allG chgD
  have : ∀ (l : List Area) (gs : List (Int × Int)), l.foldl (fun gs a => areaG a gs a.xs.length) gs = (l.flatMap chgA).foldl putG gs := by
    intro l
    induction l with
    | nil => intro gs; rfl
    | cons a r ih => intro gs; rw [List.foldl_cons, List.flatMap_cons, List.foldl_append, ih, areaG_fold]; rfl
  exact this ms []
theorem chgJ_mem {a : Area} {p : Int} : ∀ {j : Nat}, p ∈ chgJ a j ↔ ∃ k : Nat, k < j ∧ p = a.r.fr + k ∧ a.xs.getD k 0 ≠ a.ys.getD k 0
  | 0 => by simp [chgJ]
  | j + 1 => by
    have ih := chgJ_mem (a := a) (p := p) (j := j)
    show p ∈ (if a.xs.getD j 0 = a.ys.getD j 0 then chgJ a j else chgJ a j ++ [a.r.fr + (j : Int)]) ↔ _
    split
    · rename_i he
      rw [ih]
      constructor
      · rintro ⟨k, h1, h2, h3⟩; exact ⟨k, by omega, h2, h3⟩
      · rintro ⟨k, h1, h2, h3⟩
        by_cases hk : k = j
        · subst hk; exact absurd he h3
        · exact ⟨k, by omega, h2, h3⟩
    · rename_i he
      rw [List.mem_append, ih]
      constructor
      · rintro (⟨k, h1, h2, h3⟩ | h)
        · exact ⟨k, by omega, h2, h3⟩
        · exact ⟨j, by omega, by simpa using h, he⟩
      · rintro ⟨k, h1, h2, h3⟩
        by_cases hk : k = j
        · subst hk; exact Or.inr (by simpa using h2)
        · exact Or.inl ⟨k, by omega, h2, h3⟩
theorem chgJ_inc (a : Area) : ∀ j, (chgJ a j).Pairwise (· < ·)
  | 0 => List.Pairwise.nil
  | j + 1 => by
    show (if a.xs.getD j 0 = a.ys.getD j 0 then chgJ a j else chgJ a j ++ [a.r.fr + (j : Int)]).Pairwise (· < ·)
    split
    · exact chgJ_inc a j
    · rw [List.pairwise_append]
      refine ⟨chgJ_inc a j, List.pairwise_singleton _ _, fun x hx y hy => ?_⟩
      obtain ⟨k, h1, h2, _⟩ := chgJ_mem.1 hx
      have : y = a.r.fr + (j : Int) := by simpa using hy
      omega
structure GInv (gs : List (Int × Int)) (D : List Int) : Prop where
  cover : ∀ p, (∃ g ∈ gs, g.1 ≤ p ∧ p < g.1 + g.2) ↔ p ∈ D
  sep : gs.Pairwise fun g h => g.1 + g.2 < h.1
  sum : (gs.map (·.2)).sum = D.length
  pos : ∀ g ∈ gs, 1 ≤ g.2
theorem ginv_nil : GInv [] [] := ⟨by simp, List.Pairwise.nil, rfl, by simp⟩
theorem ginv_step {gs : List (Int × Int)} {D : List Int} {p : Int} (h : GInv gs D) (hp : ∀ d ∈ D, d < p) : GInv (putG gs p) (D ++ [p]) := by
  have hend : ∀ g ∈ gs, g.1 + g.2 ≤ p := fun g hg => by
    have h1 := h.pos g hg
    have := hp (g.1 + g.2 - 1) ((h.cover _).1 ⟨g, hg, by omega, by omega⟩)
    omega
  rcases gs_cases gs with rfl | ⟨g0, f, s, rfl⟩
  · have hD : D = [] := by
      cases D with
      | nil => rfl
      | cons d r => exact absurd ((h.cover d).2 (by simp)) (by simp)
    subst hD
    rw [putG_nil]
    refine ⟨fun q => ?_, List.pairwise_singleton _ _, rfl, by simp⟩
    simp
    omega
  · have hl := hend (f, s) (by simp)
    have hs := h.pos (f, s) (by simp)
    dsimp only at hl hs
    have hsep := h.sep
    rw [List.pairwise_append] at hsep
    have hsum := h.sum
    simp only [List.map_append, List.map_cons, List.map_nil, List.sum_append_int, List.sum_cons, List.sum_nil] at hsum
    by_cases he : f + s = p
    · rw [putG_join _ _ _ _ he]
      refine ⟨fun q => ?_, ?_, ?_, fun g hg => ?_⟩
      · rw [List.mem_append, ← h.cover q]
        constructor
        · rintro ⟨g, hg, h1, h2⟩
          rcases List.mem_append.1 hg with hg | hg
          · exact Or.inl ⟨g, by simp [hg], h1, h2⟩
          · obtain rfl : g = (f, s + 1) := by simpa using hg
            dsimp only at h1 h2
            by_cases hq : q = p
            · exact Or.inr (by simp [hq])
            · exact Or.inl ⟨(f, s), by simp, h1, by dsimp only; omega⟩
        · rintro (⟨g, hg, h1, h2⟩ | hq)
          · rcases List.mem_append.1 hg with hg | hg
            · exact ⟨g, by simp [hg], h1, h2⟩
            · obtain rfl : g = (f, s) := by simpa using hg
              exact ⟨(f, s + 1), by simp, h1, by dsimp only at h2 ⊢; omega⟩
          · have hq' : q = p := by simpa using hq
            exact ⟨(f, s + 1), by simp, by dsimp only; omega, by dsimp only; omega⟩
      · rw [List.pairwise_append]
        refine ⟨hsep.1, List.pairwise_singleton _ _, fun x hx y hy => ?_⟩
        obtain rfl : y = (f, s + 1) := by simpa using hy
        exact hsep.2.2 x hx (f, s) (by simp)
      · simp only [List.map_append, List.map_cons, List.map_nil, List.sum_append_int, List.sum_cons, List.sum_nil, List.length_append, List.length_singleton]
        omega
      · rcases List.mem_append.1 hg with hg | hg
        · exact h.pos g (by simp [hg])
        · obtain rfl : g = (f, s + 1) := by simpa using hg
          dsimp only
          omega
    · rw [putG_new _ _ _ _ he]
      refine ⟨fun q => ?_, ?_, ?_, fun g hg => ?_⟩
      · rw [List.mem_append, ← h.cover q]
        constructor
        · rintro ⟨g, hg, h1, h2⟩
          rcases List.mem_append.1 hg with hg | hg
          · exact Or.inl ⟨g, hg, h1, h2⟩
          · obtain rfl : g = (p, 1) := by simpa using hg
            dsimp only at h1 h2
            exact Or.inr (by simp; omega)
        · rintro (⟨g, hg, h1, h2⟩ | hq)
          · exact ⟨g, by rw [List.mem_append]; exact Or.inl hg, h1, h2⟩
          · have hq' : q = p := by simpa using hq
            exact ⟨(p, 1), by simp, by dsimp only; omega, by dsimp only; omega⟩
      · rw [List.pairwise_append]
        refine ⟨h.sep, List.pairwise_singleton _ _, fun x hx y hy => ?_⟩
        obtain rfl : y = (p, 1) := by simpa using hy
        rcases List.mem_append.1 hx with hx | hx
        · have h1 := hsep.2.2 x hx (f, s) (by simp)
          dsimp only at h1 ⊢
          omega
        · obtain rfl : x = (f, s) := by simpa using hx
          dsimp only
          omega
      · simp only [List.map_append, List.map_cons, List.map_nil, List.sum_append_int, List.sum_cons, List.sum_nil, List.length_append, List.length_singleton]
        omega
      · rcases List.mem_append.1 hg with hg | hg
        · exact h.pos g hg
        · obtain rfl : g = (p, 1) := by simpa using hg
          dsimp only
          omega
theorem ginv_fold : ∀ (D2 : List Int) (gs : List (Int × Int)) (D1 : List Int), GInv gs D1 → (D1 ++ D2).Pairwise (· < ·) → GInv (D2.foldl putG gs) (D1 ++ D2)
  | [], gs, D1, h, _ => by rw [List.append_nil]; exact h
  | p :: D2, gs, D1, h, hp => by
    have h1 : ∀ d ∈ D1, d < p := fun d hd => (List.pairwise_append.1 hp).2.2 d hd p (by simp)
    have h2 := ginv_fold D2 (putG gs p) (D1 ++ [p]) (ginv_step h h1) (by simpa using hp)
    simpa using h2
theorem ginv_all {D : List Int} (h : D.Pairwise (· < ·)) : GInv (D.foldl putG []) D := by
  have := ginv_fold D [] [] ginv_nil (by simpa using h)
  simpa using this
/-- Sorted and apart: the changed addresses rise. -/
theorem chgD_inc : ∀ {ms : List Area}, sortedA ms → UniqR (ms.map (·.r)) → (∀ a ∈ ms, (a.xs.length : Int) = a.r.sz) → (chgD ms).Pairwise (· < ·)
  | [], _, _, _ => List.Pairwise.nil
  | a :: ms, hs, hu, hl => by
    unfold sortedA at hs
    rw [List.pairwise_cons] at hs
    unfold UniqR at hu
    rw [List.map_cons, List.pairwise_cons] at hu
    have ih := chgD_inc (ms := ms) hs.2 hu.2 (fun b hb => hl b (by simp [hb]))
    unfold chgD at ih ⊢
    rw [List.flatMap_cons, List.pairwise_append]
    refine ⟨chgJ_inc a _, ih, fun x hx y hy => ?_⟩
    obtain ⟨b, hb, hy⟩ := List.mem_flatMap.1 hy
    obtain ⟨k, h1, h2, _⟩ := chgJ_mem.1 hx
    obtain ⟨k', h3, h4, _⟩ := chgJ_mem.1 hy
    have hla := hl a (by simp)
    have hlb := hl b (by simp [hb])
    have hfr := hs.1 b hb
    have hno := hu.1 b.r (List.mem_map_of_mem hb) b.r.fr
    simp [hasB] at hno
    omega
theorem uniq_perm {ms ms' : List Area} (hp : ms'.Perm ms) (h : UniqR (ms.map (·.r))) : UniqR (ms'.map (·.r)) := by
  unfold UniqR at h ⊢
  have hp' := hp.map (fun a : Area => a.r)
  exact (hp'.pairwise_iff (fun {x y} hxy p hh => hxy p ⟨hh.2, hh.1⟩)).2 h
/-- Two areas of one memory that have one address are one. -/
theorem uniq_eq {ms : List Area} (hu : UniqR (ms.map (·.r))) {a b : Area} (ha : a ∈ ms) (hb : b ∈ ms) {p : Int} (h1 : a.has p 1 = true) (h2 : b.has p 1 = true) : a = b := by
  obtain ⟨pre, post, rfl⟩ := List.append_of_mem ha
  rcases List.mem_append.1 hb with hb | hb
  · rw [uniq_pre hu h1 (Or.inl hb)] at h2; cases h2
  · rcases List.mem_cons.1 hb with rfl | hb
    · rfl
    · rw [uniq_pre hu h1 (Or.inr hb)] at h2; cases h2
theorem load_in {ms : List Area} (hu : UniqR (ms.map (·.r))) {a : Area} (ha : a ∈ ms) {k : Nat} (hk : k < a.xs.length) (hl : (a.xs.length : Int) = a.r.sz) : loadR ms (a.r.fr + k) 1 = (a.xs.getD k 0, 0) := by
  obtain ⟨pre, post, rfl⟩ := List.append_of_mem ha
  have hh : a.has (a.r.fr + k) 1 = true := by simp [Area.has, hasB]; omega
  rw [load_one hu hh]
  have : (a.r.fr + (k : Int) - a.r.fr).toNat = k := by omega
  rw [this, cut_one hk, leW_one]
/-- A changed byte is told; a byte that is told is changed. -/
theorem told_iff {ms ms' : List Area} (hp : ms'.Perm ms) (hs : sortedA ms') (hu : UniqR (ms.map (·.r))) (hl : ∀ a ∈ ms, (a.xs.length : Int) = a.r.sz) {a : Area} (ha : a ∈ ms) {k : Nat} (hk : k < a.xs.length) :
    (∃ g ∈ allG ms', g.1 ≤ a.r.fr + k ∧ a.r.fr + k < g.1 + g.2) ↔ a.xs.getD k 0 ≠ a.ys.getD k 0 := by
  have hu' := uniq_perm hp hu
  have hl' : ∀ b ∈ ms', (b.xs.length : Int) = b.r.sz := fun b hb => hl b (hp.mem_iff.1 hb)
  have hg := ginv_all (chgD_inc hs hu' hl')
  rw [allG_fold, hg.cover]
  unfold chgD
  rw [List.mem_flatMap]
  constructor
  · rintro ⟨b, hb, hm⟩
    obtain ⟨k', h1, h2, h3⟩ := chgJ_mem.1 hm
    have hbl := hl' b hb
    have hal := hl a ha
    have : b = a := uniq_eq hu (hp.mem_iff.1 hb) ha (p := a.r.fr + k) (by simp [Area.has, hasB]; omega) (by simp [Area.has, hasB]; omega)
    subst this
    have : k' = k := by omega
    subst this
    exact h3
  · intro h
    exact ⟨a, hp.mem_iff.2 ha, chgJ_mem.2 ⟨k, hk, rfl, h⟩⟩
theorem told_sum {ms ms' : List Area} (hp : ms'.Perm ms) (hs : sortedA ms') (hu : UniqR (ms.map (·.r))) (hl : ∀ a ∈ ms, (a.xs.length : Int) = a.r.sz) : ((allG ms').map (·.2)).sum = (chgD ms).length ∧ (allG ms').Pairwise (fun g h => g.1 + g.2 < h.1) := by
  have hu' := uniq_perm hp hu
  have hg := ginv_all (chgD_inc hs hu' (fun b hb => hl b (hp.mem_iff.1 hb)))
  rw [allG_fold]
  refine ⟨?_, hg.sep⟩
  rw [hg.sum]
  have : (chgD ms').length = (chgD ms).length := (List.Perm.flatMap_right chgA hp).length_eq
  rw [this]
/-- A store turns neither ranges nor what was. -/
theorem store_ry (ms : List Area) (at_ n v : Int) : (storeR ms at_ n v).2.map (fun a => (a.r, a.ys)) = ms.map (fun a => (a.r, a.ys)) := by
  have key : ∀ (l : List Area) (f : Area → Area), (∀ a, ((f a).r, (f a).ys) = (a.r, a.ys)) → (updA l at_ n f).map (fun a => (a.r, a.ys)) = l.map (fun a => (a.r, a.ys)) := by
    intro l f hf
    induction l with
    | nil => rfl
    | cons a r ih =>
      unfold updA
      split
      · rw [List.map_cons, List.map_cons, hf]
      · rw [List.map_cons, List.map_cons, ih]
  unfold storeR
  split
  · split
    · unfold putA
      exact key ms _ (fun a => rfl)
    · rfl
  · rfl
end Go.Proofs.Ytbffclcjhcbejaa

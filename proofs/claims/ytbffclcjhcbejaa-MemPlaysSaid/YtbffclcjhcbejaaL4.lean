/- Plain: the document's way of telling what has changed tells what memory's own tells. No conditions but those in the theorems. -/
import Derived.Test.YtbffclcjhcbejaaL3
import Derived.Test.YtbffclcjhcbejaaM2
namespace Go.Proofs.Ytbffclcjhcbejaa
/-- An address more, in order, joined to what it touches. -/
def rput : List (Int × Int) → Int → List (Int × Int)
  | [], p => [(p, 1)]
  | (f, s) :: r, p =>
    if f + s < p then (f, s) :: rput r p
    else if f + s = p then
      match r with
      | (f', s') :: r' => if f' = p + 1 then (f, s + 1 + s') :: r' else (f, s + 1) :: (f', s') :: r'
      | [] => [(f, s + 1)]
    else if f = p + 1 then (p, s + 1) :: r
    else (p, 1) :: (f, s) :: r
def CanL : Int → List (Int × Int) → Prop
  | _, [] => True
  | lo, g :: r => lo < g.1 ∧ 1 ≤ g.2 ∧ CanL (g.1 + g.2) r
def inG (gs : List (Int × Int)) (p : Int) : Prop := ∃ g ∈ gs, g.1 ≤ p ∧ p < g.1 + g.2
theorem inG_nil (p : Int) : ¬ inG [] p := by rintro ⟨g, hg, _⟩; cases hg
theorem inG_cons (g : Int × Int) (r : List (Int × Int)) (p : Int) : inG (g :: r) p ↔ (g.1 ≤ p ∧ p < g.1 + g.2) ∨ inG r p := by
  unfold inG
  simp
theorem canL_lo : ∀ {gs : List (Int × Int)} {lo q : Int}, CanL lo gs → inG gs q → lo < q
  | [], _, _, _, h => absurd h (inG_nil _)
  | g :: r, lo, q, ⟨h1, h2, h3⟩, h => by
    rcases (inG_cons g r q).1 h with h | h
    · omega
    · have := canL_lo h3 h
      omega
theorem canL_of : ∀ {gs : List (Int × Int)} {lo : Int}, gs.Pairwise (fun g h => g.1 + g.2 < h.1) → (∀ g ∈ gs, 1 ≤ g.2) → (∀ g ∈ gs, lo < g.1) → CanL lo gs
  | [], _, _, _, _ => trivial
  | g :: r, lo, hs, hp, hl => by
    rw [List.pairwise_cons] at hs
    exact ⟨hl g (by simp), hp g (by simp), canL_of hs.2 (fun x hx => hp x (by simp [hx])) (fun x hx => hs.1 x hx)⟩
theorem rput_can : ∀ {gs : List (Int × Int)} {lo p : Int}, CanL lo gs → lo < p → ¬ inG gs p → CanL lo (rput gs p) ∧ ∀ q, inG (rput gs p) q ↔ inG gs q ∨ q = p
  | [], lo, p, _, hp, _ => by
    refine ⟨⟨hp, by simp, trivial⟩, fun q => ?_⟩
    simp only [rput, inG_cons, inG_nil, or_false, false_or]
    omega
  | (f, s) :: r, lo, p, ⟨h1, h2, h3⟩, hp, hn => by
    dsimp only at h1 h2 h3
    rw [inG_cons] at hn
    dsimp only at hn
    by_cases c1 : f + s < p
    · obtain ⟨ih1, ih2⟩ := rput_can h3 c1 (fun h => hn (Or.inr h))
      have e : rput ((f, s) :: r) p = (f, s) :: rput r p := by rw [rput.eq_def]; dsimp only; rw [if_pos c1]
      rw [e]
      refine ⟨⟨h1, h2, ih1⟩, fun q => ?_⟩
      rw [inG_cons, inG_cons, ih2]
      exact or_assoc.symm
    · by_cases c2 : f + s = p
      · cases r with
        | nil =>
          have e : rput [(f, s)] p = [(f, s + 1)] := by rw [rput.eq_def]; dsimp only; rw [if_neg c1, if_pos c2]
          rw [e]
          refine ⟨⟨h1, by dsimp only; omega, trivial⟩, fun q => ?_⟩
          simp only [inG_cons, inG_nil, or_false]
          omega
        | cons g' r' =>
          obtain ⟨f', s'⟩ := g'
          obtain ⟨k1, k2, k3⟩ := h3
          dsimp only at k1 k2 k3
          by_cases c3 : f' = p + 1
          · have e : rput ((f, s) :: (f', s') :: r') p = (f, s + 1 + s') :: r' := by rw [rput.eq_def]; dsimp only; rw [if_neg c1, if_pos c2, if_pos c3]
            rw [e]
            refine ⟨⟨h1, by dsimp only; omega, ?_⟩, fun q => ?_⟩
            · dsimp only
              have : f + (s + 1 + s') = f' + s' := by omega
              rw [this]
              exact k3
            · simp only [inG_cons]
              constructor
              · rintro (h | h)
                · by_cases hq : q < f + s
                  · exact Or.inl (Or.inl ⟨h.1, hq⟩)
                  · by_cases hq2 : q = p
                    · exact Or.inr hq2
                    · exact Or.inl (Or.inr (Or.inl ⟨by omega, by omega⟩))
                · exact Or.inl (Or.inr (Or.inr h))
              · rintro ((h | h | h) | h)
                · exact Or.inl ⟨h.1, by omega⟩
                · exact Or.inl ⟨by omega, by omega⟩
                · exact Or.inr h
                · exact Or.inl ⟨by omega, by omega⟩
          · have e : rput ((f, s) :: (f', s') :: r') p = (f, s + 1) :: (f', s') :: r' := by rw [rput.eq_def]; dsimp only; rw [if_neg c1, if_pos c2, if_neg c3]
            rw [e]
            refine ⟨⟨h1, by dsimp only; omega, by dsimp only; omega, k2, k3⟩, fun q => ?_⟩
            simp only [inG_cons]
            constructor
            · rintro (h | h)
              · by_cases hq : q < f + s
                · exact Or.inl (Or.inl ⟨h.1, hq⟩)
                · exact Or.inr (by omega)
              · exact Or.inl (Or.inr h)
            · rintro ((h | h) | h)
              · exact Or.inl ⟨h.1, by omega⟩
              · exact Or.inr h
              · exact Or.inl ⟨by omega, by omega⟩
      · have hpf : p < f := by
          rcases Int.lt_or_le p f with h | h
          · exact h
          · exact absurd (Or.inl ⟨h, by omega⟩) hn
        by_cases c3 : f = p + 1
        · have e : rput ((f, s) :: r) p = (p, s + 1) :: r := by rw [rput.eq_def]; dsimp only; rw [if_neg c1, if_neg c2, if_pos c3]
          rw [e]
          refine ⟨⟨hp, by dsimp only; omega, ?_⟩, fun q => ?_⟩
          · dsimp only
            have : p + (s + 1) = f + s := by omega
            rw [this]
            exact h3
          · simp only [inG_cons]
            constructor
            · rintro (h | h)
              · by_cases hq : q = p
                · exact Or.inr hq
                · exact Or.inl (Or.inl ⟨by omega, by omega⟩)
              · exact Or.inl (Or.inr h)
            · rintro ((h | h) | h)
              · exact Or.inl ⟨by omega, by omega⟩
              · exact Or.inr h
              · exact Or.inl ⟨by omega, by omega⟩
        · have e : rput ((f, s) :: r) p = (p, 1) :: (f, s) :: r := by rw [rput.eq_def]; dsimp only; rw [if_neg c1, if_neg c2, if_neg c3]
          rw [e]
          refine ⟨⟨hp, by simp, by dsimp only; omega, h2, h3⟩, fun q => ?_⟩
          simp only [inG_cons]
          constructor
          · rintro (h | h)
            · exact Or.inr (by omega)
            · exact Or.inl h
          · rintro (h | h)
            · exact Or.inr h
            · exact Or.inl ⟨by omega, by omega⟩
/-- Lists of gaps that are apart and cover the same are the same. -/
theorem canL_eq : ∀ {gs hs : List (Int × Int)} {lo : Int}, CanL lo gs → CanL lo hs → (∀ q, inG gs q ↔ inG hs q) → gs = hs
  | [], [], _, _, _, _ => rfl
  | [], (f, s) :: r, _, _, ⟨_, h2, _⟩, h => by
    dsimp only at h2
    exact absurd ((h f).2 ((inG_cons _ _ _).2 (Or.inl ⟨Int.le_refl _, by dsimp only; omega⟩))) (inG_nil _)
  | (f, s) :: r, [], _, ⟨_, h2, _⟩, _, h => by
    dsimp only at h2
    exact absurd ((h f).1 ((inG_cons _ _ _).2 (Or.inl ⟨Int.le_refl _, by dsimp only; omega⟩))) (inG_nil _)
  | (f, s) :: r, (f', s') :: r', lo, ⟨h1, h2, h3⟩, ⟨k1, k2, k3⟩, h => by
    dsimp only at h1 h2 h3 k1 k2 k3
    have ge : ∀ q, inG ((f, s) :: r) q → f ≤ q := fun q hq => by
      rcases (inG_cons _ _ _).1 hq with hq | hq
      · exact hq.1
      · have := canL_lo h3 hq; omega
    have ge' : ∀ q, inG ((f', s') :: r') q → f' ≤ q := fun q hq => by
      rcases (inG_cons _ _ _).1 hq with hq | hq
      · exact hq.1
      · have := canL_lo k3 hq; omega
    have ff : f = f' := by
      have a1 := ge' f ((h f).1 ((inG_cons _ _ _).2 (Or.inl ⟨Int.le_refl _, by dsimp only; omega⟩)))
      have a2 := ge f' ((h f').2 ((inG_cons _ _ _).2 (Or.inl ⟨Int.le_refl _, by dsimp only; omega⟩)))
      omega
    subst ff
    have no : ¬ inG ((f, s) :: r) (f + s) := fun hq => by
      rcases (inG_cons _ _ _).1 hq with hq | hq
      · dsimp only at hq; omega
      · have := canL_lo h3 hq; omega
    have no' : ¬ inG ((f, s') :: r') (f + s') := fun hq => by
      rcases (inG_cons _ _ _).1 hq with hq | hq
      · dsimp only at hq; omega
      · have := canL_lo k3 hq; omega
    have ss : s = s' := by
      have a1 : ¬ (f + s < f + s') := fun c => no ((h _).2 ((inG_cons _ _ _).2 (Or.inl ⟨by dsimp only; omega, c⟩)))
      have a2 : ¬ (f + s' < f + s) := fun c => no' ((h _).1 ((inG_cons _ _ _).2 (Or.inl ⟨by dsimp only; omega, c⟩)))
      omega
    subst ss
    rw [canL_eq h3 k3 (fun q => ?_)]
    constructor
    · intro hq
      have hlt := canL_lo h3 hq
      rcases (inG_cons _ _ _).1 ((h q).1 ((inG_cons _ _ _).2 (Or.inr hq))) with c | c
      · dsimp only at c; omega
      · exact c
    · intro hq
      have hlt := canL_lo k3 hq
      rcases (inG_cons _ _ _).1 ((h q).2 ((inG_cons _ _ _).2 (Or.inr hq))) with c | c
      · dsimp only at c; omega
      · exact c
theorem rput_fold : ∀ (D : List Int) (gs : List (Int × Int)) (lo : Int), CanL lo gs → (∀ d ∈ D, lo < d) → D.Nodup → (∀ d ∈ D, ¬ inG gs d) → CanL lo (D.foldl rput gs) ∧ ∀ q, inG (D.foldl rput gs) q ↔ inG gs q ∨ q ∈ D
  | [], gs, lo, h, _, _, _ => ⟨h, fun q => by simp⟩
  | p :: D, gs, lo, h, hd, hn, hg => by
    rw [List.nodup_cons] at hn
    obtain ⟨h1, h2⟩ := rput_can h (hd p (by simp)) (hg p (by simp))
    obtain ⟨k1, k2⟩ := rput_fold D (rput gs p) lo h1 (fun d hd' => hd d (by simp [hd'])) hn.2 (fun d hd' hq => by
      rcases (h2 d).1 hq with c | c
      · exact hg d (by simp [hd']) c
      · subst c; exact hn.1 hd')
    refine ⟨k1, fun q => ?_⟩
    rw [List.foldl_cons, k2, h2, List.mem_cons, or_assoc]
theorem chgJ_key {a b : Area} (h : a.key = b.key) : ∀ j, chgJ a j = chgJ b j
  | 0 => rfl
  | j + 1 => by
    have ih := chgJ_key h j
    unfold Area.key at h
    simp only [Prod.mk.injEq] at h
    show (if a.xs.getD j 0 = a.ys.getD j 0 then chgJ a j else chgJ a j ++ [a.r.fr + (j : Int)]) = (if b.xs.getD j 0 = b.ys.getD j 0 then chgJ b j else chgJ b j ++ [b.r.fr + (j : Int)])
    rw [ih, h.1, h.2.1, h.2.2]
theorem chgD_key : ∀ {ns ms : List Area}, ns.map Area.key = ms.map Area.key → chgD ns = chgD ms
  | [], [], _ => rfl
  | [], _ :: _, h => by simp at h
  | _ :: _, [], h => by simp at h
  | a :: ns, b :: ms, h => by
    simp only [List.map_cons, List.cons.injEq] at h
    have e : chgA a = chgA b := by
      unfold chgA
      have : a.xs = b.xs := by have := h.1; unfold Area.key at this; simp only [Prod.mk.injEq] at this; exact this.2.1
      rw [this]
      exact chgJ_key h.1 _
    have ih := chgD_key h.2
    unfold chgD at ih ⊢
    rw [List.flatMap_cons, List.flatMap_cons, e, ih]
theorem changed_law {ms ms' ns : List Area} (hp : ms'.Perm ms) (hs : sortedA ms') (hu : UniqR (ms.map (·.r))) (hl : ∀ a ∈ ms, (a.xs.length : Int) = a.r.sz) (hok : ∀ a ∈ ms, a.r.Ok) (hk : ns.map Area.key = ms.map Area.key) :
    (chgD ns).foldl rput [] = allG ms' := by
  rw [chgD_key hk]
  have hu' := uniq_perm hp hu
  have hl' : ∀ b ∈ ms', (b.xs.length : Int) = b.r.sz := fun b hb => hl b (hp.mem_iff.1 hb)
  have hinc := chgD_inc hs hu' hl'
  have hg := ginv_all hinc
  rw [allG_fold]
  have hperm : (chgD ms').Perm (chgD ms) := List.Perm.flatMap_right chgA hp
  have hlo : ∀ d ∈ chgD ms', (0 : Int) < d := fun d hd => by
    unfold chgD at hd
    obtain ⟨a, ha, hd⟩ := List.mem_flatMap.1 hd
    obtain ⟨k, _, rfl, _⟩ := chgJ_mem.1 hd
    have := (hok a (hp.mem_iff.1 ha)).f0
    omega
  have hnd : (chgD ms).Nodup := hperm.nodup_iff.1 (hinc.imp (fun h => by omega))
  obtain ⟨k1, k2⟩ := rput_fold (chgD ms) [] 0 trivial (fun d hd => hlo d (hperm.mem_iff.2 hd)) hnd (fun d _ => inG_nil d)
  refine canL_eq k1 (canL_of hg.sep hg.pos (fun g hgm => hlo _ ((hg.cover g.1).1 ⟨g, hgm, Int.le_refl _, by have := hg.pos g hgm; omega⟩))) (fun q => ?_)
  rw [k2 q]
  show inG [] q ∨ q ∈ chgD ms ↔ ∃ g ∈ (chgD ms').foldl putG [], g.1 ≤ q ∧ q < g.1 + g.2
  rw [hg.cover q, hperm.mem_iff]
  exact ⟨fun h => h.resolve_left (inG_nil q), Or.inr⟩
end Go.Proofs.Ytbffclcjhcbejaa

/- What lies in memory while Join joins: the box apart from the rows. No conditions. -/
import Derived.Test.YtlgdfacaeahcaaaDoorPB
import Derived.Test.YtlgdfacaeahcaaaDoorKC
set_option linter.unusedVariables false
set_option linter.unusedSimpArgs false
namespace Go.Proofs.YtlgdfacaeahcaaaDoor
open Go.RowKit
/-- The rows of what is being joined (base r + 1), and a box at r that holds bx. -/
structure JB (w W : World) (p r : Nat) (bx : Array Value) (z1 z2 z3 z4 : Value) (J : Ob) : Prop where
  below : Below p w W
  pr : p + 2 ≤ r
  res : Blk W p 27 #[.slice none 0 0, .slice none 0 0, .slice none 0 0, .slice none 0 0]
  flt : Blk W (p + 1) 31 #[.int .i64 0, .int .i64 0]
  box : Blk W r 27 bx
  sz : r + 1 ≤ W.heap.size
  tx : OwnB W (r + 1) z1 J.tx
  dt : OwnB W (r + 1) z2 J.dt
  lb : OwnL W (r + 1) z3 J.lb
  rl : OwnR W (r + 1) z4 J.rl
  ap : ∀ g, z1.ownBlock = some g → z2.ownBlock ≠ some g
section
variable {w W W' : World} {p r : Nat} {bx : Array Value} {z1 z2 z3 z4 z1' z2' z3' z4' : Value} {J : Ob}
theorem JB.bel (h : JB w W p r bx z1 z2 z3 z4 J) (hb : Below W.heap.size W W') : JB w W' p r bx z1 z2 z3 z4 J :=
  ⟨h.below.trans (hb.mono (by have := h.sz; have := h.pr; omega)), h.pr, h.res.below hb h.res.lt, h.flt.below hb h.flt.lt, h.box.below hb h.box.lt, Nat.le_trans h.sz hb.size, own_below h.tx hb, own_below h.dt hb, own_below h.lb hb, own_below h.rl hb, h.ap⟩
/-- The box is written. -/
theorem JB.put (h : JB w W p r bx z1 z2 z3 z4 J) (i : Nat) (u : Value) : JB w (W.setCell ⟨r, i, none⟩ u) p r (bx.setIfInBounds i u) z1 z2 z3 z4 J := by
  have hk : Keeps (fun j => j = r) W (W.setCell ⟨r, i, none⟩ u) := (Keeps.refl (fun j => j = r) W).setCell (p := ⟨r, i, none⟩) (Or.inr rfl) u
  have hp := h.pr
  have hs := h.sz
  have ho : ∀ {e size k : Nat} {v : Value} {xs : List Value}, W.ownsRow (r + 1) e size v k xs → (W.setCell ⟨r, i, none⟩ u).ownsRow (r + 1) e size v k xs := fun h => ownsRow_keeps h hk (fun g hg e => by have := (own_some2 h hg).1; omega)
  exact ⟨below_keeps h.below hk (fun j hj e => by omega) (by omega), h.pr, h.res.keeps hk (by show ¬ p = r; omega), h.flt.keeps hk (by show ¬ p + 1 = r; omega), h.box.set_ i u, by simpa using h.sz, ho h.tx, ho h.dt, ho h.lb, ho h.rl, h.ap⟩
/-- The text's row grows. -/
theorem JB.growT {ts : List UInt8} (h : JB w W p r bx z1 z2 z3 z4 J) (hg : Grew W W' z1 z1') (ht : OwnB W' (r + 1) z1' ts) : JB w W' p r bx z1' z2 z3 z4 ⟨ts, J.dt, J.lb, J.rl⟩ := by
  have hp := h.pr
  have hs := h.sz
  have hge : ∀ g, (z1.ownBlock = some g ∨ W.heap.size ≤ g) → r < g := fun g hg => by
    rcases hg with hg | hg
    · have := (own_some2 h.tx hg).1; omega
    · omega
  have ho : ∀ {e size k : Nat} {v : Value} {xs : List Value}, W.ownsRow (r + 1) e size v k xs → (∀ g, v.ownBlock = some g → z1.ownBlock ≠ some g) → W'.ownsRow (r + 1) e size v k xs := fun h hne => ownsRow_keeps h hg.keeps (fun g hg' e => by
    rcases e with e | e
    · exact hne g hg' e
    · have := (own_some2 h hg').2; omega)
  have hkind : ∀ {e size k : Nat} {v : Value} {xs : List Value}, W.ownsRow (r + 1) e size v k xs → e ≠ 5 → ∀ g, v.ownBlock = some g → z1.ownBlock ≠ some g := fun hv he g hg' e => by
    obtain ⟨c1, b1⟩ := owns_kind hv hg'
    obtain ⟨c2, b2⟩ := owns_kind h.tx e
    exact he (b1.kind b2)
  refine ⟨below_keeps h.below hg.keeps (fun i hi e => by have := hge i e; omega) (by omega), h.pr, h.res.keeps hg.keeps (fun e => by have := hge _ e; omega), h.flt.keeps hg.keeps (fun e => by have := hge _ e; omega), h.box.keeps hg.keeps (fun e => by have := hge _ e; omega), Nat.le_trans h.sz hg.keeps.size, ht, ho h.dt (fun g hg' e => h.ap g e hg'), ho h.lb (hkind h.lb (by decide)), ho h.rl (hkind h.rl (by decide)), fun g hg' e => ?_⟩
  rcases hg.own with e1 | ⟨g', e1, hg1⟩
  · rw [e1] at hg'; exact h.ap g hg' e
  · rw [e1] at hg'
    injection hg' with hg'
    have := (own_some2 h.dt e).2
    omega
/-- The data's row grows. -/
theorem JB.growD {ts : List UInt8} (h : JB w W p r bx z1 z2 z3 z4 J) (hg : Grew W W' z2 z2') (ht : OwnB W' (r + 1) z2' ts) : JB w W' p r bx z1 z2' z3 z4 ⟨J.tx, ts, J.lb, J.rl⟩ := by
  have hp := h.pr
  have hs := h.sz
  have hge : ∀ g, (z2.ownBlock = some g ∨ W.heap.size ≤ g) → r < g := fun g hg => by
    rcases hg with hg | hg
    · have := (own_some2 h.dt hg).1; omega
    · omega
  have ho : ∀ {e size k : Nat} {v : Value} {xs : List Value}, W.ownsRow (r + 1) e size v k xs → (∀ g, v.ownBlock = some g → z2.ownBlock ≠ some g) → W'.ownsRow (r + 1) e size v k xs := fun h hne => ownsRow_keeps h hg.keeps (fun g hg' e => by
    rcases e with e | e
    · exact hne g hg' e
    · have := (own_some2 h hg').2; omega)
  have hkind : ∀ {e size k : Nat} {v : Value} {xs : List Value}, W.ownsRow (r + 1) e size v k xs → e ≠ 5 → ∀ g, v.ownBlock = some g → z2.ownBlock ≠ some g := fun hv he g hg' e => by
    obtain ⟨c1, b1⟩ := owns_kind hv hg'
    obtain ⟨c2, b2⟩ := owns_kind h.dt e
    exact he (b1.kind b2)
  refine ⟨below_keeps h.below hg.keeps (fun i hi e => by have := hge i e; omega) (by omega), h.pr, h.res.keeps hg.keeps (fun e => by have := hge _ e; omega), h.flt.keeps hg.keeps (fun e => by have := hge _ e; omega), h.box.keeps hg.keeps (fun e => by have := hge _ e; omega), Nat.le_trans h.sz hg.keeps.size, ho h.tx (fun g hg' e => h.ap g hg' e), ht, ho h.lb (hkind h.lb (by decide)), ho h.rl (hkind h.rl (by decide)), fun g hg' e => ?_⟩
  rcases hg.own with e1 | ⟨g', e1, hg1⟩
  · rw [e1] at e; exact h.ap g hg' e
  · rw [e1] at e
    injection e with e
    have := (own_some2 h.tx hg').2
    omega
/-- The labels' row grows. -/
theorem JB.growL {ls : List Lbl} (h : JB w W p r bx z1 z2 z3 z4 J) (hg : W.grownBy W' z3.ownBlock) (hl : OwnL W' (r + 1) z3' ls) : JB w W' p r bx z1 z2 z3' z4 ⟨J.tx, J.dt, ls, J.rl⟩ := by
  have hp := h.pr
  have hs := h.sz
  have hk : Keeps (fun i => z3.ownBlock = some i) W W' := (Keeps.refl _ _).grown hg (fun g hg => Or.inr hg)
  have hge : ∀ g, z3.ownBlock = some g → r < g := fun g hg => by have := (own_some2 h.lb hg).1; omega
  exact ⟨below_keeps h.below hk (fun i hi e => by have := hge i e; omega) (by omega), h.pr, h.res.keeps hk (fun e => by have := hge _ e; omega), h.flt.keeps hk (fun e => by have := hge _ e; omega), h.box.keeps hk (fun e => by have := hge _ e; omega), Nat.le_trans h.sz hk.size, own_grown h.tx h.lb hg (by decide), own_grown h.dt h.lb hg (by decide), hl, own_grown h.rl h.lb hg (by decide), h.ap⟩
/-- The relocations' row grows. -/
theorem JB.growR {rs : List Rel} (h : JB w W p r bx z1 z2 z3 z4 J) (hg : W.grownBy W' z4.ownBlock) (hr : OwnR W' (r + 1) z4' rs) : JB w W' p r bx z1 z2 z3 z4' ⟨J.tx, J.dt, J.lb, rs⟩ := by
  have hp := h.pr
  have hs := h.sz
  have hk : Keeps (fun i => z4.ownBlock = some i) W W' := (Keeps.refl _ _).grown hg (fun g hg => Or.inr hg)
  have hge : ∀ g, z4.ownBlock = some g → r < g := fun g hg => by have := (own_some2 h.rl hg).1; omega
  exact ⟨below_keeps h.below hk (fun i hi e => by have := hge i e; omega) (by omega), h.pr, h.res.keeps hk (fun e => by have := hge _ e; omega), h.flt.keeps hk (fun e => by have := hge _ e; omega), h.box.keeps hk (fun e => by have := hge _ e; omega), Nat.le_trans h.sz hk.size, own_grown h.tx h.rl hg (by decide), own_grown h.dt h.rl hg (by decide), own_grown h.lb h.rl hg (by decide), hr, h.ap⟩
/-- A cell of another struct is written. -/
theorem JB.far (h : JB w W p r bx z1 z2 z3 z4 J) {s q t : Nat} {cs : Array Value} (hs : Blk W s t cs) (hq : r < q ∧ q < s) (i : Nat) (u : Value) (ht : t = 45 ∨ t = 48 := by first | exact Or.inl rfl | exact Or.inr rfl) (hn3 : z3.ownBlock ≠ some s := by assumption) (hn4 : z4.ownBlock ≠ some s := by assumption) : JB w (W.setCell ⟨s, i, none⟩ u) p r bx z1 z2 z3 z4 J := by
  have hk : Keeps (fun j => j = s) W (W.setCell ⟨s, i, none⟩ u) := (Keeps.refl (fun j => j = s) W).setCell (p := ⟨s, i, none⟩) (Or.inr rfl) u
  have hp := h.pr
  have hsz := h.sz
  have hb : ∀ {e size k : Nat} {v : Value} {xs : List Value}, W.ownsRow (r + 1) e size v k xs → v.ownBlock ≠ some s → (W.setCell ⟨s, i, none⟩ u).ownsRow (r + 1) e size v k xs := fun h hne => ownsRow_keeps h hk (fun g hg e => hne (by rw [hg, e]))
  have hby : ∀ {v : Value} {k : Nat} {xs : List Value}, W.ownsRow (r + 1) 5 1 v k xs → v.ownBlock ≠ some s := fun h e => by
    obtain ⟨c, b⟩ := owns_kind h e
    rcases ht with rfl | rfl
    · exact absurd (b.kind hs) (by decide)
    · exact absurd (b.kind hs) (by decide)
  exact ⟨below_keeps h.below hk (fun j hj e => by omega) (by omega), h.pr, h.res.keeps hk (by show ¬ p = s; omega), h.flt.keeps hk (by show ¬ p + 1 = s; omega), h.box.keeps hk (by show ¬ r = s; omega), by simpa using h.sz, hb h.tx (hby h.tx), hb h.dt (hby h.dt), hb h.lb hn3, hb h.rl hn4, h.ap⟩
theorem JB.otherT (h : JB w W p r bx z1 z2 z3 z4 J) (hg : Grew W W' z1 z1') {q : Nat} {cs : Array Value} (hq : Blk W q 27 cs) : Blk W' q 27 cs := hq.keeps hg.keeps (fun e => by
  rcases e with e | e
  · obtain ⟨c, b⟩ := owns_kind h.tx e
    exact absurd (b.kind hq) (by decide)
  · have := hq.lt; omega)
theorem JB.otherD (h : JB w W p r bx z1 z2 z3 z4 J) (hg : Grew W W' z2 z2') {q : Nat} {cs : Array Value} (hq : Blk W q 27 cs) : Blk W' q 27 cs := hq.keeps hg.keeps (fun e => by
  rcases e with e | e
  · obtain ⟨c, b⟩ := owns_kind h.dt e
    exact absurd (b.kind hq) (by decide)
  · have := hq.lt; omega)
end
end Go.Proofs.YtlgdfacaeahcaaaDoor

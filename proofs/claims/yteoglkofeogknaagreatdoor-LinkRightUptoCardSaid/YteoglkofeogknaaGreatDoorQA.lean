/- What lies in memory while asm.Join joins; what both Joins leave. No conditions. -/
import Derived.Test.YteoglkofeogknaaGreatDoorPB
set_option linter.unusedVariables false
set_option linter.unusedSimpArgs false
namespace Go.Proofs.YteoglkofeogknaaGreatDoor
open Go.RowKit
/-- The cells of the two results. -/
structure RJ (w W : World) (p : Nat) : Prop where
  below : Below p w W
  size : p + 2 ≤ W.heap.size
  ob : Blk W p 41 #[.slice none 0 0, .slice none 0 0, .slice none 0 0, .slice none 0 0]
  fl : Blk W (p + 1) 34 #[.int .i64 0, .int .i64 0]
theorem RJ.bel {w W W' : World} {p : Nat} (h : RJ w W p) (hb : Below W.heap.size W W') : RJ w W' p :=
  ⟨h.below.trans (hb.mono (by have := h.size; omega)), Nat.le_trans h.size hb.size, h.ob.below hb h.ob.lt, h.fl.below hb h.fl.lt⟩
/-- The results are written. -/
theorem RJ.out {w W : World} {p : Nat} (h : RJ w W p) (z1 z2 z3 z4 : Value) (x y : Int) :
    (∃ W6, W6 = ((((((W.setCell ⟨p, 0, none⟩ z1).setCell ⟨p, 1, none⟩ z2).setCell ⟨p, 2, none⟩ z3).setCell ⟨p, 3, none⟩ z4).setCell ⟨p + 1, 0, none⟩ (.int .i64 x)).setCell ⟨p + 1, 1, none⟩ (.int .i64 y)) ∧ Below p w W6 ∧ Keeps (fun i => i = p ∨ i = p + 1) W W6 ∧ Blk W6 p 41 #[z1, z2, z3, z4] ∧ Blk W6 (p + 1) 34 #[.int .i64 x, .int .i64 y]) := by
  have hs := h.size
  have hk : Keeps (fun i => i = p ∨ i = p + 1) W ((((((W.setCell ⟨p, 0, none⟩ z1).setCell ⟨p, 1, none⟩ z2).setCell ⟨p, 2, none⟩ z3).setCell ⟨p, 3, none⟩ z4).setCell ⟨p + 1, 0, none⟩ (.int .i64 x)).setCell ⟨p + 1, 1, none⟩ (.int .i64 y)) :=
    ((((((Keeps.refl (fun i => i = p ∨ i = p + 1) W).setCell (p := ⟨p, 0, none⟩) (Or.inr (Or.inl rfl)) z1).setCell (p := ⟨p, 1, none⟩) (Or.inr (Or.inl rfl)) z2).setCell (p := ⟨p, 2, none⟩) (Or.inr (Or.inl rfl)) z3).setCell (p := ⟨p, 3, none⟩) (Or.inr (Or.inl rfl)) z4).setCell (p := ⟨p + 1, 0, none⟩) (Or.inr (Or.inr rfl)) (.int .i64 x)).setCell (p := ⟨p + 1, 1, none⟩) (Or.inr (Or.inr rfl)) (.int .i64 y)
  refine ⟨_, rfl, below_keeps h.below hk (fun i hi e => by omega) (by omega), hk, ?_, ?_⟩
  · have hb := (((((h.ob.set_ 0 z1).set_ 1 z2).set_ 2 z3).set_ 3 z4).far (p := ⟨p + 1, 0, none⟩) (by show p ≠ p + 1; omega) (.int .i64 x)).far (p := ⟨p + 1, 1, none⟩) (by show p ≠ p + 1; omega) (.int .i64 y)
    simpa using hb
  · have hb := (((((h.fl.far (p := ⟨p, 0, none⟩) (by show p + 1 ≠ p; omega) z1).far (p := ⟨p, 1, none⟩) (by show p + 1 ≠ p; omega) z2).far (p := ⟨p, 2, none⟩) (by show p + 1 ≠ p; omega) z3).far (p := ⟨p, 3, none⟩) (by show p + 1 ≠ p; omega) z4).set_ 0 (.int .i64 x)).set_ 1 (.int .i64 y)
    simpa using hb
theorem obnil {W : World} : ObAt W (.slice none 0 0) (.slice none 0 0) (.slice none 0 0) (.slice none 0 0) ⟨[], [], [], []⟩ := by
  have h : ∀ xs, RowOf W (.slice none 0 0) 0 xs := fun xs => ⟨none, 0, rfl, Nat.le_refl _, by decide, fun h => absurd h (by omega)⟩
  exact ⟨h _, h _, h _, h _⟩
/-- Sizes that leave room. -/
def SzOK (J : Ob) : Prop := J.tx.length ≤ 1099511626000 ∧ J.dt.length ≤ 1099511626000 ∧ J.lb.length ≤ 137438953472 ∧ J.rl.length ≤ 137438953472
/-- What Join answers, as values. -/
def JPost (os : List Ob) (w : World) (e : Ending) (w' : World) : Prop := ∃ z1 z2 z3 z4, e = .returned (.tuple #[.agg #[z1, z2, z3, z4], .agg #[.int .i64 (jres os).2.1, .int .i64 (jres os).2.2]]) ∧ ObAt w' z1 z2 z3 z4 (jres os).1 ∧ Below w.heap.size w w'
/-- What asm.Join answers: rows of its own. -/
def JPostO (os : List Ob) (w : World) (e : Ending) (w' : World) : Prop := ∃ A n c k z2 z3 z4, e = .returned (.tuple #[.agg #[.slice A n c, z2, z3, z4], .agg #[.int .i64 (jres os).2.1, .int .i64 (jres os).2.2]]) ∧ ObAt w' (.slice A n c) z2 z3 z4 (jres os).1 ∧ Below w.heap.size w w' ∧ (∃ xs, w'.ownsRow w.heap.size 5 1 (.slice A n k) n xs) ∧ ∃ m ys, w'.ownsRow w.heap.size 68 4 z3 m ys
open Go.RowKit
/-- The two parts at b, the box at b + 1, the map at b + 2; the rows of what is being joined lie behind. -/
structure KB (w W : World) (p b : Nat) (px bx : Array Value) (z1 z2 z3 z4 : Value) (J : Ob) (S : List ByteArray) : Prop where
  below : Below p w W
  pb : p + 2 ≤ b
  res : Blk W p 41 #[.slice none 0 0, .slice none 0 0, .slice none 0 0, .slice none 0 0]
  flt : Blk W (p + 1) 34 #[.int .i64 0, .int .i64 0]
  par : Blk W b 74 px
  box : Blk W (b + 1) 41 bx
  mp : SetAt W (b + 2) S.length S
  sz : b + 3 ≤ W.heap.size
  tx : OwnB W (b + 3) z1 J.tx
  dt : OwnB W (b + 3) z2 J.dt
  lb : OwnL W (b + 3) z3 J.lb
  rl : OwnR W (b + 3) z4 J.rl
  ap : ∀ g, z1.ownBlock = some g → z2.ownBlock ≠ some g
section
variable {w W W' : World} {p b : Nat} {px bx : Array Value} {z1 z2 z3 z4 z1' z2' z3' z4' : Value} {J : Ob} {S : List ByteArray}
/-- All rows but those that are named stay. -/
theorem KB.move {F : Nat → Prop} (h : KB w W p b px bx z1 z2 z3 z4 J S) (hk : Keeps F W W') (hF : ∀ i, i < b + 3 → ¬ F i) {J' : Ob} (t1 : OwnB W' (b + 3) z1' J'.tx) (t2 : OwnB W' (b + 3) z2' J'.dt) (t3 : OwnL W' (b + 3) z3' J'.lb) (t4 : OwnR W' (b + 3) z4' J'.rl) (ap : ∀ g, z1'.ownBlock = some g → z2'.ownBlock ≠ some g) : KB w W' p b px bx z1' z2' z3' z4' J' S := by
  have hp := h.pb
  have hs := h.sz
  exact ⟨below_keeps h.below hk (fun i hi e => hF i (by omega) e) (by omega), h.pb, h.res.keeps hk (hF _ (by omega)), h.flt.keeps hk (hF _ (by omega)), h.par.keeps hk (hF _ (by omega)), h.box.keeps hk (hF _ (by omega)), h.mp.keeps hk (hF _ (by omega)), Nat.le_trans h.sz hk.size, t1, t2, t3, t4, ap⟩
theorem KB.bel (h : KB w W p b px bx z1 z2 z3 z4 J S) (hb : Below W.heap.size W W') : KB w W' p b px bx z1 z2 z3 z4 J S :=
  h.move (keeps_of_below (fun _ => False) hb) (fun _ _ => id) (own_below h.tx hb) (own_below h.dt hb) (own_below h.lb hb) (own_below h.rl hb) h.ap
/-- One of the blocks ahead of the rows is written. -/
theorem KB.rows (h : KB w W p b px bx z1 z2 z3 z4 J S) {F : Nat → Prop} (hk : Keeps F W W') (hF : ∀ i, F i → i < b + 3) : OwnB W' (b + 3) z1 J.tx ∧ OwnB W' (b + 3) z2 J.dt ∧ OwnL W' (b + 3) z3 J.lb ∧ OwnR W' (b + 3) z4 J.rl := by
  have ho : ∀ {e size k : Nat} {v : Value} {xs : List Value}, W.ownsRow (b + 3) e size v k xs → W'.ownsRow (b + 3) e size v k xs := fun h => ownsRow_keeps h hk (fun g hg e => by have := (own_some2 h hg).1; have := hF g e; omega)
  exact ⟨ho h.tx, ho h.dt, ho h.lb, ho h.rl⟩
theorem KB.putP (h : KB w W p b px bx z1 z2 z3 z4 J S) (i : Nat) (u : Value) : KB w (W.setCell ⟨b, i, none⟩ u) p b (px.setIfInBounds i u) bx z1 z2 z3 z4 J S := by
  have hk : Keeps (fun j => j = b) W (W.setCell ⟨b, i, none⟩ u) := (Keeps.refl (fun j => j = b) W).setCell (p := ⟨b, i, none⟩) (Or.inr rfl) u
  have hp := h.pb
  have hs := h.sz
  obtain ⟨t1, t2, t3, t4⟩ := h.rows hk (fun i e => by omega)
  exact ⟨below_keeps h.below hk (fun j hj e => by omega) (by omega), h.pb, h.res.keeps hk (by show ¬ p = b; omega), h.flt.keeps hk (by show ¬ p + 1 = b; omega), h.par.set_ i u, h.box.keeps hk (by show ¬ b + 1 = b; omega), h.mp.keeps hk (by show ¬ b + 2 = b; omega), by simpa using h.sz, t1, t2, t3, t4, h.ap⟩
theorem KB.putO (h : KB w W p b px bx z1 z2 z3 z4 J S) (i : Nat) (u : Value) : KB w (W.setCell ⟨b + 1, i, none⟩ u) p b px (bx.setIfInBounds i u) z1 z2 z3 z4 J S := by
  have hk : Keeps (fun j => j = b + 1) W (W.setCell ⟨b + 1, i, none⟩ u) := (Keeps.refl (fun j => j = b + 1) W).setCell (p := ⟨b + 1, i, none⟩) (Or.inr rfl) u
  have hp := h.pb
  have hs := h.sz
  obtain ⟨t1, t2, t3, t4⟩ := h.rows hk (fun i e => by omega)
  exact ⟨below_keeps h.below hk (fun j hj e => by omega) (by omega), h.pb, h.res.keeps hk (by show ¬ p = b + 1; omega), h.flt.keeps hk (by show ¬ p + 1 = b + 1; omega), h.par.keeps hk (by show ¬ b = b + 1; omega), h.box.set_ i u, h.mp.keeps hk (by show ¬ b + 2 = b + 1; omega), by simpa using h.sz, t1, t2, t3, t4, h.ap⟩
/-- A name more in the map. -/
theorem KB.putM (h : KB w W p b px bx z1 z2 z3 z4 J S) {S' : List ByteArray} (hg : W.grownBy W' (some (b + 2))) (hm : SetAt W' (b + 2) S'.length S') : KB w W' p b px bx z1 z2 z3 z4 J S' := by
  have hk : Keeps (fun i => b + 2 = i) W W' := (Keeps.refl _ _).grown hg (fun g hg => Or.inr (by injection hg))
  have hp := h.pb
  have hs := h.sz
  obtain ⟨t1, t2, t3, t4⟩ := h.rows hk (fun i e => by omega)
  exact ⟨below_keeps h.below hk (fun j hj e => by omega) (by omega), h.pb, h.res.keeps hk (by show ¬ b + 2 = p; omega), h.flt.keeps hk (by show ¬ b + 2 = p + 1; omega), h.par.keeps hk (by show ¬ b + 2 = b; omega), h.box.keeps hk (by show ¬ b + 2 = b + 1; omega), hm, Nat.le_trans h.sz hk.size, t1, t2, t3, t4, h.ap⟩
/-- align has padded the text. -/
theorem KB.algT (h : KB w W p b px bx z1 z2 z3 z4 J S) {bs : List UInt8} (ha : Alg W W' b 74 0 (b + 3) px z1 z1' bs) : KB w W' p b (px.setIfInBounds 0 z1') bx z1' z2 z3 z4 ⟨bs, J.dt, J.lb, J.rl⟩ S := by
  have hk := ha.keeps
  have hp := h.pb
  have hs := h.sz
  have hge : ∀ g, (z1.ownBlock = some g ∨ g = b ∨ W.heap.size ≤ g) → g = b ∨ b + 3 ≤ g := fun g hg => by
    rcases hg with hg | hg | hg
    · have := (own_some2 h.tx hg).1; omega
    · omega
    · omega
  have ho : ∀ {e size k : Nat} {v : Value} {xs : List Value}, W.ownsRow (b + 3) e size v k xs → (∀ g, v.ownBlock = some g → z1.ownBlock ≠ some g) → W'.ownsRow (b + 3) e size v k xs := fun h hne => ownsRow_keeps h hk (fun g hg' e => by
    have := own_some2 h hg'
    rcases e with e | e | e
    · exact hne g hg' e
    · omega
    · omega)
  have hkind : ∀ {e size k : Nat} {v : Value} {xs : List Value}, W.ownsRow (b + 3) e size v k xs → e ≠ 5 → ∀ g, v.ownBlock = some g → z1.ownBlock ≠ some g := fun hv he g hg' e => by
    obtain ⟨c1, b1⟩ := owns_kind hv hg'
    obtain ⟨c2, b2⟩ := owns_kind h.tx e
    exact he (b1.kind b2)
  refine ⟨below_keeps h.below hk (fun i hi e => by have := hge i e; omega) (by omega), h.pb, h.res.keeps hk (fun e => by have := hge _ e; omega), h.flt.keeps hk (fun e => by have := hge _ e; omega), ha.blk, h.box.keeps hk (fun e => by have := hge _ e; omega), h.mp.keeps hk (fun e => by have := hge _ e; omega), Nat.le_trans h.sz hk.size, ha.own, ho h.dt (fun g hg' e => h.ap g e hg'), ho h.lb (hkind h.lb (by decide)), ho h.rl (hkind h.rl (by decide)), fun g hg' e => ?_⟩
  rcases ha.at_ with e1 | ⟨g', e1, hg1⟩
  · rw [e1] at hg'; exact h.ap g hg' e
  · rw [e1] at hg'
    injection hg' with hg'
    have := (own_some2 h.dt e).2
    omega
theorem KB.algD (h : KB w W p b px bx z1 z2 z3 z4 J S) {bs : List UInt8} (ha : Alg W W' b 74 1 (b + 3) px z2 z2' bs) : KB w W' p b (px.setIfInBounds 1 z2') bx z1 z2' z3 z4 ⟨J.tx, bs, J.lb, J.rl⟩ S := by
  have hk := ha.keeps
  have hp := h.pb
  have hs := h.sz
  have hge : ∀ g, (z2.ownBlock = some g ∨ g = b ∨ W.heap.size ≤ g) → g = b ∨ b + 3 ≤ g := fun g hg => by
    rcases hg with hg | hg | hg
    · have := (own_some2 h.dt hg).1; omega
    · omega
    · omega
  have ho : ∀ {e size k : Nat} {v : Value} {xs : List Value}, W.ownsRow (b + 3) e size v k xs → (∀ g, v.ownBlock = some g → z2.ownBlock ≠ some g) → W'.ownsRow (b + 3) e size v k xs := fun h hne => ownsRow_keeps h hk (fun g hg' e => by
    have := own_some2 h hg'
    rcases e with e | e | e
    · exact hne g hg' e
    · omega
    · omega)
  have hkind : ∀ {e size k : Nat} {v : Value} {xs : List Value}, W.ownsRow (b + 3) e size v k xs → e ≠ 5 → ∀ g, v.ownBlock = some g → z2.ownBlock ≠ some g := fun hv he g hg' e => by
    obtain ⟨c1, b1⟩ := owns_kind hv hg'
    obtain ⟨c2, b2⟩ := owns_kind h.dt e
    exact he (b1.kind b2)
  refine ⟨below_keeps h.below hk (fun i hi e => by have := hge i e; omega) (by omega), h.pb, h.res.keeps hk (fun e => by have := hge _ e; omega), h.flt.keeps hk (fun e => by have := hge _ e; omega), ha.blk, h.box.keeps hk (fun e => by have := hge _ e; omega), h.mp.keeps hk (fun e => by have := hge _ e; omega), Nat.le_trans h.sz hk.size, ho h.tx (fun g hg' e => h.ap g hg' e), ha.own, ho h.lb (hkind h.lb (by decide)), ho h.rl (hkind h.rl (by decide)), fun g hg' e => ?_⟩
  rcases ha.at_ with e1 | ⟨g', e1, hg1⟩
  · rw [e1] at e; exact h.ap g hg' e
  · rw [e1] at e
    injection e with e
    have := (own_some2 h.tx hg').2
    omega
/-- The text's row grows. -/
theorem KB.growT {ts : List UInt8} (h : KB w W p b px bx z1 z2 z3 z4 J S) (hg : W.grownBy W' z1.ownBlock) (hn : z1'.ownBlock = z1.ownBlock ∨ z1'.ownBlock = some W.heap.size) (ht : OwnB W' (b + 3) z1' ts) : KB w W' p b px bx z1' z2 z3 z4 ⟨ts, J.dt, J.lb, J.rl⟩ S := by
  have hk : Keeps (fun i => z1.ownBlock = some i) W W' := (Keeps.refl _ _).grown hg (fun g hg => Or.inr hg)
  refine h.move hk (fun i hi e => by have := (own_some2 h.tx e).1; omega) ht (ownsRow_keeps h.dt hk (fun g hg' e => h.ap g e hg')) (own_grown h.lb h.tx hg (by decide)) (own_grown h.rl h.tx hg (by decide)) (fun g hg' e => ?_)
  rcases hn with e1 | e1
  · rw [e1] at hg'; exact h.ap g hg' e
  · rw [e1] at hg'
    injection hg' with hg'
    have := (own_some2 h.dt e).2
    omega
theorem KB.growD {ts : List UInt8} (h : KB w W p b px bx z1 z2 z3 z4 J S) (hg : W.grownBy W' z2.ownBlock) (hn : z2'.ownBlock = z2.ownBlock ∨ z2'.ownBlock = some W.heap.size) (ht : OwnB W' (b + 3) z2' ts) : KB w W' p b px bx z1 z2' z3 z4 ⟨J.tx, ts, J.lb, J.rl⟩ S := by
  have hk : Keeps (fun i => z2.ownBlock = some i) W W' := (Keeps.refl _ _).grown hg (fun g hg => Or.inr hg)
  refine h.move hk (fun i hi e => by have := (own_some2 h.dt e).1; omega) (ownsRow_keeps h.tx hk (fun g hg' e => h.ap g hg' e)) ht (own_grown h.lb h.dt hg (by decide)) (own_grown h.rl h.dt hg (by decide)) (fun g hg' e => ?_)
  rcases hn with e1 | e1
  · rw [e1] at e; exact h.ap g hg' e
  · rw [e1] at e
    injection e with e
    have := (own_some2 h.tx hg').2
    omega
theorem KB.growL {ls : List Lbl} (h : KB w W p b px bx z1 z2 z3 z4 J S) (hg : W.grownBy W' z3.ownBlock) (hl : OwnL W' (b + 3) z3' ls) : KB w W' p b px bx z1 z2 z3' z4 ⟨J.tx, J.dt, ls, J.rl⟩ S := by
  have hk : Keeps (fun i => z3.ownBlock = some i) W W' := (Keeps.refl _ _).grown hg (fun g hg => Or.inr hg)
  exact h.move hk (fun i hi e => by have := (own_some2 h.lb e).1; omega) (own_grown h.tx h.lb hg (by decide)) (own_grown h.dt h.lb hg (by decide)) hl (own_grown h.rl h.lb hg (by decide)) h.ap
theorem KB.growR {rs : List Rel} (h : KB w W p b px bx z1 z2 z3 z4 J S) (hg : W.grownBy W' z4.ownBlock) (hr : OwnR W' (b + 3) z4' rs) : KB w W' p b px bx z1 z2 z3 z4' ⟨J.tx, J.dt, J.lb, rs⟩ S := by
  have hk : Keeps (fun i => z4.ownBlock = some i) W W' := (Keeps.refl _ _).grown hg (fun g hg => Or.inr hg)
  exact h.move hk (fun i hi e => by have := (own_some2 h.rl e).1; omega) (own_grown h.tx h.rl hg (by decide)) (own_grown h.dt h.rl hg (by decide)) (own_grown h.lb h.rl hg (by decide)) hr h.ap
/-- A cell of another struct is written. -/
theorem KB.far (h : KB w W p b px bx z1 z2 z3 z4 J S) {s t : Nat} {cs : Array Value} (hs : Blk W s t cs) (hq : b + 3 ≤ s) (i : Nat) (u : Value) (ht : t = 68 ∨ t = 51) (hn3 : z3.ownBlock ≠ some s) (hn4 : z4.ownBlock ≠ some s) : KB w (W.setCell ⟨s, i, none⟩ u) p b px bx z1 z2 z3 z4 J S := by
  have hk : Keeps (fun j => j = s) W (W.setCell ⟨s, i, none⟩ u) := (Keeps.refl (fun j => j = s) W).setCell (p := ⟨s, i, none⟩) (Or.inr rfl) u
  have hb : ∀ {e size k : Nat} {v : Value} {xs : List Value}, W.ownsRow (b + 3) e size v k xs → v.ownBlock ≠ some s → (W.setCell ⟨s, i, none⟩ u).ownsRow (b + 3) e size v k xs := fun h hne => ownsRow_keeps h hk (fun g hg e => hne (by rw [hg, e]))
  have hby : ∀ {v : Value} {k : Nat} {xs : List Value}, W.ownsRow (b + 3) 5 1 v k xs → v.ownBlock ≠ some s := fun h e => by
    obtain ⟨c, bb⟩ := owns_kind h e
    rcases ht with rfl | rfl
    · exact absurd (bb.kind hs) (by decide)
    · exact absurd (bb.kind hs) (by decide)
  exact h.move hk (fun j hj e => by omega) (hb h.tx (hby h.tx)) (hb h.dt (hby h.dt)) (hb h.lb hn3) (hb h.rl hn4) h.ap
/-- An object's copy stays where a row grows. -/
theorem KB.keepT (h : KB w W p b px bx z1 z2 z3 z4 J S) {e size k : Nat} {v : Value} {xs : List Value} (ho : W.ownsRow (b + 3) e size v k xs) (he : e ≠ 41) (hg : W.grownBy W' v.ownBlock) {q : Nat} {cs : Array Value} (hq : Blk W q 41 cs) : Blk W' q 41 cs := hq.grown hg (fun e1 => by
  obtain ⟨c, bb⟩ := owns_kind ho e1.symm
  exact he (bb.kind hq))
theorem KB.keepA (h : KB w W p b px bx z1 z2 z3 z4 J S) {off : Nat} {v v' : Value} {bs cs0 : List UInt8} (ho : OwnB W (b + 3) v cs0) (ha : Alg W W' b 74 off (b + 3) px v v' bs) {q : Nat} {cs : Array Value} (hq : Blk W q 41 cs) : Blk W' q 41 cs := hq.keeps ha.keeps (fun e => by
  rcases e with e | e | e
  · obtain ⟨c, bb⟩ := owns_kind ho e
    exact absurd (bb.kind hq) (by decide)
  · subst e; exact absurd (h.par.kind hq) (by decide)
  · have := hq.lt; omega)
end
end Go.Proofs.YteoglkofeogknaaGreatDoor

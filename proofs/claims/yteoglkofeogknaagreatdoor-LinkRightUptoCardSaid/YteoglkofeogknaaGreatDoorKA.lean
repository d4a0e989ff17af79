/- What is there while copied runs; walk: law05's same, spoil. Conditions: what each states. -/
import Derived.Test.YteoglkofeogknaaGreatDoorKZ
import Derived.Test.YteoglkofeogknaaGreatDoorGA
import Derived.Laws.IdiomStrings
import Derived.Deep.CutRange
set_option linter.unusedVariables false
set_option linter.unusedSimpArgs false
namespace Go.Proofs.YteoglkofeogknaaGreatDoor
open Go.RowKit
/-- What is there all along. -/
structure CpB (w W : World) (p q n : Nat) (v1 v2 v3 v4 : Value) (o : Ob) : Prop where
  below : Below p w W
  box : BoxO W p v1 v2 v3 v4
  size : n ≤ W.heap.size
  pn : p < n ∧ q < n ∧ p < q
  cells : ∃ a b c d, Blk W q 41 #[a, b, c, d]
def CpJ (d : Nat → Bool) (a : Act) (w W : World) (p q n : Nat) (v1 v2 v3 v4 : Value) (o : Ob) : Prop :=
  ∃ u3 u4 u5 u6 u7 u8 u9 u10 u11 u12 u13 u14 u15 u16 u17 : Value, a = ⟨#[.agg #[v1, v2, v3, v4], .pointer (some ⟨p, 0, none⟩), .pointer (some ⟨q, 0, none⟩), u3, u4, u5, u6, u7, u8, u9, u10, u11, u12, u13, u14, u15, u16, u17], []⟩ ∧ CpB w W p q n v1 v2 v3 v4 o ∧ (d 0 = true → u3 = .pointer (some ⟨p, 0, none⟩)) ∧ (d 1 = true → u4 = v1) ∧ (d 2 = true → W.ownsRow n 5 1 u5 o.tx.length (o.tx.map byv)) ∧ (d 3 = true → u6 = .pointer (some ⟨p, 1, none⟩)) ∧ (d 4 = true → u7 = v2) ∧ (d 5 = true → W.ownsRow n 5 1 u8 o.dt.length (o.dt.map byv)) ∧ ((d 6 && !d 9) = true → W.ownsRow n 68 4 u9 0 []) ∧ (d 7 = true → u10 = .pointer (some ⟨p, 2, none⟩)) ∧ (d 8 = true → u11 = v3) ∧ (d 9 = true → W.ownsRow n 68 4 u12 o.lb.length (o.lb.flatMap Lbl.cells) ∧ d 6 = true) ∧ ((d 10 && !d 13) = true → W.ownsRow n 51 5 u13 0 []) ∧ (d 11 = true → u14 = .pointer (some ⟨p, 3, none⟩)) ∧ (d 12 = true → u15 = v4) ∧ (d 13 = true → W.ownsRow n 51 5 u16 o.rl.length (o.rl.flatMap Rel.cells) ∧ d 10 = true) ∧ (d 14 = true → u17 = .agg #[u5, u8, u12, u16] ∧ d 2 = true ∧ d 5 = true ∧ d 9 = true ∧ d 13 = true) ∧ (d 15 = true → W.cell? ⟨q, 0, none⟩ = some u5 ∧ W.cell? ⟨q, 1, none⟩ = some u8 ∧ W.cell? ⟨q, 2, none⟩ = some u12 ∧ W.cell? ⟨q, 3, none⟩ = some u16 ∧ d 2 = true ∧ d 5 = true ∧ d 9 = true ∧ d 13 = true)
theorem upd_d {listed : Array Bool} {i : Nat} {d : Nat → Bool} (hd : d = fun k => listed.getD k false) (h : listed.getD i true = false) : (fun k => (listed.setIfInBounds i true).getD k false) = fun k => (k == i || d k) := by
  subst hd
  funext k
  have hs : i < listed.size := by
    rcases Nat.lt_or_ge i listed.size with h' | h'
    · exact h'
    · simp [Array.getD, Nat.not_lt.2 h'] at h
  by_cases hk : i = k
  · subst hk
    simp [Array.getD, hs]
  · have : (k == i) = false := by simpa using fun h => hk h.symm
    rw [this, Bool.false_or]
    simp only [Array.getD_eq_getD_getElem?]
    rw [Array.getElem?_setIfInBounds_ne hk]
theorem un_d {listed : Array Bool} {i : Nat} {d : Nat → Bool} (hd : d = fun k => listed.getD k false) (h : listed.getD i true = false) : d i = false := by
  subst hd
  simp only [Array.getD] at h ⊢
  split at h
  · rename_i hs
    simpa [hs] using h
  · cases h
theorem ready_dep {ops : Array Oper} {listed : Array Bool} {i : Nat} {o : Oper} {d : Nat → Bool} (hd : d = fun k => listed.getD k false) (h : i ∈ Region.ready .any ops listed) (ho : ops[i]? = some o) : (o.after.all fun e => !Region.binds .any e || d e.on) = true := by
  subst hd
  unfold Region.ready at h
  rw [List.mem_filter] at h
  have := h.2
  rw [ho] at this
  rw [Bool.and_eq_true] at this
  exact this.2
theorem not_ready {ops : Array Oper} {listed : Array Bool} {i : Nat} {o : Oper} {d : Nat → Bool} (hd : d = fun k => listed.getD k false) (h : Region.ready .any ops listed = []) (hi : i < listed.size) (ho : ops[i]? = some o) (hdp : (o.after.all fun e => !Region.binds .any e || d e.on) = true) : d i = true := by
  rcases hl : d i with _ | _
  · have h1 : listed.getD i true = false := by
      rw [hd] at hl
      simp only [Array.getD, hi, dif_pos] at hl ⊢
      exact hl
    have : i ∈ Region.ready .any ops listed := by
      unfold Region.ready
      rw [List.mem_filter]
      refine ⟨List.mem_range.2 (Array.getElem?_eq_some_iff.1 ho).1, ?_⟩
      rw [ho, h1]
      subst hd
      exact hdp
    rw [h] at this
    cases this
  · rfl
theorem own_grown {W W' : World} {n e e' size size' k k' : Nat} {v u : Value} {xs ys : List Value} (h : W.ownsRow n e size v k xs) (hu : W.ownsRow n e' size' u k' ys) (hg : W.grownBy W' u.ownBlock) (he : e ≠ e') : W'.ownsRow n e size v k xs := by
  refine ownsRow_keeps (F := fun i => u.ownBlock = some i) h ((Keeps.refl _ _).grown hg (fun g hg => Or.inr hg)) (fun i hi hF => ?_)
  obtain ⟨c1, b1⟩ := owns_kind h hi
  obtain ⟨c2, b2⟩ := owns_kind hu hF
  exact he (b1.kind b2)
theorem own_below {W W' : World} {n e size k : Nat} {v : Value} {xs : List Value} (h : W.ownsRow n e size v k xs) (hb : Below W.heap.size W W') : W'.ownsRow n e size v k xs := ownsRow_keeps h (keeps_of_below (fun _ => False) hb) (fun _ _ => id)
section
variable {w W W' : World} {p q n : Nat} {v1 v2 v3 v4 : Value} {o : Ob}
theorem CpB.below_ (h : CpB w W p q n v1 v2 v3 v4 o) (hb : Below W.heap.size W W') : CpB w W' p q n v1 v2 v3 v4 o := by
  obtain ⟨a, b, c, d, hc⟩ := h.cells
  exact ⟨h.below.trans (hb.mono (by have := h.size; have := h.pn; omega)), h.box.below hb, Nat.le_trans h.size hb.size, h.pn, ⟨a, b, c, d, hc.below hb hc.lt⟩⟩
theorem CpB.grown_ (h : CpB w W p q n v1 v2 v3 v4 o) {e size k : Nat} {u : Value} {ys : List Value} (hu : W.ownsRow n e size u k ys) (hg : W.grownBy W' u.ownBlock) : CpB w W' p q n v1 v2 v3 v4 o := by
  obtain ⟨a, b, c, d, hc⟩ := h.cells
  have hpn := h.pn
  have hs := h.size
  have hk : Keeps (fun i => u.ownBlock = some i) W W' := (Keeps.refl _ _).grown hg (fun g hg => Or.inr hg)
  have hge : ∀ g, u.ownBlock = some g → n ≤ g := fun g hg => (own_some2 hu hg).1
  exact ⟨h.below.grown hg (by omega) (fun k hk => by have := hge k hk; omega), h.box.keeps hk (fun e => by have := hge _ e; omega), Nat.le_trans h.size hg.size, h.pn, ⟨a, b, c, d, hc.keeps hk (fun e => by have := hge _ e; omega)⟩⟩
end
open Go.RowKit
theorem conv_bys {w : World} {v : Value} {bs : List UInt8} (h : Bys w v bs) : (convert 37 9 v).run Tryz.prog w = .ok (.string ⟨bs.toArray⟩) w := by
  obtain ⟨A, cap, rfl, h1, h2, h3⟩ := h
  cases A with
  | none =>
    have : bs = [] := by
      rcases Nat.eq_zero_or_pos bs.length with h | h
      · exact List.eq_nil_of_length_eq_zero h
      · obtain ⟨g, off, e, _⟩ := h3 h
        cases e
    subst this
    rw [run_convert_bytes_string w 37 9 5 none _ cap Tryz.underlying37 Tryz.underlying5 Tryz.underlying9]
    simp [Conv.bytesToString]
    rfl
  | some a =>
    refine run_convert_bytes_back w 37 9 5 a cap bs Tryz.underlying37 Tryz.underlying5 Tryz.underlying9 (fun j hj => ?_)
    obtain ⟨g, off, e, _, hc⟩ := h3 (by omega)
    cases e
    rw [addr_add]
    exact hc j _ (by rw [List.getElem?_map, List.getElem?_eq_getElem hj]; rfl)
open Go.RowKit
theorem own_cell {w : World} {B g n cap size : Nat} {e : TypeId} {xs : List Value} (h : w.ownsRow B e size (.slice (some ⟨g, 0, none⟩) n cap) n xs) {j : Nat} (hj : j < n * size) : ∃ u, w.cell? ⟨g, j, none⟩ = some u := by
  have hl := h.1
  exact ⟨_, (own_parts h).2.2.2.2.1 j _ (List.getElem?_eq_getElem (by omega))⟩
open Go.RowKit
/-- The rows that spoil writes into. -/
structure Spk (w W : World) (p B : Nat) (o1 v1 v2 v3 v4 : Value) (n m : Nat) : Prop where
  t : ∃ xs, W.ownsRow B 5 1 o1 n xs
  l : ∃ ys, W.ownsRow B 68 4 v3 m ys
  box : BoxO W p v1 v2 v3 v4
  below : Below B w W
  pb : B ≤ p ∧ (∀ g, o1.ownBlock = some g → g < p) ∧ (∀ g, v3.ownBlock = some g → g < p) ∧ B ≤ W.heap.size
theorem Spk.setT {w W : World} {p B n m i : Nat} {g c : Nat} {v1 v2 v3 v4 : Value} (h : Spk w W p B (.slice (some ⟨g, 0, none⟩) n c) v1 v2 v3 v4 n m) (hi : i < n) (u : Value) : Spk w (W.setCell ⟨g, i, none⟩ u) p B (.slice (some ⟨g, 0, none⟩) n c) v1 v2 v3 v4 n m := by
  obtain ⟨xs, hx⟩ := h.t
  obtain ⟨ys, hy⟩ := h.l
  have hk : Keeps (fun j => j = g) W (W.setCell ⟨g, i, none⟩ u) := (Keeps.refl (fun j => j = g) W).setCell (p := ⟨g, i, none⟩) (Or.inr rfl) u
  have hg := (own_parts hx).1
  have hgp := h.pb.2.1 g rfl
  refine ⟨⟨_, own_set hx (by rw [hx.1]; omega) u⟩, ⟨ys, ownsRow_keeps hy hk (fun j hj e => ?_)⟩, h.box.keeps hk (by omega), below_keeps h.below hk (fun j hj e => by omega) h.pb.2.2.2, ⟨h.pb.1, h.pb.2.1, h.pb.2.2.1, by simpa using h.pb.2.2.2⟩⟩
  subst e
  obtain ⟨_, b1⟩ := owns_kind hx (g := j) rfl
  obtain ⟨_, b2⟩ := owns_kind hy hj
  exact absurd (b1.kind b2) (by decide)
theorem Spk.setL {w W : World} {p B n m i : Nat} {g c : Nat} {o1 v1 v2 v4 : Value} (h : Spk w W p B o1 v1 v2 (.slice (some ⟨g, 0, none⟩) m c) v4 n m) (hi : i < m * 4) (u : Value) : Spk w (W.setCell ⟨g, i, none⟩ u) p B o1 v1 v2 (.slice (some ⟨g, 0, none⟩) m c) v4 n m := by
  obtain ⟨xs, hx⟩ := h.t
  obtain ⟨ys, hy⟩ := h.l
  have hk : Keeps (fun j => j = g) W (W.setCell ⟨g, i, none⟩ u) := (Keeps.refl (fun j => j = g) W).setCell (p := ⟨g, i, none⟩) (Or.inr rfl) u
  have hg := (own_parts hy).1
  have hgp := h.pb.2.2.1 g rfl
  refine ⟨⟨xs, ownsRow_keeps hx hk (fun j hj e => ?_)⟩, ⟨_, own_set hy (by rw [hy.1]; omega) u⟩, h.box.keeps hk (by omega), below_keeps h.below hk (fun j hj e => by omega) h.pb.2.2.2, ⟨h.pb.1, h.pb.2.1, h.pb.2.2.1, by simpa using h.pb.2.2.2⟩⟩
  subst e
  obtain ⟨_, b1⟩ := owns_kind hy (g := j) rfl
  obtain ⟨_, b2⟩ := owns_kind hx hj
  exact absurd (b2.kind b1) (by decide)
theorem Spk.drew {w W : World} {p B n m : Nat} {o1 v1 v2 v3 v4 : Value} (h : Spk w W p B o1 v1 v2 v3 v4 n m) : Spk w W.drew p B o1 v1 v2 v3 v4 n m := ⟨h.t, h.l, h.box, h.below.drew, h.pb⟩
end Go.Proofs.YteoglkofeogknaaGreatDoor

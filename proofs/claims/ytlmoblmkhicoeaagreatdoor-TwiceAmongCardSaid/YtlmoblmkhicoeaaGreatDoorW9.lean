/- Plain and laws: what lies between. No conditions. -/
import Derived.Test.YtlmoblmkhicoeaaGreatDoorW8
set_option linter.unusedVariables false
set_option linter.unusedSimpArgs false
namespace Go.Proofs.YtlmoblmkhicoeaaGreatDoor
open Go.RowKit
def btS (s : List Bool) (o : Op) : List Bool := if 0 ≤ o.d then s.set o.d.toNat true else s
def btO (os : List Op) (s : List Bool) : List Bool := os.foldl btS s
def btX (x : Ex) (s : List Bool) : List Bool := if x.k == 4 && decide (0 ≤ x.d) then s.set x.d.toNat true else s
/-- Seen, written, still to look at. -/
structure Bt where
  se : List Bool
  ou : List Bool
  td : List Int
def btStep (F : Fn) (s : Bt) : Bt :=
  if s.se.getD (s.td.getLastD 0).toNat false then ⟨s.se, s.ou, s.td.dropLast⟩
  else ⟨s.se.set (s.td.getLastD 0).toNat true, btX (blk F (s.td.getLastD 0).toNat).x (btO (blk F (s.td.getLastD 0).toNat).os s.ou), s.td.dropLast ++ (edgL F).getD (s.td.getLastD 0).toNat []⟩
def btF (F : Fn) : Nat → Bt → Bt
  | 0, s => s
  | f + 1, s => if s.td = [] then s else btF F f (btStep F s)
def bt0 (F : Fn) (b : Nat) : Bt := ⟨List.replicate F.bl.length false, List.replicate F.rs.toNat false, [(blk F b).x.t, (blk F b).x.e]⟩
/-- What is written between. -/
def btL (F : Fn) (b : Nat) : List Bool := (btF F (3 * F.bl.length + 2) (bt0 F b)).ou
def falses (l : List Bool) : Nat := l.countP (fun b => !b)
theorem falses_set {l : List Bool} {k : Nat} (hk : k < l.length) (h : l.getD k false = false) : falses (l.set k true) + 1 = falses l := by
  have e : l[k] = false := by rw [← h]; simp [hk]
  unfold falses
  have h1 : l = l.take k ++ l[k] :: l.drop (k + 1) := by rw [List.getElem_cons_drop, List.take_append_drop]
  have h2 : l.set k true = l.take k ++ true :: l.drop (k + 1) := by rw [List.set_eq_take_append_cons_drop, if_pos hk]
  rw [h2]
  conv => rhs; rw [h1]
  rw [List.countP_append, List.countP_append, List.countP_cons, List.countP_cons, e]
  simp; omega
theorem falses_le (l : List Bool) : falses l ≤ l.length := List.countP_le_length
def btM (s : Bt) : Nat := 3 * falses s.se + s.td.length
theorem btS_len (s : List Bool) (o : Op) : (btS s o).length = s.length := by
  unfold btS
  split
  · rw [List.length_set]
  · rfl
theorem btO_len (os : List Op) : ∀ s, (btO os s).length = s.length := by
  induction os with
  | nil => intro s; rfl
  | cons o os ih => intro s; show (btO os (btS s o)).length = _; rw [ih, btS_len]
theorem btX_len (x : Ex) (s : List Bool) : (btX x s).length = s.length := by
  unfold btX
  split
  · rw [List.length_set]
  · rfl
theorem btO_step (os : List Op) (s : List Bool) {k : Nat} (hk : k < os.length) : btO (os.take (k + 1)) s = btS (btO (os.take k) s) os[k] := foldS_step btS os s hk
theorem edgL_two {F : Fn} (k : Nat) : ((edgL F).getD k []).length ≤ 2 := by
  rcases Nat.lt_or_ge k F.bl.length with h | h
  · have e : (edgL F).getD k [] = sortL (onceL (exT F.bl[k].x)) := by simp [edgL, toL, h]
    rw [e, sortL_len]; exact onceL_two _
  · have e : (edgL F).getD k [] = [] := by simp [edgL, toL, h]
    rw [e]; simp
theorem edgL_mem {F : Fn} (h : FnOk F) (k : Nat) : ∀ t ∈ (edgL F).getD k [], 1 ≤ t ∧ t < (F.bl.length : Int) := by
  rcases Nat.lt_or_ge k F.bl.length with hk | hk
  · have e : (edgL F).getD k [] = sortL (onceL (exT F.bl[k].x)) := by simp [edgL, toL, hk]
    rw [e]
    intro t ht
    exact h.to1 hk t (sortL_mem.1 ht)
  · have e : (edgL F).getD k [] = [] := by simp [edgL, toL, hk]
    rw [e]; intro t ht; simp at ht
theorem btStep_M {F : Fn} {s : Bt} (hs : ∀ t ∈ s.td, 0 ≤ t ∧ t < (s.se.length : Int)) (hne : s.td ≠ []) : btM (btStep F s) + 1 ≤ btM s := by
  have hl : s.td.getLastD 0 ∈ s.td := by
    rw [List.getLastD_eq_getLast?, List.getLast?_eq_some_getLast hne]; exact List.getLast_mem hne
  have hr := hs _ hl
  have hp : 0 < s.td.length := List.length_pos_iff.2 hne
  unfold btStep btM
  split
  · simp only [List.length_dropLast]; omega
  · rename_i h
    have h2 := falses_set (l := s.se) (k := (s.td.getLastD 0).toNat) (by omega) (by simpa using h)
    have h3 := edgL_two (F := F) (s.td.getLastD 0).toNat
    simp only [List.length_append, List.length_dropLast]
    omega
structure BtW (w : World) (gS gO n R : Nat) (tdv : Value) (s : Bt) (W : World) : Prop where
  se : BRow W gS s.se
  ou : BRow W gO s.ou
  td : OwnI W w.heap.size tdv s.td
  be : Below w.heap.size w W
  ln : s.se.length = n
  lo : s.ou.length = R
  rg : ∀ t ∈ s.td, 0 ≤ t ∧ t < (n : Int)
  ne : gS ≠ gO
  bS : w.heap.size ≤ gS
  bO : w.heap.size ≤ gO
theorem BtW.below {w W W' : World} {gS gO n R : Nat} {tdv : Value} {s : Bt} (h : BtW w gS gO n R tdv s W) (hb : Below W.heap.size W W') : BtW w gS gO n R tdv s W' :=
  ⟨h.se.below hb, h.ou.below hb, h.td.below hb, h.be.trans (below_of_le hb h.be.size), h.ln, h.lo, h.rg, h.ne, h.bS, h.bO⟩
theorem BtW.setS {w W : World} {gS gO n R : Nat} {tdv : Value} {s : Bt} (h : BtW w gS gO n R tdv s W) (k : Nat) : BtW w gS gO n R tdv ⟨s.se.set k true, s.ou, s.td⟩ (W.setCell ⟨gS, k, none⟩ (.bool true)) := by
  have hk : Keeps (fun q => q = gS) W (W.setCell ⟨gS, k, none⟩ (.bool true)) := (Keeps.refl (fun q => q = gS) W).setCell (p := ⟨gS, k, none⟩) (Or.inr rfl) _
  exact ⟨h.se.set_ k true, h.ou.keeps hk h.ne.symm, h.td.keeps hk (fun q hq e => (h.se.ne h.td hq) e.symm), below_far h.be h.bS _, by rw [List.length_set]; exact h.ln, h.lo, h.rg, h.ne, h.bS, h.bO⟩
theorem BtW.setO {w W : World} {gS gO n R : Nat} {tdv : Value} {s : Bt} (h : BtW w gS gO n R tdv s W) (k : Nat) : BtW w gS gO n R tdv ⟨s.se, s.ou.set k true, s.td⟩ (W.setCell ⟨gO, k, none⟩ (.bool true)) := by
  have hk : Keeps (fun q => q = gO) W (W.setCell ⟨gO, k, none⟩ (.bool true)) := (Keeps.refl (fun q => q = gO) W).setCell (p := ⟨gO, k, none⟩) (Or.inr rfl) _
  exact ⟨h.se.keeps hk h.ne, h.ou.set_ k true, h.td.keeps hk (fun q hq e => (h.ou.ne h.td hq) e.symm), below_far h.be h.bO _, h.ln, by rw [List.length_set]; exact h.lo, h.rg, h.ne, h.bS, h.bO⟩
/-- The row still to look at, with another one behind it. -/
theorem BtW.app {w W : World} {gS gO n R : Nat} {tdv u : Value} {s : Bt} {m : List Int} (h : BtW w gS gO n R tdv s W) (hu : Ints W u m) (hm : ∀ t ∈ m, 0 ≤ t ∧ t < (n : Int)) (hs : s.td.length + m.length ≤ 16777216) (ty : TypeId) :
    ∃ A n' c W', (Builtin.append_ #[34, 34] ty #[tdv, u]).run Tryz.prog W = .ok (.slice A n' c) W' ∧ n' = (s.td ++ m).length ∧ BtW w gS gO n R (.slice A n' c) ⟨s.se, s.ou, s.td ++ m⟩ W' := by
  obtain ⟨v', W', e1, e2, e3, -⟩ := h.td.app hu h.be.size (by omega) ty
  obtain ⟨A, c, rfl, -, -⟩ := e2.form
  exact ⟨A, _, c, W', e1, rfl, h.se.keeps e3 (fun e => (h.se.ne h.td e) rfl), h.ou.keeps e3 (fun e => (h.ou.ne h.td e) rfl), e2, h.be.trans (h.td.keepsB e3 h.be.size), h.ln, h.lo, fun t ht => (List.mem_append.1 ht).elim (h.rg t) (hm t), h.ne, h.bS, h.bO⟩
end Go.Proofs.YtlmoblmkhicoeaaGreatDoor

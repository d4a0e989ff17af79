/- Walks: the reference's ordered. Conditions: what the theorem states. -/
import Derived.Test.YteoglkofeogknaaGreatDoorKA
import Derived.Deep.CutRange
set_option linter.unusedVariables false
set_option linter.unusedSimpArgs false
namespace Go.Proofs.YteoglkofeogknaaGreatDoor
open Go.RowKit
def OwnL (w : World) (B : Nat) (v : Value) (xs : List Lbl) : Prop := w.ownsRow B 68 4 v xs.length (xs.flatMap Lbl.cells)
def OwnR (w : World) (B : Nat) (v : Value) (xs : List Rel) : Prop := w.ownsRow B 51 5 v xs.length (xs.flatMap Rel.cells)
theorem one_rowL {w : World} (x : Lbl) : RowOf (w.alloc (.cells #[.string x.nm, .int .i64 x.sec, .int .i64 x.at_, .bool x.gl] 68)) (.slice (some ⟨w.heap.size, 0, none⟩) 1 1) 1 x.cells :=
  ⟨_, 1, rfl, Nat.le_refl _, by decide, fun _ => ⟨w.heap.size, 0, rfl, by simp, fun j u hj => by
    have := (Blk.new w 68 #[.string x.nm, .int .i64 x.sec, .int .i64 x.at_, .bool x.gl]).cell (0 + j)
    rw [this]
    simpa [Lbl.cells] using hj⟩⟩
theorem one_rowR {w : World} (x : Rel) : RowOf (w.alloc (.cells #[.int .i64 x.sec, .int .i64 x.at_, .int .i64 x.kd, .int .i64 x.add, .string x.nm] 51)) (.slice (some ⟨w.heap.size, 0, none⟩) 1 1) 1 x.cells :=
  ⟨_, 1, rfl, Nat.le_refl _, by decide, fun _ => ⟨w.heap.size, 0, rfl, by simp, fun j u hj => by
    have := (Blk.new w 51 #[.int .i64 x.sec, .int .i64 x.at_, .int .i64 x.kd, .int .i64 x.add, .string x.nm]).cell (0 + j)
    rw [this]
    simpa [Rel.cells] using hj⟩⟩
/-- One label more. -/
theorem OwnL.snoc {w : World} {B : Nat} {v : Value} {xs : List Lbl} (h : OwnL w B v xs) (x : Lbl) (hl : xs.length ≤ 1099511627776) (hB : B ≤ w.heap.size) :
    ∃ v' w', (Builtin.append_ #[38, 38] 38 #[v, .slice (some ⟨w.heap.size, 0, none⟩) 1 1]).run Tryz.prog (w.alloc (.cells #[.string x.nm, .int .i64 x.sec, .int .i64 x.at_, .bool x.gl] 68)) = .ok v' w' ∧ OwnL w' B v' (xs ++ [x]) ∧ (w.alloc (.cells #[.string x.nm, .int .i64 x.sec, .int .i64 x.at_, .bool x.gl] 68)).grownBy w' v.ownBlock ∧ (v'.ownBlock = v.ownBlock ∨ v'.ownBlock = some (w.alloc (.cells #[.string x.nm, .int .i64 x.sec, .int .i64 x.at_, .bool x.gl] 68)).heap.size) := by
  obtain ⟨v', w', r1, r2, r3, r4⟩ := app_any arowL 38 (own_below h ((Below.refl _ _).alloc (Nat.le_refl _) (.cells #[.string x.nm, .int .i64 x.sec, .int .i64 x.at_, .bool x.gl] 68))) (one_rowL x) (by simp [Lbl.cells]) (by have := oneL [x]; simpa using this) (by unfold maxLen; omega) (by omega) (by simp; omega)
  refine ⟨v', w', r1, ?_, r3, r4⟩
  unfold OwnL
  rw [List.length_append, List.flatMap_append]
  simpa using r2
theorem OwnR.snoc {w : World} {B : Nat} {v : Value} {xs : List Rel} (h : OwnR w B v xs) (x : Rel) (hl : xs.length ≤ 1099511627776) (hB : B ≤ w.heap.size) :
    ∃ v' w', (Builtin.append_ #[39, 39] 39 #[v, .slice (some ⟨w.heap.size, 0, none⟩) 1 1]).run Tryz.prog (w.alloc (.cells #[.int .i64 x.sec, .int .i64 x.at_, .int .i64 x.kd, .int .i64 x.add, .string x.nm] 51)) = .ok v' w' ∧ OwnR w' B v' (xs ++ [x]) ∧ (w.alloc (.cells #[.int .i64 x.sec, .int .i64 x.at_, .int .i64 x.kd, .int .i64 x.add, .string x.nm] 51)).grownBy w' v.ownBlock ∧ (v'.ownBlock = v.ownBlock ∨ v'.ownBlock = some (w.alloc (.cells #[.int .i64 x.sec, .int .i64 x.at_, .int .i64 x.kd, .int .i64 x.add, .string x.nm] 51)).heap.size) := by
  obtain ⟨v', w', r1, r2, r3, r4⟩ := app_any arowR 39 (own_below h ((Below.refl _ _).alloc (Nat.le_refl _) (.cells #[.int .i64 x.sec, .int .i64 x.at_, .int .i64 x.kd, .int .i64 x.add, .string x.nm] 51))) (one_rowR x) (by simp [Rel.cells]) (by have := oneR [x]; simpa using this) (by unfold maxLen; omega) (by omega) (by simp; omega)
  refine ⟨v', w', r1, ?_, r3, r4⟩
  unfold OwnR
  rw [List.length_append, List.flatMap_append]
  simpa using r2
/-- A whole row more. -/
theorem OwnL.app {w : World} {B : Nat} {v u : Value} {xs ys : List Lbl} (h : OwnL w B v xs) (hu : Lbs w u ys) (hl : xs.length ≤ 549755813888) (hl2 : ys.length ≤ 549755813888) (hB : B ≤ w.heap.size) :
    ∃ v' w', (Builtin.append_ #[38, 38] 38 #[v, u]).run Tryz.prog w = .ok v' w' ∧ OwnL w' B v' (xs ++ ys) ∧ w.grownBy w' v.ownBlock ∧ (v'.ownBlock = v.ownBlock ∨ v'.ownBlock = some w.heap.size) := by
  obtain ⟨v', w', r1, r2, r3, r4⟩ := app_any arowL 38 h hu (flatMap_len _ 4 (fun _ => rfl) ys) (oneL ys) (by unfold maxLen; omega) (by omega) hB
  refine ⟨v', w', r1, ?_, r3, r4⟩
  unfold OwnL
  rw [List.length_append, List.flatMap_append]
  exact r2
theorem OwnB.app {w : World} {B : Nat} {v u : Value} {xs ys : List UInt8} (h : OwnB w B v xs) (hu : Bys w u ys) (hl : xs.length ≤ 1099511627776) (hl2 : ys.length ≤ 1099511627776) (hB : B ≤ w.heap.size) :
    ∃ v' w', (Builtin.append_ #[37, 37] 37 #[v, u]).run Tryz.prog w = .ok v' w' ∧ OwnB w' B v' (xs ++ ys) ∧ w.grownBy w' v.ownBlock ∧ (v'.ownBlock = v.ownBlock ∨ v'.ownBlock = some w.heap.size) := by
  obtain ⟨v', w', r1, r2, r3, r4⟩ := app_any arowB 37 h hu (by simp) (oneB ys) (by unfold maxLen; omega) (by omega) hB
  refine ⟨v', w', r1, ?_, r3, r4⟩
  unfold OwnB
  rw [List.length_append, List.map_append]
  exact r2
def filL (s : Int) (xs : List Lbl) : List Lbl := xs.filter fun x => x.sec == s
def filR (s : Int) (xs : List Rel) : List Rel := xs.filter fun x => x.sec == s
def ordLs (xs : List Lbl) : Nat → List Lbl
  | 0 => []
  | s + 1 => ordLs xs s ++ filL s xs
def ordRs (xs : List Rel) : Nat → List Rel
  | 0 => []
  | s + 1 => ordRs xs s ++ filR s xs
theorem filL_hit {xs : List Lbl} {s : Int} {i : Nat} (h : i < xs.length) (he : (xs.getD i default).sec = s) : filL s (xs.take (i + 1)) = filL s (xs.take i) ++ [xs.getD i default] := by
  have e : xs.getD i default = xs[i] := by simp [List.getD, h]
  unfold filL
  rw [List.take_succ_eq_append_getElem h, List.filter_append, e]
  rw [e] at he
  simp [he]
theorem filL_miss {xs : List Lbl} {s : Int} {i : Nat} (h : i < xs.length) (he : ¬ (xs.getD i default).sec = s) : filL s (xs.take (i + 1)) = filL s (xs.take i) := by
  have e : xs.getD i default = xs[i] := by simp [List.getD, h]
  unfold filL
  rw [List.take_succ_eq_append_getElem h, List.filter_append]
  rw [e] at he
  simp [he]
theorem filR_hit {xs : List Rel} {s : Int} {i : Nat} (h : i < xs.length) (he : (xs.getD i default).sec = s) : filR s (xs.take (i + 1)) = filR s (xs.take i) ++ [xs.getD i default] := by
  have e : xs.getD i default = xs[i] := by simp [List.getD, h]
  unfold filR
  rw [List.take_succ_eq_append_getElem h, List.filter_append, e]
  rw [e] at he
  simp [he]
theorem filR_miss {xs : List Rel} {s : Int} {i : Nat} (h : i < xs.length) (he : ¬ (xs.getD i default).sec = s) : filR s (xs.take (i + 1)) = filR s (xs.take i) := by
  have e : xs.getD i default = xs[i] := by simp [List.getD, h]
  unfold filR
  rw [List.take_succ_eq_append_getElem h, List.filter_append]
  rw [e] at he
  simp [he]
theorem ordLs_len (xs : List Lbl) : ∀ s, (ordLs xs s).length ≤ s * xs.length
  | 0 => by simp [ordLs]
  | s + 1 => by
    have := ordLs_len xs s
    have h2 : (filL s xs).length ≤ xs.length := List.length_filter_le _ _
    rw [ordLs, List.length_append, Nat.succ_mul]
    omega
theorem ordRs_len (xs : List Rel) : ∀ s, (ordRs xs s).length ≤ s * xs.length
  | 0 => by simp [ordRs]
  | s + 1 => by
    have := ordRs_len xs s
    have h2 : (filR s xs).length ≤ xs.length := List.length_filter_le _ _
    rw [ordRs, List.length_append, Nat.succ_mul]
    omega
open Go.RowKit
/-- Where ordered stands. -/
structure OS (w W : World) (p : Nat) (v1 v2 v3 v4 vl vr : Value) (ls : List Lbl) (rs : List Rel) : Prop where
  below : Below p w W
  size : p + 2 ≤ W.heap.size
  box : Blk W p 41 #[v1, v2, v3, v4]
  res : ∃ a b c d, Blk W (p + 1) 41 #[a, b, c, d]
  l : OwnL W (p + 2) vl ls
  r : OwnR W (p + 2) vr rs
section
variable {w W W' : World} {p : Nat} {v1 v2 v3 v4 vl vr vl' vr' : Value} {ls ls' : List Lbl} {rs rs' : List Rel}
theorem OS.bel (h : OS w W p v1 v2 v3 v4 vl vr ls rs) (hb : Below W.heap.size W W') : OS w W' p v1 v2 v3 v4 vl vr ls rs := by
  obtain ⟨a, b, c, d, hr⟩ := h.res
  have := h.size
  exact ⟨h.below.trans (hb.mono (by omega)), Nat.le_trans h.size hb.size, h.box.below hb h.box.lt, ⟨a, b, c, d, hr.below hb hr.lt⟩, own_below h.l hb, own_below h.r hb⟩
theorem OS.growL (h : OS w W p v1 v2 v3 v4 vl vr ls rs) (hg : W.grownBy W' vl.ownBlock) (hl : OwnL W' (p + 2) vl' ls') : OS w W' p v1 v2 v3 v4 vl' vr ls' rs := by
  obtain ⟨a, b, c, d, hr⟩ := h.res
  have := h.size
  have hge : ∀ g, vl.ownBlock = some g → p + 2 ≤ g := fun g hg => (own_some2 h.l hg).1
  have hk : Keeps (fun i => vl.ownBlock = some i) W W' := (Keeps.refl _ _).grown hg (fun g hg => Or.inr hg)
  exact ⟨h.below.grown hg (by omega) (fun k hk => by have := hge k hk; omega), Nat.le_trans h.size hg.size, h.box.keeps hk (fun e => by have := hge _ e; omega), ⟨a, b, c, d, hr.keeps hk (fun e => by have := hge _ e; omega)⟩, hl, own_grown h.r h.l hg (by decide)⟩
theorem OS.growR (h : OS w W p v1 v2 v3 v4 vl vr ls rs) (hg : W.grownBy W' vr.ownBlock) (hr' : OwnR W' (p + 2) vr' rs') : OS w W' p v1 v2 v3 v4 vl vr' ls rs' := by
  obtain ⟨a, b, c, d, hr⟩ := h.res
  have := h.size
  have hge : ∀ g, vr.ownBlock = some g → p + 2 ≤ g := fun g hg => (own_some2 h.r hg).1
  have hk : Keeps (fun i => vr.ownBlock = some i) W W' := (Keeps.refl _ _).grown hg (fun g hg => Or.inr hg)
  exact ⟨h.below.grown hg (by omega) (fun k hk => by have := hge k hk; omega), Nat.le_trans h.size hg.size, h.box.keeps hk (fun e => by have := hge _ e; omega), ⟨a, b, c, d, hr.keeps hk (fun e => by have := hge _ e; omega)⟩, own_grown h.l h.r hg (by decide), hr'⟩
end
end Go.Proofs.YteoglkofeogknaaGreatDoor

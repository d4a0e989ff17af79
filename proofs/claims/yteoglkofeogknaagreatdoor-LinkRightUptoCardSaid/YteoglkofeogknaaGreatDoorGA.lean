/- A map as a set of texts; what Check says, in plain words. No conditions beyond what each states. -/
import Derived.Test.YteoglkofeogknaaGreatDoorIB
import Derived.Test.YteoglkofeogknaaGreatDoorHO
import Derived.Maps.OwnOps
import Derived.Maps.Views
import Derived.StringKeys
import Derived.Test.YteoglkofeogknaaGreatDoorF5
set_option linter.unusedVariables false
set_option linter.unusedSimpArgs false
namespace Go.Proofs.YteoglkofeogknaaGreatDoor
open Go.RowKit
open Go.Maps (Keyed)
theorem lawS : Keyed Tryz.prog 9 := Maps.string_keyed Tryz.underlying9
theorem zeroB (w : World) : (zeroValue 4).run Tryz.prog w = .ok (.bool false) w := by kernel_rfl
/-- Block b is a map that has just the texts ss, at most n. -/
def SetAt (w : World) (b n : Nat) (ss : List ByteArray) : Prop :=
  ∃ D : DataW Unit, w.ownsMap Tryz.prog 9 (plainElem Tryz.prog 4) b n D ∧ Maps.IsMap D ∧ ∀ s : ByteArray, D.atKey (.string s.data.toList) (.lit (.bool false)) = .lit (.bool (amongB ss s))
set_option maxRecDepth 100000 in
theorem plainElem_bool_inv {v : Value} {z : DataW Unit × List MemPlace} (h : plainElem Tryz.prog 4 v = some z) : ∃ x, v = .bool x ∧ z.1 = .lit (.bool x) := by
  unfold plainElem at h
  rw [Tryz.underlying4] at h
  cases v <;> first | (cases h; done) | (injection h with h; exact ⟨_, rfl, by rw [← h]⟩)
theorem SetAt.new (w : World) : SetAt (w.alloc (.map #[] 0)) w.heap.size 0 [] := ⟨.map [], World.ownsMap_made _ _ _ _, ⟨[], rfl⟩, fun s => rfl⟩
set_option maxRecDepth 100000 in
theorem SetAt.look {w : World} {b n : Nat} {ss : List ByteArray} (h : SetAt w b n ss) (s : ByteArray) (hs : s.size ≤ maxLen) : (Instr.lookup 75 (.map (some b)) (.string s) false).run Tryz.prog w = .ok (.bool (amongB ss s)) w := by
  obtain ⟨D, h1, _, h2⟩ := h
  obtain ⟨v, ps, hr, hv⟩ := h1.lookup lawS Tryz.underlying75 (zeroB w) (plainElem_bool Tryz.underlying4 false) (Go.WideMaps.keyOf_string_mk (P := Tryz.prog) Tryz.underlying9 hs)
  obtain ⟨x, rfl, hx⟩ := plainElem_bool_inv hv
  rw [h2 s] at hx
  have hx2 : amongB ss s = x := by injection hx with hx; injection hx
  rw [hr, ← hx2]
set_option maxRecDepth 100000 in
theorem SetAt.put {w : World} {b n : Nat} {ss : List ByteArray} (h : SetAt w b n ss) (s : ByteArray) (hs : s.size ≤ maxLen) (hn : n < maxLen) : ∃ w', (Instr.mapUpdate 75 (.map (some b)) (.string s) (.bool true)).run Tryz.prog w = .ok () w' ∧ SetAt w' b (n + 1) (ss ++ [s]) ∧ w.grownBy w' (some b) := by
  obtain ⟨D, h1, h0, h2⟩ := h
  obtain ⟨w', hr, ho, hg⟩ := h1.update lawS Tryz.underlying75 hn (Go.WideMaps.keyOf_string_mk (P := Tryz.prog) Tryz.underlying9 hs) (plainElem_bool Tryz.underlying4 true)
  refine ⟨w', hr, ⟨_, ho, h0.put _ _, fun s' => ?_⟩, hg⟩
  by_cases he : s' = s
  · subst he
    rw [Maps.atKey_put_same h0 (by trivial)]
    unfold amongB
    rw [List.any_append]
    have : (s'.toList == s'.toList) = true := beq_self_eq_true _
    rw [List.any_cons, this, Bool.true_or, Bool.or_true]
  · rw [Maps.atKey_put_other (by intro h; injection h with h; exact he (ByteArray.ext (Array.toList_inj.1 h))), h2 s']
    congr 2
    unfold amongB
    rw [List.any_append]
    simp only [List.any_cons, List.any_nil, Bool.or_false]
    have : (s.toList == s'.toList) = false := by
      simp only [beq_eq_false_iff_ne, ne_eq]
      exact fun h => he (eq_of_toList h.symm)
    rw [this, Bool.or_false]
theorem SetAt.lt {w : World} {b n : Nat} {ss : List ByteArray} (h : SetAt w b n ss) : b < w.heap.size := by obtain ⟨D, h1, _⟩ := h; exact h1.lt
theorem SetAt.kept {w w' : World} {b n : Nat} {ss : List ByteArray} {row : Option Nat} (h : SetAt w b n ss) (hg : w.grownBy w' row) (hne : some b ≠ row) : SetAt w' b n ss := by
  obtain ⟨D, h1, h0, h2⟩ := h
  exact ⟨D, h1.kept hg hne, h0, h2⟩
theorem SetAt.keeps {w w' : World} {F : Nat → Prop} {b n : Nat} {ss : List ByteArray} (h : SetAt w b n ss) (hk : Keeps F w w') (hF : ¬ F b) : SetAt w' b n ss := by
  obtain ⟨D, ⟨es, cl, hb, r⟩, h0, h2⟩ := h
  exact ⟨D, ⟨es, cl, (hk.block b (World.ownsMap.lt (H := Unit) (P := Tryz.prog) (k := 9) ⟨es, cl, hb, r⟩) hF).trans hb, r⟩, h0, h2⟩
theorem SetAt.below {w w' : World} {b n : Nat} {ss : List ByteArray} (h : SetAt w b n ss) (hb : Below w.heap.size w w') : SetAt w' b n ss := h.keeps (keeps_of_below (fun _ => False) hb) id
theorem SetAt.alloc {w : World} {b n : Nat} {ss : List ByteArray} (h : SetAt w b n ss) (o : Obj) : SetAt (w.alloc o) b n ss := h.below ((Below.refl _ _).alloc (Nat.le_refl _) o)
open Go.RowKit
def lblB (o : Ob) (pre : List Lbl) (x : Lbl) : Bool := !symA x.nm || amongB (pre.map Lbl.nm) x.nm || decide (x.sec < 0) || decide (1 < x.sec) || decide (x.at_ < 0) || decide (((o.sec x.sec).length : Int) < x.at_)
def ordB (y x : Lbl) : Bool := decide (x.sec < y.sec) || (y.sec == x.sec && decide (x.at_ < y.at_))
def ordR (y x : Rel) : Bool := decide (x.sec < y.sec) || (y.sec == x.sec && decide (x.at_ ≤ y.at_))
def badL (o : Ob) (k : Nat) : Bool := lblB o (o.lb.take k) (o.lb.getD k default) || (decide (0 < k) && ordB (o.lb.getD (k - 1) default) (o.lb.getD k default))
noncomputable def badR (o : Ob) (k : Nat) : Bool := !fitsP o (o.rl.getD k default) || (decide (0 < k) && ordR (o.rl.getD (k - 1) default) (o.rl.getD k default))
def longO (o : Ob) : Bool := decide (1048576 < o.tx.length) || decide (1048576 < o.dt.length) || decide (4096 < o.lb.length) || decide (16384 < o.rl.length)
/-- What Check answers. -/
noncomputable def chkO (o : Ob) : Int := if longO o then 3 else if (List.range o.lb.length).any (badL o) || (List.range o.rl.length).any (badR o) then 5 else 0
theorem rng_hit {f : Nat → Bool} {n k : Nat} (hk : k < n) (h : f k = true) : (List.range n).any f = true := by rw [List.any_eq_true]; exact ⟨k, List.mem_range.2 hk, h⟩
theorem rng_miss {f : Nat → Bool} {k : Nat} (h : (List.range k).any f = false) (h2 : f k = false) : (List.range (k + 1)).any f = false := by rw [List.range_succ, List.any_append, h]; simp [h2]
theorem chk_long {o : Ob} (h : longO o = true) : chkO o = 3 := by unfold chkO; rw [if_pos h]
theorem chk_badL {o : Ob} (h : longO o = false) {k : Nat} (hk : k < o.lb.length) (hb : badL o k = true) : chkO o = 5 := by unfold chkO; rw [h, rng_hit hk hb]; rfl
theorem chk_badR {o : Ob} (h : longO o = false) {k : Nat} (hk : k < o.rl.length) (hb : badR o k = true) : chkO o = 5 := by unfold chkO; rw [h, rng_hit hk hb, Bool.or_true]; rfl
theorem chk_good {o : Ob} (h : longO o = false) (h1 : (List.range o.lb.length).any (badL o) = false) (h2 : (List.range o.rl.length).any (badR o) = false) : chkO o = 0 := by unfold chkO; rw [h, h1, h2]; rfl
/-- No name is longer than memory. -/
def NmOK (o : Ob) : Prop := (∀ x ∈ o.lb, x.nm.size ≤ maxLen) ∧ ∀ x ∈ o.rl, x.nm.size ≤ maxLen
theorem Lbs.form {W : World} {v : Value} {xs : List Lbl} (h : Lbs W v xs) : ∃ A cap, v = .slice A xs.length cap ∧ xs.length ≤ cap ∧ cap ≤ maxLen := by
  obtain ⟨A, cap, rfl, h1, h2, _⟩ := h
  exact ⟨A, cap, rfl, h1, h2⟩
theorem Rls.form {W : World} {v : Value} {xs : List Rel} (h : Rls W v xs) : ∃ A cap, v = .slice A xs.length cap ∧ xs.length ≤ cap ∧ cap ≤ maxLen := by
  obtain ⟨A, cap, rfl, h1, h2, _⟩ := h
  exact ⟨A, cap, rfl, h1, h2⟩
/-- Where a label lies. -/
theorem Lbs.at_ {W : World} {A : Option Addr} {n cap : Nat} {xs : List Lbl} (h : Lbs W (.slice A n cap) xs) (hn : 0 < xs.length) : ∃ g off, A = some ⟨g, off, none⟩ ∧ g < W.heap.size ∧ ∀ k (_ : k < xs.length), W.cell? ⟨g, off + k * 4, none⟩ = some (.string (xs.getD k default).nm) ∧ W.cell? ⟨g, off + k * 4 + 1, none⟩ = some (.int .i64 (xs.getD k default).sec) ∧ W.cell? ⟨g, off + k * 4 + 2, none⟩ = some (.int .i64 (xs.getD k default).at_) ∧ W.cell? ⟨g, off + k * 4 + 3, none⟩ = some (.bool (xs.getD k default).gl) := by
  obtain ⟨A', cap', e, _, _, h4⟩ := h
  obtain rfl : A = A' := by injection e
  obtain ⟨g, off, rfl, hg, hc⟩ := h4 hn
  refine ⟨g, off, rfl, hg, fun k hk => ?_⟩
  have e : xs.getD k default = xs[k] := by simp [List.getD, hk]
  rw [e]
  have hh : ∀ j, j < 4 → ∀ u, (xs[k].cells)[j]? = some u → W.cell? ⟨g, off + (k * 4 + j), none⟩ = some u := fun j hj u hu => hc _ _ (by rw [flatMap_at Lbl.cells 4 (fun _ => rfl) xs k hk j hj]; exact hu)
  exact ⟨hh 0 (by omega) _ rfl, hh 1 (by omega) _ rfl, hh 2 (by omega) _ rfl, hh 3 (by omega) _ rfl⟩
theorem Rls.at_ {W : World} {A : Option Addr} {n cap : Nat} {xs : List Rel} (h : Rls W (.slice A n cap) xs) (hn : 0 < xs.length) : ∃ g off, A = some ⟨g, off, none⟩ ∧ g < W.heap.size ∧ ∀ k (_ : k < xs.length), W.cell? ⟨g, off + k * 5, none⟩ = some (.int .i64 (xs.getD k default).sec) ∧ W.cell? ⟨g, off + k * 5 + 1, none⟩ = some (.int .i64 (xs.getD k default).at_) ∧ W.cell? ⟨g, off + k * 5 + 2, none⟩ = some (.int .i64 (xs.getD k default).kd) ∧ W.cell? ⟨g, off + k * 5 + 3, none⟩ = some (.int .i64 (xs.getD k default).add) ∧ W.cell? ⟨g, off + k * 5 + 4, none⟩ = some (.string (xs.getD k default).nm) := by
  obtain ⟨A', cap', e, _, _, h4⟩ := h
  obtain rfl : A = A' := by injection e
  obtain ⟨g, off, rfl, hg, hc⟩ := h4 hn
  refine ⟨g, off, rfl, hg, fun k hk => ?_⟩
  have e : xs.getD k default = xs[k] := by simp [List.getD, hk]
  rw [e]
  have hh : ∀ j, j < 5 → ∀ u, (xs[k].cells)[j]? = some u → W.cell? ⟨g, off + (k * 5 + j), none⟩ = some u := fun j hj u hu => hc _ _ (by rw [flatMap_at Rel.cells 5 (fun _ => rfl) xs k hk j hj]; exact hu)
  exact ⟨hh 0 (by omega) _ rfl, hh 1 (by omega) _ rfl, hh 2 (by omega) _ rfl, hh 3 (by omega) _ rfl, hh 4 (by omega) _ rfl⟩
theorem ret_er {z z' : Int} (h : z = z') : Ending.returned (.int .i64 z) = .returned (.int .i64 z') := by rw [h]
/-- The box of an object. -/
def BoxO (W : World) (p : Nat) (v1 v2 v3 v4 : Value) : Prop := W.cell? ⟨p, 0, none⟩ = some v1 ∧ W.cell? ⟨p, 1, none⟩ = some v2 ∧ W.cell? ⟨p, 2, none⟩ = some v3 ∧ W.cell? ⟨p, 3, none⟩ = some v4
theorem BoxO.fresh (w : World) (v1 v2 v3 v4 : Value) (t : Nat) : BoxO (w.alloc (.cells #[v1, v2, v3, v4] t)) w.heap.size v1 v2 v3 v4 := by
  refine ⟨?_, ?_, ?_, ?_⟩ <;> (rw [(Blk.new w t #[v1, v2, v3, v4]).cell]; rfl)
theorem BoxO.keeps {W W' : World} {F : Nat → Prop} {p : Nat} {v1 v2 v3 v4 : Value} (h : BoxO W p v1 v2 v3 v4) (k : Keeps F W W') (hF : ¬ F p) : BoxO W' p v1 v2 v3 v4 := by
  have hp := cell_lt h.1
  exact ⟨(k.cell (p := ⟨p, 0, none⟩) hp hF).trans h.1, (k.cell (p := ⟨p, 1, none⟩) hp hF).trans h.2.1, (k.cell (p := ⟨p, 2, none⟩) hp hF).trans h.2.2.1, (k.cell (p := ⟨p, 3, none⟩) hp hF).trans h.2.2.2⟩
theorem BoxO.below {W W' : World} {p : Nat} {v1 v2 v3 v4 : Value} (h : BoxO W p v1 v2 v3 v4) (hb : Below W.heap.size W W') : BoxO W' p v1 v2 v3 v4 := h.keeps (keeps_of_below (fun _ => False) hb) id
theorem below_keeps {F : Nat → Prop} {B : Nat} {a w w' : World} (h : Below B a w) (k : Keeps F w w') (hF : ∀ i, i < B → F i → False) (hB : B ≤ w.heap.size := by omega) : Below B a w' :=
  ⟨k.os.trans h.os, k.tape.trans h.tape, k.output.trans h.output, Nat.le_trans h.size k.size, fun i hi => (k.block i (Nat.lt_of_lt_of_le hi hB) (hF i hi)).trans (h.block i hi)⟩
section
variable {w W W' : World} {p q b k : Nat} {v1 v2 v3 v4 : Value} {sec at_ : Int} {nm : ByteArray} {B : Bool} {ss : List ByteArray}
theorem ck_step (h : W.cell? ⟨p, 0, none⟩ = some v1 ∧ W.cell? ⟨p, 1, none⟩ = some v2 ∧ W.cell? ⟨p, 2, none⟩ = some v3 ∧ W.cell? ⟨p, 3, none⟩ = some v4 ∧ W.cell? ⟨q, 0, none⟩ = some (.string nm) ∧ W.cell? ⟨q, 1, none⟩ = some (.int .i64 sec) ∧ W.cell? ⟨q, 2, none⟩ = some (.int .i64 at_) ∧ (Instr.lookup 75 (.map (some b)) (.string nm) false).run Tryz.prog W = .ok (.bool B) W ∧ SetAt W b k ss ∧ Below p w W ∧ p + 2 ≤ W.heap.size) (hb : Below W.heap.size W W') (hs : nm.size ≤ maxLen) (hB : amongB ss nm = B) :
    W'.cell? ⟨p, 0, none⟩ = some v1 ∧ W'.cell? ⟨p, 1, none⟩ = some v2 ∧ W'.cell? ⟨p, 2, none⟩ = some v3 ∧ W'.cell? ⟨p, 3, none⟩ = some v4 ∧ W'.cell? ⟨q, 0, none⟩ = some (.string nm) ∧ W'.cell? ⟨q, 1, none⟩ = some (.int .i64 sec) ∧ W'.cell? ⟨q, 2, none⟩ = some (.int .i64 at_) ∧ (Instr.lookup 75 (.map (some b)) (.string nm) false).run Tryz.prog W' = .ok (.bool B) W' ∧ SetAt W' b k ss ∧ Below p w W' ∧ p + 2 ≤ W'.heap.size := by
  obtain ⟨a0, a1, a2, a3, b0, b1, b2, _, h3, h1, h2⟩ := h
  have hk : ∀ {a : Addr} {v : Value}, W.cell? a = some v → W'.cell? a = some v := fun h => (hb.cell (cell_lt h)).trans h
  exact ⟨hk a0, hk a1, hk a2, hk a3, hk b0, hk b1, hk b2, by rw [← hB]; exact (h3.below hb).look nm hs, h3.below hb, h1.trans (hb.mono (by omega)), Nat.le_trans h2 hb.size⟩
theorem ck_b (h : W.cell? ⟨p, 0, none⟩ = some v1 ∧ W.cell? ⟨p, 1, none⟩ = some v2 ∧ W.cell? ⟨p, 2, none⟩ = some v3 ∧ W.cell? ⟨p, 3, none⟩ = some v4 ∧ W.cell? ⟨q, 0, none⟩ = some (.string nm) ∧ W.cell? ⟨q, 1, none⟩ = some (.int .i64 sec) ∧ W.cell? ⟨q, 2, none⟩ = some (.int .i64 at_) ∧ (Instr.lookup 75 (.map (some b)) (.string nm) false).run Tryz.prog W = .ok (.bool B) W ∧ SetAt W b k ss ∧ Below p w W ∧ p + 2 ≤ W.heap.size) : Below p w W ∧ p + 2 ≤ W.heap.size := h.2.2.2.2.2.2.2.2.2
theorem ck_mk (h : BoxO W p v1 v2 v3 v4) (hs : nm.size ≤ maxLen) (h3 : SetAt W b k ss) (h1 : Below p w W) (h2 : p + 2 ≤ W.heap.size) (gl : Bool) (t : Nat) (hq : W.heap.size = q) (hW : W.alloc (.cells #[.string nm, .int .i64 sec, .int .i64 at_, .bool gl] t) = W') :
    W'.cell? ⟨p, 0, none⟩ = some v1 ∧ W'.cell? ⟨p, 1, none⟩ = some v2 ∧ W'.cell? ⟨p, 2, none⟩ = some v3 ∧ W'.cell? ⟨p, 3, none⟩ = some v4 ∧ W'.cell? ⟨q, 0, none⟩ = some (.string nm) ∧ W'.cell? ⟨q, 1, none⟩ = some (.int .i64 sec) ∧ W'.cell? ⟨q, 2, none⟩ = some (.int .i64 at_) ∧ (Instr.lookup 75 (.map (some b)) (.string nm) false).run Tryz.prog W' = .ok (.bool (amongB ss nm)) W' ∧ SetAt W' b k ss ∧ Below p w W' ∧ p + 2 ≤ W'.heap.size := by
  subst hW
  subst hq
  have hb : Below W.heap.size W (W.alloc (.cells #[.string nm, .int .i64 sec, .int .i64 at_, .bool gl] t)) := (Below.refl _ _).alloc (Nat.le_refl _) _
  have hx := h.below hb
  have hc := (Blk.new W t #[.string nm, .int .i64 sec, .int .i64 at_, .bool gl]).cell
  exact ⟨hx.1, hx.2.1, hx.2.2.1, hx.2.2.2, by rw [hc]; rfl, by rw [hc]; rfl, by rw [hc]; rfl, (h3.below hb).look nm hs, h3.below hb, h1.trans (hb.mono (by omega)), Nat.le_trans h2 hb.size⟩
end
end Go.Proofs.YteoglkofeogknaaGreatDoor

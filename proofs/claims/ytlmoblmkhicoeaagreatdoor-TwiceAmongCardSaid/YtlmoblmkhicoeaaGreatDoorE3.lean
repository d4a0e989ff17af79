/- Walks: slices.Sort, Collect, Sorted at ints. No conditions beyond what they state. Edges' two rows of rows: laws. No conditions. -/
import Derived.Test.YtlmoblmkhicoeaaGreatDoorE1
import Derived.Test.YtlmoblmkhicoeaaGreatDoorShelf2
import Derived.Test.YtlmoblmkhicoeaaGreatDoorH3
import Derived.Test.YtlmoblmkhicoeaaGreatDoorG3
set_option linter.unusedVariables false
set_option linter.unusedSimpArgs false
namespace Go.Proofs.YtlmoblmkhicoeaaGreatDoor
open Go.RowKit Go.Sort
def insL (x : Int) : List Int → List Int
  | [] => [x]
  | y :: l => if x ≤ y then x :: y :: l else y :: insL x l
/-- Sorted, so that it reckons. -/
def sortL : List Int → List Int
  | [] => []
  | x :: l => insL x (sortL l)
theorem insL_perm (x : Int) : ∀ l, (insL x l).Perm (x :: l)
  | [] => List.Perm.refl _
  | y :: l => by
    rw [insL]
    split
    · exact List.Perm.refl _
    · exact ((insL_perm x l).cons y).trans (List.Perm.swap x y l)
theorem sortL_perm : ∀ l, (sortL l).Perm l
  | [] => List.Perm.refl _
  | x :: l => (insL_perm x _).trans ((sortL_perm l).cons x)
theorem insL_le (x : Int) : ∀ l : List Int, l.Pairwise (fun a b => a ≤ b) → (insL x l).Pairwise (fun a b => a ≤ b)
  | [], _ => by simp [insL]
  | y :: l, h => by
    obtain ⟨h1, h2⟩ := List.pairwise_cons.1 h
    rw [insL]
    split
    · rename_i hxy
      refine List.pairwise_cons.2 ⟨fun z hz => ?_, h⟩
      rcases List.mem_cons.1 hz with rfl | hz
      · exact hxy
      · have := h1 z hz; omega
    · rename_i hxy
      refine List.pairwise_cons.2 ⟨fun z hz => ?_, insL_le x l h2⟩
      rcases List.mem_cons.1 ((insL_perm x l).mem_iff.1 hz) with rfl | hz
      · omega
      · exact h1 z hz
theorem sortL_sorted : ∀ l : List Int, (sortL l).Pairwise (fun a b => a ≤ b)
  | [] => List.Pairwise.nil
  | x :: l => insL_le x _ (sortL_sorted l)
theorem sortL_eq (l : List Int) : (l.mergeSort fun x y => decide (x ≤ y)) = sortL l := by
  refine List.Perm.eq_of_pairwise (le := fun a b : Int => a ≤ b) (fun a b _ _ h1 h2 => by omega) ?_ (sortL_sorted l) ((List.mergeSort_perm l _).trans (sortL_perm l).symm)
  have := List.pairwise_mergeSort (le := fun x y : Int => decide (x ≤ y)) (fun a b c h1 h2 => by simp at *; omega) (fun a b => by simp; omega) l
  exact this.imp (fun h => by simpa using h)
theorem sortL_len (l : List Int) : (sortL l).length = l.length := (sortL_perm l).length_eq
theorem sortL_mem {l : List Int} {x : Int} : x ∈ sortL l ↔ x ∈ l := (sortL_perm l).mem_iff
section
variable {α : Type} [Inhabited α] (enc : α → Value) {w : World} {g n : Nat} {os : Array Obj}
theorem heap_srt {cur : Array Value} {e : TypeId} {fr : Nat × Nat} (d : Array α) (hb : w.heap[g]? = some (.cells cur e fr)) :
    (grow (putRow enc (Sort.ahead w n) g 0 d) os).heap[g]? = some (.cells (putCells enc 0 d cur) e fr) := by
  have hg : g < w.heap.size := (Array.getElem?_eq_some_iff.1 hb).1
  rw [heap_grow_old _ _ (by simpa using hg)]
  simp [putRow, mapBlock, Sort.ahead, Array.getElem?_modify, hb, onCells]
theorem keeps_srt (d : Array α) : Keeps (· = g) w (grow (putRow enc (Sort.ahead w n) g 0 d) os) := by
  refine ⟨rfl, rfl, rfl, by simp, fun k hk hne => ?_⟩
  rw [heap_grow_old _ _ (by simpa using hk)]
  have : g ≠ k := fun e => hne e.symm
  simp [putRow, mapBlock, Sort.ahead, Array.getElem?_modify, this]
theorem take_putC (cur : Array Value) (ts : Array α) (h : ts.size ≤ cur.size) : (putCells enc 0 ts cur).toList.take ts.size = ts.toList.map enc := by
  apply List.ext_getElem?
  intro j
  by_cases hj : j < ts.size
  · rw [List.getElem?_take_of_lt hj, Array.getElem?_toList]
    simp [putCells, hj, show j < cur.size by omega]
  · rw [List.getElem?_take_eq_none (by omega), List.getElem?_eq_none (by simp; omega)]
end
theorem sort_any (B : Nat) (v : Value) (l : List Int) (w : World) (h : OwnI w B v l) (hl : l.length ≤ 1048576) : Calls Tryz.prog 22 #[v] w fun e w' => e = .returned (.tuple #[]) ∧ OwnI w' B v (sortL l) ∧ Keeps (fun k => v.ownBlock = some k) w w' := by
  rcases h.2 with ⟨rfl, h0⟩ | ⟨g, cap, cur, rfl, hB, hb, h1, h2, h3, h4⟩
  · have : l = [] := List.length_eq_zero_iff.1 h0
    subst this
    refine (Tryz.slices_Sort_int_none none 0 w).mono ?_
    rintro e w' ⟨rfl, rfl⟩
    exact ⟨rfl, by simpa [sortL] using h, Keeps.refl _ _⟩
  · obtain ⟨-, p2, p3, p4, p5, p6⟩ := own_parts h
    refine (Tryz.slices_Sort_int g 0 cap l w (fun j hj => ⟨?_, by rw [Nat.zero_add]; exact p6 j⟩) p2 (by omega)).mono ?_
    · have hj' : j < l.length := by simpa using hj
      rw [Nat.zero_add, p5 j (iv l[j]) (by simp [hj'])]
      simp [iv, hj']
    · rintro e w' ⟨rfl, n, os, rfl⟩
      rw [sortL_eq]
      refine ⟨rfl, ?_, (keeps_srt (Value.int .i64) _).mono (fun k _ hk => by subst hk; rfl)⟩
      have hlen := sortL_len l
      unfold OwnI
      rw [hlen]
      refine ⟨by simp [hlen], Or.inr ⟨g, cap, _, rfl, hB, heap_srt (Value.int .i64) (n := n) (os := os) (sortL l).toArray hb, h1, h2, by simpa [putCells] using h3, ?_⟩⟩
      have := take_putC (Value.int .i64) cur (sortL l).toArray (by simp [hlen]; omega)
      simp only [List.size_toArray, hlen] at this
      have e : iv = Value.int .i64 := rfl
      rw [e]
      simpa using this
set_option maxRecDepth 100000 in
set_option maxHeartbeats 1000000 in
theorem collect_any (Bs : Nat) (zs : List Int) (sv : Value) (w : World) (hm : zs.length ≤ 1048576) (hBs : Bs < w.heap.size) (hc : w.cell? ⟨Bs, 0, none⟩ = some sv) (hI : Ints w sv zs) :
    Calls Tryz.prog 77 #[.func (.func 78) #[] #[.pointer (some ⟨Bs, 0, none⟩)]] w fun e W' => (∃ v, e = .returned v ∧ OwnI W' w.heap.size v zs) ∧ Below w.heap.size w W' := by
  have HA := Lib.hid (callsIn_wide.1 (appendSeq_in Fence.wide 3 trivial trivial rfl (Nat.le_refl _) Bs w.heap.size zs sv w hm hBs (Nat.le_refl _) hc hI))
  clear hc hI
  go_enter Tryz.func77, Tryz.ntmps77
  go_wp2_with fail
  refine HA.out.mono ?_
  rintro e w1 ⟨v, rfl, ho, hb⟩
  have HO := Lib.hid (And.intro ho hb)
  obtain ⟨A, c, rfl, -, -⟩ := slice_form ho
  clear ho hb
  go_wp2_with fail
  go_ret
  exact ⟨⟨_, rfl, HO.out.1⟩, HO.out.2⟩
set_option maxRecDepth 100000 in
set_option maxHeartbeats 1000000 in
theorem sorted_any (Bs : Nat) (zs : List Int) (sv : Value) (w : World) (hm : zs.length ≤ 1048576) (hBs : Bs < w.heap.size) (hc : w.cell? ⟨Bs, 0, none⟩ = some sv) (hI : Ints w sv zs) :
    Calls Tryz.prog 52 #[.func (.func 78) #[] #[.pointer (some ⟨Bs, 0, none⟩)]] w fun e W' => (∃ v, e = .returned v ∧ OwnI W' w.heap.size v (sortL zs)) ∧ Below w.heap.size w W' := by
  have HA := Lib.hid (collect_any Bs zs sv w hm hBs hc hI)
  clear hc hI
  go_enter Tryz.func52, Tryz.ntmps52
  go_wp2_with fail
  refine HA.out.mono ?_
  rintro e w1 ⟨⟨v, rfl, ho⟩, hb⟩
  have HS := Lib.hid (sort_any w.heap.size v zs w1 ho hm)
  obtain ⟨A, c, rfl, -, -⟩ := ho.form
  have HB := Lib.hid (And.intro hb ho)
  clear ho hb
  go_wp2_with fail
  refine HS.out.mono ?_
  rintro e w2 ⟨rfl, ho2, hk⟩
  have HN := Lib.hid (And.intro ho2 (HB.out.1.trans (hk.toBelow HB.out.1.size (fun k hk' hv => by have := HB.out.2.ge k hv; omega))))
  clear ho2 hk
  go_wp2_with fail
  go_ret
  exact ⟨⟨_, rfl, HN.out.1⟩, HN.out.2⟩
end Go.Proofs.YtlmoblmkhicoeaaGreatDoor
namespace Go.Proofs.YtlmoblmkhicoeaaGreatDoor
open Go.RowKit
theorem set_get {cs : Array Value} {i j : Nat} {v : Value} (h : j < (cs.setIfInBounds i v).size) (h2 : j < cs.size) : (cs.setIfInBounds i v)[j] = if i = j then v else cs[j] := Array.getElem_setIfInBounds h2
/-- Both rows: out (its first k are sorted), back (no row is longer than s). -/
structure EdC (w1 : World) (tl : List (List Int)) (gO gB k s : Nat) (co cb : Array Value) (W : World) : Prop where
  be : Below w1.heap.size w1 W
  o : Blk W gO 34 co
  on : co.size = tl.length
  ol : ∀ i (h : i < co.size), OwnI W w1.heap.size co[i] (if i < k then sortL (tl.getD i []) else [])
  b : Blk W gB 34 cb
  bn : cb.size = tl.length
  bl : ∀ i (h : i < cb.size), ∃ l, l.length ≤ s ∧ OwnI W w1.heap.size cb[i] l
  db : ∀ i j (hi : i < cb.size) (hj : j < cb.size), i ≠ j → ∀ q, cb[i].ownBlock = some q → cb[j].ownBlock ≠ some q
  dx : ∀ i j (hi : i < co.size) (hj : j < cb.size), ∀ q, co[i].ownBlock = some q → cb[j].ownBlock ≠ some q
  ne : gO ≠ gB
  bO : w1.heap.size ≤ gO
  bB : w1.heap.size ≤ gB
theorem EdC.below {w1 W W' : World} {tl : List (List Int)} {gO gB k s : Nat} {co cb : Array Value} (h : EdC w1 tl gO gB k s co cb W) (hb : Below W.heap.size W W') : EdC w1 tl gO gB k s co cb W' :=
  ⟨h.be.trans (below_of_le hb h.be.size), h.o.below hb h.o.lt, h.on, fun i a => (h.ol i a).below hb, h.b.below hb h.b.lt, h.bn, fun i a => let ⟨l, x, y⟩ := h.bl i a; ⟨l, x, y.below hb⟩, h.db, h.dx, h.ne, h.bO, h.bB⟩
theorem EdC.bW {w1 W : World} {tl : List (List Int)} {gO gB k s : Nat} {co cb : Array Value} (h : EdC w1 tl gO gB k s co cb W) : w1.heap.size ≤ W.heap.size := h.be.size
/-- One number more in a row of back. -/
theorem EdC.push {w1 W : World} {tl : List (List Int)} {gO gB k s : Nat} {co cb : Array Value} (h : EdC w1 tl gO gB k s co cb W) (i : Nat) (hi : i < tl.length) (hs : s < 16777216) (x : Int) (ty : TypeId) :
    ∃ v n c v' n' c' W1, W.cell? ⟨gB, i, none⟩ = some (.slice v n c) ∧ (Builtin.append_ #[34, 34] ty #[.slice v n c, .slice (some ⟨W.heap.size, 0, none⟩) 1 1]).run Tryz.prog (W.alloc (.cells #[.int .i64 x] 3)) = .ok (.slice v' n' c') W1 ∧
      (W1.cell? ⟨gB, i, none⟩ = some (.slice v n c) ∧ W1.frozen? ⟨gB, i, none⟩ = false) ∧ ∃ cb', EdC w1 tl gO gB k (s + 1) co cb' (W1.setCell ⟨gB, i, none⟩ (.slice v' n' c')) := by
  have hib : i < cb.size := by rw [h.bn]; exact hi
  obtain ⟨l, hl, how⟩ := h.bl i hib
  obtain ⟨u, hu⟩ : ∃ u, cb[i] = u := ⟨_, rfl⟩
  rw [hu] at how
  have hB := h.bW
  have ha : Below W.heap.size W (W.alloc (.cells #[.int .i64 x] 3)) := (Below.refl _ _).alloc (Nat.le_refl _) _
  have k1 : OwnI (W.alloc (.cells #[.int .i64 x] 3)) w1.heap.size u l := how.below ha
  have k2 : OwnI (W.alloc (.cells #[.int .i64 x] 3)) W.heap.size (.slice (some ⟨W.heap.size, 0, none⟩) 1 1) [x] := OwnI.new (Blk.new W 3 #[.int .i64 x]) rfl rfl (Nat.le_refl _) (by decide)
  obtain ⟨v', W1, e1, e2, e3, e4⟩ := k1.app k2.ints (by simp [World.size_alloc]; omega) (by simp; omega) ty
  have hk : Keeps (fun q => u.ownBlock = some q) W W1 := ((Keeps.refl (fun q => u.ownBlock = some q) W).alloc _).trans e3 (fun _ _ h => h)
  have hne : ∀ {q : Nat} {cs : Array Value}, Blk W q 34 cs → ¬ u.ownBlock = some q := by
    intro q cs hb e
    obtain ⟨cur, hc⟩ := owns_kind how e
    exact absurd (Blk.kind hb hc) (by decide)
  obtain ⟨A, c, rfl, -, -⟩ := how.form
  obtain ⟨A', c', rfl, -, -⟩ := e2.form
  have hb1 : Blk W1 gB 34 cb := h.b.keeps hk (hne h.b)
  have ho1 : Blk W1 gO 34 co := h.o.keeps hk (hne h.o)
  have hkc : Keeps (fun q => q = gB) W1 (W1.setCell ⟨gB, i, none⟩ (.slice A' (l ++ [x]).length c')) := (Keeps.refl (fun q => q = gB) W1).setCell (p := ⟨gB, i, none⟩) (Or.inr rfl) _
  have hcell : W.cell? ⟨gB, i, none⟩ = some (.slice A l.length c) := by rw [h.b.cell, Array.getElem?_eq_getElem hib, hu]
  have hfr : ∀ q, (Value.slice A' (l ++ [x]).length c').ownBlock = some q → (Value.slice A l.length c).ownBlock = some q ∨ q = W.heap.size + 1 := by
    intro q hq
    rcases e4 with e4 | e4
    · left; rw [← e4]; exact hq
    · right; rw [hq] at e4; simpa [World.size_alloc] using e4
  have hoth : ∀ {m : List Int} {y : Value}, OwnI W w1.heap.size y m → (∀ q, y.ownBlock = some q → ¬ (Value.slice A l.length c).ownBlock = some q) → OwnI (W1.setCell ⟨gB, i, none⟩ (.slice A' (l ++ [x]).length c')) w1.heap.size y m := by
    intro m y hy hd
    have h1 := hy.keeps hk hd
    exact h1.keeps hkc (RRow.ne hb1 (by decide) h1)
  refine ⟨A, l.length, c, A', _, c', W1, hcell, e1, ⟨by rw [hb1.cell, Array.getElem?_eq_getElem hib, hu], hb1.frozen i⟩, _, ?_, ho1.keeps hkc h.ne, h.on, fun j hj => hoth (h.ol j hj) (fun q hq => by have := h.dx j i hj hib q hq; rwa [hu] at this), hb1.set_ i _, by simp [h.bn], fun j hj => ?_, fun a b ha hb hab q hq => ?_, fun a b ha hb q hq => ?_, h.ne, h.bO, h.bB⟩
  · have hb2 : Below w1.heap.size w1 W1 := h.be.trans (hk.toBelow hB (fun q hq e => by have := how.ge q e; omega))
    exact hb2.trans (hkc.toBelow hb2.size (fun q hq e => by have := h.bB; omega))
  · have hj' : j < cb.size := by simpa using hj
    rw [set_get _ hj']
    split
    · exact ⟨l ++ [x], by simp; omega, e2.keeps hkc (RRow.ne hb1 (by decide) e2)⟩
    · rename_i hij
      obtain ⟨m, hm, hom⟩ := h.bl j hj'
      exact ⟨m, by omega, hoth hom (fun q hq e => by
        have := h.db j i hj' hib (fun e => hij e.symm) q hq
        rw [hu] at this; exact this e)⟩
  · have ha' : a < cb.size := by simpa using ha
    have hb' : b < cb.size := by simpa using hb
    rw [set_get _ ha'] at hq
    rw [set_get _ hb']
    by_cases h1 : i = a
    · rw [if_pos h1] at hq
      rw [if_neg (fun e => hab (h1.symm.trans e))]
      rcases hfr q hq with h2 | h2
      · have := h.db i b hib hb' (fun e => hab (h1.symm.trans e)) q (by rw [hu]; exact h2)
        exact this
      · intro h3
        obtain ⟨m, -, hom⟩ := h.bl b hb'
        have := hom.lt q h3
        omega
    · rw [if_neg h1] at hq
      split
      · rename_i h2
        intro h3
        rcases hfr q h3 with h4 | h4
        · have := h.db a i ha' hib (fun e => h1 e.symm) q hq
          rw [hu] at this; exact this h4
        · obtain ⟨m, -, hom⟩ := h.bl a ha'
          have := hom.lt q hq
          omega
      · exact h.db a b ha' hb' hab q hq
  · have hb' : b < cb.size := by simpa using hb
    rw [set_get _ hb']
    split
    · intro h3
      rcases hfr q h3 with h4 | h4
      · have := h.dx a i ha hib q hq
        rw [hu] at this; exact this h4
      · have := (h.ol a ha).lt q hq
        omega
    · exact h.dx a b ha hb' q hq
/-- One row of out laid down. -/
theorem EdC.put {w1 W W' : World} {tl : List (List Int)} {gO gB k s : Nat} {co cb : Array Value} (h : EdC w1 tl gO gB k s co cb W) (hb : Below W.heap.size W W') (hk : k < tl.length) {v : Value} (hv : OwnI W' W.heap.size v (sortL (tl.getD k []))) :
    ∃ co', EdC w1 tl gO gB (k + 1) s co' cb (W'.setCell ⟨gO, k, none⟩ v) := by
  have h2 := h.below hb
  have hko : k < co.size := by rw [h.on]; exact hk
  have hkc : Keeps (fun q => q = gO) W' (W'.setCell ⟨gO, k, none⟩ v) := (Keeps.refl (fun q => q = gO) W').setCell (p := ⟨gO, k, none⟩) (Or.inr rfl) _
  have hv2 : OwnI W' w1.heap.size v (sortL (tl.getD k [])) := hv.lower h.bW
  refine ⟨_, h2.be.trans (hkc.toBelow h2.be.size (fun q hq e => by have := h.bO; omega)), h2.o.set_ k v, by simp [h.on], fun i a => ?_, h2.b.keeps hkc h.ne.symm, h.bn, fun i a => ?_, h.db, fun i j a hj q hq => ?_, h.ne, h.bO, h.bB⟩
  · have a' : i < co.size := by simpa using a
    rw [set_get _ a']
    by_cases e : k = i
    · subst e
      rw [if_pos rfl, if_pos (by omega)]
      exact hv2.keeps hkc (RRow.ne h2.o (by decide) hv2)
    · rw [if_neg e]
      have h3 := h2.ol i a'
      have e2 : (if i < k + 1 then sortL (tl.getD i []) else []) = (if i < k then sortL (tl.getD i []) else []) := by
        by_cases h4 : i < k
        · rw [if_pos h4, if_pos (by omega)]
        · rw [if_neg h4, if_neg (by omega)]
      rw [e2]
      exact h3.keeps hkc (RRow.ne h2.o (by decide) h3)
  · obtain ⟨l, hl, hol⟩ := h2.bl i a
    exact ⟨l, hl, hol.keeps hkc (RRow.ne h2.o (by decide) hol)⟩
  · have a' : i < co.size := by simpa using a
    rw [set_get _ a'] at hq
    by_cases e : k = i
    · rw [if_pos e] at hq
      intro h3
      obtain ⟨l, -, hol⟩ := h.bl j hj
      have := hol.lt q h3
      have := hv.ge q hq
      omega
    · rw [if_neg e] at hq
      exact h.dx i j a' hj q hq
theorem EdC.start {w1 W : World} {tl : List (List Int)} {gO gB : Nat} (hW : Below w1.heap.size w1 W) (bO : Blk W gO 34 (Array.replicate tl.length (.slice none 0 0))) (bB : Blk W gB 34 (Array.replicate tl.length (.slice none 0 0))) (ne : gO ≠ gB) (h1 : w1.heap.size ≤ gO) (h2 : w1.heap.size ≤ gB) :
    EdC w1 tl gO gB 0 0 (Array.replicate tl.length (.slice none 0 0)) (Array.replicate tl.length (.slice none 0 0)) W := by
  have hz : ∀ i (h : i < (Array.replicate tl.length (Value.slice none 0 0)).size), (Array.replicate tl.length (Value.slice none 0 0))[i] = .slice none 0 0 := fun i h => by simp
  refine ⟨hW, bO, by simp, fun i a => ?_, bB, by simp, fun i a => ⟨[], Nat.le_refl _, ?_⟩, fun i j hi hj _ q hq => ?_, fun i j hi hj q hq => ?_, ne, h1, h2⟩
  · rw [hz, if_neg (by omega)]; exact OwnI.nil _ _
  · rw [hz]; exact OwnI.nil _ _
  · rw [hz] at hq; cases hq
  · rw [hz] at hq; cases hq
theorem EdC.mono {w1 W : World} {tl : List (List Int)} {gO gB k s s' : Nat} {co cb : Array Value} (h : EdC w1 tl gO gB k s co cb W) (hs : s ≤ s') : EdC w1 tl gO gB k s' co cb W :=
  ⟨h.be, h.o, h.on, h.ol, h.b, h.bn, fun i a => let ⟨l, x, y⟩ := h.bl i a; ⟨l, by omega, y⟩, h.db, h.dx, h.ne, h.bO, h.bB⟩
/-- What Edges hands back first. -/
def edgL (F : Fn) : List (List Int) := (toL F).map sortL
theorem EdC.end_ {w1 W : World} {F : Fn} {gO gB s : Nat} {co cb : Array Value} (h : EdC w1 (toL F) gO gB F.bl.length s co cb W) : RRow W w1.heap.size gO (edgL F) := by
  have hn := toL_len F
  have hon := h.on
  have hl : (edgL F).length = F.bl.length := by simp [edgL, hn]
  exact ⟨co, h.o, by omega, fun i a b => by
    have := h.ol i b
    rw [if_pos (by omega)] at this
    have e : (edgL F)[i] = sortL ((toL F).getD i []) := by
      have : i < (toL F).length := by omega
      simp [edgL, this]
    rw [e]; exact this⟩
end Go.Proofs.YtlmoblmkhicoeaaGreatDoor

/- Walks: twice.asked; slices.Compact; rows of spots. Conditions: small parts. -/
import Derived.Test.YtlmoblmkhicoeaaGreatDoorV3
import Derived.Lib.RowBridge
set_option linter.unusedVariables false
set_option linter.unusedSimpArgs false
namespace Go.Proofs.YtlmoblmkhicoeaaGreatDoor
open Go.RowKit Go.Sort
/-- The registers that an operation reads, so that they must be set. -/
def askL (o : Op) : List Int := if o.k = 2 then [] else if o.k = 26 ∨ o.k = 28 then [o.a] else reads o
set_option maxRecDepth 100000 in
set_option maxHeartbeats 2000000 in
theorem asked_any (o : Op) (av : Value) (w : World) (ha : Ints w av o.ar) (hk : KeysAt w) (hs : o.tx.size ≤ maxLen) (hl : o.ar.length ≤ 17592186044414) :
    Calls Tryz.prog 24 #[opv o av] w fun e w' => (∃ a, e = .returned a ∧ Ints w' a (askL o)) ∧ Below w.heap.size w w' := by
  obtain ⟨A, c, rfl, h1, h2⟩ := ha.form
  unfold maxLen at h2
  have hb1 := below1 w (.cells #[.int .i64 o.k, .int .i64 o.d, .int .i64 o.a, .int .i64 o.b, .int .i64 o.im, .string o.tx, .slice A o.ar.length c] 75)
  have HRD := Lib.hid (reads_any o (.slice A o.ar.length c) _ (ha.below hb1) (hk.below hb1) hs hl)
  have HB := Lib.hid hb1
  unfold opv at HRD
  unfold opv
  clear ha hk hs hb1
  by_cases e2 : o.k = 2
  · have HA := Lib.hid (show askL o = [] from by rw [askL, if_pos e2])
    go_enter Tryz.func24, Tryz.ntmps24
    rw [e2]
    go_wp2_with fail
    go_ret
    exact ⟨⟨_, rfl, by rw [HA.out]; exact ints_nil _⟩, by have := HB.out; rw [e2] at this; exact this⟩
  · by_cases e26 : o.k = 26
    · have HA := Lib.hid (show askL o = [o.a] from by rw [askL, if_neg e2, if_pos (Or.inl e26)])
      have HB2 := HB.out
      rw [e26] at HB2
      have HB3 := Lib.hid HB2
      clear HB2 e2
      go_enter Tryz.func24, Tryz.ntmps24
      rw [e26]
      go_wp2_with fail
      go_ret
      exact ⟨⟨_, rfl, by rw [HA.out]; exact ints_blk [o.a] (blk_at (w := w.alloc _) (by simp [World.size_alloc]) 3 _) rfl (by decide)⟩, HB3.out.trans (below_of_le (below1 _ _) HB3.out.size)⟩
    · by_cases e28 : o.k = 28
      · have HA := Lib.hid (show askL o = [o.a] from by rw [askL, if_neg e2, if_pos (Or.inr e28)])
        have HB2 := HB.out
        rw [e28] at HB2
        have HB3 := Lib.hid HB2
        clear HB2 e2 e26
        go_enter Tryz.func24, Tryz.ntmps24
        rw [e28]
        go_wp2_with fail
        go_ret
        exact ⟨⟨_, rfl, by rw [HA.out]; exact ints_blk [o.a] (blk_at (w := w.alloc _) (by simp [World.size_alloc]) 3 _) rfl (by decide)⟩, HB3.out.trans (below_of_le (below1 _ _) HB3.out.size)⟩
      · have HA := Lib.hid (show askL o = reads o from by rw [askL, if_neg e2, if_neg (fun h => h.elim e26 e28)])
        have b2 : (o.k == 2) = false := by simpa using e2
        have b26 : (o.k == 26) = false := by simpa using e26
        have b28 : (o.k == 28) = false := by simpa using e28
        clear e2 e26 e28
        go_enter Tryz.func24, Tryz.ntmps24
        go_wp2_with fail
        refine HRD.out.mono ?_
        rintro e w1 ⟨⟨a, rfl, hi, -⟩, hb1⟩
        have HN := Lib.hid (And.intro hi (HB.out.trans (below_of_le hb1 HB.out.size)))
        obtain ⟨A2, c2, rfl, -, -⟩ := hi.form
        clear hi hb1
        go_wp2_with fail
        go_ret
        exact ⟨⟨_, rfl, by rw [HA.out]; exact HN.out.1⟩, HN.out.2⟩
theorem sort2_any (B : Nat) (v : Value) (l : List Int) (w : World) (h : OwnI w B v l) (hl : l.length ≤ 2097152) : Calls Tryz.prog 22 #[v] w fun e w' => e = .returned (.tuple #[]) ∧ OwnI w' B v (sortL l) ∧ Keeps (fun k => v.ownBlock = some k) w w' := by
  rcases h.2 with ⟨rfl, h0⟩ | ⟨g, cap, cur, rfl, hB, hb, h1, h2, h3, h4⟩
  · have : l = [] := List.length_eq_zero_iff.1 h0
    subst this
    refine (Tryz.slices_Sort_int_none none 0 w).mono ?_
    rintro e w' ⟨rfl, rfl⟩
    exact ⟨rfl, by simpa [sortL] using h, Keeps.refl _ _⟩
  · obtain ⟨-, p2, p3, p4, p5, p6⟩ := own_parts h
    refine (Tryz.slices_Sort_int g 0 cap l w (fun j hj => ⟨?_, by rw [Nat.zero_add]; exact p6 j⟩) p2 (by omega)).mono ?_
    · have hj' : j < l.length := by simpa using hj
      rw [Nat.zero_add, p5 j (iv l[j]) (by simp [hj'])]
      simp [iv, hj']
    · rintro e w' ⟨rfl, n, os, rfl⟩
      rw [sortL_eq]
      refine ⟨rfl, ?_, (keeps_srt (Value.int .i64) _).mono (fun k _ hk => by subst hk; rfl)⟩
      have hlen := sortL_len l
      unfold OwnI
      rw [hlen]
      refine ⟨by simp [hlen], Or.inr ⟨g, cap, _, rfl, hB, heap_srt (Value.int .i64) (n := n) (os := os) (sortL l).toArray hb, h1, h2, by simpa [putCells] using h3, ?_⟩⟩
      have := take_putC (Value.int .i64) cur (sortL l).toArray (by simp [hlen]; omega)
      simp only [List.size_toArray, hlen] at this
      have e : iv = Value.int .i64 := rfl
      rw [e]
      simpa using this
theorem clone2_any (l : List Int) (v : Value) (w : World) (h : Ints w v l) (hl : l.length ≤ 2097152) :
    Calls Tryz.prog 21 #[v] w fun e w' => (∃ v', e = .returned v' ∧ OwnI w' w.heap.size v' l) ∧ Below w.heap.size w w' := by
  obtain ⟨A, c, rfl, h1, h2, h3⟩ := h
  unfold maxLen at h2
  cases A with
  | none =>
    have hz : l = [] := by
      rcases Nat.eq_zero_or_pos l.length with hz | hp
      · exact List.length_eq_zero_iff.1 hz
      · obtain ⟨g, off, e, -⟩ := h3 hp
        cases e
    subst hz
    refine (Tryz.slices_Clone_int_nil _ c w).mono ?_
    rintro e w' ⟨rfl, rfl⟩
    exact ⟨⟨_, rfl, OwnI.nil _ _⟩, Below.refl _ _⟩
  | some a =>
    have hrow : RowOf w (.slice (some a) l.length c) l.length (l.map iv) := ⟨_, c, rfl, h1, h2, h3⟩
    have hnn := fun w => Lib.run_eql_slice_nil (P := Tryz.prog) w 34 3 (some a) l.length c 0 0 und34
    obtain ⟨v', w2, hap, ho, hg, -⟩ := app_any arowI 34 (empty_own (w := w) 3 1) (hrow.alloc _) (by simp) (fun y hy => by
      obtain ⟨i, _, rfl⟩ := List.mem_map.1 hy
      rfl) (by unfold maxLen; omega) (by omega) (by simp [World.size_alloc])
    have hbs : ∀ w, (Instr.buildSlice 34 0 #[]).run Tryz.prog w = .ok (.slice (some ⟨w.heap.size, 0, none⟩) 0 0) (w.alloc (.cells #[] 3)) := fun _ => by kernel_rfl
    rw [Nat.zero_add, List.nil_append] at ho
    have HO := Lib.hid (show OwnI w2 w.heap.size v' l from ho)
    have HB := Lib.hid (show Below w.heap.size w w2 from ((Below.refl _ _).alloc (Nat.le_refl _) _).grown hg (by simp [World.size_alloc]) (fun k hk => by simp [Value.ownBlock] at hk; omega))
    have HAP := Lib.hid hap
    clear ho hg hap hrow h3
    go_enter Tryz.func21, Tryz.ntmps21
    go_wp2_with (at_builtin; refine wpList_append_eq rfl (.tmp 5) (.tmp 6) 34 rfl rfl rfl HAP.out ?_)
    go_ret
    exact ⟨⟨_, rfl, HO.out⟩, HB.out⟩
theorem compact_any (B : Nat) (v : Value) (l : List Int) (w : World) (h : OwnI w B v l) (hl : l.length ≤ 2097152) : Calls Tryz.prog 23 #[v] w fun e w' => (∃ v', e = .returned v' ∧ OwnI w' B v' (Lib.compact l) ∧ (v'.ownBlock = v.ownBlock)) ∧ Keeps (fun k => v.ownBlock = some k) w w' := by
  rcases h.2 with ⟨rfl, h0⟩ | ⟨g, cap, cur, rfl, hB, hb, h1, h2, h3, h4⟩
  · have : l = [] := List.length_eq_zero_iff.1 h0
    subst this
    refine (Tryz.slices_Compact_int_empty none 0 w).mono ?_
    rintro e w' ⟨rfl, rfl⟩
    exact ⟨⟨_, rfl, (show OwnI w' B (.slice none 0 0) [] from h), rfl⟩, Keeps.refl _ _⟩
  · obtain ⟨-, p2, p3, p4, p5, p6⟩ := own_parts h
    refine (Tryz.slices_Compact_int g 0 cap l w (fun j hj => ⟨?_, by rw [Nat.zero_add]; exact p6 j⟩) (by omega) p3).mono ?_
    · have hj' : j < l.length := by simpa using hj
      rw [Nat.zero_add, p5 j (iv l[j]) (by simp [hj'])]
      simp [iv, hj']
    · rintro e w' ⟨rfl, q, rfl⟩
      have hcl : (Lib.compact l).length ≤ l.length := Lib.compact_length_le l
      have hk := keeps_srt (Value.int .i64) (w := w) (g := g) (n := q) (os := #[]) (Lib.compact l ++ List.replicate (l.length - (Lib.compact l).length) 0).toArray
      rw [grow_empty] at hk
      have hh := heap_srt (Value.int .i64) (w := w) (g := g) (n := q) (os := #[]) (Lib.compact l ++ List.replicate (l.length - (Lib.compact l).length) 0).toArray hb
      rw [grow_empty] at hh
      refine ⟨⟨_, rfl, ?_, rfl⟩, hk.mono (fun k _ hk => by subst hk; rfl)⟩
      unfold OwnI
      refine ⟨by simp, Or.inr ⟨g, cap, _, rfl, hB, hh, by omega, h2, by simpa [putCells] using h3, ?_⟩⟩
      have ht := take_putC (Value.int .i64) cur (Lib.compact l ++ List.replicate (l.length - (Lib.compact l).length) 0).toArray (by simp; omega)
      have ht2 := congrArg (List.take (Lib.compact l).length) ht
      rw [List.take_take] at ht2
      simp only [List.size_toArray, List.length_append, List.length_replicate] at ht2
      rw [show min (Lib.compact l).length ((Lib.compact l).length + (l.length - (Lib.compact l).length)) = (Lib.compact l).length by omega] at ht2
      have e : iv = Value.int .i64 := rfl
      rw [e, Nat.mul_one, ht2]
      simp
theorem mem_compact {l : List Int} {x : Int} (h : x ∈ Lib.compact l) : x ∈ l := by
  unfold Lib.compact Lib.compactUpTo at h
  obtain ⟨j, hj, rfl⟩ := List.mem_map.1 h
  have h1 := List.mem_range.1 (List.mem_filter.1 hj).1
  have e : l.toArray[j]! = l[j] := by simp [h1]
  rw [e]; exact List.getElem_mem h1
structure Sp where
  b : Nat
  o : Nat
  r : Int
def spc (x : Sp) : List Value := [.int .i64 (x.b : Int), .int .i64 (x.o : Int), .int .i64 x.r]
theorem und31 : Tryz.prog.underlying 31 = some (.slice 40) := by kernel_rfl
theorem inf40 : (Tryz.prog.info? 40).map (fun i => (i.zero, i.size, i.bytes)) = some (some (.agg #[.int .i64 0, .int .i64 0, .int .i64 0]), 3, 24) := by kernel_rfl
theorem arowS : ARow 31 40 3 24 := arow_of und31 inf40 rfl (by decide)
def OwnS (W : World) (B : Nat) (v : Value) (l : List Sp) : Prop := W.ownsRow B 40 3 v l.length (l.flatMap spc)
theorem OwnS.push {W : World} {B : Nat} {v : Value} {l : List Sp} (h : OwnS W B v l) (x : Sp) (hB : B ≤ W.heap.size) (hs : l.length < 5000000000000) (ty : TypeId) :
    ∃ v' W', (Builtin.append_ #[31, 31] ty #[v, .slice (some ⟨W.heap.size, 0, none⟩) 1 1]).run Tryz.prog (W.alloc (.cells #[.int .i64 (x.b : Int), .int .i64 (x.o : Int), .int .i64 x.r] 40)) = .ok v' W' ∧ OwnS W' B v' (l ++ [x]) ∧ Keeps (fun k => v.ownBlock = some k) W W' := by
  have ha : Below W.heap.size W (W.alloc (.cells #[.int .i64 (x.b : Int), .int .i64 (x.o : Int), .int .i64 x.r] 40)) := below1 _ _
  have k1 : (W.alloc (.cells #[.int .i64 (x.b : Int), .int .i64 (x.o : Int), .int .i64 x.r] 40)).ownsRow B 40 3 v l.length (l.flatMap spc) := ownsRow_keeps h (keeps_of_below (fun _ => False) ha) (fun _ _ => id)
  have hu : RowOf (W.alloc (.cells #[.int .i64 (x.b : Int), .int .i64 (x.o : Int), .int .i64 x.r] 40)) (.slice (some ⟨W.heap.size, 0, none⟩) 1 1) 1 (spc x) := by
    refine ⟨_, _, rfl, Nat.le_refl _, by decide, fun _ => ⟨_, 0, rfl, by simp [World.size_alloc], fun j u hj => ?_⟩⟩
    rw [Nat.zero_add, (Blk.new W _ #[.int .i64 (x.b : Int), .int .i64 (x.o : Int), .int .i64 x.r]).cell]
    simpa [spc] using hj
  have ho : ∀ y ∈ spc x, y.oneCell' = true := by
    intro y hy
    simp only [spc, List.mem_cons, List.not_mem_nil, or_false] at hy
    rcases hy with rfl | rfl | rfl <;> rfl
  obtain ⟨v', W', e1, e2, e3, e4⟩ := app_any arowS ty k1 hu rfl ho (by unfold maxLen; omega) (by omega) (by simp [World.size_alloc]; omega)
  refine ⟨v', W', e1, ?_, ((Keeps.refl (fun k => v.ownBlock = some k) W).alloc _).trans ((Keeps.refl _ _).grown e3 (fun g hg => Or.inr hg)) (fun _ _ h => h)⟩
  unfold OwnS
  rw [List.length_append, List.flatMap_append]
  simpa using e2
end Go.Proofs.YtlmoblmkhicoeaaGreatDoor

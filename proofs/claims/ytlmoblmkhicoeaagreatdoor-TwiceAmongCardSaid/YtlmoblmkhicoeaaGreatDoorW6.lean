/- Walks: slices.IndexFunc (which index), DeleteFunc at ints. No conditions beyond what they state. Walks: slices.DeleteFunc at ints. No conditions beyond what they state. Walks: twice.isSet, kept. Conditions: a pass. -/
import Derived.Test.YtlmoblmkhicoeaaGreatDoorW3
import Derived.Lib.SliceRun
import Derived.Test.YtlmoblmkhicoeaaGreatDoorP7
set_option linter.unusedVariables false
set_option linter.unusedSimpArgs false
namespace Go.Proofs.YtlmoblmkhicoeaaGreatDoor
open Go.RowKit
set_option maxRecDepth 100000 in
set_option maxHeartbeats 1000000 in
theorem index2_any (l : List Int) (v : Value) (k : Nat) (cap : Array Value) (p : Int → Bool) (w : World) (he : ∀ (a : Array Value) (w : World), (callFunc k a).run Tryz.prog w = .ok (.enter k a) w) (hl : Ints w v l) (ht : Tests w k cap atI p) :
    Calls Tryz.prog 67 #[v, .func (.func k) #[] cap] w fun e w' => (e = .returned (.int .i64 (-1)) ∧ l.any p = false ∨ ∃ i : Nat, e = .returned (.int .i64 i) ∧ ∃ h : i < l.length, (l.take i).any p = false ∧ p l[i] = true) ∧ Below w.heap.size w w' := by
  obtain ⟨A, c, rfl, h1, h2⟩ := Ints.form hl
  unfold maxLen at h2
  have HL := Lib.hid hl
  have HT := Lib.hid ht
  clear hl ht
  go_enter Tryz.func67, Tryz.ntmps67
  go_wp2
  go_loopw [8] (fun i wr => ∃ j : Nat, j ≤ l.length ∧ i = .int .i64 j ∧ Hid ((l.take j).any p = false) ∧ Hid (Below w.heap.size w wr)) (fun i _ => l.length - (intOf i).toNat)
  case atStart => exact ⟨0, Nat.zero_le _, rfl, rfl, Below.refl _ _⟩
  case round =>
    obtain ⟨j, hj, rfl, HF, HB⟩ := hrel
    by_cases hlt : j < l.length
    · obtain ⟨g, off, cap', ea, h3, h4, hg, hc⟩ := (Ints.below HL.out HB.out).open_ (Nat.lt_of_le_of_lt (Nat.zero_le _) hlt)
      cases ea
      have c0 := hc j hlt
      have HX := Lib.hid (show atI wr l[j] (.int .i64 l[j]) from rfl)
      clear hc
      go_wp2_with fail
      refine (HT.out _ HB.out _ _ HX.out).mono ?_
      rintro e w1 ⟨rfl, hb1⟩
      have HB1 := Lib.hid (HB.out.trans (below_of_le hb1 HB.out.size))
      clear hb1
      cases hp : p l[j] with
      | true =>
        have HT := Lib.hid hp
        clear hp
        go_wp2
        go_ret
        exact ⟨Or.inr ⟨j, rfl, hlt, HF.out, HT.out⟩, HB1.out⟩
      | false =>
        have HT := Lib.hid (any_step hlt HF.out hp)
        clear hp
        go_wp2
        go_roundw
        case rel => exact ⟨j + 1, by omega, by go_num, HT.out, HB1.out⟩
        case measure => simp [intOf]; omega
    · have HE := Lib.hid (any_end (Nat.le_of_not_lt hlt) HF.out)
      have hkn : j = l.length := by omega
      clear HF
      go_wp2
      go_ret
      exact ⟨Or.inl ⟨rfl, HE.out⟩, HB.out⟩
theorem OwnI.set_ {W : World} {B g c n : Nat} {l : List Int} (h : OwnI W B (.slice (some ⟨g, 0, none⟩) n c) l) (hn : l.length = n) {j : Nat} (hj : j < l.length) (u : Int) : OwnI (W.setCell ⟨g, j, none⟩ (.int .i64 u)) B (.slice (some ⟨g, 0, none⟩) n c) (l.set j u) := by
  subst hn
  unfold OwnI at h ⊢
  rw [List.length_set, List.map_set]
  exact own_set h (by simpa using hj) (iv u)
theorem setCells_blk {g : Nat} {t : TypeId} : ∀ (vs : List Value) (o : Nat) (W : World) (cs : Array Value), Blk W g t cs → ∃ cs', Blk (W.setCells g o vs) g t cs' ∧ cs'.size = cs.size ∧ ∀ j, j < o → cs'[j]? = cs[j]?
  | [], o, W, cs, h => ⟨cs, h, rfl, fun _ _ => rfl⟩
  | v :: vs, o, W, cs, h => by
    obtain ⟨cs', h1, h2, h3⟩ := setCells_blk vs (o + 1) _ _ (h.set_ o v)
    refine ⟨cs', h1, by rw [h2]; simp, fun j hj => ?_⟩
    rw [h3 j (by omega), Array.getElem?_setIfInBounds_ne (by omega)]
theorem setCells_keeps {g : Nat} : ∀ (vs : List Value) (o : Nat) (W : World), Keeps (fun q => q = g) W (W.setCells g o vs)
  | [], o, W => Keeps.refl _ _
  | v :: vs, o, W => ((Keeps.refl (fun q => q = g) W).setCell (p := ⟨g, o, none⟩) (Or.inr rfl) v).trans (setCells_keeps vs (o + 1) _) (fun _ _ h => h)
/-- The front of a row, its rest cleared. -/
theorem OwnI.cleared {W : World} {B g c n : Nat} {cur : List Int} (h : OwnI W B (.slice (some ⟨g, 0, none⟩) n c) cur) (hn : cur.length = n) {i : Nat} (hi : i ≤ n) (vs : List Value) : OwnI (W.setCells g i vs) B (.slice (some ⟨g, 0, none⟩) i c) (cur.take i) := by
  subst hn
  rcases h.2 with ⟨h0, _⟩ | ⟨g', cap', cs, hv, hbs, hh, h1, h2, h3, h4⟩
  · cases h0
  · simp only [Value.slice.injEq, Option.some.injEq, Addr.mk.injEq, and_true, true_and] at hv
    obtain ⟨rfl, rfl⟩ := hv
    obtain ⟨cs', e1, e2, e3⟩ := setCells_blk vs i W cs hh
    have hl : (cur.take i).length = i := by rw [List.length_take]; omega
    unfold OwnI
    rw [hl]
    refine ⟨by simp; omega, Or.inr ⟨g, c, cs', rfl, hbs, e1, by omega, h2, by omega, ?_⟩⟩
    rw [List.map_take, ← h4, List.take_take]
    apply List.ext_getElem?
    intro j
    by_cases hj : j < i
    · rw [List.getElem?_take_of_lt (by omega), List.getElem?_take_of_lt (by omega), Array.getElem?_toList, Array.getElem?_toList, e3 j hj]
    · rw [List.getElem?_take_eq_none (by omega), List.getElem?_take_eq_none (by omega)]
theorem filt_step {l : List Int} {q : Int → Bool} {j : Nat} (hj : j < l.length) : (l.take (j + 1)).filter q = (l.take j).filter q ++ (if q l[j] then [l[j]] else []) := by
  rw [List.take_succ_eq_append_getElem hj, List.filter_append]
  by_cases h : q l[j] = true
  · rw [if_pos h]; simp [h]
  · rw [if_neg h]; simp [h]
theorem filt_none {l : List Int} {p : Int → Bool} (h : l.any p = false) : l.filter (fun x => !p x) = l := by
  rw [List.filter_eq_self]
  intro x hx
  rw [List.any_eq_false] at h
  have := h x hx
  simpa using this
end Go.Proofs.YtlmoblmkhicoeaaGreatDoor
namespace Go.Proofs.YtlmoblmkhicoeaaGreatDoor
open Go.RowKit
theorem und34c : Tryz.prog.underlying 34 = some (.slice 3) := und34
theorem zv3 : ∀ w, (zeroValue 3).run Tryz.prog w = .ok (.int .i64 0) w := fun _ => by kernel_rfl
theorem OwnI.parts {W : World} {B g n c : Nat} {cur : List Int} (h : OwnI W B (.slice (some ⟨g, 0, none⟩) n c) cur) (hn : cur.length = n) : g < W.heap.size ∧ (∀ j (hj : j < cur.length), W.cell? ⟨g, j, none⟩ = some (.int .i64 cur[j])) ∧ ∀ j, W.frozen? ⟨g, j, none⟩ = false := by
  subst hn
  obtain ⟨-, p2, p3, p4, p5, p6⟩ := own_parts h
  exact ⟨p2, fun j hj => p5 j (iv cur[j]) (by simp [hj]), p6⟩
set_option maxRecDepth 100000 in
set_option maxHeartbeats 4000000 in
theorem deleteI_any (l : List Int) (v : Value) (B k : Nat) (cap : Array Value) (p : Int → Bool) (w : World) (he : ∀ (a : Array Value) (w : World), (callFunc k a).run Tryz.prog w = .ok (.enter k a) w) (ho : OwnI w B v l) (hl : l.length ≤ 1048576)
    (ht : ∀ W, Keeps (fun q => v.ownBlock = some q) w W → ∀ x, Calls Tryz.prog k (#[.int .i64 x] ++ cap) W fun e W' => e = .returned (.bool (p x)) ∧ Below W.heap.size W W') :
    Calls Tryz.prog 42 #[v, .func (.func k) #[] cap] w fun e w' => (∃ v', e = .returned v' ∧ OwnI w' B v' (l.filter (fun x => !p x))) ∧ Keeps (fun q => v.ownBlock = some q) w w' := by
  have HIX := Lib.hid (index2_any l v k cap p w he ho.ints (fun W hb x v' hv => by
    rw [show v' = .int .i64 x from hv]
    exact ht W (keeps_of_below _ hb) x))
  obtain ⟨A, c, rfl, h1, h2⟩ := ho.form
  unfold maxLen at h2
  have HO := Lib.hid ho
  have HT := Lib.hid ht
  clear ho ht
  go_enter Tryz.func42, Tryz.ntmps42
  go_wp2_with fail
  refine HIX.out.mono ?_
  rintro e w1 ⟨⟨rfl, hany⟩ | ⟨i0, rfl, hi0, hpre, hp0⟩, hb1⟩
  · have HN := Lib.hid (show OwnI w1 B (.slice A l.length c) (l.filter (fun x => !p x)) ∧ Keeps (fun q => (Value.slice A l.length c).ownBlock = some q) w w1 from ⟨by rw [filt_none hany]; exact HO.out.below hb1, keeps_of_below _ hb1⟩)
    clear hany hb1
    go_wp2_with fail
    go_ret
    exact ⟨⟨_, rfl, HN.out.1⟩, HN.out.2⟩
  · obtain ⟨g, cc, ea⟩ := own_some HO.out (Nat.lt_of_le_of_lt (Nat.zero_le _) hi0)
    cases ea
    have HS := Lib.hid (show OwnI w1 B (.slice (some ⟨g, 0, none⟩) l.length c) l ∧ Keeps (fun q => q = g) w w1 from ⟨HO.out.below hb1, keeps_of_below _ hb1⟩)
    have HF0 := Lib.hid (show l.take i0 = (l.take (i0 + 1)).filter (fun x => !p x) from by
      rw [filt_step hi0]
      simp only [hp0, Bool.not_true, Bool.false_eq_true, if_false, List.append_nil]
      rw [filt_none hpre])
    have hw1 : wrap64 ((i0 : Int) + 1) = (i0 : Int) + 1 := by unfold wrap64; omega
    have hii : ((i0 : Int) == -1) = false := by simp
    clear hb1 hpre hp0
    go_wp2_with fail
    try rw [hw1]
    go_loopw [6, 5] (fun jv iv wr => ∃ (i j : Nat) (cur : List Int), jv = .int .i64 (j : Int) ∧ iv = .int .i64 (i : Int) ∧ i < j ∧ j ≤ l.length ∧ Hid (cur.length = l.length ∧ cur.take i = (l.take j).filter (fun x => !p x) ∧ cur.drop j = l.drop j) ∧ Hid (OwnI wr B (.slice (some ⟨g, 0, none⟩) l.length c) cur ∧ Keeps (fun q => q = g) w wr)) (fun jv _ _ => l.length - (intOf jv).toNat)
    case atStart => exact ⟨i0, i0 + 1, l, by go_num, rfl, Nat.lt_succ_self _, hi0, ⟨rfl, HF0.out, rfl⟩, HS.out⟩
    case round =>
      clear HS HF0 hw1
      obtain ⟨i, j, cur, rfl, rfl, hij, hj, HC, HW⟩ := hrel
      by_cases hjt : j < l.length
      · obtain ⟨q1, q2, q3⟩ := HC.out
        have hjc : j < cur.length := by omega
        obtain ⟨p2, p5, p6⟩ := HW.out.1.parts q1
        have c0 := p5 j hjc
        have ex : cur[j] = l[j] := by
          have h5 : (cur.drop j)[0]? = (l.drop j)[0]? := by rw [q3]
          simp only [List.getElem?_drop, Nat.add_zero, List.getElem?_eq_getElem hjc, List.getElem?_eq_getElem hjt, Option.some.injEq] at h5
          exact h5
        rw [ex] at c0
        have hstep := filt_step (q := fun x => !p x) hjt
        obtain ⟨x, hx⟩ : ∃ x, l[j] = x := ⟨_, rfl⟩
        rw [hx] at c0 hstep ex
        have hdr : cur.drop (j + 1) = l.drop (j + 1) := by
          have := congrArg (List.drop 1) q3
          simpa [List.drop_drop, Nat.add_comm] using this
        have HTX := Lib.hid (HT.out wr (HW.out.2.mono (fun q _ e => by subst e; rfl)) x)
        have c0' : wr.cell? ⟨g, j, none⟩ = some (.int .i64 x) := c0
        clear c0
        cases hp : p x with
        | true =>
          rw [hp] at HTX
          have HN := Lib.hid (show cur.length = l.length ∧ cur.take i = (l.take (j + 1)).filter (fun x => !p x) ∧ cur.drop (j + 1) = l.drop (j + 1) from ⟨q1, by rw [hstep, hp]; simpa using q2, hdr⟩)
          clear hstep hp q1 q2 q3 hdr ex hx HC p5
          go_wp2_with fail
          refine HTX.out.mono ?_
          rintro e w2 ⟨rfl, hb2⟩
          have HW2 := Lib.hid (show OwnI w2 B (.slice (some ⟨g, 0, none⟩) l.length c) cur ∧ Keeps (fun q => q = g) w w2 from ⟨HW.out.1.below hb2, HW.out.2.trans (keeps_of_below (fun _ => False) hb2) (fun _ _ h => h.elim)⟩)
          clear hb2 HW c0'
          go_wp2_with fail
          go_roundw
          case rel => exact ⟨i, j + 1, cur, by go_num, rfl, by omega, by omega, HN.out, HW2.out⟩
          case measure => simp [intOf]; omega
        | false =>
          rw [hp] at HTX
          have hic : i < cur.length := by omega
          have HN := Lib.hid (show (cur.set i x).length = l.length ∧ (cur.set i x).take (i + 1) = (l.take (j + 1)).filter (fun x => !p x) ∧ (cur.set i x).drop (j + 1) = l.drop (j + 1) from ⟨by rw [List.length_set]; exact q1, by
            rw [hstep, hp, List.take_succ_eq_append_getElem (by rw [List.length_set]; exact hic), List.getElem_set_self, List.take_set_of_le (Nat.le_refl i), q2]; rfl, by
            rw [List.drop_set_of_lt (by omega)]; exact hdr⟩)
          clear hstep hp q1 q2 q3 hdr ex hx HC p5
          go_wp2_with fail
          refine HTX.out.mono ?_
          rintro e w2 ⟨rfl, hb2⟩
          have ho2 := HW.out.1.below hb2
          obtain ⟨-, r5, r6⟩ := ho2.parts (by have := HN.out.1; rw [List.length_set] at this; exact this)
          have d0 := r5 i hic
          have d0' : w2.cell? ⟨g, i, none⟩ = some (.int .i64 cur[i]) := d0
          have f0 := r6 i
          have HW2 := Lib.hid (show OwnI (w2.setCell ⟨g, i, none⟩ (.int .i64 x)) B (.slice (some ⟨g, 0, none⟩) l.length c) (cur.set i x) ∧ Keeps (fun q => q = g) w (w2.setCell ⟨g, i, none⟩ (.int .i64 x)) from ⟨ho2.set_ (by have := HN.out.1; rw [List.length_set] at this; exact this) hic x, (HW.out.2.trans (keeps_of_below (fun _ => False) hb2) (fun _ _ h => h.elim)).setCell (p := ⟨g, i, none⟩) (Or.inr rfl) _⟩)
          clear hb2 HW c0' ho2 r5 r6 d0
          go_wp2_with fail
          go_roundw
          case rel => exact ⟨i + 1, j + 1, cur.set i x, by go_num, by go_num, by omega, by omega, HN.out, HW2.out⟩
          case measure => simp [intOf]; omega
      · have hje : j = l.length := by omega
        subst hje
        obtain ⟨q1, q2, q3⟩ := HC.out
        rw [List.take_length] at q2
        obtain ⟨p2, p5, p6⟩ := HW.out.1.parts q1
        have hcl : ∀ ty, (Builtin.clear_ #[34] ty #[.slice (some ⟨g, i, none⟩) (l.length - i) (c - i)]).run Tryz.prog wr = .ok (.tuple #[]) (wr.setCells g i (List.replicate (l.length - i) (.int .i64 0))) :=
          fun ty => Lib.run_clear_slice wr _ _ ty _ und34 zv3 rfl rfl g i _ _ (by omega) (fun t ht => by rw [p5 (i + t) (by omega)]; rfl) (fun t ht => p6 _)
        have HN := Lib.hid (show OwnI (wr.setCells g i (List.replicate (l.length - i) (.int .i64 0))) B (.slice (some ⟨g, 0, none⟩) i c) (l.filter (fun x => !p x)) ∧ Keeps (fun q => q = g) w (wr.setCells g i (List.replicate (l.length - i) (.int .i64 0))) from ⟨by rw [← q2]; exact HW.out.1.cleared q1 (by omega) _, HW.out.2.trans (setCells_keeps _ _ _) (fun _ _ h => h)⟩)
        clear q1 q2 q3 p5 p6 HC HW
        go_wp2_with fail
        go_ret
        exact ⟨⟨_, rfl, HN.out.1⟩, HN.out.2.mono (fun q _ e => by subst e; rfl)⟩
end Go.Proofs.YtlmoblmkhicoeaaGreatDoor
namespace Go.Proofs.YtlmoblmkhicoeaaGreatDoor
open Go.RowKit
theorem cloneI_any (l : List Int) (v : Value) (w : World) (h : Ints w v l) (hl : l.length ≤ 1048576) :
    Calls Tryz.prog 21 #[v] w fun e w' => (∃ v', e = .returned v' ∧ OwnI w' w.heap.size v' l) ∧ Below w.heap.size w w' := by
  obtain ⟨A, c, rfl, h1, h2, h3⟩ := h
  unfold maxLen at h2
  cases A with
  | none =>
    have hz : l = [] := by
      rcases Nat.eq_zero_or_pos l.length with hz | hp
      · exact List.length_eq_zero_iff.1 hz
      · obtain ⟨g, off, e, -⟩ := h3 hp
        cases e
    subst hz
    refine (Tryz.slices_Clone_int_nil _ c w).mono ?_
    rintro e w' ⟨rfl, rfl⟩
    exact ⟨⟨_, rfl, OwnI.nil _ _⟩, Below.refl _ _⟩
  | some a =>
    have hrow : RowOf w (.slice (some a) l.length c) l.length (l.map iv) := ⟨_, c, rfl, h1, h2, h3⟩
    have hnn := fun w => Lib.run_eql_slice_nil (P := Tryz.prog) w 34 3 (some a) l.length c 0 0 und34
    obtain ⟨v', w2, hap, ho, hg, -⟩ := app_any arowI 34 (empty_own (w := w) 3 1) (hrow.alloc _) (by simp) (fun y hy => by
      obtain ⟨i, _, rfl⟩ := List.mem_map.1 hy
      rfl) (by unfold maxLen; omega) (by omega) (by simp [World.size_alloc])
    have hbs : ∀ w, (Instr.buildSlice 34 0 #[]).run Tryz.prog w = .ok (.slice (some ⟨w.heap.size, 0, none⟩) 0 0) (w.alloc (.cells #[] 3)) := fun _ => by kernel_rfl
    rw [Nat.zero_add, List.nil_append] at ho
    have HO := Lib.hid (show OwnI w2 w.heap.size v' l from ho)
    have HB := Lib.hid (show Below w.heap.size w w2 from ((Below.refl _ _).alloc (Nat.le_refl _) _).grown hg (by simp [World.size_alloc]) (fun k hk => by simp [Value.ownBlock] at hk; omega))
    have HAP := Lib.hid hap
    clear ho hg hap hrow h3
    go_enter Tryz.func21, Tryz.ntmps21
    go_wp2_with (at_builtin; refine wpList_append_eq rfl (.tmp 5) (.tmp 6) 34 rfl rfl rfl HAP.out ?_)
    go_ret
    exact ⟨⟨_, rfl, HO.out⟩, HB.out⟩
/-- The block of an index, as it lies. -/
theorem PassAt.bl_ {W : World} {gp : Nat} {F : Fn} {sv bv rv tov inv ouv : Value} (h : PassAt W gp F sv bv rv tov inv ouv) {b : Nat} (hb : b < F.bl.length) :
    ∃ g off cap Ao co, bv = .slice (some ⟨g, off, none⟩) F.bl.length cap ∧ F.bl.length ≤ cap ∧ cap ≤ maxLen ∧ g < W.heap.size ∧ BlCells W g (off + b * 6) (blk F b) (.slice Ao (blk F b).os.length co) := by
  obtain ⟨g, off, cap, e, q1, q2, q3, q4⟩ := h.fi.bl.open_ (by omega)
  obtain ⟨ov, hc⟩ := q4 b hb
  obtain ⟨Ao, co, e2, -, -⟩ := hc.os.form
  rw [blk_at_ hb]
  exact ⟨g, off, cap, Ao, co, e, q1, q2, q3, e2 ▸ hc⟩
theorem row_ {W : World} {v : Value} {tl : List (List Int)} {n : Nat} (h : ToAt W v tl) (hn : tl.length = n) {b : Nat} (hb : b < n) :
    ∃ g off cap A2 c2, v = .slice (some ⟨g, off, none⟩) n cap ∧ n ≤ cap ∧ cap ≤ maxLen ∧ W.cell? ⟨g, off + b, none⟩ = some (.slice A2 (tl.getD b []).length c2) ∧ Ints W (.slice A2 (tl.getD b []).length c2) (tl.getD b []) ∧ (tl.getD b []).length ≤ c2 ∧ c2 ≤ maxLen := by
  subst hn
  obtain ⟨g, off, cap, e, q1, q2, q3, q4⟩ := h.open_ (by omega)
  obtain ⟨v, hc, hv⟩ := q4 b hb
  have e3 : tl[b] = tl.getD b [] := by simp [hb]
  rw [e3] at hv
  obtain ⟨A2, c2, e2, r1, r2⟩ := hv.form
  subst e2
  exact ⟨g, off, cap, A2, c2, e, q1, q2, hc, hv, r1, r2⟩
theorem PassAt.rc_ {W : World} {gp : Nat} {F : Fn} {sv bv rv tov inv ouv : Value} (h : PassAt W gp F sv bv rv tov inv ouv) {b : Nat} (hb : b < F.bl.length) :
    ∃ g off cap rb, rv = .slice (some ⟨g, off, none⟩) F.bl.length cap ∧ F.bl.length ≤ cap ∧ cap ≤ maxLen ∧ g < W.heap.size ∧ (rchL F).getD b false = rb ∧ W.cell? ⟨g, off + b, none⟩ = some (.bool rb) := by
  have hl := h.ok.rch.1
  obtain ⟨g, off, cap, e, q1, q2, q3, q4⟩ := h.rc.open_ (by rw [hl]; omega)
  rw [hl] at e q1
  exact ⟨g, off, cap, (rchL F)[b]'(by rw [hl]; exact hb), e, q1, q2, q3, by simp [hl, hb], q4 b (by rw [hl]; exact hb)⟩
/-- Is a block a set that is reached? -/
def setF (F : Fn) (b : Nat) : Bool := (rchL F).getD b false && ((blk F b).x.k == 4)
set_option maxRecDepth 100000 in
set_option maxHeartbeats 2000000 in
theorem isSet_any (gp : Nat) (F : Fn) (sv bv rv tov inv ouv : Value) (b : Nat) (hb : b < F.bl.length) (w : World) (h : PassAt w gp F sv bv rv tov inv ouv) :
    Calls Tryz.prog 26 #[.pointer (some ⟨gp, 0, none⟩), .int .i64 b] w fun e w' => e = .returned (.bool (setF F b)) ∧ Below w.heap.size w w' := by
  have hn2 := h.ok.b2
  obtain ⟨g1, o1, c1, rb, rfl, q1, q2, q3, q4, q5⟩ := h.rc_ hb
  obtain ⟨g2, o2, c2, Ao, co, rfl, r1, r2, r3, r4⟩ := h.bl_ hb
  have p4 : w.cell? ⟨gp, 4, none⟩ = some (.slice (some ⟨g2, o2, none⟩) F.bl.length c2) := (h.pb.cell 4).trans rfl
  have p5 : w.cell? ⟨gp, 5, none⟩ = some (.slice (some ⟨g1, o1, none⟩) F.bl.length c1) := (h.pb.cell 5).trans rfl
  have HS := Lib.hid (show setF F b = (rb && ((blk F b).x.k == 4)) from by rw [setF, q4])
  obtain ⟨bb, hbb⟩ : ∃ bb, blk F b = bb := ⟨_, rfl⟩
  rw [hbb] at r4 HS
  obtain ⟨s0, s1, s2, s3, s4, s5, s6⟩ := r4
  have hlt : (b : Int) < (F.bl.length : Int) := by omega
  clear h hbb q4 s6
  cases rb with
  | false =>
    go_enter Tryz.func26, Tryz.ntmps26
    go_wp2_with fail
    go_ret
    exact ⟨by rw [HS.out]; rfl, Below.refl _ _⟩
  | true =>
    go_enter Tryz.func26, Tryz.ntmps26
    go_wp2_with fail
    go_ret
    exact ⟨by rw [HS.out]; simp, Below.refl _ _⟩
end Go.Proofs.YtlmoblmkhicoeaaGreatDoor

/- What 'Changed' tells is what stores changed since the mark, and nothing else: 'MemChanges' answers true for every input. Conditions: none. -/
import Derived.Test.YtbffclcjhcbejaaC1
import Derived.Test.YtbffclcjhcbejaaH2
namespace Go.Proofs.Ytbffclcjhcbejaa
open Go.ChangeShapes Go.WideShapes Go.ChangeAt Go.RowKit Go.Joins
theorem cells35 : Try.prog.cellsOf 35 = 5 := by kernel_rfl
theorem cells32 : Try.prog.cellsOf 32 = 1 := by kernel_rfl
theorem cells33 : Try.prog.cellsOf 33 = 1 := by kernel_rfl
section
variable {H : Type} {enc : TypeId × Value → H} {W : World}
/-- Five cells that read as an act. -/
theorem act_of_trod {n : Nat} {cs : List Value} {y : DataW H × List MemPlace} {sp : Nat → Bool} {hd : Bool} (h : DataW.trod enc Try.prog W 0 sp hd n 35 cs = some y) : ∃ a : Act', cs = (actArr a).toList ∧ (0 ≤ a.at_ ∧ a.at_ ≤ 4294967295) ∧ 0 ≤ a.w ∧ a.w ≤ 4294967295 := by
  obtain ⟨xs, m, _, _, hl, hx, hf⟩ := DataW.trod_struct Try.underlying35 h
  rw [cells35] at hl
  obtain ⟨a, b, c, d, e, rfl⟩ := five_list hl
  have hxl : xs.length = 5 := by rw [hx]; rfl
  have f0 : DataW.trod enc Try.prog W 0 sp hd m 3 (([a, b, c, d, e].drop 0).take (Try.prog.cellsOf 3)) = xs[0]? := hf 0 _ rfl
  have f1 : DataW.trod enc Try.prog W 0 sp hd m 32 (([a, b, c, d, e].drop 1).take (Try.prog.cellsOf 32)) = xs[1]? := hf 1 _ rfl
  have f2 : DataW.trod enc Try.prog W 0 sp hd m 3 (([a, b, c, d, e].drop 2).take (Try.prog.cellsOf 3)) = xs[2]? := hf 2 _ rfl
  have f3 : DataW.trod enc Try.prog W 0 sp hd m 32 (([a, b, c, d, e].drop 3).take (Try.prog.cellsOf 32)) = xs[3]? := hf 3 _ rfl
  rw [List.getElem?_eq_getElem (by omega)] at f0 f1 f2 f3
  rw [cells3] at f0 f2
  rw [cells32] at f1 f3
  obtain ⟨x0, q0, _, _⟩ := DataW.trod_int Try.underlying3 f0
  obtain ⟨x1, q1, _, b1⟩ := DataW.trod_int Try.underlying32 f1
  obtain ⟨x2, q2, _, _⟩ := DataW.trod_int Try.underlying3 f2
  obtain ⟨x3, q3, _, b3⟩ := DataW.trod_int Try.underlying32 f3
  simp at q0 q1 q2 q3
  subst q0 q1 q2 q3
  exact ⟨⟨x0, x1, x2, x3, e⟩, rfl, u32_bd b1, (u32_bd b3).1, (u32_bd b3).2⟩
/-- The slice of acts that came in. -/
theorem aslice_in {fuel : Nat} {v : Value} {x : DataW H × List MemPlace} (h : DataW.trod enc Try.prog W 0 (fun _ => true) true fuel 23 [v] = some x) : ∃ as_, ASlice W v as_ := by
  rcases DataW.trod_slice Try.underlying23 h with ⟨hcs, _⟩ | ⟨a, len, cap, elems, rest, n, _, hcs, _, _, hl, hm, hlen, hel, _, _⟩
  · obtain rfl : v = .slice none 0 0 := by simpa using hcs
    exact ⟨[], none, 0, rfl, by simp, by decide, (fun r hr => by cases hr), fun h => absurd rfl h⟩
  · obtain rfl : v = .slice (some a) len cap := by simpa using hcs
    rw [cells35] at hel
    have each : ∀ i, i < len → ∃ r : Act', W.cells? 0 (a.add (i * 5)) 5 = some (actArr r).toList ∧ (0 ≤ r.at_ ∧ r.at_ ≤ 4294967295) ∧ 0 ≤ r.w ∧ r.w ≤ 4294967295 := by
      intro i hi
      have h1 := hel i hi
      rw [List.getElem?_eq_getElem (by omega)] at h1
      obtain ⟨cs, hc, ht⟩ := Option.bind_eq_some_iff.1 h1
      obtain ⟨r, rfl, hs⟩ := act_of_trod ht
      exact ⟨r, hc, hs⟩
    obtain ⟨rs, hrl, hrs⟩ := list_of_each len each
    refine ⟨rs, some a, cap, by rw [hrl], by omega, hm, fun r hr => ?_, fun hne => ?_⟩
    · obtain ⟨i, hi, rfl⟩ := List.getElem_of_mem hr
      exact (hrs i hi).2
    · have hpos : 0 < rs.length := List.length_pos_iff.2 hne
      obtain ⟨b, off, spot⟩ := a
      have h00 := (World.cells?_some (hrs 0 hpos).1).2.2 0 (by decide)
      rw [Nat.zero_mul] at h00
      have hspot : spot = none := by simpa [Addr.add] using World.cell?_spot (h00.trans rfl)
      subst hspot
      refine ⟨b, off, rfl, cell_lt (a := ⟨b, off, none⟩) (h00.trans rfl), fun i hi j u hj => ?_⟩
      have hj5 : j < 5 := by
        rcases Nat.lt_or_ge j 5 with h | h
        · exact h
        · rw [Array.getElem?_eq_none (by simpa [actArr] using h)] at hj; cases hj
      have h1 := (World.cells?_some (hrs i hi).1).2.2 j hj5
      rw [addr_add, addr_add] at h1
      rw [h1]
      simpa using hj
end
theorem readable3 : ∀ t ∈ Try.f3.params.toList, Try.prog.readableRec t = true ∧ t < Try.prog.types.size := by
  rw [Try.params3]
  intro t ht
  rcases List.mem_cons.1 ht with rfl | ht
  · exact ⟨by kernel_rfl, of_decide_eq_true (by kernel_rfl)⟩
  rcases List.mem_cons.1 ht with rfl | ht
  · exact ⟨by kernel_rfl, of_decide_eq_true (by kernel_rfl)⟩
  rcases List.mem_cons.1 ht with rfl | ht
  · exact ⟨by kernel_rfl, of_decide_eq_true (by kernel_rfl)⟩
  cases ht
set_option maxRecDepth 100000 in
theorem lifted3 (os : Os) (started : os.Started) (H : Type) (enc : TypeId × Value → H) :
    ReturnsInHanded {} Try.checked os 3 .any (Rows.memChangesSpec.pre6 enc Try.prog Try.f3 Rows.memChangesRow.domain false) (Rows.memChangesSpec.post enc Try.prog Try.f3 false true false false) := by
  refine returnsInHanded_of_change (C := Try.checked) own started (by kernel_rfl) Try.func3
    (ChangeSpec.witness6 (enc := enc) (C := Try.checked) false ⟨#[], #[.slice none 0 0, .slice none 0 0, .slice none 0 0], []⟩ 8 (by kernel_rfl) (by kernel_rfl) (by kernel_rfl) (by kernel_rfl)) ?_
  intro W base args ds gs before hval0 hW hcnd _
  have hval : ∀ (j : Nat) t v, Try.f3.params[j]? = some t → args[j]? = some v → Value.okWide Try.prog W .any base t v := hval0
  have hW' : DataW.Whole enc Try.prog Try.f3.params.toList Rows.memChangesSpec.vars false W args.toList ds gs before := hW
  obtain ⟨p, q, hA0, hV, rfl, hfz, hnd⟩ := hW
  have hA : DataW.TrodAll enc Try.prog W 0 (fun _ => true) true Try.f3.params.toList args.toList ds p := hA0
  rw [Try.params3] at hA hval
  obtain ⟨v0, vs0, d0, ds0, p0, q0, hargs, rfl, rfl, h0, r0⟩ := trodAll_cons hA
  obtain ⟨v1, vs1, d1, ds1, p1, q1, rfl, rfl, rfl, h1, r1⟩ := trodAll_cons r0
  obtain ⟨v2, vs2, d2, ds2, p2, q2, rfl, rfl, rfl, h2, r2⟩ := trodAll_cons r1
  obtain ⟨rfl, rfl, rfl⟩ := trodAll_nil r2
  obtain rfl : args = #[v0, v1, v2] := by cases args; simp_all
  obtain ⟨fuel0, hf0⟩ := h0
  obtain ⟨fuel1, hf1⟩ := h1
  obtain ⟨fuel2, hf2⟩ := h2
  obtain ⟨a0, len0, cap0, rfl⟩ := okWide_slice Try.underlying22 (hval 0 22 v0 rfl rfl)
  obtain ⟨a1, len1, cap1, rfl⟩ := okWide_slice Try.underlying23 (hval 1 23 v1 rfl rfl)
  obtain ⟨a2, len2, cap2, rfl⟩ := okWide_slice Try.underlying23 (hval 2 23 v2 rfl rfl)
  obtain ⟨rs, hrs⟩ := rslice_in hf0
  obtain ⟨bs, hbs⟩ := aslice_in hf1
  obtain ⟨as_, has⟩ := aslice_in hf2
  refine (changes_any _ _ _ rs bs as_ W hrs hbs has).mono fun e W' ⟨he, hb⟩ => ?_
  subst he
  exact ⟨_, rfl, post_law laidOut readable3 (tb := 4) (by kernel_rfl) Try.underlying4 rfl (fun es hes => by
    rw [Try.params3] at hes
    match es, hes with
    | [_, _, _], _ => rfl) hW' hb⟩
theorem mem_changes : Rows.MemChangesSaid :=
  OpenClaim.holds_of_wide 3 Try.f3 rfl rfl rfl rfl rfl rfl rfl ⟨rfl, rfl, rfl, rfl, rfl⟩ rfl rfl rfl rfl rfl (by kernel_rfl) Try.func3 (by kernel_rfl)
    (of_decide_eq_true (by kernel_rfl)) (by unfold Func.isWrapper; first | (rw [if_pos (by decide +kernel)]; kernel_rfl) | (rw [if_neg (by decide +kernel)]; exact ⟨rfl, rfl⟩))
    (fun os started H enc _ => lifted3 os started H enc)
#print axioms mem_changes
end Go.Proofs.Ytbffclcjhcbejaa

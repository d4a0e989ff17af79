/- A load tells the last store, byte by byte, and a refused store changes nothing: 'MemHolds' answers true for every input. Conditions: none. -/
import Derived.Test.YtbffclcjhcbejaaLift
import Derived.Test.YtbffclcjhcbejaaH1
import Derived.Lib.SmallJoins
namespace Go.Proofs.Ytbffclcjhcbejaa
open Go.ChangeShapes Go.WideShapes Go.ChangeAt Go.RowKit Go.Joins
theorem own : ownKnob Try.prog.godebug = none := by kernel_rfl
theorem laidOut : laidOutB Try.prog = true := by kernel_rfl
theorem cells30 : Try.prog.cellsOf 30 = 5 := by kernel_rfl
theorem cells3 : Try.prog.cellsOf 3 = 1 := by kernel_rfl
theorem cells4 : Try.prog.cellsOf 4 = 1 := by kernel_rfl
theorem cells9 : Try.prog.cellsOf 9 = 1 := by kernel_rfl
section
variable {H : Type} {enc : TypeId × Value → H} {W : World}
theorem five_list {l : List Value} (h : l.length = 5) : ∃ a b c d e, l = [a, b, c, d, e] := by
  match l, h with
  | [a, b, c, d, e], _ => exact ⟨a, b, c, d, e, rfl⟩
/-- Five cells that read as a range. -/
theorem rng_of_trod {n : Nat} {cs : List Value} {y : DataW H × List MemPlace} {sp : Nat → Bool} {hd : Bool} (h : DataW.trod enc Try.prog W 0 sp hd n 30 cs = some y) : ∃ r : Rng, cs = (rngArr r).toList ∧ r.nm.size ≤ maxLen := by
  obtain ⟨xs, m, _, _, hl, hx, hf⟩ := DataW.trod_struct Try.underlying30 h
  rw [cells30] at hl
  obtain ⟨a, b, c, d, e, rfl⟩ := five_list hl
  have hxl : xs.length = 5 := by rw [hx]; rfl
  have f0 : DataW.trod enc Try.prog W 0 sp hd m 9 (([a, b, c, d, e].drop 0).take (Try.prog.cellsOf 9)) = xs[0]? := hf 0 _ rfl
  have f1 : DataW.trod enc Try.prog W 0 sp hd m 3 (([a, b, c, d, e].drop 1).take (Try.prog.cellsOf 3)) = xs[1]? := hf 1 _ rfl
  have f2 : DataW.trod enc Try.prog W 0 sp hd m 3 (([a, b, c, d, e].drop 2).take (Try.prog.cellsOf 3)) = xs[2]? := hf 2 _ rfl
  have f3 : DataW.trod enc Try.prog W 0 sp hd m 4 (([a, b, c, d, e].drop 3).take (Try.prog.cellsOf 4)) = xs[3]? := hf 3 _ rfl
  have f4 : DataW.trod enc Try.prog W 0 sp hd m 4 (([a, b, c, d, e].drop 4).take (Try.prog.cellsOf 4)) = xs[4]? := hf 4 _ rfl
  rw [List.getElem?_eq_getElem (by omega)] at f0 f1 f2 f3 f4
  rw [cells9] at f0
  rw [cells3] at f1 f2
  rw [cells4] at f3 f4
  obtain ⟨s, q0, _, hs⟩ := DataW.trod_string Try.underlying9 f0
  obtain ⟨x1, q1, _, _⟩ := DataW.trod_int Try.underlying3 f1
  obtain ⟨x2, q2, _, _⟩ := DataW.trod_int Try.underlying3 f2
  obtain ⟨x3, q3, _⟩ := DataW.trod_bool Try.underlying4 f3
  obtain ⟨x4, q4, _⟩ := DataW.trod_bool Try.underlying4 f4
  simp at q0 q1 q2 q3 q4
  subst q0 q1 q2 q3 q4
  exact ⟨⟨s, x1, x2, x3, x4⟩, rfl, hs⟩
theorem list_of_each {α : Type} {Q : Nat → α → Prop} : ∀ (n : Nat), (∀ i, i < n → ∃ r, Q i r) → ∃ rs : List α, rs.length = n ∧ ∀ i (h : i < rs.length), Q i rs[i]
  | 0, _ => ⟨[], rfl, fun i h => by simp at h⟩
  | n + 1, h => by
    obtain ⟨rs, hl, hq⟩ := list_of_each n (fun i hi => h i (by omega))
    obtain ⟨r, hr⟩ := h n (by omega)
    refine ⟨rs ++ [r], by simp [hl], fun i hi => ?_⟩
    by_cases c : i < rs.length
    · rw [List.getElem_append_left c]; exact hq i c
    · have : i = rs.length := by simp at hi; omega
      subst this
      simp
      rw [hl]
      exact hr
/-- The slice of ranges that came in. -/
theorem rslice_in {fuel : Nat} {v : Value} {x : DataW H × List MemPlace} (h : DataW.trod enc Try.prog W 0 (fun _ => true) true fuel 22 [v] = some x) : ∃ rs, RSlice W v rs := by
  rcases DataW.trod_slice Try.underlying22 h with ⟨hcs, _⟩ | ⟨a, len, cap, elems, rest, n, _, hcs, _, _, hl, hm, hlen, hel, _, _⟩
  · obtain rfl : v = .slice none 0 0 := by simpa using hcs
    exact ⟨[], none, 0, rfl, by simp, by decide, (fun r hr => by cases hr), fun h => absurd rfl h⟩
  · obtain rfl : v = .slice (some a) len cap := by simpa using hcs
    rw [cells30] at hel
    have each : ∀ i, i < len → ∃ r : Rng, W.cells? 0 (a.add (i * 5)) 5 = some (rngArr r).toList ∧ r.nm.size ≤ maxLen := by
      intro i hi
      have h1 := hel i hi
      rw [List.getElem?_eq_getElem (by omega)] at h1
      obtain ⟨cs, hc, ht⟩ := Option.bind_eq_some_iff.1 h1
      obtain ⟨r, rfl, hs⟩ := rng_of_trod ht
      exact ⟨r, hc, hs⟩
    obtain ⟨rs, hrl, hrs⟩ := list_of_each len each
    refine ⟨rs, some a, cap, by rw [hrl], by omega, hm, fun r hr => ?_, fun hne => ?_⟩
    · obtain ⟨i, hi, rfl⟩ := List.getElem_of_mem hr
      exact (hrs i hi).2
    · have hpos : 0 < rs.length := List.length_pos_iff.2 hne
      obtain ⟨b, off, spot⟩ := a
      have h00 := (World.cells?_some (hrs 0 hpos).1).2.2 0 (by decide)
      rw [Nat.zero_mul] at h00
      have hspot : spot = none := by simpa [Addr.add] using World.cell?_spot (h00.trans rfl)
      subst hspot
      refine ⟨b, off, rfl, cell_lt (a := ⟨b, off, none⟩) (h00.trans rfl), fun i hi j u hj => ?_⟩
      have hj5 : j < 5 := by
        rcases Nat.lt_or_ge j 5 with h | h
        · exact h
        · rw [Array.getElem?_eq_none (by simpa [rngArr] using h)] at hj; cases hj
      have h1 := (World.cells?_some (hrs i hi).1).2.2 j hj5
      rw [addr_add, addr_add] at h1
      rw [h1]
      simpa using hj
end
theorem readable4 : ∀ t ∈ Try.f4.params.toList, Try.prog.readableRec t = true ∧ t < Try.prog.types.size := by
  rw [Try.params4]
  intro t ht
  rcases List.mem_cons.1 ht with rfl | ht
  · exact ⟨by kernel_rfl, of_decide_eq_true (by kernel_rfl)⟩
  rcases List.mem_cons.1 ht with rfl | ht
  · exact ⟨by kernel_rfl, of_decide_eq_true (by kernel_rfl)⟩
  rcases List.mem_cons.1 ht with rfl | ht
  · exact ⟨by kernel_rfl, of_decide_eq_true (by kernel_rfl)⟩
  rcases List.mem_cons.1 ht with rfl | ht
  · exact ⟨by kernel_rfl, of_decide_eq_true (by kernel_rfl)⟩
  rcases List.mem_cons.1 ht with rfl | ht
  · exact ⟨by kernel_rfl, of_decide_eq_true (by kernel_rfl)⟩
  rcases List.mem_cons.1 ht with rfl | ht
  · exact ⟨by kernel_rfl, of_decide_eq_true (by kernel_rfl)⟩
  cases ht
theorem u32_bd {x : Int} (h : (Lit.int .u32 x).wf = true) : 0 ≤ x ∧ x ≤ 4294967295 := by
  have := bounds_u32 h
  omega
set_option maxRecDepth 100000 in
theorem lifted (os : Os) (started : os.Started) (H : Type) (enc : TypeId × Value → H) :
    ReturnsInHanded {} Try.checked os 4 .any (Rows.memHoldsSpec.pre6 enc Try.prog Try.f4 Rows.memHoldsRow.domain false) (Rows.memHoldsSpec.post enc Try.prog Try.f4 false true false false) := by
  refine returnsInHanded_of_change (C := Try.checked) own started (by kernel_rfl) Try.func4
    (ChangeSpec.witness6 (enc := enc) (C := Try.checked) false ⟨#[], #[.slice none 0 0, .int .u32 0, .int .i64 0, .int .u32 0, .int .u32 0, .int .u32 0], []⟩ 8 (by kernel_rfl) (by kernel_rfl) (by kernel_rfl) (by kernel_rfl)) ?_
  intro W base args ds gs before hval0 hW hcnd _
  have hval : ∀ (j : Nat) t v, Try.f4.params[j]? = some t → args[j]? = some v → Value.okWide Try.prog W .any base t v := hval0
  have hW' : DataW.Whole enc Try.prog Try.f4.params.toList Rows.memHoldsSpec.vars false W args.toList ds gs before := hW
  obtain ⟨p, q, hA0, hV, rfl, hfz, hnd⟩ := hW
  have hA : DataW.TrodAll enc Try.prog W 0 (fun _ => true) true Try.f4.params.toList args.toList ds p := hA0
  rw [Try.params4] at hA hval
  obtain ⟨v0, vs0, d0, ds0, p0, q0, hargs, rfl, rfl, h0, r0⟩ := trodAll_cons hA
  obtain ⟨v1, vs1, d1, ds1, p1, q1, rfl, rfl, rfl, h1, r1⟩ := trodAll_cons r0
  obtain ⟨v2, vs2, d2, ds2, p2, q2, rfl, rfl, rfl, h2, r2⟩ := trodAll_cons r1
  obtain ⟨v3, vs3, d3, ds3, p3, q3, rfl, rfl, rfl, h3, r3⟩ := trodAll_cons r2
  obtain ⟨v4, vs4, d4, ds4, p4, q4, rfl, rfl, rfl, h4, r4⟩ := trodAll_cons r3
  obtain ⟨v5, vs5, d5, ds5, p5, q5, rfl, rfl, rfl, h5, r5⟩ := trodAll_cons r4
  obtain ⟨rfl, rfl, rfl⟩ := trodAll_nil r5
  obtain rfl : args = #[v0, v1, v2, v3, v4, v5] := by cases args; simp_all
  obtain ⟨fuel, hf⟩ := h0
  obtain ⟨a0, len, cap, rfl⟩ := okWide_slice Try.underlying22 (hval 0 22 v0 rfl rfl)
  obtain ⟨rs, hrs⟩ := rslice_in hf
  obtain ⟨x1, rfl, rfl, rfl, wx1⟩ := open_int Try.underlying32 (hval 1 32 v1 rfl rfl) h1
  obtain ⟨x2, rfl, rfl, rfl, _⟩ := open_int Try.underlying3 (hval 2 3 v2 rfl rfl) h2
  obtain ⟨x3, rfl, rfl, rfl, wx3⟩ := open_int Try.underlying32 (hval 3 32 v3 rfl rfl) h3
  obtain ⟨x4, rfl, rfl, rfl, wx4⟩ := open_int Try.underlying32 (hval 4 32 v4 rfl rfl) h4
  obtain ⟨x5, rfl, rfl, rfl, wx5⟩ := open_int Try.underlying32 (hval 5 32 v5 rfl rfl) h5
  refine (holds_any _ rs x1 x2 x3 x4 x5 W hrs (u32_bd wx1).1 (u32_bd wx1).2 (u32_bd wx3).1 (u32_bd wx3).2 (u32_bd wx4).1 (u32_bd wx4).2 (u32_bd wx5).1 (u32_bd wx5).2).mono fun e W' ⟨he, hb⟩ => ?_
  subst he
  exact ⟨_, rfl, post_law laidOut readable4 (tb := 4) (by kernel_rfl) Try.underlying4 rfl (fun es hes => by
    rw [Try.params4] at hes
    match es, hes with
    | [_, _, _, _, _, _], _ => rfl) hW' hb⟩
theorem mem_holds : Rows.MemHoldsSaid :=
  OpenClaim.holds_of_wide 4 Try.f4 rfl rfl rfl rfl rfl rfl rfl ⟨rfl, rfl, rfl, rfl, rfl⟩ rfl rfl rfl rfl rfl (by kernel_rfl) Try.func4 (by kernel_rfl)
    (of_decide_eq_true (by kernel_rfl)) (by unfold Func.isWrapper; first | (rw [if_pos (by decide +kernel)]; kernel_rfl) | (rw [if_neg (by decide +kernel)]; exact ⟨rfl, rfl⟩))
    (fun os started H enc _ => lifted os started H enc)
#print axioms mem_holds
end Go.Proofs.Ytbffclcjhcbejaa

/- Memory answers whatever calls as the document says, and so does a clone: 'MemPlays' answers true for every input. Conditions: none. -/
import Derived.Test.YtbffclcjhcbejaaD
import Derived.Test.YtbffclcjhcbejaaQI
import Derived.SizedLaws
namespace Go.Proofs.Ytbffclcjhcbejaa
open Go.ChangeShapes Go.WideShapes Go.ChangeAt Go.RowKit Go.Joins
section
variable {H : Type} {enc : TypeId × Value → H} {W : World}
/-- A slice takes no more than the form's own reach. -/
theorem slice_reach {t e : TypeId} {fuel n cap : Nat} {A : Option Addr} {sp : Nat → Bool} {hd : Bool} {x : DataW H × List MemPlace} (ht : Try.prog.underlying t = some (.slice e)) (h : DataW.trod enc Try.prog W 0 sp hd fuel t [.slice A n cap] = some x) (hw : ∀ m ∈ x.1.weights Try.prog t, m ≤ reachBytes) : n * Try.prog.bytesOf e ≤ reachBytes := by
  rcases DataW.trod_slice ht h with ⟨hcs, _⟩ | ⟨a, len, cap', elems, rest, m, _, hcs, hx, _, hl, hm, hlen, hel, _, _⟩
  · simp only [List.cons.injEq, Value.slice.injEq, and_true] at hcs
    rw [hcs.2.1, Nat.zero_mul]
    exact Nat.zero_le _
  · simp only [List.cons.injEq, Value.slice.injEq, and_true] at hcs
    have h1 := hw ((elems.length + rest.length) * Try.prog.bytesOf e) (by rw [hx]; simp [DataW.weights, ht])
    refine Nat.le_trans (Nat.mul_le_mul_right _ ?_) h1
    rw [hcs.2.1, ← hlen]
    exact Nat.le_add_right _ _
theorem weightsAll_mem {P : Program} {e : TypeId} : ∀ {l : List (DataW H)} {d : DataW H}, d ∈ l → ∀ m ∈ d.weights P e, m ∈ DataW.weightsAll P e l
  | x :: l, d, hd, m, hm => by
    simp only [DataW.weightsAll, List.mem_append]
    rcases List.mem_cons.1 hd with rfl | hd
    · exact Or.inl hm
    · exact Or.inr (weightsAll_mem hd m hm)
/-- The slice of bytes that lies in an act. -/
theorem bsl_in {fuel : Nat} {v : Value} {sp : Nat → Bool} {hd : Bool} {x : DataW H × List MemPlace} (h : DataW.trod enc Try.prog W 0 sp hd fuel 33 [v] = some x) : ∃ xs, BSl W v xs := by
  rcases DataW.trod_slice Try.underlying33 h with ⟨hcs, _⟩ | ⟨a, len, cap, elems, rest, n, _, hcs, _, _, hl, hm, hlen, hel, _, _⟩
  · obtain rfl : v = .slice none 0 0 := by simpa using hcs
    exact ⟨[], none, 0, rfl, by simp, by decide, (fun r hr => by cases hr), fun h => absurd rfl h⟩
  · obtain rfl : v = .slice (some a) len cap := by simpa using hcs
    have c5 : Try.prog.cellsOf 5 = 1 := by kernel_rfl
    rw [c5] at hel
    have each : ∀ i, i < len → ∃ r : Int, W.cells? 0 (a.add (i * 1)) 1 = some [.int .u8 r] ∧ 0 ≤ r ∧ r ≤ 255 := by
      intro i hi
      have h1 := hel i hi
      rw [List.getElem?_eq_getElem (by omega)] at h1
      obtain ⟨cs, hc, ht⟩ := Option.bind_eq_some_iff.1 h1
      obtain ⟨r, q, _, hb⟩ := DataW.trod_int Try.underlying5 ht
      subst q
      have := bounds_u8 hb
      exact ⟨r, hc, by omega, by omega⟩
    obtain ⟨xs, hxl, hxs⟩ := list_of_each len each
    refine ⟨xs, some a, cap, by rw [hxl], by omega, hm, fun r hr => ?_, fun hne => ?_⟩
    · obtain ⟨i, hi, rfl⟩ := List.getElem_of_mem hr
      exact (hxs i hi).2
    · have hpos : 0 < xs.length := List.length_pos_iff.2 hne
      obtain ⟨b, off, spot⟩ := a
      have h00 := (World.cells?_some (hxs 0 hpos).1).2.2 0 (by decide)
      rw [Nat.zero_mul] at h00
      have hspot : spot = none := by simpa [Addr.add] using World.cell?_spot (h00.trans rfl)
      subst hspot
      refine ⟨b, off, rfl, cell_lt (a := ⟨b, off, none⟩) (h00.trans rfl), fun i hi => ?_⟩
      have h1 := (World.cells?_some (hxs i hi).1).2.2 0 (by decide)
      rw [addr_add, addr_add, Nat.mul_one, Nat.add_zero] at h1
      rw [h1]
      simp [List.getD, hi]
/-- Five cells that read as an act whose bytes lie within the reach. -/
theorem act_of_trod2 {n : Nat} {cs : List Value} {y : DataW H × List MemPlace} {sp : Nat → Bool} {hd : Bool} (h : DataW.trod enc Try.prog W 0 sp hd n 35 cs = some y) (hw : ∀ m ∈ y.1.weights Try.prog 35, m ≤ reachBytes) :
    ∃ a : Act', cs = (actArr a).toList ∧ ((0 ≤ a.at_ ∧ a.at_ ≤ 4294967295) ∧ 0 ≤ a.w ∧ a.w ≤ 4294967295) ∧ ∃ bs, BSl W a.by_ bs ∧ bs.length ≤ 140737488351232 := by
  obtain ⟨a, rfl, h1, h2, h3⟩ := act_of_trod h
  obtain ⟨xs, m, _, hy, hl, hx, hf⟩ := DataW.trod_struct Try.underlying35 h
  have hxl : xs.length = 5 := by rw [hx]; rfl
  have f4 : DataW.trod enc Try.prog W 0 sp hd m 33 (((actArr a).toList.drop 4).take (Try.prog.cellsOf 33)) = xs[4]? := hf 4 _ rfl
  rw [List.getElem?_eq_getElem (by omega), cells33] at f4
  have f4' : DataW.trod enc Try.prog W 0 sp hd m 33 [a.by_] = some xs[4] := f4
  obtain ⟨bs, hbs⟩ := bsl_in f4'
  refine ⟨a, rfl, ⟨h1, h2, h3⟩, bs, hbs, ?_⟩
  obtain ⟨A, cap, hv, _⟩ := hbs
  rw [hv] at f4'
  have hmem : ∀ m ∈ xs[4].1.weights Try.prog 33, m ≤ reachBytes := fun m hm => by
    refine hw m ?_
    rw [hy]
    simp only [DataW.weights, Try.underlying35]
    exact DataW.weights_mem_each (j := 4) (t := 33) (d := xs[4].1) rfl (by rw [List.getElem?_map, List.getElem?_eq_getElem (by omega)]; rfl) m hm
  have := slice_reach Try.underlying33 f4' hmem
  have b5 : Try.prog.bytesOf 5 = 1 := by kernel_rfl
  rw [b5] at this
  unfold reachBytes at this
  omega
/-- The slice of acts that came in, with their bytes. -/
theorem aslice_in2 {fuel : Nat} {v : Value} {x : DataW H × List MemPlace} (h : DataW.trod enc Try.prog W 0 (fun _ => true) true fuel 23 [v] = some x) (hw : ∀ m ∈ x.1.weights Try.prog 23, m ≤ reachBytes) : ∃ as_, ASlice W v as_ ∧ ∀ a ∈ as_, ∃ bs, BSl W a.by_ bs ∧ bs.length ≤ 140737488351232 := by
  rcases DataW.trod_slice Try.underlying23 h with ⟨hcs, _⟩ | ⟨a, len, cap, elems, rest, n, _, hcs, hx, _, hl, hm, hlen, hel, _, _⟩
  · obtain rfl : v = .slice none 0 0 := by simpa using hcs
    exact ⟨[], ⟨none, 0, rfl, by simp, by decide, (fun r hr => by cases hr), fun h => absurd rfl h⟩, fun a ha => by cases ha⟩
  · obtain rfl : v = .slice (some a) len cap := by simpa using hcs
    rw [cells35] at hel
    have each : ∀ i, i < len → ∃ r : Act', W.cells? 0 (a.add (i * 5)) 5 = some (actArr r).toList ∧ ((0 ≤ r.at_ ∧ r.at_ ≤ 4294967295) ∧ 0 ≤ r.w ∧ r.w ≤ 4294967295) ∧ ∃ bs, BSl W r.by_ bs ∧ bs.length ≤ 140737488351232 := by
      intro i hi
      have h1 := hel i hi
      have hil : i < elems.length := by omega
      rw [List.getElem?_eq_getElem hil] at h1
      obtain ⟨cs, hc, ht⟩ := Option.bind_eq_some_iff.1 h1
      obtain ⟨r, rfl, hs, hb⟩ := act_of_trod2 ht (fun m hm' => hw m (by
        rw [hx]
        simp only [DataW.weights, Try.underlying23]
        refine List.mem_cons_of_mem _ (List.mem_append_left _ (weightsAll_mem (d := elems[i].1) ?_ m hm'))
        exact List.mem_map.2 ⟨elems[i], List.getElem_mem hil, rfl⟩))
      exact ⟨r, hc, hs, hb⟩
    obtain ⟨rs, hrl, hrs⟩ := list_of_each len each
    refine ⟨rs, ⟨some a, cap, by rw [hrl], by omega, hm, fun r hr => ?_, fun hne => ?_⟩, fun r hr => ?_⟩
    · obtain ⟨i, hi, rfl⟩ := List.getElem_of_mem hr
      exact (hrs i hi).2.1
    · have hpos : 0 < rs.length := List.length_pos_iff.2 hne
      obtain ⟨b, off, spot⟩ := a
      have h00 := (World.cells?_some (hrs 0 hpos).1).2.2 0 (by decide)
      rw [Nat.zero_mul] at h00
      have hspot : spot = none := by simpa [Addr.add] using World.cell?_spot (h00.trans rfl)
      subst hspot
      refine ⟨b, off, rfl, cell_lt (a := ⟨b, off, none⟩) (h00.trans rfl), fun i hi j u hj => ?_⟩
      have hj5 : j < 5 := by
        rcases Nat.lt_or_ge j 5 with h | h
        · exact h
        · rw [Array.getElem?_eq_none (by simpa [actArr] using h)] at hj; cases hj
      have h1 := (World.cells?_some (hrs i hi).1).2.2 j hj5
      rw [addr_add, addr_add] at h1
      rw [h1]
      simpa using hj
    · obtain ⟨i, hi, rfl⟩ := List.getElem_of_mem hr
      exact (hrs i hi).2.2
end
theorem readable5 : ∀ t ∈ Try.f5.params.toList, Try.prog.readableRec t = true ∧ t < Try.prog.types.size := by
  rw [Try.params5]
  intro t ht
  rcases List.mem_cons.1 ht with rfl | ht
  · exact ⟨by kernel_rfl, of_decide_eq_true (by kernel_rfl)⟩
  rcases List.mem_cons.1 ht with rfl | ht
  · exact ⟨by kernel_rfl, of_decide_eq_true (by kernel_rfl)⟩
  cases ht
set_option maxRecDepth 100000 in
theorem lifted5 (os : Os) (started : os.Started) (H : Type) (enc : TypeId × Value → H) :
    ReturnsInHanded {} Try.checked os 5 .any (Rows.memPlaysSpec.pre6 enc Try.prog Try.f5 Rows.memPlaysRow.domain false) (Rows.memPlaysSpec.post enc Try.prog Try.f5 false true false false) := by
  refine returnsInHanded_of_change_sized (C := Try.checked) own started (by kernel_rfl) Try.func5
    (ChangeSpec.witness6 (enc := enc) (C := Try.checked) false ⟨#[], #[.slice none 0 0, .slice none 0 0], []⟩ 8 (by kernel_rfl) (by kernel_rfl) (by kernel_rfl) (by kernel_rfl)) ?_
  intro W base args ds gs before hval0 hW hcnd hsz _
  have hval : ∀ (j : Nat) t v, Try.f5.params[j]? = some t → args[j]? = some v → Value.okWide Try.prog W .any base t v := hval0
  have hW' : DataW.Whole enc Try.prog Try.f5.params.toList Rows.memPlaysSpec.vars false W args.toList ds gs before := hW
  obtain ⟨p, q, hA0, hV, rfl, hfz, hnd⟩ := hW
  have hA : DataW.TrodAll enc Try.prog W 0 (fun _ => true) true Try.f5.params.toList args.toList ds p := hA0
  have hwt : ∀ (j : Nat) (t : TypeId) (d : DataW H), (Try.f5.params.toList ++ Rows.memPlaysSpec.plain.varTypes Try.prog)[j]? = some t → (ds ++ gs)[j]? = some d → ∀ m ∈ d.weights Try.prog t, m ≤ reachBytes := fun j t d h1 h2 m hm => by
    have := List.all_eq_true.1 hsz m (DataW.weights_mem_each h1 h2 m hm)
    simpa using this
  rw [Try.params5] at hA hval hwt
  obtain ⟨v0, vs0, d0, ds0, p0, q0, hargs, rfl, rfl, h0, r0⟩ := trodAll_cons hA
  obtain ⟨v1, vs1, d1, ds1, p1, q1, rfl, rfl, rfl, h1, r1⟩ := trodAll_cons r0
  obtain ⟨rfl, rfl, rfl⟩ := trodAll_nil r1
  obtain rfl : args = #[v0, v1] := by cases args; simp_all
  obtain ⟨fuel0, hf0⟩ := h0
  obtain ⟨fuel1, hf1⟩ := h1
  obtain ⟨a0, len0, cap0, rfl⟩ := okWide_slice Try.underlying22 (hval 0 22 v0 rfl rfl)
  obtain ⟨a1, len1, cap1, rfl⟩ := okWide_slice Try.underlying23 (hval 1 23 v1 rfl rfl)
  have s0 := slice_reach Try.underlying22 hf0 (hwt 0 22 d0 rfl rfl)
  obtain ⟨rs, hrs⟩ := rslice_in hf0
  obtain ⟨as_, has, hby⟩ := aslice_in2 hf1 (hwt 1 23 d1 rfl rfl)
  have hlen : rs.length * 40 ≤ 140737488351232 := by
    obtain ⟨A', cap', hv, _⟩ := hrs
    simp only [Value.slice.injEq] at hv
    rw [← hv.2.1]
    have b30 : Try.prog.bytesOf 30 = 40 := by kernel_rfl
    rw [b30] at s0
    exact s0
  refine (plays_any _ _ rs as_ W hrs has hby hlen).mono fun e W' ⟨he, hb⟩ => ?_
  subst he
  exact ⟨_, rfl, post_law laidOut readable5 (tb := 4) (by kernel_rfl) Try.underlying4 rfl (fun es hes => by
    rw [Try.params5] at hes
    match es, hes with
    | [_, _], _ => rfl) hW' hb⟩
theorem mem_plays : Rows.MemPlaysSaid :=
  OpenClaim.holds_of_wide 5 Try.f5 rfl rfl rfl rfl rfl rfl rfl ⟨rfl, rfl, rfl, rfl, rfl⟩ rfl rfl rfl rfl rfl (by kernel_rfl) Try.func5 (by kernel_rfl)
    (of_decide_eq_true (by kernel_rfl)) (by unfold Func.isWrapper; first | (rw [if_pos (by decide +kernel)]; kernel_rfl) | (rw [if_neg (by decide +kernel)]; exact ⟨rfl, rfl⟩))
    (fun os started H enc _ => lifted5 os started H enc)
#print axioms mem_plays
end Go.Proofs.Ytbffclcjhcbejaa

/- Plain: what Link comes to; a layout is right; the law's fixed object linked. Conditions: what each theorem states. -/
import Derived.Test.YteoglkofeogknaaGreatDoorY3
import Derived.Test.YteoglkofeogknaaGreatDoorYE
set_option linter.unusedVariables false
set_option linter.unusedSimpArgs false
namespace Go.Proofs.YteoglkofeogknaaGreatDoor
open Go.RowKit
/-- A relocation lies in its section. -/
def RelIn (o : Ob) (x : Rel) : Prop := 0 ≤ x.sec ∧ x.sec ≤ 1 ∧ 0 ≤ x.at_ ∧ x.at_ + 4 ≤ ((o.sec x.sec).length : Int) ∧ 0 ≤ x.add ∧ x.add ≤ 65535
theorem relIn_of {o : Ob} (h : chkO o = 0) : ∀ x ∈ o.rl, RelIn o x := fun x hx => by
  obtain ⟨_, h1, h2⟩ := chk_ok h
  obtain ⟨k, hk, rfl⟩ := List.mem_iff_getElem.1 hx
  have hb := rng_all h2 hk
  unfold badR at hb
  have e : o.rl.getD k default = o.rl[k] := by simp [List.getD, hk]
  rw [e, Bool.or_eq_false_iff] at hb
  have hf : fitsP o o.rl[k] = true := by simpa using hb.1
  unfold fitsP at hf
  cases hr : relBad (o.sec o.rl[k].sec).length o.rl[k] with
  | true => rw [hr] at hf; simp at hf
  | false =>
    unfold relBad at hr
    simp at hr
    unfold RelIn
    omega
theorem relIn_step {J o : Ob} (hJ : ∀ x ∈ J.rl, RelIn J x) (ho : ∀ x ∈ o.rl, RelIn o x) : ∀ x ∈ (jstep J o).rl, RelIn (jstep J o) x := fun x hx => by
  rcases List.mem_append.1 hx with hx | hx
  · obtain ⟨a1, a2, a3, a4, a5, a6⟩ := hJ x hx
    obtain ⟨b1, b2⟩ := sec_step J o x.sec
    refine ⟨a1, a2, a3, ?_, a5, a6⟩
    omega
  · obtain ⟨y, hy, rfl⟩ := List.mem_map.1 hx
    obtain ⟨a1, a2, a3, a4, a5, a6⟩ := ho y hy
    obtain ⟨b1, b2⟩ := sec_step J o y.sec
    show 0 ≤ y.sec ∧ y.sec ≤ 1 ∧ 0 ≤ y.at_ + _ ∧ y.at_ + _ + 4 ≤ (((jstep J o).sec y.sec).length : Int) ∧ 0 ≤ y.add ∧ y.add ≤ 65535
    by_cases h : y.sec = 0
    · simp only [if_pos h] at *; omega
    · simp only [if_neg h] at *; omega
theorem relIn_fold : ∀ (os : List Ob) (J : Ob), (∀ x ∈ J.rl, RelIn J x) → (∀ o ∈ os, ∀ x ∈ o.rl, RelIn o x) → ∀ x ∈ (os.foldl jstep J).rl, RelIn (os.foldl jstep J) x
  | [], _, h, _ => h
  | o :: os, J, h, ho => relIn_fold os (jstep J o) (relIn_step h (ho o (by simp))) (fun x hx => ho x (by simp [hx]))
theorem jres_in {os : List Ob} {J : Ob} {f1 : Int} (h : jres os = (J, f1, 0)) : ∀ x ∈ J.rl, RelIn J x := fun x hx => by
  obtain ⟨rfl, _, h3⟩ := jres_zero h
  exact relIn_fold os _ (fun x hx => by cases hx) (fun o ho => relIn_of (h3 o ho)) x (ordRs_mem hx)
/-- Where the ranges of a layout lie. -/
theorem layAt_in : ∀ (l : List Rng) (a : Int), (∀ r ∈ l, 0 ≤ r.sz) → ∀ r ∈ layAt a l, a ≤ r.fr ∧ 0 ≤ r.sz ∧ r.fr + r.sz ≤ a + sumR l
  | [], _, _, r, h => by cases h
  | x :: l, a, h0, r, h => by
    have hx := upI_le (h0 x List.mem_cons_self)
    have hx0 := h0 x List.mem_cons_self
    have hs := sumR_nonneg (l := l) (fun r hr => h0 r (List.mem_cons_of_mem _ hr))
    rw [sumR_cons]
    rcases List.mem_cons.1 h with h | h
    · subst h
      dsimp only
      omega
    · obtain ⟨i1, i2, i3⟩ := layAt_in l (a + upI x.sz) (fun r hr => h0 r (List.mem_cons_of_mem _ hr)) r h
      omega
theorem layBad_sum {J : Ob} {ex : List Rng} (h : layBad J ex = false) : sumR (allR J ex) ≤ 1048576 ∧ ex.length + 2 ≤ 16 := by
  unfold layBad at h
  simp at h
  rw [allR_len] at h
  exact ⟨by omega, by omega⟩
theorem allR_sz {J : Ob} {ex : List Rng} (hx : ∀ r ∈ ex, 0 ≤ r.sz) : ∀ r ∈ allR J ex, 0 ≤ r.sz := fun r hr => by
  unfold allR at hr
  rcases List.mem_cons.1 hr with h | h
  · subst h; dsimp only; omega
  · rcases List.mem_cons.1 h with h | h
    · subst h; dsimp only; omega
    · exact hx r h
theorem layR_in {J : Ob} {ex : List Rng} (hx : ∀ r ∈ ex, 0 ≤ r.sz) (h : layBad J ex = false) : ∀ r ∈ layR J ex, 4096 ≤ r.fr ∧ 0 ≤ r.sz ∧ r.fr + r.sz ≤ 1052672 := fun r hr => by
  obtain ⟨h1, h2, h3⟩ := layAt_in _ _ (allR_sz hx) r hr
  have := (layBad_sum h).1
  omega
/-- What names stand for. -/
def NF (J : Ob) (R : List Rng) : ByteArray → Option Value := nameF (nameL J R ++ nameR R)
theorem NF_val {J : Ob} {ex : List Rng} (hx : ∀ r ∈ ex, 0 ≤ r.sz) (h : layBad J ex = false) (hl : ∀ x ∈ J.lb, (x.sec = 0 ∨ x.sec = 1) ∧ 0 ≤ x.at_ ∧ x.at_ ≤ 1048576) {s : ByteArray} {v : Value} (hv : NF J (layR J ex) s = some v) : ∃ x : Int, v = .int .i64 x ∧ 0 ≤ x ∧ x ≤ 16777216 := by
  obtain ⟨y, hy, _, rfl⟩ := putsF_val _ _ _ _ _ hv
  refine ⟨y.2, rfl, ?_⟩
  rcases List.mem_append.1 hy with hy | hy
  · obtain ⟨x, hx2, rfl⟩ := List.mem_map.1 hy
    obtain ⟨a1, a2, a3⟩ := hl x hx2
    have hlen := layR_len J ex
    have hm : (layR J ex).getD x.sec.toNat default ∈ layR J ex := by
      have : x.sec.toNat < (layR J ex).length := by rw [hlen]; omega
      simp [List.getD, this]
    obtain ⟨b1, b2, b3⟩ := layR_in hx h _ hm
    dsimp only
    omega
  · obtain ⟨r, hr, hy⟩ := List.mem_flatMap.1 hy
    obtain ⟨b1, b2, b3⟩ := layR_in hx h r (List.mem_of_mem_drop hr)
    rcases List.mem_cons.1 hy with hy | hy
    · subst hy; dsimp only; omega
    · rcases List.mem_cons.1 hy with hy | hy
      · subst hy; dsimp only; omega
      · cases hy
/-- The sections behind i relocations. -/
def lkS (J : Ob) (F : ByteArray → Option Value) : Nat → List UInt8 × List UInt8
  | 0 => (J.tx, J.dt)
  | i + 1 =>
    if (J.rl.getD i default).sec = 1 then ((lkS J F i).1, set4 (lkS J F i).2 (J.rl.getD i default).at_.toNat (wB (putR (valI (F (J.rl.getD i default).nm)) (J.rl.getD i default) 4096 (lkS J F i).2).2))
    else (set4 (lkS J F i).1 (J.rl.getD i default).at_.toNat (wB (putR (valI (F (J.rl.getD i default).nm)) (J.rl.getD i default) 4096 (lkS J F i).1).2), (lkS J F i).2)
/-- The code of the i-th relocation. -/
def lkE (J : Ob) (F : ByteArray → Option Value) (i : Nat) : Int :=
  (putR (valI (F (J.rl.getD i default).nm)) (J.rl.getD i default) 4096 (if (J.rl.getD i default).sec = 1 then (lkS J F i).2 else (lkS J F i).1)).1
/-- Is a name the place of a label in text? -/
def entOK (J : Ob) (s : ByteArray) : Bool := match placeF J.lb s with
  | some (Value.agg cs) => (match cs[1]? with | some (Value.int _ x) => decide (x = 0) | _ => false)
  | _ => false
/-- What Link answers: the fault. -/
noncomputable def lkF (entry : ByteArray) (ex : List Rng) (os : List Ob) : Int × Int :=
  if (stF ex os).2 ≠ 0 then stF ex os
  else match (List.range (jres os).1.rl.length).find? fun i => lkE (jres os).1 (NF (jres os).1 (layR (jres os).1 ex)) i != 0 with
    | some i => ((i : Int), lkE (jres os).1 (NF (jres os).1 (layR (jres os).1 ex)) i)
    | none => if entOK (jres os).1 entry then (0, 0) else (0, 4)
/-- .. and the fills. -/
noncomputable def lkP (ex : List Rng) (os : List Ob) : List (Int × List UInt8) :=
  (if (lkS (jres os).1 (NF (jres os).1 (layR (jres os).1 ex)) (jres os).1.rl.length).1 = [] then [] else [(((layR (jres os).1 ex).getD 0 default).fr, (lkS (jres os).1 (NF (jres os).1 (layR (jres os).1 ex)) (jres os).1.rl.length).1)]) ++
  (if (lkS (jres os).1 (NF (jres os).1 (layR (jres os).1 ex)) (jres os).1.rl.length).2 = [] then [] else [(((layR (jres os).1 ex).getD 1 default).fr, (lkS (jres os).1 (NF (jres os).1 (layR (jres os).1 ex)) (jres os).1.rl.length).2)])
theorem lkS_len {J : Ob} {F : ByteArray → Option Value} (h : ∀ x ∈ J.rl, RelIn J x) : ∀ i, i ≤ J.rl.length → (lkS J F i).1.length = J.tx.length ∧ (lkS J F i).2.length = J.dt.length
  | 0, _ => ⟨rfl, rfl⟩
  | i + 1, hi => by
    obtain ⟨h1, h2⟩ := lkS_len h i (by omega)
    have hil : i < J.rl.length := by omega
    have e : J.rl.getD i default = J.rl[i] := by simp [List.getD, hil]
    obtain ⟨a1, a2, a3, a4, _⟩ := h J.rl[i] (List.getElem_mem _)
    show (if (J.rl.getD i default).sec = 1 then _ else _ : List UInt8 × List UInt8).1.length = _ ∧ (if (J.rl.getD i default).sec = 1 then _ else _ : List UInt8 × List UInt8).2.length = _
    rw [e]
    unfold Ob.sec at a4
    by_cases hs : J.rl[i].sec = 1
    · rw [if_pos hs]
      rw [if_neg (by omega)] at a4
      refine ⟨h1, ?_⟩
      rw [set4_len (by omega) rfl]
      exact h2
    · rw [if_neg hs]
      rw [if_pos (by omega)] at a4
      refine ⟨?_, h2⟩
      rw [set4_len (by omega) rfl]
      exact h1
/-- But at the relocations the bytes are as they were. -/
theorem lkS_far {J : Ob} {F : ByteArray → Option Value} (h : ∀ x ∈ J.rl, RelIn J x) : ∀ i, i ≤ J.rl.length → ∀ k : Nat,
    ((∀ x ∈ J.rl, x.sec = 0 → (k : Int) < x.at_ ∨ x.at_ + 4 ≤ (k : Int)) → (lkS J F i).1[k]? = J.tx[k]?) ∧ ((∀ x ∈ J.rl, x.sec = 1 → (k : Int) < x.at_ ∨ x.at_ + 4 ≤ (k : Int)) → (lkS J F i).2[k]? = J.dt[k]?)
  | 0, _, _ => ⟨fun _ => rfl, fun _ => rfl⟩
  | i + 1, hi, k => by
    obtain ⟨h1, h2⟩ := lkS_far h i (by omega) k
    obtain ⟨l1, l2⟩ := lkS_len (F := F) h i (by omega)
    have hil : i < J.rl.length := by omega
    have e : J.rl.getD i default = J.rl[i] := by simp [List.getD, hil]
    have hm : J.rl[i] ∈ J.rl := List.getElem_mem _
    obtain ⟨a1, a2, a3, a4, _⟩ := h J.rl[i] hm
    show (_ → (if (J.rl.getD i default).sec = 1 then _ else _ : List UInt8 × List UInt8).1[k]? = _) ∧ (_ → (if (J.rl.getD i default).sec = 1 then _ else _ : List UInt8 × List UInt8).2[k]? = _)
    rw [e]
    unfold Ob.sec at a4
    by_cases hs : J.rl[i].sec = 1
    · rw [if_pos hs]
      rw [if_neg (by omega)] at a4
      refine ⟨h1, fun hk => ?_⟩
      have := hk _ hm hs
      rw [set4_far (by omega) rfl (by omega)]
      exact h2 hk
    · rw [if_neg hs]
      rw [if_pos (by omega)] at a4
      refine ⟨fun hk => ?_, h2⟩
      have := hk _ hm (by omega)
      rw [set4_far (by omega) rfl (by omega)]
      exact h1 hk
end Go.Proofs.YteoglkofeogknaaGreatDoor
set_option linter.unusedVariables false
set_option linter.unusedSimpArgs false
namespace Go.Proofs.YteoglkofeogknaaGreatDoor
open Go.RowKit
theorem sumR_mod : ∀ l : List Rng, sumR l % 16 = 0
  | [] => rfl
  | r :: l => by
    have h := sumR_mod l
    rw [sumR_cons]
    have : upI r.sz % 16 = 0 := by unfold upI; omega
    omega
theorem sumR_mono {l : List Rng} (h : ∀ r ∈ l, 0 ≤ r.sz) {a b : Nat} (hab : a ≤ b) : sumR (l.take a) ≤ sumR (l.take b) := by
  have e : l.take a = (l.take b).take a := by rw [List.take_take, Nat.min_eq_left hab]
  rw [e]
  exact sumR_take_le (fun r hr => h r (List.mem_of_mem_take hr)) a
theorem allR_names (J : Ob) (ex : List Rng) : (allR J ex).map Rng.nm = [textS, dataS] ++ ex.map Rng.nm := rfl
/-- No two ranges have one name. -/
theorem allR_apart {J : Ob} {ex : List Rng} (hE : (List.range ex.length).any (fun i => exAt J ex i != 0) = false) {j k : Nat} (hk : k < (allR J ex).length) (hj : j < k) : (allR J ex)[j].nm ≠ (allR J ex)[k].nm := by
  match k, hk with
  | 0, _ => omega
  | 1, _ =>
    obtain rfl : j = 0 := by omega
    show textS ≠ dataS
    decide
  | i + 2, hk =>
    have hi : i < ex.length := by rw [allR_len] at hk; omega
    obtain ⟨_, _, _, _, _, _, hs⟩ := exBad_zero (ex_right hE hi)
    unfold seenB at hs
    rw [List.any_eq_false] at hs
    intro e
    have e2 : (allR J ex)[i + 2] = ex[i] := rfl
    rw [e2] at e
    have hm : (allR J ex)[j].nm ∈ [textS, dataS] ++ (ex.take i).map Rng.nm := by
      match j, hj with
      | 0, _ => exact List.mem_cons_self
      | 1, _ => exact List.mem_cons_of_mem _ List.mem_cons_self
      | j + 2, hj =>
        refine List.mem_append.2 (Or.inr (List.mem_map.2 ⟨ex[j]'(by omega), ?_, rfl⟩))
        exact List.mem_take_iff_getElem.2 ⟨j, by omega, rfl⟩
    have := hs _ hm
    simp [e] at this
theorem allR_nameB {J : Ob} {ex : List Rng} (hE : (List.range ex.length).any (fun i => exAt J ex i != 0) = false) : ∀ r ∈ allR J ex, nameB r.nm = true := fun r hr => by
  unfold allR at hr
  rcases List.mem_cons.1 hr with h | h
  · subst h; rfl
  · rcases List.mem_cons.1 h with h | h
    · subst h; rfl
    · obtain ⟨i, hi, rfl⟩ := List.mem_iff_getElem.1 h
      exact (exBad_zero (ex_right hE hi)).2.2.2.1
theorem layR_at {J : Ob} {ex : List Rng} {k : Nat} (hk : k < (allR J ex).length) (h2 : k < (layR J ex).length) : (layR J ex)[k] = ⟨(allR J ex)[k].nm, 4096 + sumR ((allR J ex).take k), upI (allR J ex)[k].sz, (allR J ex)[k].wr, (allR J ex)[k].ex⟩ := layAt_get hk h2
theorem chk_layR {J : Ob} {ex : List Rng} (hE : (List.range ex.length).any (fun i => exAt J ex i != 0) = false) (hb : layBad J ex = false) : chkR (layR J ex) = 0 ∧ ∀ r ∈ layR J ex, r.Ok := by
  obtain ⟨hs, hl⟩ := layBad_sum hb
  have h0 := allR_sz (J := J) (fun r hr => (ex_sizes hE r hr).1)
  have hlen := layR_len J ex
  have hall : ∀ k, k < (layR J ex).length → okAt (layR J ex) k = true := fun k hk => by
    have hk2 : k < (allR J ex).length := by rw [allR_len]; omega
    rw [okAt_lt hk, Bool.and_eq_true, layR_at hk2 hk]
    have hsn := sumR_snoc hk2
    have hle := sumR_take_le h0 (k + 1)
    have hn := sumR_nonneg (l := (allR J ex).take k) (fun r hr => h0 r (List.mem_of_mem_take hr))
    have hm := sumR_mod ((allR J ex).take k)
    have hz := h0 _ (List.getElem_mem hk2)
    have hu := upI_le hz
    refine ⟨?_, ?_⟩
    · unfold rngB
      rw [allR_nameB hE _ (List.getElem_mem hk2)]
      simp
      omega
    · rw [Bool.not_eq_true', List.any_eq_false]
      intro o ho
      obtain ⟨j, hj, rfl⟩ := List.mem_take_iff_getElem.1 ho
      have hj1 : j < k := by omega
      have hj2 : j < (allR J ex).length := by omega
      rw [layR_at hj2 (by omega)]
      have hsj := sumR_snoc hj2
      have hmo := sumR_mono h0 (show j + 1 ≤ k by omega)
      have hzj := h0 _ (List.getElem_mem hj2)
      have huj := upI_le hzj
      have hne := allR_apart hE hk2 hj1
      unfold clash meetsB
      have hne2 : ¬ ((allR J ex)[j].nm.toList == (allR J ex)[k].nm.toList) = true := by
        intro h
        have h := eq_of_beq h
        refine hne (ByteArray.ext (Array.toList_inj.1 ?_))
        simpa [ByteArray.toList_eq] using h
      have h4 : ¬ (4096 + sumR ((allR J ex).take k) < 4096 + sumR ((allR J ex).take j) + upI (allR J ex)[j].sz) := by omega
      simp [hne2]
      intro _ _ h
      omega
  have hl2 : (layR J ex).length ≤ 16 := by omega
  refine ⟨?_, fun r hr => ?_⟩
  · unfold chkR
    rw [if_neg (by omega), if_pos]
    unfold chkAll
    rw [List.all_eq_true]
    intro k hk
    exact hall k (List.mem_range.1 hk)
  · obtain ⟨k, hk, rfl⟩ := List.mem_iff_getElem.1 hr
    have h := hall k hk
    rw [okAt_lt hk, Bool.and_eq_true] at h
    exact rngB_ok h.1
theorem sumZ_layAt : ∀ (a : Int) (l : List Rng), sumZ (layAt a l) = sumR l
  | _, [] => rfl
  | a, r :: l => by
    have h := sumZ_layAt (a + upI r.sz) l
    show sumZ (_ :: layAt (a + upI r.sz) l) = _
    unfold sumZ at h ⊢
    rw [List.map_cons, List.sum_cons, h, sumR_cons]
theorem sumZ_layR {J : Ob} {ex : List Rng} (hb : layBad J ex = false) : sumZ (layR J ex) ≤ 1048576 := by
  unfold layR
  rw [sumZ_layAt]
  exact (layBad_sum hb).1
theorem layR_0 (J : Ob) (ex : List Rng) : (layR J ex).getD 0 default = ⟨textS, 4096, upI J.tx.length, false, true⟩ := rfl
theorem layR_1 (J : Ob) (ex : List Rng) : (layR J ex).getD 1 default = ⟨dataS, 4096 + upI J.tx.length, upI J.dt.length, true, false⟩ := rfl
theorem stF_zero {ex : List Rng} {os : List Ob} {J : Ob} {f3 f1 : Int} (hJ : jres os = (J, f3, 0)) (h : stF ex os = (f1, 0)) : (List.range ex.length).any (fun i => exAt J ex i != 0) = false ∧ layBad J ex = false ∧ f1 = 0 := by
  unfold stF at h
  rw [hJ] at h
  simp only [ne_eq, not_true_eq_false, if_false] at h
  cases hf : (List.range ex.length).find? fun i => exAt J ex i != 0 with
  | some i =>
    rw [hf] at h
    have h2 := List.find?_some hf
    injection h with _ h
    rw [h] at h2
    simp at h2
  | none =>
    rw [hf] at h
    simp only at h
    cases hb : layBad J ex with
    | true =>
      rw [hb, if_pos rfl] at h
      injection h with _ h
      exact absurd h (by decide)
    | false =>
      rw [hb, if_neg (by decide)] at h
      injection h with h _
      refine ⟨?_, rfl, h.symm⟩
      rw [List.find?_eq_none] at hf
      rw [List.any_eq_false]
      exact hf
theorem layR_names {J : Ob} {ex : List Rng} (hE : (List.range ex.length).any (fun i => exAt J ex i != 0) = false) : ∀ r ∈ layR J ex, r.nm.size ≤ maxLen := fun r hr => by
  obtain ⟨k, hk, rfl⟩ := List.mem_iff_getElem.1 hr
  have hk2 : k < (allR J ex).length := by rw [allR_len]; rw [layR_len] at hk; omega
  rw [layR_at hk2 hk]
  have := nameB_size (allR_nameB hE _ (List.getElem_mem hk2))
  unfold maxLen
  dsimp only
  omega
theorem lkF_at {entry : ByteArray} {ex : List Rng} {os : List Ob} {J : Ob} {f3 f1 : Int} {i : Nat} (hJ : jres os = (J, f3, 0)) (h : stF ex os = (f1, 0)) (hi : i < J.rl.length) (hn : (List.range i).any (fun i => lkE J (NF J (layR J ex)) i != 0) = false) {c : Int} (hc : lkE J (NF J (layR J ex)) i = c) (hc0 : c ≠ 0) : lkF entry ex os = ((i : Int), c) := by
  unfold lkF
  rw [h, hJ]
  simp only [ne_eq, not_true_eq_false, if_false]
  rw [find_hit hi (by rw [hc]; simpa using hc0) hn]
  simp only [hc]
theorem lkF_end {entry : ByteArray} {ex : List Rng} {os : List Ob} {J : Ob} {f3 f1 : Int} (hJ : jres os = (J, f3, 0)) (h : stF ex os = (f1, 0)) (hn : (List.range J.rl.length).any (fun i => lkE J (NF J (layR J ex)) i != 0) = false) : lkF entry ex os = if entOK J entry then (0, 0) else (0, 4) := by
  unfold lkF
  rw [h, hJ]
  simp only [ne_eq, not_true_eq_false, if_false]
  rw [find_none hn]
end Go.Proofs.YteoglkofeogknaaGreatDoor
set_option linter.unusedVariables false
set_option linter.unusedSimpArgs false
namespace Go.Proofs.YteoglkofeogknaaGreatDoor
open Go.RowKit
def aS : ByteArray := ⟨#[97]⟩
def stS : ByteArray := ⟨#[115, 116, 97, 99, 107]⟩
def loopO : Ob := ⟨[0, 0, 0, 37], [0, 0, 0, 0], [⟨aS, 0, 0, true⟩], [⟨0, 0, 4, 0, aS⟩, ⟨1, 0, 1, 0, aS⟩]⟩
def stR : List Rng := [⟨stS, 0, 100, true, false⟩]
set_option maxRecDepth 100000 in
theorem loop_sym : symA aS = true := by kernel_rfl
set_option maxRecDepth 100000 in
theorem loop_dec : dcA 620756992 = (37, 0, 0, 0, 0, 0) := by kernel_rfl
set_option maxRecDepth 100000 in
theorem loop_fit : fitsP loopO ⟨0, 0, 4, 0, aS⟩ = true ∧ fitsP loopO ⟨1, 0, 1, 0, aS⟩ = true := ⟨by kernel_rfl, by kernel_rfl⟩
set_option maxRecDepth 100000 in
theorem loop_chk : chkO loopO = 0 := by kernel_rfl
set_option maxRecDepth 100000 in
theorem loop_join : jres [loopO] = (loopO, 0, 0) := by kernel_rfl
set_option maxRecDepth 100000 in
theorem loop_st : stF stR [loopO] = (0, 0) := by kernel_rfl
set_option maxRecDepth 100000 in
theorem loop_lay : (layR loopO stR).map (fun r => (r.nm, r.fr, r.sz, r.wr, r.ex)) = [(textS, 4096, 16, false, true), (dataS, 4112, 16, true, false), (stS, 4128, 112, true, false)] := by kernel_rfl
set_option maxRecDepth 100000 in
theorem loop_lk : lkF aS stR [loopO] = (0, 0) := by kernel_rfl
set_option maxRecDepth 100000 in
theorem loop_pl : lkP stR [loopO] = [(4096, [255, 255, 255, 37]), (4112, [0, 16, 0, 0])] := by kernel_rfl
set_option maxRecDepth 100000 in
theorem loop_en : NF loopO (layR loopO stR) aS = some (.int .i64 4096) := by kernel_rfl
set_option maxRecDepth 100000 in
theorem loop_nm : nameL loopO (layR loopO stR) ++ nameR (layR loopO stR) = [(aS, 4096), (stS, 4128), (endS stS, 4240)] := by kernel_rfl
set_option maxRecDepth 100000 in
theorem loop_lr : layR loopO stR = [⟨textS, 4096, 16, false, true⟩, ⟨dataS, 4112, 16, true, false⟩, ⟨stS, 4128, 112, true, false⟩] := by kernel_rfl
end Go.Proofs.YteoglkofeogknaaGreatDoor

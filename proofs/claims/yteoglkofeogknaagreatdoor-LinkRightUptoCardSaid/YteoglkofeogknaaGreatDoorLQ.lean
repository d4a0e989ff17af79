/- Plain: what link.start, lay, put and Link come to; what follows where Join and the extra ranges are right. Conditions: what each theorem states. -/
import Derived.Test.YteoglkofeogknaaGreatDoorX0
import Derived.Test.YteoglkofeogknaaGreatDoorQA
import Derived.Test.YteoglkofeogknaaGreatDoorDV
import Derived.Test.YteoglkofeogknaaGreatDoorPB
import Derived.Test.YteoglkofeogknaaGreatDoorMC
set_option linter.unusedVariables false
set_option linter.unusedSimpArgs false
namespace Go.Proofs.YteoglkofeogknaaGreatDoor
open Go.RowKit
def endS (s : ByteArray) : ByteArray := s ++ ⟨#[46, 101, 110, 100]⟩
def textS : ByteArray := ⟨#[116, 101, 120, 116]⟩
def dataS : ByteArray := ⟨#[100, 97, 116, 97]⟩
def Lbl.val (x : Lbl) : Value := .agg #[.string x.nm, .int .i64 x.sec, .int .i64 x.at_, .bool x.gl]
/-- A map that is written once for each of a list. -/
def putsF {α : Type} (key : α → ByteArray) (val : α → Value) : List α → ByteArray → Option Value
  | [] => fun _ => none
  | x :: xs => fun s => match putsF key val xs s with
    | some v => some v
    | none => if s = key x then some (val x) else none
theorem putsF_append {α : Type} (key : α → ByteArray) (val : α → Value) : ∀ (xs ys : List α) (s : ByteArray), putsF key val (xs ++ ys) s = (match putsF key val ys s with | some v => some v | none => putsF key val xs s)
  | [], ys, s => by
    simp only [List.nil_append]
    show _ = (match putsF key val ys s with | some v => some v | none => none)
    cases putsF key val ys s <;> rfl
  | x :: xs, ys, s => by
    simp only [List.cons_append]
    show (match putsF key val (xs ++ ys) s with | some v => some v | none => if s = key x then some (val x) else none) = _
    rw [putsF_append key val xs ys s]
    cases putsF key val ys s <;> rfl
theorem putsF_snoc {α : Type} (key : α → ByteArray) (val : α → Value) (xs : List α) (x : α) (s : ByteArray) : putsF key val (xs ++ [x]) s = if s = key x then some (val x) else putsF key val xs s := by
  rw [putsF_append]
  show (match (if s = key x then some (val x) else none) with | some v => some v | none => _) = _
  by_cases h : s = key x
  · rw [if_pos h, if_pos h]
  · rw [if_neg h, if_neg h]
theorem putsF_some {α : Type} (key : α → ByteArray) (val : α → Value) : ∀ (xs : List α) (s : ByteArray), (putsF key val xs s).isSome = xs.any (fun x => decide (s = key x))
  | [], s => rfl
  | x :: xs, s => by
    have ih := putsF_some key val xs s
    show (match putsF key val xs s with | some v => some v | none => if s = key x then some (val x) else none).isSome = _
    rw [List.any_cons, ← ih]
    by_cases h : s = key x
    · cases putsF key val xs s <;> simp [h]
    · have h2 : decide (s = key x) = false := by simpa using h
      cases putsF key val xs s <;> simp [h, h2]
theorem putsF_val {α : Type} (key : α → ByteArray) (val : α → Value) : ∀ (xs : List α) (s : ByteArray) (v : Value), putsF key val xs s = some v → ∃ x ∈ xs, s = key x ∧ v = val x
  | [], s, v, h => by cases h
  | x :: xs, s, v, h => by
    have h' : (match putsF key val xs s with | some v => some v | none => if s = key x then some (val x) else none) = some v := h
    cases hc : putsF key val xs s with
    | some u =>
      rw [hc] at h'
      injection h' with h'
      subst h'
      obtain ⟨y, hy, h1, h2⟩ := putsF_val key val xs s u hc
      exact ⟨y, List.mem_cons_of_mem _ hy, h1, h2⟩
    | none =>
      rw [hc] at h'
      by_cases h : s = key x
      · simp only [if_pos h] at h'
        injection h' with h'
        exact ⟨x, List.mem_cons_self, h, h'.symm⟩
      · simp only [if_neg h] at h'
        cases h'
/-- The labels' places. -/
def placeF (ls : List Lbl) : ByteArray → Option Value := putsF Lbl.nm Lbl.val ls
def isLab (J : Ob) (s : ByteArray) : Bool := J.lb.any fun x => decide (s = x.nm)
/-- Names that extra ranges ahead have, and those of text and data. -/
def seenF (ex : List Rng) : ByteArray → Option Value := putsF id (fun _ => .int .i64 1) ([textS, dataS] ++ ex.map Rng.nm)
def seenB (ex : List Rng) (s : ByteArray) : Bool := ([textS, dataS] ++ ex.map Rng.nm).any fun x => decide (s = x)
/-- What is wrong with an extra range: 5 its shape, 6 a name that is there already. -/
def exBad (J : Ob) (pre : List Rng) (r : Rng) : Int :=
  if r.fr ≠ 0 ∨ r.sz < 0 ∨ 1048576 < r.sz ∨ nameB r.nm = false then 1
  else if isLab J r.nm || isLab J (endS r.nm) || seenB pre r.nm then 6 else 0
instance : Inhabited Rng := ⟨⟨ByteArray.empty, 0, 0, false, false⟩⟩
def exAt (J : Ob) (ex : List Rng) (i : Nat) : Int := exBad J (ex.take i) (ex.getD i default)
/-- Ranges, one behind the other. -/
def layAt : Int → List Rng → List Rng
  | _, [] => []
  | a, r :: rs => ⟨r.nm, a, upI r.sz, r.wr, r.ex⟩ :: layAt (a + upI r.sz) rs
def allR (J : Ob) (ex : List Rng) : List Rng := ⟨textS, 0, J.tx.length, false, true⟩ :: ⟨dataS, 0, J.dt.length, true, false⟩ :: ex
def sumR (rs : List Rng) : Int := (rs.map fun r => upI r.sz).sum
def layR (J : Ob) (ex : List Rng) : List Rng := layAt 4096 (allR J ex)
def layBad (J : Ob) (ex : List Rng) : Bool := decide (1048576 < sumR (allR J ex)) || decide (16 < (allR J ex).length)
def layC (J : Ob) (ex : List Rng) : Int := if layBad J ex then 3 else 0
/-- What start answers: the fault's place, its code. -/
noncomputable def stF (ex : List Rng) (os : List Ob) : Int × Int :=
  if (jres os).2.2 ≠ 0 then (jres os).2
  else match (List.range ex.length).find? fun i => exAt (jres os).1 ex i != 0 with
    | some i => ((i : Int), exAt (jres os).1 ex i)
    | none => if layBad (jres os).1 ex then (0, 3) else (0, 0)
/-- What names stand for. -/
def nmOf (x : ByteArray × Int) : ByteArray := x.1
def nameL (J : Ob) (R : List Rng) : List (ByteArray × Int) := J.lb.map fun x => (x.nm, (R.getD x.sec.toNat default).fr + x.at_)
def nameR (R : List Rng) : List (ByteArray × Int) := (R.drop 2).flatMap fun r => [(r.nm, r.fr), (endS r.nm, r.fr + r.sz)]
def nameF (l : List (ByteArray × Int)) : ByteArray → Option Value := putsF (·.1) (fun x => .int .i64 x.2) l
theorem stF_at {ex : List Rng} {os : List Ob} {J : Ob} {f1 : Int} {i : Nat} (hJ : jres os = (J, f1, 0)) (hi : i < ex.length) (hE : (List.range i).any (fun i => exAt J ex i != 0) = false) {c : Int} (hc : exAt J ex i = c) (hne : c ≠ 0) : stF ex os = ((i : Int), c) := by
  unfold stF
  rw [hJ]
  simp only [ne_eq, not_true_eq_false, if_false]
  rw [find_hit hi (by rw [hc]; simpa using hne) hE]
  simp only [hc]
theorem stF_end {ex : List Rng} {os : List Ob} {J : Ob} {f1 : Int} (hJ : jres os = (J, f1, 0)) (hE : (List.range ex.length).any (fun i => exAt J ex i != 0) = false) : stF ex os = (0, layC J ex) := by
  unfold stF layC
  rw [hJ]
  simp only [ne_eq, not_true_eq_false, if_false]
  rw [find_none hE]
  simp only
  split <;> rfl
theorem nameF_snoc (l : List (ByteArray × Int)) (x : ByteArray × Int) (s : ByteArray) : nameF (l ++ [x]) s = if s = x.1 then some (.int .i64 x.2) else nameF l s := putsF_snoc _ _ _ _ _
theorem layAt_len : ∀ (a : Int) (l : List Rng), (layAt a l).length = l.length
  | _, [] => rfl
  | a, r :: rs => by simp [layAt, layAt_len (a + upI r.sz) rs]
theorem sumR_append (xs ys : List Rng) : sumR (xs ++ ys) = sumR xs + sumR ys := by unfold sumR; rw [List.map_append, List.sum_append]
theorem sumR_cons (r : Rng) (xs : List Rng) : sumR (r :: xs) = upI r.sz + sumR xs := by unfold sumR; rw [List.map_cons, List.sum_cons]
theorem sumR_snoc {l : List Rng} {i : Nat} (h : i < l.length) : sumR (l.take (i + 1)) = sumR (l.take i) + upI l[i].sz := by
  rw [List.take_succ_eq_append_getElem h, sumR_append, sumR_cons]
  unfold sumR
  simp
theorem layAt_append : ∀ (a : Int) (xs ys : List Rng), layAt a (xs ++ ys) = layAt a xs ++ layAt (a + sumR xs) ys
  | a, [], ys => by simp [layAt, sumR]
  | a, r :: xs, ys => by
    show _ :: layAt (a + upI r.sz) (xs ++ ys) = _ :: (layAt (a + upI r.sz) xs ++ _)
    rw [layAt_append (a + upI r.sz) xs ys, sumR_cons, Int.add_assoc]
theorem lay_get {a : Int} {l : List Rng} {i : Nat} (h : i < l.length) (h2 : i < (layAt a (l.take i) ++ l.drop i).length) : (layAt a (l.take i) ++ l.drop i)[i] = l[i] := by
  have hl : (layAt a (l.take i)).length = i := by rw [layAt_len, List.length_take]; omega
  rw [List.getElem_append_right (by omega)]
  simp [hl]
theorem lay_len {a : Int} {l : List Rng} {i : Nat} (h : i ≤ l.length) : (layAt a (l.take i) ++ l.drop i).length = l.length := by
  rw [List.length_append, layAt_len, List.length_take, List.length_drop]; omega
theorem lay_step {a : Int} {l : List Rng} {i : Nat} (h : i < l.length) : (layAt a (l.take i) ++ l.drop i).set i ⟨l[i].nm, a + sumR (l.take i), upI l[i].sz, l[i].wr, l[i].ex⟩ = layAt a (l.take (i + 1)) ++ l.drop (i + 1) := by
  have hl : (layAt a (l.take i)).length = i := by rw [layAt_len, List.length_take]; omega
  rw [List.take_succ_eq_append_getElem h, layAt_append, List.drop_eq_getElem_cons h, List.set_append_right _ _ (by omega), hl, Nat.sub_self, List.set_cons_zero, List.append_assoc]
  rfl
theorem layAt_get {a : Int} {l : List Rng} {i : Nat} (h : i < l.length) (h2 : i < (layAt a l).length) : (layAt a l)[i] = ⟨l[i].nm, a + sumR (l.take i), upI l[i].sz, l[i].wr, l[i].ex⟩ := by
  have e : layAt a l = layAt a (l.take (i + 1)) ++ layAt (a + sumR (l.take (i + 1))) (l.drop (i + 1)) := by rw [← layAt_append, List.take_append_drop]
  have e2 : layAt a (l.take (i + 1)) = layAt a (l.take i) ++ [⟨l[i].nm, a + sumR (l.take i), upI l[i].sz, l[i].wr, l[i].ex⟩] := by
    rw [List.take_succ_eq_append_getElem h, layAt_append]
    rfl
  have hl : (layAt a (l.take i)).length = i := by rw [layAt_len, List.length_take]; omega
  have h3 : (layAt a l)[i]? = some ⟨l[i].nm, a + sumR (l.take i), upI l[i].sz, l[i].wr, l[i].ex⟩ := by
    rw [e, e2, List.append_assoc, List.getElem?_append_right (by omega), hl, Nat.sub_self]
    rfl
  rw [List.getElem?_eq_getElem h2] at h3
  injection h3
theorem flatMap_take2 {α β : Type} (f : α → List β) (hf : ∀ x, (f x).length = 2) : ∀ (l : List α) (i : Nat) (h : i < l.length), (l.flatMap f).take (2 * (i + 1)) = (l.flatMap f).take (2 * i) ++ f l[i]
  | x :: l, 0, h => by
    rw [List.flatMap_cons]
    simp only [Nat.mul_zero, List.take_zero, List.nil_append, List.getElem_cons_zero]
    rw [List.take_append_of_le_length (by rw [hf]; omega), List.take_of_length_le (by rw [hf]; omega)]
  | x :: l, i + 1, h => by
    have ih := flatMap_take2 f hf l i (by simpa using h)
    rw [List.flatMap_cons, List.getElem_cons_succ]
    have e1 : 2 * (i + 1 + 1) = (f x).length + 2 * (i + 1) := by rw [hf]; omega
    have e2 : 2 * (i + 1) = (f x).length + 2 * i := by rw [hf]; omega
    rw [e1, List.take_length_add_append, ih]
    rw [e2, List.take_length_add_append, List.append_assoc]
theorem upI_le {n : Int} (h0 : 0 ≤ n) : n ≤ upI n ∧ upI n ≤ n + 15 ∧ upI n % 16 = 0 := by unfold upI; omega
theorem sumR_nonneg : ∀ {l : List Rng}, (∀ r ∈ l, 0 ≤ r.sz) → 0 ≤ sumR l
  | [], _ => by simp [sumR]
  | r :: l, h => by
    rw [sumR_cons]
    have := upI_le (h r List.mem_cons_self)
    have := sumR_nonneg (l := l) (fun r hr => h r (List.mem_cons_of_mem _ hr))
    have := h r List.mem_cons_self
    omega
theorem sumR_take_le {l : List Rng} (h : ∀ r ∈ l, 0 ≤ r.sz) (i : Nat) : sumR (l.take i) ≤ sumR l := by
  have e : sumR l = sumR (l.take i) + sumR (l.drop i) := by rw [← sumR_append, List.take_append_drop]
  have := sumR_nonneg (l := l.drop i) (fun r hr => h r (List.mem_of_mem_drop hr))
  omega
theorem allR_len (J : Ob) (ex : List Rng) : (allR J ex).length = ex.length + 2 := rfl
theorem layR_len (J : Ob) (ex : List Rng) : (layR J ex).length = ex.length + 2 := by unfold layR; rw [layAt_len, allR_len]
end Go.Proofs.YteoglkofeogknaaGreatDoor
set_option linter.unusedVariables false
set_option linter.unusedSimpArgs false
namespace Go.Proofs.YteoglkofeogknaaGreatDoor
open Go.RowKit
theorem jres_zero {os : List Ob} {J : Ob} {f1 : Int} (h : jres os = (J, f1, 0)) : J = ordO (joinO os) ∧ longO J = false ∧ ∀ o ∈ os, chkO o = 0 := by
  unfold jres at h
  cases h1 : (List.range os.length).find? (badAt os) with
  | some i =>
    rw [h1] at h
    have h2 := List.find?_some h1
    unfold badAt at h2
    injection h with _ h
    injection h with _ h
    rw [h] at h2
    simp at h2
  | none =>
    rw [h1] at h
    simp only at h
    cases h2 : (List.range os.length).find? (dupAt os) with
    | some i =>
      rw [h2] at h
      injection h with _ h
      injection h with _ h
      exact absurd h (by decide)
    | none =>
      rw [h2] at h
      simp only at h
      by_cases h3 : longO (ordO (joinO os)) = true
      · rw [if_pos h3] at h
        injection h with _ h
        injection h with _ h
        exact absurd h (by decide)
      · rw [if_neg h3] at h
        injection h with h _
        subst h
        refine ⟨rfl, by simpa using h3, all_right ?_⟩
        rw [List.find?_eq_none] at h1
        rw [List.any_eq_false]
        exact h1
theorem ordLs_mem {xs : List Lbl} {x : Lbl} (h : x ∈ ordLs xs 2) : x ∈ xs := by
  have e : ordLs xs 2 = ([] ++ filL 0 xs) ++ filL 1 xs := rfl
  rw [e, List.nil_append] at h
  rcases List.mem_append.1 h with h | h
  · exact (List.mem_filter.1 h).1
  · exact (List.mem_filter.1 h).1
theorem ordRs_mem {xs : List Rel} {x : Rel} (h : x ∈ ordRs xs 2) : x ∈ xs := by
  have e : ordRs xs 2 = ([] ++ filR 0 xs) ++ filR 1 xs := rfl
  rw [e, List.nil_append] at h
  rcases List.mem_append.1 h with h | h
  · exact (List.mem_filter.1 h).1
  · exact (List.mem_filter.1 h).1
theorem fold_lb {P : ByteArray → Prop} : ∀ (os : List Ob) (J : Ob), (∀ x ∈ J.lb, P x.nm) → (∀ o ∈ os, ∀ x ∈ o.lb, P x.nm) → ∀ x ∈ (os.foldl jstep J).lb, P x.nm
  | [], _, h, _ => h
  | o :: os, J, h, ho => fold_lb os (jstep J o) (fun x hx => by
      rcases List.mem_append.1 hx with hx | hx
      · exact h x hx
      · obtain ⟨y, hy, rfl⟩ := List.mem_map.1 hx
        exact ho o (by simp) y hy) (fun x hx => ho x (by simp [hx]))
theorem fold_rl {P : ByteArray → Prop} : ∀ (os : List Ob) (J : Ob), (∀ x ∈ J.rl, P x.nm) → (∀ o ∈ os, ∀ x ∈ o.rl, P x.nm) → ∀ x ∈ (os.foldl jstep J).rl, P x.nm
  | [], _, h, _ => h
  | o :: os, J, h, ho => fold_rl os (jstep J o) (fun x hx => by
      rcases List.mem_append.1 hx with hx | hx
      · exact h x hx
      · obtain ⟨y, hy, rfl⟩ := List.mem_map.1 hx
        exact ho o (by simp) y hy) (fun x hx => ho x (by simp [hx]))
theorem jres_names {os : List Ob} {J : Ob} {f1 : Int} (h : jres os = (J, f1, 0)) (hn : ∀ o ∈ os, NmOK o) : NmOK J := by
  obtain ⟨rfl, _, _⟩ := jres_zero h
  refine ⟨fun x hx => ?_, fun x hx => ?_⟩
  · exact fold_lb (P := fun s => s.size ≤ maxLen) os _ (fun x hx => by cases hx) (fun o ho => (hn o ho).1) x (ordLs_mem hx)
  · exact fold_rl (P := fun s => s.size ≤ maxLen) os _ (fun x hx => by cases hx) (fun o ho => (hn o ho).2) x (ordRs_mem hx)
/-- How big a joined object is. -/
theorem jres_size {os : List Ob} {J : Ob} {f1 : Int} (h : jres os = (J, f1, 0)) : J.tx.length ≤ 1048576 ∧ J.dt.length ≤ 1048576 ∧ J.lb.length ≤ 4096 ∧ J.rl.length ≤ 16384 := by
  obtain ⟨_, h2, _⟩ := jres_zero h
  unfold longO at h2
  simp at h2
  omega
theorem jres_lb {os : List Ob} {J : Ob} {f1 : Int} (h : jres os = (J, f1, 0)) : ∀ x ∈ J.lb, (x.sec = 0 ∨ x.sec = 1) ∧ 0 ≤ x.at_ ∧ x.at_ ≤ ((J.sec x.sec).length : Int) ∧ x.at_ ≤ 1048576 := fun x hx => by
  have hz := jres_size h
  obtain ⟨rfl, _, h3⟩ := jres_zero h
  obtain ⟨a1, a2, a3, a4⟩ := (rgt_join h3).lb x (ordLs_mem hx)
  have e : (ordO (joinO os)).sec x.sec = (joinO os).sec x.sec := rfl
  have h4 : ((joinO os).sec x.sec).length ≤ 1048576 := by unfold Ob.sec; split; exact hz.1; exact hz.2.1
  rw [e]
  omega
theorem jres_rl {os : List Ob} {J : Ob} {f1 : Int} (h : jres os = (J, f1, 0)) : ∀ x ∈ J.rl, (x.sec = 0 ∨ x.sec = 1) ∧ 0 ≤ x.at_ ∧ x.at_ ≤ ((J.sec x.sec).length : Int) := fun x hx => by
  obtain ⟨rfl, _, h3⟩ := jres_zero h
  obtain ⟨a1, a2, a3, a4⟩ := (rgt_join h3).rl x (ordRs_mem hx)
  have e : (ordO (joinO os)).sec x.sec = (joinO os).sec x.sec := rfl
  rw [e]
  omega
theorem seenF_get (ex : List Rng) (s : ByteArray) : (seenF ex s).getD (.int .i64 0) = .int .i64 (if seenB ex s then 1 else 0) := by
  have h1 : (seenF ex s).isSome = seenB ex s := putsF_some _ _ _ _
  cases h : seenF ex s with
  | none => rw [h] at h1; rw [← h1]; rfl
  | some v => obtain ⟨_, _, _, hv⟩ := putsF_val _ _ _ _ _ h; rw [h] at h1; rw [← h1, hv]; rfl
theorem seenF_snoc {ex : List Rng} {i : Nat} (h : i < ex.length) (s : ByteArray) : seenF (ex.take (i + 1)) s = if s = ex[i].nm then some (.int .i64 1) else seenF (ex.take i) s := by
  unfold seenF
  rw [List.take_succ_eq_append_getElem h, List.map_append, ← List.append_assoc]
  exact putsF_snoc _ _ _ _ _
theorem exBad_right {J : Ob} {pre : List Rng} {r : Rng} (q1 : r.fr = 0) (q2 : ¬ r.sz < 0) (q3 : ¬ 1048576 < r.sz) (q4 : nameB r.nm = true) : exBad J pre r = if ((placeF J.lb r.nm).isSome || (placeF J.lb (endS r.nm)).isSome || seenB pre r.nm) = true then 6 else 0 := by
  have h1 : (placeF J.lb r.nm).isSome = isLab J r.nm := putsF_some _ _ _ _
  have h2 : (placeF J.lb (endS r.nm)).isSome = isLab J (endS r.nm) := putsF_some _ _ _ _
  rw [h1, h2]
  unfold exBad
  rw [if_neg (by simp [q1, q2, q3, q4])]
theorem exBad_zero {J : Ob} {pre : List Rng} {r : Rng} (h : exBad J pre r = 0) : r.fr = 0 ∧ 0 ≤ r.sz ∧ r.sz ≤ 1048576 ∧ nameB r.nm = true ∧ isLab J r.nm = false ∧ isLab J (endS r.nm) = false ∧ seenB pre r.nm = false := by
  unfold exBad at h
  split at h
  · exact absurd h (by decide)
  · rename_i hs
    split at h
    · exact absurd h (by decide)
    · rename_i ht
      simp at ht hs
      obtain ⟨s1, s2, s3, s4⟩ := hs
      exact ⟨s1, s2, s3, s4, ht.1.1, ht.1.2, ht.2⟩
theorem nameB_size {s : ByteArray} (h : nameB s = true) : s.size ≤ 31 := by
  unfold nameB at h
  split at h
  · simp at h; omega
  · cases h
theorem ex_right {J : Ob} {ex : List Rng} (hE : (List.range ex.length).any (fun i => exAt J ex i != 0) = false) {i : Nat} (hi : i < ex.length) : exBad J (ex.take i) ex[i] = 0 := by
  have h := rng_all hE hi
  unfold exAt at h
  have e : ex.getD i default = ex[i] := by simp [List.getD, hi]
  rw [e] at h
  simpa using h
theorem ex_sizes {J : Ob} {ex : List Rng} (hE : (List.range ex.length).any (fun i => exAt J ex i != 0) = false) : ∀ r ∈ ex, 0 ≤ r.sz ∧ r.sz ≤ 1048576 ∧ r.nm.size ≤ 31 := fun r hr => by
  obtain ⟨i, hi, rfl⟩ := List.mem_iff_getElem.1 hr
  obtain ⟨_, a2, a3, a4, _⟩ := exBad_zero (ex_right hE hi)
  exact ⟨a2, a3, nameB_size a4⟩
end Go.Proofs.YteoglkofeogknaaGreatDoor

/- Both Checks answer one number; plain law: what right objects are joined to, what Join answers. Conditions: what each states. -/
import Derived.Test.YteoglkofeogknaaGreatDoorK4
import Derived.Test.YteoglkofeogknaaGreatDoorKC
import Derived.Test.YteoglkofeogknaaGreatDoorG2
set_option linter.unusedVariables false
set_option linter.unusedSimpArgs false
namespace Go.Proofs.YteoglkofeogknaaGreatDoor
open Go.RowKit
theorem key_secL {x y : Lbl} (hx : OkL x) (hy : OkL y) (h : keyL x = keyL y) : x.sec = y.sec := by
  obtain ⟨a1, a2, a3, a4⟩ := hx
  obtain ⟨b1, b2, b3, b4⟩ := hy
  unfold keyL at h
  omega
theorem fk_fil_eqL {xs : List Lbl} {k s : Int} (h : ∀ x ∈ xs, keyL x = k → x.sec = s) : fk keyL k (filL s xs) = fk keyL k xs := by
  unfold fk filL
  rw [List.filter_filter]
  apply List.filter_congr
  intro x hx
  by_cases hk : keyL x = k
  · simp [hk, h x hx hk]
  · simp [hk]
theorem fk_fil_noneL {xs : List Lbl} {k s : Int} (h : ∀ x ∈ xs, keyL x = k → x.sec ≠ s) : fk keyL k (filL s xs) = [] := by
  unfold fk filL
  rw [List.filter_filter, List.filter_eq_nil_iff]
  intro x hx
  by_cases hk : keyL x = k
  · simp [hk, h x hx hk]
  · simp [hk]
theorem sameOrdL {xs : List Lbl} (hok : ∀ x ∈ xs, OkL x) : Same keyL xs (ordLs xs 2) := fun k => by
  show fk keyL k xs = fk keyL k (([] ++ filL ((0 : Nat) : Int) xs) ++ filL ((1 : Nat) : Int) xs)
  rw [List.nil_append, fk_append]
  by_cases h0 : ∃ x ∈ xs, keyL x = k ∧ x.sec = 0
  · obtain ⟨x, hx, hk, hs⟩ := h0
    rw [fk_fil_eqL (fun y hy hyk => by rw [key_secL (hok y hy) (hok x hx) (hyk.trans hk.symm), hs]; rfl), fk_fil_noneL (fun y hy hyk => by rw [key_secL (hok y hy) (hok x hx) (hyk.trans hk.symm), hs]; decide), List.append_nil]
  · have hn : ∀ x ∈ xs, keyL x = k → x.sec = 1 := fun x hx hk => by
      have h1 : ¬ x.sec = 0 := fun e => h0 ⟨x, hx, hk, e⟩
      obtain ⟨a1, a2, _⟩ := hok x hx
      omega
    rw [fk_fil_noneL (fun y hy hyk => by rw [hn y hy hyk]; decide), fk_fil_eqL (fun y hy hyk => by rw [hn y hy hyk]; rfl), List.nil_append]
theorem upOrdL {xs : List Lbl} (hok : ∀ x ∈ xs, OkL x) (hup : ∀ s : Int, (filL s xs).Pairwise fun a b => a.at_ ≤ b.at_) : Up keyL (ordLs xs 2) := by
  show Up keyL (([] ++ filL ((0 : Nat) : Int) xs) ++ filL ((1 : Nat) : Int) xs)
  rw [List.nil_append]
  have hm : ∀ {s : Int} {x : Lbl}, x ∈ filL s xs → OkL x ∧ x.sec = s := fun h => by
    unfold filL at h
    rw [List.mem_filter] at h
    exact ⟨hok _ h.1, by simpa using h.2⟩
  have hw : ∀ s : Int, Up keyL (filL s xs) := fun s => by
    unfold Up
    refine (hup s).imp_of_mem (fun {a b} ha hb h => ?_)
    have h1 := hm ha
    have h2 := hm hb
    unfold keyL
    rw [h1.2, h2.2]
    omega
  refine up_append.2 ⟨hw _, hw _, fun a ha b hb => ?_⟩
  have h1 := hm ha
  have h2 := hm hb
  obtain ⟨⟨_, _, a3, a4⟩, a5⟩ := h1
  obtain ⟨⟨_, _, b3, b4⟩, b5⟩ := h2
  unfold keyL
  rw [a5, b5]
  omega
theorem ord_eqL {xs ys : List Lbl} (hok : ∀ x ∈ xs, OkL x) (hup : ∀ s : Int, (filL s xs).Pairwise fun a b => a.at_ ≤ b.at_) (h : StS keyL xs ys) : ys = ordLs xs 2 :=
  same_unique h.up (upOrdL hok hup) (fun k => (h.same k).symm.trans (sameOrdL hok k))
theorem key_secR {x y : Rel} (hx : OkR x) (hy : OkR y) (h : keyR x = keyR y) : x.sec = y.sec := by
  obtain ⟨a1, a2, a3, a4⟩ := hx
  obtain ⟨b1, b2, b3, b4⟩ := hy
  unfold keyR at h
  omega
theorem fk_fil_eqR {xs : List Rel} {k s : Int} (h : ∀ x ∈ xs, keyR x = k → x.sec = s) : fk keyR k (filR s xs) = fk keyR k xs := by
  unfold fk filR
  rw [List.filter_filter]
  apply List.filter_congr
  intro x hx
  by_cases hk : keyR x = k
  · simp [hk, h x hx hk]
  · simp [hk]
theorem fk_fil_noneR {xs : List Rel} {k s : Int} (h : ∀ x ∈ xs, keyR x = k → x.sec ≠ s) : fk keyR k (filR s xs) = [] := by
  unfold fk filR
  rw [List.filter_filter, List.filter_eq_nil_iff]
  intro x hx
  by_cases hk : keyR x = k
  · simp [hk, h x hx hk]
  · simp [hk]
theorem sameOrdR {xs : List Rel} (hok : ∀ x ∈ xs, OkR x) : Same keyR xs (ordRs xs 2) := fun k => by
  show fk keyR k xs = fk keyR k (([] ++ filR ((0 : Nat) : Int) xs) ++ filR ((1 : Nat) : Int) xs)
  rw [List.nil_append, fk_append]
  by_cases h0 : ∃ x ∈ xs, keyR x = k ∧ x.sec = 0
  · obtain ⟨x, hx, hk, hs⟩ := h0
    rw [fk_fil_eqR (fun y hy hyk => by rw [key_secR (hok y hy) (hok x hx) (hyk.trans hk.symm), hs]; rfl), fk_fil_noneR (fun y hy hyk => by rw [key_secR (hok y hy) (hok x hx) (hyk.trans hk.symm), hs]; decide), List.append_nil]
  · have hn : ∀ x ∈ xs, keyR x = k → x.sec = 1 := fun x hx hk => by
      have h1 : ¬ x.sec = 0 := fun e => h0 ⟨x, hx, hk, e⟩
      obtain ⟨a1, a2, _⟩ := hok x hx
      omega
    rw [fk_fil_noneR (fun y hy hyk => by rw [hn y hy hyk]; decide), fk_fil_eqR (fun y hy hyk => by rw [hn y hy hyk]; rfl), List.nil_append]
theorem upOrdR {xs : List Rel} (hok : ∀ x ∈ xs, OkR x) (hup : ∀ s : Int, (filR s xs).Pairwise fun a b => a.at_ ≤ b.at_) : Up keyR (ordRs xs 2) := by
  show Up keyR (([] ++ filR ((0 : Nat) : Int) xs) ++ filR ((1 : Nat) : Int) xs)
  rw [List.nil_append]
  have hm : ∀ {s : Int} {x : Rel}, x ∈ filR s xs → OkR x ∧ x.sec = s := fun h => by
    unfold filR at h
    rw [List.mem_filter] at h
    exact ⟨hok _ h.1, by simpa using h.2⟩
  have hw : ∀ s : Int, Up keyR (filR s xs) := fun s => by
    unfold Up
    refine (hup s).imp_of_mem (fun {a b} ha hb h => ?_)
    have h1 := hm ha
    have h2 := hm hb
    unfold keyR
    rw [h1.2, h2.2]
    omega
  refine up_append.2 ⟨hw _, hw _, fun a ha b hb => ?_⟩
  have h1 := hm ha
  have h2 := hm hb
  obtain ⟨⟨_, _, a3, a4⟩, a5⟩ := h1
  obtain ⟨⟨_, _, b3, b4⟩, b5⟩ := h2
  unfold keyR
  rw [a5, b5]
  omega
theorem ord_eqR {xs ys : List Rel} (hok : ∀ x ∈ xs, OkR x) (hup : ∀ s : Int, (filR s xs).Pairwise fun a b => a.at_ ≤ b.at_) (h : StS keyR xs ys) : ys = ordRs xs 2 :=
  same_unique h.up (upOrdR hok hup) (fun k => (h.same k).symm.trans (sameOrdR hok k))
open Go.RowKit
theorem long_cases {o : Ob} (h : longO o = true) : decide (1048576 < o.tx.length) = true ∨ (decide (1048576 < o.tx.length) = false ∧ decide (1048576 < o.dt.length) = true) ∨ (decide (1048576 < o.tx.length) = false ∧ decide (1048576 < o.dt.length) = false ∧ decide (4096 < o.lb.length) = true) ∨ (decide (1048576 < o.tx.length) = false ∧ decide (1048576 < o.dt.length) = false ∧ decide (4096 < o.lb.length) = false ∧ decide (16384 < o.rl.length) = true) := by
  unfold longO at h
  cases h1 : decide (1048576 < o.tx.length) <;> cases h2 : decide (1048576 < o.dt.length) <;> cases h3 : decide (4096 < o.lb.length) <;> simp_all
theorem short_le {o : Ob} (h : longO o = false) : o.tx.length ≤ 1048576 ∧ o.dt.length ≤ 1048576 ∧ o.lb.length ≤ 4096 ∧ o.rl.length ≤ 16384 := by
  unfold longO at h
  simp at h
  omega
theorem acheck_any (v1 v2 v3 v4 : Value) (o : Ob) (w : World) (h : ObAt w v1 v2 v3 v4 o) (ho : OpsAt w) (h0 : 0 < w.heap.size) (hnm : NmOK o) :
    Calls Tryz.prog 18 #[.agg #[v1, v2, v3, v4]] w fun e w' => e = .returned (.int .i64 (chkO o)) ∧ Below w.heap.size w w' := by
  obtain ⟨A1, k1, rfl, _⟩ := h.tx.form
  obtain ⟨A2, k2, rfl, _⟩ := h.dt.form
  obtain ⟨A3, k3, rfl, _, _⟩ := h.lb.form
  obtain ⟨A4, k4, rfl, _, _⟩ := h.rl.form
  cases hl : longO o with
  | true =>
    rw [chk_long hl]
    exact check_long _ _ _ _ _ _ _ _ _ _ _ _ w (long_cases hl)
  | false =>
    obtain ⟨l1, l2, l3, l4⟩ := short_le hl
    exact check_main o A1 k1 A2 k2 A3 _ k3 A4 _ k4 w h rfl rfl l1 l2 l3 l4 ho h0 hnm _ rfl
/-- What a right object is. -/
theorem chk_ok {o : Ob} (h : chkO o = 0) : longO o = false ∧ (List.range o.lb.length).any (badL o) = false ∧ (List.range o.rl.length).any (badR o) = false := by
  unfold chkO at h
  cases h1 : longO o with
  | true => rw [h1] at h; cases h
  | false =>
    rw [h1] at h
    cases h2 : (List.range o.lb.length).any (badL o) with
    | true => rw [h2] at h; cases h
    | false =>
      cases h3 : (List.range o.rl.length).any (badR o) with
      | true => rw [h2, h3] at h; cases h
      | false => exact ⟨rfl, rfl, rfl⟩
open Go.RowKit
def shL (t d : Nat) (x : Lbl) : Lbl := ⟨x.nm, x.sec, x.at_ + (if x.sec = 0 then (t : Int) else (d : Int)), x.gl⟩
def shR (t d : Nat) (x : Rel) : Rel := ⟨x.sec, x.at_ + (if x.sec = 0 then (t : Int) else (d : Int)), x.kd, x.add, x.nm⟩
/-- One object more. -/
def jstep (J o : Ob) : Ob := ⟨padL J.tx ++ o.tx, padL J.dt ++ o.dt, J.lb ++ o.lb.map (shL (padL J.tx).length (padL J.dt).length), J.rl ++ o.rl.map (shR (padL J.tx).length (padL J.dt).length)⟩
def joinO (os : List Ob) : Ob := os.foldl jstep ⟨[], [], [], []⟩
theorem padL_len (bs : List UInt8) : bs.length ≤ (padL bs).length ∧ (padL bs).length ≤ bs.length + 15 := by
  unfold padL padN
  rw [List.length_append, List.length_replicate]
  omega
/-- What a right object's labels and relocations are. -/
structure Rgt (o : Ob) : Prop where
  lb : ∀ x ∈ o.lb, 0 ≤ x.sec ∧ x.sec ≤ 1 ∧ 0 ≤ x.at_ ∧ x.at_ ≤ ((o.sec x.sec).length : Int)
  rl : ∀ x ∈ o.rl, 0 ≤ x.sec ∧ x.sec ≤ 1 ∧ 0 ≤ x.at_ ∧ x.at_ ≤ ((o.sec x.sec).length : Int)
  ul : ∀ s : Int, (filL s o.lb).Pairwise fun a b => a.at_ ≤ b.at_
  ur : ∀ s : Int, (filR s o.rl).Pairwise fun a b => a.at_ ≤ b.at_
theorem rng_all {f : Nat → Bool} {n : Nat} (h : (List.range n).any f = false) {k : Nat} (hk : k < n) : f k = false := by
  rw [List.any_eq_false] at h
  simpa using h k (List.mem_range.2 hk)
theorem chain_pw {α : Type} {R : α → α → Prop} (ht : ∀ a b c, R a b → R b c → R a c) {l : List α} (h : ∀ k (hk : k + 1 < l.length), R l[k] l[k + 1]) : l.Pairwise R := by
  rw [List.pairwise_iff_getElem]
  intro i j hi hj hij
  obtain ⟨d, rfl⟩ : ∃ d, j = i + 1 + d := ⟨j - i - 1, by omega⟩
  clear hij
  induction d with
  | zero => exact h i hj
  | succ d ih => exact ht _ _ _ (ih (by omega)) (h (i + 1 + d) hj)
theorem filL_pw {xs : List Lbl} (h : xs.Pairwise fun a b => a.sec < b.sec ∨ (a.sec = b.sec ∧ a.at_ ≤ b.at_)) (s : Int) : (filL s xs).Pairwise fun a b => a.at_ ≤ b.at_ := by
  unfold filL
  refine (h.filter _).imp_of_mem (fun {a b} ha hb hr => ?_)
  have h1 := (List.mem_filter.1 ha).2
  have h2 := (List.mem_filter.1 hb).2
  simp at h1 h2
  omega
theorem filR_pw {xs : List Rel} (h : xs.Pairwise fun a b => a.sec < b.sec ∨ (a.sec = b.sec ∧ a.at_ ≤ b.at_)) (s : Int) : (filR s xs).Pairwise fun a b => a.at_ ≤ b.at_ := by
  unfold filR
  refine (h.filter _).imp_of_mem (fun {a b} ha hb hr => ?_)
  have h1 := (List.mem_filter.1 ha).2
  have h2 := (List.mem_filter.1 hb).2
  simp at h1 h2
  omega
theorem rgt_of {o : Ob} (h : chkO o = 0) : Rgt o := by
  obtain ⟨_, h1, h2⟩ := chk_ok h
  refine ⟨fun x hx => ?_, fun x hx => ?_, filL_pw (chain_pw (fun a b c h1 h2 => by omega) fun k hk => ?_), filR_pw (chain_pw (fun a b c h1 h2 => by omega) fun k hk => ?_)⟩
  · obtain ⟨k, hk, rfl⟩ := List.mem_iff_getElem.1 hx
    have hb := rng_all h1 hk
    unfold badL lblB at hb
    have e : o.lb.getD k default = o.lb[k] := by simp [List.getD, hk]
    rw [e] at hb
    simp at hb
    omega
  · obtain ⟨k, hk, rfl⟩ := List.mem_iff_getElem.1 hx
    have hb := rng_all h2 hk
    unfold badR at hb
    have e : o.rl.getD k default = o.rl[k] := by simp [List.getD, hk]
    rw [e, Bool.or_eq_false_iff] at hb
    have hf : fitsP o o.rl[k] = true := by simpa using hb.1
    unfold fitsP at hf
    cases hr : relBad (o.sec o.rl[k].sec).length o.rl[k] with
    | true => rw [hr] at hf; simp at hf
    | false =>
      unfold relBad at hr
      simp at hr
      omega
  · have hb := rng_all h1 hk
    unfold badL ordB at hb
    have e : o.lb.getD (k + 1) default = o.lb[k + 1] := by simp [List.getD, hk]
    have e2 : o.lb.getD (k + 1 - 1) default = o.lb[k] := by rw [Nat.add_sub_cancel]; simp [List.getD, Nat.lt_of_succ_lt hk]
    rw [e, e2, Bool.or_eq_false_iff] at hb
    have h3 := hb.2
    simp at h3
    omega
  · have hb := rng_all h2 hk
    unfold badR ordR at hb
    have e : o.rl.getD (k + 1) default = o.rl[k + 1] := by simp [List.getD, hk]
    have e2 : o.rl.getD (k + 1 - 1) default = o.rl[k] := by rw [Nat.add_sub_cancel]; simp [List.getD, Nat.lt_of_succ_lt hk]
    rw [e, e2, Bool.or_eq_false_iff] at hb
    have h3 := hb.2
    simp at h3
    omega
theorem sec_step (J o : Ob) (s : Int) : ((jstep J o).sec s).length = (if s = 0 then (padL J.tx).length else (padL J.dt).length) + (o.sec s).length ∧ (J.sec s).length ≤ (if s = 0 then (padL J.tx).length else (padL J.dt).length) := by
  have h1 := padL_len J.tx
  have h2 := padL_len J.dt
  by_cases h : s = 0
  · exact ⟨by simp [Ob.sec, jstep, h], by simp [Ob.sec, h]; omega⟩
  · exact ⟨by simp [Ob.sec, jstep, h], by simp [Ob.sec, h]; omega⟩
theorem rgt_step {J o : Ob} (hJ : Rgt J) (ho : Rgt o) : Rgt (jstep J o) := by
  refine ⟨fun x hx => ?_, fun x hx => ?_, fun s => ?_, fun s => ?_⟩
  · rcases List.mem_append.1 hx with hx | hx
    · obtain ⟨a1, a2, a3, a4⟩ := hJ.lb x hx
      obtain ⟨b1, b2⟩ := sec_step J o x.sec
      omega
    · obtain ⟨y, hy, rfl⟩ := List.mem_map.1 hx
      obtain ⟨a1, a2, a3, a4⟩ := ho.lb y hy
      obtain ⟨b1, b2⟩ := sec_step J o y.sec
      show 0 ≤ y.sec ∧ y.sec ≤ 1 ∧ 0 ≤ y.at_ + _ ∧ y.at_ + _ ≤ (((jstep J o).sec y.sec).length : Int)
      by_cases h : y.sec = 0
      · simp only [if_pos h] at *; omega
      · simp only [if_neg h] at *; omega
  · rcases List.mem_append.1 hx with hx | hx
    · obtain ⟨a1, a2, a3, a4⟩ := hJ.rl x hx
      obtain ⟨b1, b2⟩ := sec_step J o x.sec
      omega
    · obtain ⟨y, hy, rfl⟩ := List.mem_map.1 hx
      obtain ⟨a1, a2, a3, a4⟩ := ho.rl y hy
      obtain ⟨b1, b2⟩ := sec_step J o y.sec
      show 0 ≤ y.sec ∧ y.sec ≤ 1 ∧ 0 ≤ y.at_ + _ ∧ y.at_ + _ ≤ (((jstep J o).sec y.sec).length : Int)
      by_cases h : y.sec = 0
      · simp only [if_pos h] at *; omega
      · simp only [if_neg h] at *; omega
  · show (filL s (J.lb ++ o.lb.map (shL (padL J.tx).length (padL J.dt).length))).Pairwise _
    have e : filL s (o.lb.map (shL (padL J.tx).length (padL J.dt).length)) = (filL s o.lb).map (shL (padL J.tx).length (padL J.dt).length) := by
      unfold filL
      rw [List.filter_map]
      rfl
    have e2 : filL s (J.lb ++ o.lb.map (shL (padL J.tx).length (padL J.dt).length)) = filL s J.lb ++ filL s (o.lb.map (shL (padL J.tx).length (padL J.dt).length)) := by unfold filL; rw [List.filter_append]
    rw [e2, e, List.pairwise_append]
    have hm : ∀ {z : Lbl} {zs : List Lbl}, z ∈ filL s zs → z ∈ zs ∧ z.sec = s := fun h => by
      unfold filL at h
      rw [List.mem_filter] at h
      exact ⟨h.1, by simpa using h.2⟩
    refine ⟨hJ.ul s, List.pairwise_map.2 ((ho.ul s).imp_of_mem (fun {a b} ha hb h => ?_)), fun a ha b hb => ?_⟩
    · have h1 := (hm ha).2
      have h2 := (hm hb).2
      unfold shL
      dsimp only
      rw [h1, h2]
      omega
    · obtain ⟨y, hy, rfl⟩ := List.mem_map.1 hb
      obtain ⟨m1, m2⟩ := hm ha
      obtain ⟨n1, n2⟩ := hm hy
      obtain ⟨_, _, _, a4⟩ := hJ.lb a m1
      obtain ⟨_, _, b3, _⟩ := ho.lb y n1
      obtain ⟨_, c2⟩ := sec_step J o s
      rw [m2] at a4
      unfold shL
      dsimp only
      rw [n2]
      by_cases h : s = 0
      · simp only [if_pos h] at *; omega
      · simp only [if_neg h] at *; omega
  · show (filR s (J.rl ++ o.rl.map (shR (padL J.tx).length (padL J.dt).length))).Pairwise _
    have e : filR s (o.rl.map (shR (padL J.tx).length (padL J.dt).length)) = (filR s o.rl).map (shR (padL J.tx).length (padL J.dt).length) := by
      unfold filR
      rw [List.filter_map]
      rfl
    have e2 : filR s (J.rl ++ o.rl.map (shR (padL J.tx).length (padL J.dt).length)) = filR s J.rl ++ filR s (o.rl.map (shR (padL J.tx).length (padL J.dt).length)) := by unfold filR; rw [List.filter_append]
    rw [e2, e, List.pairwise_append]
    have hm : ∀ {z : Rel} {zs : List Rel}, z ∈ filR s zs → z ∈ zs ∧ z.sec = s := fun h => by
      unfold filR at h
      rw [List.mem_filter] at h
      exact ⟨h.1, by simpa using h.2⟩
    refine ⟨hJ.ur s, List.pairwise_map.2 ((ho.ur s).imp_of_mem (fun {a b} ha hb h => ?_)), fun a ha b hb => ?_⟩
    · have h1 := (hm ha).2
      have h2 := (hm hb).2
      unfold shR
      dsimp only
      rw [h1, h2]
      omega
    · obtain ⟨y, hy, rfl⟩ := List.mem_map.1 hb
      obtain ⟨m1, m2⟩ := hm ha
      obtain ⟨n1, n2⟩ := hm hy
      obtain ⟨_, _, _, a4⟩ := hJ.rl a m1
      obtain ⟨_, _, b3, _⟩ := ho.rl y n1
      obtain ⟨_, c2⟩ := sec_step J o s
      rw [m2] at a4
      unfold shR
      dsimp only
      rw [n2]
      by_cases h : s = 0
      · simp only [if_pos h] at *; omega
      · simp only [if_neg h] at *; omega
theorem rgt_nil : Rgt ⟨[], [], [], []⟩ := ⟨fun x hx => (by cases hx), fun x hx => (by cases hx), fun s => List.Pairwise.nil, fun s => List.Pairwise.nil⟩
theorem joinO_snoc (os : List Ob) (o : Ob) : joinO (os ++ [o]) = jstep (joinO os) o := by unfold joinO; rw [List.foldl_append]; rfl
theorem rgt_fold : ∀ (os : List Ob) (J : Ob), Rgt J → (∀ o ∈ os, Rgt o) → Rgt (os.foldl jstep J)
  | [], _, h, _ => h
  | o :: os, J, h, ho => rgt_fold os (jstep J o) (rgt_step h (ho o (by simp))) (fun x hx => ho x (by simp [hx]))
theorem rgt_join {os : List Ob} (h : ∀ o ∈ os, chkO o = 0) : Rgt (joinO os) := rgt_fold os _ rgt_nil (fun o ho => rgt_of (h o ho))
open Go.RowKit
instance : Inhabited Ob := ⟨⟨[], [], [], []⟩⟩
def namesO (os : List Ob) : List ByteArray := os.flatMap fun o => o.lb.map Lbl.nm
/-- Has an object a name that an earlier one has? -/
def dupAt (os : List Ob) (i : Nat) : Bool := (os.getD i default).lb.any fun x => amongB (namesO (os.take i)) x.nm
noncomputable def badAt (os : List Ob) (i : Nat) : Bool := chkO (os.getD i default) != 0
def ordO (J : Ob) : Ob := ⟨J.tx, J.dt, ordLs J.lb 2, ordRs J.rl 2⟩
/-- What Join answers: the object, the fault's place, its code. -/
noncomputable def jres (os : List Ob) : Ob × Int × Int :=
  match (List.range os.length).find? (badAt os) with
  | some i => (⟨[], [], [], []⟩, (i : Int), chkO (os.getD i default))
  | none => match (List.range os.length).find? (dupAt os) with
    | some i => (⟨[], [], [], []⟩, (i : Int), 51)
    | none => if longO (ordO (joinO os)) then (⟨[], [], [], []⟩, 0, 3) else (ordO (joinO os), 0, 0)
theorem find_hit {f : Nat → Bool} {n k : Nat} (hk : k < n) (h : f k = true) (hn : (List.range k).any f = false) : (List.range n).find? f = some k := by
  rw [List.find?_range_eq_some]
  refine ⟨h, List.mem_range.2 hk, fun j hj => ?_⟩
  rw [List.any_eq_false] at hn
  simpa using hn j (List.mem_range.2 hj)
theorem find_none {f : Nat → Bool} {n : Nat} (hn : (List.range n).any f = false) : (List.range n).find? f = none := by
  rw [List.find?_eq_none]
  rw [List.any_eq_false] at hn
  exact hn
theorem jres_bad {os : List Ob} {k : Nat} (hk : k < os.length) (h : badAt os k = true) (hn : (List.range k).any (badAt os) = false) : jres os = (⟨[], [], [], []⟩, (k : Int), chkO (os.getD k default)) := by
  unfold jres
  rw [find_hit hk h hn]
theorem jres_dup {os : List Ob} {k : Nat} (h0 : (List.range os.length).any (badAt os) = false) (hk : k < os.length) (h : dupAt os k = true) (hn : (List.range k).any (dupAt os) = false) : jres os = (⟨[], [], [], []⟩, (k : Int), 51) := by
  unfold jres
  rw [find_none h0, find_hit hk h hn]
theorem jres_long {os : List Ob} (h0 : (List.range os.length).any (badAt os) = false) (hn : (List.range os.length).any (dupAt os) = false) (h : longO (ordO (joinO os)) = true) : jres os = (⟨[], [], [], []⟩, 0, 3) := by
  unfold jres
  rw [find_none h0, find_none hn, h]
  rfl
theorem jres_ok {os : List Ob} (h0 : (List.range os.length).any (badAt os) = false) (hn : (List.range os.length).any (dupAt os) = false) (h : longO (ordO (joinO os)) = false) : jres os = (ordO (joinO os), 0, 0) := by
  unfold jres
  rw [find_none h0, find_none hn, h]
  rfl
theorem all_right {os : List Ob} (h0 : (List.range os.length).any (badAt os) = false) : ∀ o ∈ os, chkO o = 0 := fun o ho => by
  obtain ⟨i, hi, rfl⟩ := List.mem_iff_getElem.1 ho
  have := rng_all h0 hi
  unfold badAt at this
  have e : os.getD i default = os[i] := by simp [List.getD, hi]
  rw [e] at this
  simpa using this
theorem joinO_names (os : List Ob) : (joinO os).lb.map Lbl.nm = namesO os := by
  have key : ∀ (os : List Ob) (J : Ob), (os.foldl jstep J).lb.map Lbl.nm = J.lb.map Lbl.nm ++ namesO os := by
    intro os
    induction os with
    | nil => intro J; simp [namesO]
    | cons o os ih =>
      intro J
      rw [List.foldl_cons, ih]
      show (J.lb ++ o.lb.map _).map Lbl.nm ++ namesO os = J.lb.map Lbl.nm ++ namesO (o :: os)
      rw [List.map_append, List.map_map, List.append_assoc]
      rfl
  exact key os _
theorem take_snoc {os : List Ob} {i : Nat} (h : i < os.length) : os.take (i + 1) = os.take i ++ [os.getD i default] := by
  rw [List.take_succ_eq_append_getElem h]
  simp [List.getD, h]
/-- A list of objects that lies somewhere. -/
def QC (q : Value × Value × Value × Value) : List Value := [q.1, q.2.1, q.2.2.1, q.2.2.2]
def OsAt (W : World) (v : Value) (os : List Ob) : Prop := ∃ qs : List (Value × Value × Value × Value), qs.length = os.length ∧ RowOf W v os.length (qs.flatMap QC) ∧ ∀ i (h : i < qs.length), ObAt W qs[i].1 qs[i].2.1 qs[i].2.2.1 qs[i].2.2.2 (os.getD i default)
theorem OsAt.below {W W' : World} {v : Value} {os : List Ob} (h : OsAt W v os) (hb : Below W.heap.size W W') : OsAt W' v os := by
  obtain ⟨qs, h1, h2, h3⟩ := h
  exact ⟨qs, h1, h2.below hb, fun i hi => (h3 i hi).below hb⟩
theorem OsAt.form {W : World} {v : Value} {os : List Ob} (h : OsAt W v os) : ∃ A cap, v = .slice A os.length cap ∧ os.length ≤ cap ∧ cap ≤ maxLen := by
  obtain ⟨qs, _, ⟨A, cap, rfl, h1, h2, _⟩, _⟩ := h
  exact ⟨A, cap, rfl, h1, h2⟩
/-- Where one of them lies. -/
theorem OsAt.at_ {W : World} {A : Option Addr} {n cap : Nat} {os : List Ob} (h : OsAt W (.slice A n cap) os) (hn : 0 < os.length) : ∃ g off, A = some ⟨g, off, none⟩ ∧ ∀ k, k < os.length → ∃ v1 v2 v3 v4, W.cell? ⟨g, off + k * 4, none⟩ = some v1 ∧ W.cell? ⟨g, off + k * 4 + 1, none⟩ = some v2 ∧ W.cell? ⟨g, off + k * 4 + 2, none⟩ = some v3 ∧ W.cell? ⟨g, off + k * 4 + 3, none⟩ = some v4 ∧ ObAt W v1 v2 v3 v4 (os.getD k default) := by
  obtain ⟨qs, h1, ⟨A', cap', e, _, _, h4⟩, h3⟩ := h
  obtain rfl : A = A' := by injection e
  obtain ⟨g, off, rfl, _, hc⟩ := h4 hn
  refine ⟨g, off, rfl, fun k hk => ?_⟩
  have hkq : k < qs.length := by omega
  have hh : ∀ j, j < 4 → ∀ u, (QC qs[k])[j]? = some u → W.cell? ⟨g, off + (k * 4 + j), none⟩ = some u := fun j hj u hu => hc _ _ (by rw [flatMap_at QC 4 (fun _ => rfl) qs k hkq j hj]; exact hu)
  exact ⟨_, _, _, _, hh 0 (by omega) _ rfl, hh 1 (by omega) _ rfl, hh 2 (by omega) _ rfl, hh 3 (by omega) _ rfl, h3 k hkq⟩
end Go.Proofs.YteoglkofeogknaaGreatDoor

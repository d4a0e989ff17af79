/- Plain: stable sorting of lists by an integer key; exchanges of pieces. No conditions. -/
import Derived.Test.YteoglkofeogknaaGreatDoorRows
set_option linter.unusedVariables false
set_option linter.unusedSimpArgs false
namespace Go.Proofs.YteoglkofeogknaaGreatDoor
section
variable {α : Type} (key : α → Int)
def Up (l : List α) : Prop := l.Pairwise fun a b => key a ≤ key b
def fk (k : Int) (l : List α) : List α := l.filter fun a => key a == k
/-- For each key the elements that have it stand in one order in both. -/
def Same (xs ys : List α) : Prop := ∀ k, fk key k xs = fk key k ys
structure StS (xs ys : List α) : Prop where
  up : Up key ys
  same : Same key xs ys
  len : ys.length = xs.length
variable {key}
theorem fk_append (k : Int) (a b : List α) : fk key k (a ++ b) = fk key k a ++ fk key k b := List.filter_append _ _
theorem fk_mem {k : Int} {x : α} {l : List α} : x ∈ fk key k l ↔ x ∈ l ∧ key x = k := by unfold fk; rw [List.mem_filter]; simp
theorem fk_none {k : Int} {l : List α} (h : ∀ x ∈ l, key x ≠ k) : fk key k l = [] := by
  unfold fk
  rw [List.filter_eq_nil_iff]
  intro x hx
  simpa using h x hx
theorem Same.refl (xs : List α) : Same key xs xs := fun _ => rfl
theorem Same.trans {xs ys zs : List α} (h : Same key xs ys) (h2 : Same key ys zs) : Same key xs zs := fun k => (h k).trans (h2 k)
theorem Same.mem {xs ys : List α} (h : Same key xs ys) {x : α} (hx : x ∈ ys) : x ∈ xs := by
  have : x ∈ fk key (key x) ys := fk_mem.2 ⟨hx, rfl⟩
  rw [← h (key x)] at this
  exact (fk_mem.1 this).1
theorem Same.inside {P X Y S : List α} (h : Same key X Y) : Same key (P ++ X ++ S) (P ++ Y ++ S) := fun k => by
  rw [fk_append, fk_append, fk_append, fk_append, h k]
theorem same_unique : ∀ {ys zs : List α}, Up key ys → Up key zs → Same key ys zs → ys = zs
  | [], [], _, _, _ => rfl
  | [], z :: zs, _, _, h => by
    have h1 : z ∈ fk key (key z) (z :: zs) := fk_mem.2 ⟨by simp, rfl⟩
    rw [← h (key z)] at h1
    simp [fk] at h1
  | y :: ys, [], _, _, h => by
    have h1 : y ∈ fk key (key y) (y :: ys) := fk_mem.2 ⟨by simp, rfl⟩
    rw [h (key y)] at h1
    simp [fk] at h1
  | y :: ys, z :: zs, hy, hz, h => by
    unfold Up at hy hz
    rw [List.pairwise_cons] at hy hz
    have hk : key y = key z := by
      have h1 : y ∈ z :: zs := by
        have : y ∈ fk key (key y) (y :: ys) := fk_mem.2 ⟨by simp, rfl⟩
        rw [h (key y)] at this
        exact (fk_mem.1 this).1
      have h2 : z ∈ y :: ys := h.mem (by simp)
      have a1 : key z ≤ key y := by
        rcases List.mem_cons.1 h1 with e | e
        · rw [e]; exact Int.le_refl _
        · exact hz.1 y e
      have a2 : key y ≤ key z := by
        rcases List.mem_cons.1 h2 with e | e
        · rw [e]; exact Int.le_refl _
        · exact hy.1 z e
      omega
    have hh := h (key y)
    have e1 : fk key (key y) (y :: ys) = y :: fk key (key y) ys := by simp [fk]
    have e2 : fk key (key y) (z :: zs) = z :: fk key (key y) zs := by simp [fk, hk]
    rw [e1, e2, List.cons.injEq] at hh
    obtain ⟨rfl, hh2⟩ := hh
    rw [same_unique hy.2 hz.2 (fun k => ?_)]
    by_cases hky : k = key y
    · subst hky; exact hh2
    · have h3 := h k
      have hb : ¬ key y = k := fun e => hky e.symm
      simpa [fk, hb] using h3
theorem StS.refl {xs : List α} (h : Up key xs) : StS key xs xs := ⟨h, Same.refl _, rfl⟩
theorem StS.mem {xs ys : List α} (h : StS key xs ys) {x : α} (hx : x ∈ ys) : x ∈ xs := h.same.mem hx
theorem up_append {a b : List α} : Up key (a ++ b) ↔ Up key a ∧ Up key b ∧ ∀ x ∈ a, ∀ y ∈ b, key x ≤ key y := List.pairwise_append
/-- Two merged halves. -/
theorem sts_merge {L1 L2 R1 R2 M1 M2 : List α} (h1 : StS key (L1 ++ R1) M1) (h2 : StS key (L2 ++ R2) M2) (hL : Up key (L1 ++ L2)) (hR : Up key (R1 ++ R2))
    (hlt : ∀ r ∈ R1, ∀ l ∈ L2, key r < key l) (hle : ∀ l ∈ L1, ∀ r ∈ R2, key l ≤ key r) : StS key ((L1 ++ L2) ++ (R1 ++ R2)) (M1 ++ M2) := by
  obtain ⟨_, _, hL12⟩ := up_append.1 hL
  obtain ⟨_, _, hR12⟩ := up_append.1 hR
  refine ⟨up_append.2 ⟨h1.up, h2.up, fun x hx y hy => ?_⟩, fun k => ?_, ?_⟩
  · rcases List.mem_append.1 (h1.mem hx) with hx | hx <;> rcases List.mem_append.1 (h2.mem hy) with hy | hy
    · exact hL12 x hx y hy
    · exact hle x hx y hy
    · exact Int.le_of_lt (hlt x hx y hy)
    · exact hR12 x hx y hy
  · have e1 := h1.same k
    have e2 := h2.same k
    rw [fk_append] at e1 e2
    rw [fk_append, fk_append, fk_append, fk_append, ← e1, ← e2]
    have hsw : fk key k L2 ++ fk key k R1 = fk key k R1 ++ fk key k L2 := by
      by_cases ha : fk key k L2 = []
      · rw [ha]; simp
      · have hb : fk key k R1 = [] := by
          obtain ⟨l, hl⟩ := List.exists_mem_of_ne_nil _ ha
          obtain ⟨hl1, hl2⟩ := fk_mem.1 hl
          refine fk_none (fun r hr e => ?_)
          have := hlt r hr l hl1
          omega
        rw [hb]; simp
    simp only [List.append_assoc]
    congr 1
    rw [← List.append_assoc, hsw, List.append_assoc]
  · have := h1.len
    have := h2.len
    simp only [List.length_append] at *
    omega
theorem up_one (x : α) : Up key [x] := List.pairwise_singleton _ _
/-- One more is put behind all that are not greater. -/
theorem sts_insert {P A B : List α} {x : α} (h : StS key P (A ++ B)) (hA : ∀ a ∈ A, key a ≤ key x) (hB : ∀ b ∈ B, key x < key b) : StS key (P ++ [x]) (A ++ x :: B) := by
  obtain ⟨u1, u2, u3⟩ := up_append.1 h.up
  have m := sts_merge (L1 := A) (L2 := B) (R1 := [x]) (R2 := []) (M1 := A ++ [x]) (M2 := B)
    (StS.refl (up_append.2 ⟨u1, up_one x, fun a ha y hy => by obtain rfl := List.mem_singleton.1 hy; exact hA a ha⟩)) (by rw [List.append_nil]; exact StS.refl u2) h.up (by simpa using up_one (key := key) x)
    (fun r hr l hl => by obtain rfl := List.mem_singleton.1 hr; exact hB l hl) (fun _ _ r hr => by cases hr)
  rw [List.append_nil] at m
  refine ⟨by simpa using m.up, ?_, ?_⟩
  · have e : Same key (P ++ [x]) (A ++ B ++ [x]) := fun k => by rw [fk_append, fk_append, h.same k]
    have := e.trans m.same
    simpa using this
  · have := h.len
    simp only [List.length_append, List.length_cons, List.length_nil] at *
    omega
/-- One ahead of many. -/
theorem sts_left {x : α} {R1 R2 : List α} (hR : Up key (R1 ++ R2)) (h1 : ∀ r ∈ R1, key r < key x) (h2 : ∀ r ∈ R2, key x ≤ key r) : StS key (x :: (R1 ++ R2)) (R1 ++ x :: R2) := by
  obtain ⟨u1, u2, _⟩ := up_append.1 hR
  have m := sts_merge (L1 := []) (L2 := [x]) (R1 := R1) (R2 := R2) (M1 := R1) (M2 := x :: R2) (StS.refl u1)
    (StS.refl (List.pairwise_cons.2 ⟨h2, u2⟩)) (up_one x) hR (fun r hr l hl => by obtain rfl := List.mem_singleton.1 hl; exact h1 r hr) (fun l hl => by cases hl)
  exact m
/-- One behind many. -/
theorem sts_right {y : α} {L1 L2 : List α} (hL : Up key (L1 ++ L2)) (h1 : ∀ l ∈ L1, key l ≤ key y) (h2 : ∀ l ∈ L2, key y < key l) : StS key (L1 ++ L2 ++ [y]) (L1 ++ y :: L2) :=
  sts_insert (StS.refl hL) h1 h2
/-- A piece of a list. -/
def seg (l : List α) (a b : Nat) : List α := (l.drop a).take (b - a)
theorem seg_len {l : List α} {a b : Nat} (hb : b ≤ l.length) : (seg l a b).length = b - a := by
  unfold seg
  rw [List.length_take, List.length_drop]
  omega
theorem seg_split (l : List α) {a m b : Nat} (h1 : a ≤ m) (h2 : m ≤ b) : seg l a b = seg l a m ++ seg l m b := by
  unfold seg
  have e : b - a = (m - a) + (b - m) := by omega
  rw [e, List.take_add, List.drop_drop]
  have e2 : a + (m - a) = m := by omega
  rw [e2]
theorem seg_all (l : List α) : seg l 0 l.length = l := by simp [seg]
theorem list_cut (l : List α) {a b : Nat} (h1 : a ≤ b) : l = l.take a ++ seg l a b ++ l.drop b := by
  unfold seg
  have e : l.drop b = (l.drop a).drop (b - a) := by rw [List.drop_drop]; congr 1; omega
  rw [List.append_assoc, e, List.take_append_drop, List.take_append_drop]
end
section
variable {α : Type} [Inhabited α]
def swap1 (xs : List α) (i j : Nat) : List α := (xs.set i (xs.getD j default)).set j (xs.getD i default)
theorem swap1_len (xs : List α) (i j : Nat) : (swap1 xs i j).length = xs.length := by simp [swap1]
/-- The first so many of two pieces have been exchanged. -/
def swapN (xs : List α) (a b : Nat) : Nat → List α
  | 0 => xs
  | i + 1 => swap1 (swapN xs a b i) (a + i) (b + i)
theorem swapN_len (xs : List α) (a b : Nat) : ∀ n, (swapN xs a b n).length = xs.length
  | 0 => rfl
  | n + 1 => by rw [swapN, swap1_len, swapN_len xs a b n]
theorem getD_mid {P S : List α} {x : α} {i : Nat} (h : P.length = i) : (P ++ x :: S).getD i default = x := by
  subst h
  simp [List.getD]
theorem set_mid {β : Type} {P S : List β} {x y : β} {i : Nat} (h : P.length = i) : (P ++ x :: S).set i y = P ++ y :: S := by
  subst h
  simp [List.set_append]
theorem swap1_mid {P M S : List α} {x y : α} {i j : Nat} (h1 : P.length = i) (h2 : i + 1 + M.length = j) : swap1 (P ++ x :: (M ++ y :: S)) i j = P ++ y :: (M ++ x :: S) := by
  unfold swap1
  have e1 : (P ++ x :: (M ++ y :: S)).getD j default = y := by
    have : P ++ x :: (M ++ y :: S) = (P ++ x :: M) ++ y :: S := by simp
    rw [this]
    exact getD_mid (by simp; omega)
  rw [e1, getD_mid h1, set_mid h1]
  have : P ++ y :: (M ++ y :: S) = (P ++ y :: M) ++ y :: S := by simp
  rw [this, set_mid (by simp; omega)]
  simp
theorem swapN_pieces : ∀ (A C P M S : List α), A.length = C.length → swapN (P ++ A ++ M ++ C ++ S) P.length (P.length + A.length + M.length) A.length = P ++ C ++ M ++ A ++ S := by
  intro A C P M S hl
  have key : ∀ i, i ≤ A.length → swapN (P ++ A ++ M ++ C ++ S) P.length (P.length + A.length + M.length) i = P ++ C.take i ++ A.drop i ++ M ++ A.take i ++ C.drop i ++ S := by
    intro i
    induction i with
    | zero => intro _; simp [swapN]
    | succ i ih =>
      intro hi
      rw [swapN, ih (by omega)]
      have hiA : i < A.length := by omega
      have hiC : i < C.length := by omega
      rw [List.drop_eq_getElem_cons hiA, List.drop_eq_getElem_cons hiC, List.take_succ_eq_append_getElem hiA, List.take_succ_eq_append_getElem hiC]
      have l1 : (P ++ C.take i).length = P.length + i := by rw [List.length_append, List.length_take]; omega
      have l2 : P.length + i + 1 + (A.drop (i + 1) ++ M ++ A.take i).length = P.length + A.length + M.length + i := by
        rw [List.length_append, List.length_append, List.length_drop, List.length_take]; omega
      have := swap1_mid (P := P ++ C.take i) (M := A.drop (i + 1) ++ M ++ A.take i) (S := C.drop (i + 1) ++ S) (x := A[i]) (y := C[i]) l1 l2
      simp only [List.append_assoc, List.cons_append, List.nil_append] at this ⊢
      exact this
  have h := key A.length (Nat.le_refl _)
  rw [h, hl, List.take_length, List.drop_length, ← hl, List.take_length, List.drop_length]
  simp
end
section
variable {α : Type} {key : α → Int}
/-- Pieces of one length that rise. -/
def Pcs (key : α → Int) (s : Nat) (C : List (List α)) : Prop := ∀ c ∈ C, c.length = s ∧ Up key c
theorem Pcs.nil (s : Nat) : Pcs key s [] := fun c hc => by cases hc
theorem Pcs.snoc {s : Nat} {C : List (List α)} {c : List α} (h : Pcs key s C) (h1 : c.length = s) (h2 : Up key c) : Pcs key s (C ++ [c]) := fun x hx => by
  rcases List.mem_append.1 hx with hx | hx
  · exact h x hx
  · obtain rfl := List.mem_singleton.1 hx
    exact ⟨h1, h2⟩
theorem Pcs.len {s : Nat} : ∀ {C : List (List α)}, Pcs key s C → C.flatten.length = s * C.length
  | [], _ => by simp
  | c :: C, h => by
    have h1 := (h c (by simp)).1
    have h2 := Pcs.len (C := C) (fun x hx => h x (by simp [hx]))
    rw [List.flatten_cons, List.length_append, h1, h2, List.length_cons, Nat.mul_succ]
    omega
theorem Pcs.tail {s : Nat} {c : List α} {C : List (List α)} (h : Pcs key s (c :: C)) : c.length = s ∧ Up key c ∧ Pcs key s C := ⟨(h c (by simp)).1, (h c (by simp)).2, fun x hx => h x (by simp [hx])⟩
theorem flatten_snoc (C : List (List α)) (c : List α) : (C ++ [c]).flatten = C.flatten ++ c := by simp
theorem Same.inner {P X Y S zs : List α} (h : Same key zs (P ++ X ++ S)) (h2 : Same key X Y) : Same key zs (P ++ Y ++ S) := h.trans h2.inside
end
end Go.Proofs.YteoglkofeogknaaGreatDoor

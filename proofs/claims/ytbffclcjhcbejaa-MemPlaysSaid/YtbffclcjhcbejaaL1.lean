/- Plain laws of memory in ranges: where an address lies, what a store changes. No conditions beyond what each states. -/
import Derived.Test.YtbffclcjhcbejaaW15
namespace Go.Proofs.Ytbffclcjhcbejaa
open Go.RowKit
/-- No address lies in two of the ranges. -/
def UniqR (rs : List Rng) : Prop := rs.Pairwise fun r o => ∀ p, ¬ (hasB r.fr r.sz p 1 = true ∧ hasB o.fr o.sz p 1 = true)
theorem uniq_of_chk {rs : List Rng} (h : chkR rs = 0) : UniqR rs := by
  have hl : ¬ 16 < rs.length := by
    intro hl
    unfold chkR at h
    rw [if_pos hl] at h
    cases h
  have h1 : chkAll rs = true := by
    unfold chkR at h
    rw [if_neg hl] at h
    cases hc : chkAll rs with
    | true => rfl
    | false => rw [hc] at h; simp at h
  unfold UniqR
  rw [List.pairwise_iff_getElem]
  intro i j hi hj hij p hp
  have h2 := List.all_eq_true.1 h1 j (List.mem_range.2 hj)
  rw [okAt_lt hj] at h2
  simp only [Bool.and_eq_true, Bool.not_eq_true', List.any_eq_false] at h2
  have h3 := h2.2 rs[i] (List.mem_take_iff_getElem.2 ⟨i, by omega, rfl⟩)
  simp [clash, meetsB] at h3
  simp [hasB] at hp
  omega
theorem has_sub {a : Area} {at_ n p : Int} (h : a.has at_ n = true) (h1 : at_ ≤ p) (h2 : p < at_ + n) : a.has p 1 = true := by
  simp [Area.has, hasB] at h ⊢
  omega
theorem uniq_pre {pre post : List Area} {a x : Area} (hu : UniqR ((pre ++ a :: post).map (·.r))) {p : Int} (ha : a.has p 1 = true) (hx : x ∈ pre ∨ x ∈ post) : x.has p 1 = false := by
  unfold UniqR at hu
  rw [List.map_append, List.map_cons, List.pairwise_append, List.pairwise_cons] at hu
  cases hh : x.has p 1 with
  | false => rfl
  | true =>
    rcases hx with hx | hx
    · exact absurd ⟨hh, ha⟩ (hu.2.2 x.r (List.mem_map_of_mem hx) a.r (by simp) p)
    · exact absurd ⟨ha, hh⟩ (hu.2.1.1 x.r (List.mem_map_of_mem hx) p)
theorem find_of {pre post : List Area} {a : Area} {p n : Int} (ha : a.has p n = true) (hp : ∀ x ∈ pre, x.has p n = false) : findA (pre ++ a :: post) p n = some a := by
  unfold findA
  rw [List.find?_append]
  have : pre.find? (fun x => x.has p n) = none := by
    rw [List.find?_eq_none]
    intro x hx
    simp [hp x hx]
  rw [this]
  simp [ha]
theorem not_wide {x : Area} {at_ n : Int} (hn : 0 < n) (h : x.has at_ 1 = false) : x.has at_ n = false := by
  cases hh : x.has at_ n with
  | false => rfl
  | true => rw [has_sub hh (Int.le_refl _) (by omega)] at h; cases h
/-- What is held at p, if a has it. -/
theorem load_one {pre post : List Area} {a : Area} (hu : UniqR ((pre ++ a :: post).map (·.r))) {p : Int} (ha : a.has p 1 = true) : loadR (pre ++ a :: post) p 1 = (leW (cut a.xs (p - a.r.fr).toNat 1), 0) := by
  have hf := find_of (post := post) ha (fun x hx => uniq_pre hu ha (Or.inl hx))
  unfold loadR accR
  rw [if_neg (by omega), if_neg (by omega), hf]
  rfl
theorem load_wide {pre post : List Area} {a : Area} (hu : UniqR ((pre ++ a :: post).map (·.r))) {p n : Int} (ha : a.has p n = true) (hn : n = 1 ∨ n = 2 ∨ n = 4) (hm : p % n = 0) : loadR (pre ++ a :: post) p n = (leW (cut a.xs (p - a.r.fr).toNat n.toNat), 0) := by
  have hf := find_of (post := post) ha (fun x hx => not_wide (by omega) (uniq_pre hu (has_sub ha (Int.le_refl _) (by omega)) (Or.inl hx)))
  unfold loadR accR
  rw [if_neg (by omega), if_neg (by omega), hf]
theorem read_wide {pre post : List Area} {a : Area} (hu : UniqR ((pre ++ a :: post).map (·.r))) {p n : Int} (ha : a.has p n = true) (hn : n = 1 ∨ n = 2 ∨ n = 4) : readR (pre ++ a :: post) p n = (cut a.xs (p - a.r.fr).toNat n.toNat, 0) := by
  have hf := find_of (post := post) ha (fun x hx => not_wide (by omega) (uniq_pre hu (has_sub ha (Int.le_refl _) (by omega)) (Or.inl hx)))
  unfold readR
  rw [if_neg (by omega), if_neg (by omega), if_neg (by omega), hf]
/-- A store that is taken. -/
theorem store_shape {ms ms1 : List Area} {at_ n v : Int} (h : storeR ms at_ n v = (0, ms1)) : ∃ pre a post, ms = pre ++ a :: post ∧ a.r.wr = true ∧ a.has at_ n = true ∧ (n = 1 ∨ n = 2 ∨ n = 4) ∧ at_ % n = 0 ∧
    ms1 = pre ++ { a with xs := splice a.xs (at_ - a.r.fr).toNat (bytesOf v n.toNat) } :: post := by
  unfold storeR at h
  cases hacc : accR ms at_ n with
  | mk e oa =>
    rw [hacc] at h
    cases oa with
    | none =>
      simp only [Prod.mk.injEq] at h
      have := accR_none hacc
      omega
    | some a =>
      obtain ⟨rfl, hn, hm, hf⟩ := accR_some hacc
      dsimp only at h
      split at h
      · rename_i hw
        obtain ⟨pre, post, rfl, hh, hp⟩ := findA_split hf
        simp only [Prod.mk.injEq, true_and] at h
        refine ⟨pre, a, post, rfl, hw, hh, hn, hm, ?_⟩
        rw [← h]
        unfold putA
        rw [updA_of hh hp]
      · simp at h
theorem store_refused {ms : List Area} {at_ n v : Int} (h : (storeR ms at_ n v).1 ≠ 0) : (storeR ms at_ n v).2 = ms := by
  unfold storeR at h ⊢
  cases hacc : accR ms at_ n with
  | mk e oa =>
    rw [hacc] at h
    cases oa with
    | none => rfl
    | some a =>
      dsimp only at h ⊢
      split
      · rename_i hw
        rw [if_pos hw] at h
        exact absurd rfl h
      · rfl
/-- A store of one byte, seen from one area. -/
theorem store_seen {pre post : List Area} {a : Area} {q v : Int} (hu : UniqR ((pre ++ a :: post).map (·.r))) (hw : a.r.wr = true) :
    ∃ pre2 post2 a2, (storeR (pre ++ a :: post) q 1 v).2 = pre2 ++ a2 :: post2 ∧ pre2.map (·.r) = pre.map (·.r) ∧ post2.map (·.r) = post.map (·.r) ∧ a2.r = a.r ∧
      a2.xs = if a.has q 1 = true then splice a.xs (q - a.r.fr).toNat [v % 256] else a.xs := by
  have hb : bytesOf v (1 : Int).toNat = [v % 256] := rfl
  cases hh : a.has q 1 with
  | true =>
    have hf := find_of (post := post) hh (fun x hx => uniq_pre hu hh (Or.inl hx))
    refine ⟨pre, post, { a with xs := splice a.xs (q - a.r.fr).toNat [v % 256] }, ?_, rfl, rfl, rfl, by simp⟩
    unfold storeR accR
    rw [if_neg (by omega), if_neg (by omega), hf]
    dsimp only
    rw [if_pos hw, hb]
    unfold putA
    rw [updA_of hh (fun x hx => uniq_pre hu hh (Or.inl hx))]
  | false =>
    unfold storeR accR
    rw [if_neg (by omega), if_neg (by omega)]
    cases hf : findA (pre ++ a :: post) q 1 with
    | none => exact ⟨pre, post, a, rfl, rfl, rfl, rfl, by simp⟩
    | some c =>
      dsimp only
      split
      · obtain ⟨pre', post', he, hc, hp⟩ := findA_split hf
        unfold putA
        rw [he, updA_of hc hp]
        rcases List.append_eq_append_iff.1 he with ⟨t, h1, h2⟩ | ⟨t, h1, h2⟩
        · cases t with
          | nil =>
            simp only [List.nil_append, List.cons.injEq] at h2
            rw [h2.1, hc] at hh
            cases hh
          | cons y t =>
            simp only [List.cons_append, List.cons.injEq] at h2
            obtain ⟨rfl, rfl⟩ := h2
            exact ⟨pre, t ++ { c with xs := splice c.xs (q - c.r.fr).toNat (bytesOf v (1 : Int).toNat) } :: post', a, by rw [h1]; simp, rfl, by simp, rfl, by simp⟩
        · cases t with
          | nil =>
            simp only [List.nil_append, List.cons.injEq] at h2
            rw [← h2.1, hc] at hh
            cases hh
          | cons y t =>
            simp only [List.cons_append, List.cons.injEq] at h2
            obtain ⟨rfl, rfl⟩ := h2
            exact ⟨pre' ++ { c with xs := splice c.xs (q - c.r.fr).toNat (bytesOf v (1 : Int).toNat) } :: t, post, a, by simp, by rw [h1]; simp, rfl, rfl, by simp⟩
      · exact ⟨pre, post, a, rfl, rfl, rfl, rfl, by simp⟩
end Go.Proofs.Ytbffclcjhcbejaa

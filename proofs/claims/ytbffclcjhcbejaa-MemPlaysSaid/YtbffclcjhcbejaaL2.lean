/- Plain law of MemHolds: after a store and a store of one byte, what loads and reads tell. Conditions: those of the ranges. -/
import Derived.Test.YtbffclcjhcbejaaL1
namespace Go.Proofs.Ytbffclcjhcbejaa
open Go.RowKit
theorem splice_getD (L : List Int) (off : Nat) (cs : List Int) (h : off + cs.length ≤ L.length) (j : Nat) : (splice L off cs).getD j 0 = if off ≤ j ∧ j < off + cs.length then cs.getD (j - off) 0 else L.getD j 0 := by
  simp only [List.getD, splice, List.getElem?_append, List.length_take, List.getElem?_take, List.getElem?_drop]
  have hm : min off L.length = off := by omega
  rw [hm]
  by_cases c1 : j < off
  · have : ¬ (off ≤ j ∧ j < off + cs.length) := by omega
    simp only [c1, this, if_true, if_false]
  · by_cases c2 : j - off < cs.length
    · have : off ≤ j ∧ j < off + cs.length := by omega
      simp only [c1, c2, this, if_true, if_false, and_self]
    · have : ¬ (off ≤ j ∧ j < off + cs.length) := by omega
      have e : off + cs.length + (j - off - cs.length) = j := by omega
      simp only [c1, c2, this, if_false, e]
theorem cut_getD {xs : List Int} {k n i : Nat} (hi : i < n) : (cut xs k n).getD i 0 = xs.getD (k + i) 0 := by
  simp [cut, List.getD, hi]
theorem cut_one {xs : List Int} {k : Nat} (hk : k < xs.length) : cut xs k 1 = [xs.getD k 0] := by
  unfold cut
  rw [List.drop_eq_getElem_cons hk, List.take_succ_cons, List.take_zero]
  simp [List.getD, hk]
theorem bytesOf_len (v : Int) {n : Int} (hn : n = 1 ∨ n = 2 ∨ n = 4) : (bytesOf v n.toNat).length = n.toNat := by
  rcases hn with rfl | rfl | rfl <;> rfl
theorem leW_one (b : Int) : leW [b] = b := by simp [leW]
theorem isBytes_splice {xs cs : List Int} {k : Nat} (h : isBytes xs) (h2 : isBytes cs) : isBytes (splice xs k cs) := splice_bytes h h2
theorem holds_law {rs : List Rng} {ms ms1 : List Area} {at_ n w other v : Int} (hchk : chkR rs = 0) (hr : ms.map (·.r) = rs) (hlen : ∀ a ∈ ms, (a.xs.length : Int) = a.r.sz) (hok : ∀ a ∈ ms, a.r.Ok) (hby : ∀ a ∈ ms, isBytes a.xs)
    (hw0 : 0 ≤ w) (hw1 : w ≤ 4294967295) (hv0 : 0 ≤ v) (h : storeR ms at_ n w = (0, ms1)) :
    ∃ cs : List Int, cs.length = n.toNat ∧ (n = 1 ∨ n = 2 ∨ n = 4) ∧ isBytes cs ∧ at_ + n ≤ 4294967296 ∧
      (∀ i : Nat, i < n.toNat → loadR (storeR ms1 other 1 v).2 (at_ + i) 1 = (cs.getD i 0, 0) ∧ cs.getD i 0 = if other = at_ + i then v % 256 else (bytesOf w n.toNat).getD i 0) ∧
      loadR (storeR ms1 other 1 v).2 at_ n = (leW cs, 0) ∧ readR (storeR ms1 other 1 v).2 at_ n = (cs, 0) := by
  obtain ⟨pre, a, post, rfl, hwr, hh, hn, hm, rfl⟩ := store_shape h
  have hu := uniq_of_chk hchk
  rw [← hr] at hu
  have hla := hlen a (by simp)
  have hoka := hok a (by simp)
  have hba := hby a (by simp)
  have hh' := hh
  simp [Area.has, hasB] at hh'
  obtain ⟨⟨hn0, hfr⟩, hend⟩ := hh'
  obtain ⟨k, hk⟩ : ∃ k : Nat, at_ - a.r.fr = k := ⟨(at_ - a.r.fr).toNat, by omega⟩
  have hkn : (at_ - a.r.fr).toNat = k := by omega
  have hbl := bytesOf_len w hn
  have hfit : k + (bytesOf w n.toNat).length ≤ a.xs.length := by rw [hbl]; omega
  rw [hkn]
  have hu1 : UniqR ((pre ++ { a with xs := splice a.xs k (bytesOf w n.toNat) } :: post).map (·.r)) := by simpa using hu
  obtain ⟨pre2, post2, a2, he, hp2, hq2, hr2, hx2⟩ := store_seen (q := other) (v := v) hu1 hwr
  have hu2 : UniqR ((pre2 ++ a2 :: post2).map (·.r)) := by
    rw [List.map_append, List.map_cons, hp2, hq2, hr2]
    simpa using hu
  have hhas : ∀ p m, a2.has p m = a.has p m := fun p m => by unfold Area.has; rw [hr2]
  rw [he]
  have hl1 : (splice a.xs k (bytesOf w n.toNat)).length = a.xs.length := length_splice _ _ _ hfit
  have hb1 : isBytes (splice a.xs k (bytesOf w n.toNat)) := isBytes_splice hba (bytesOf_bytes hw0 hw1 _)
  have hha1 : ∀ p m, Area.has { a with xs := splice a.xs k (bytesOf w n.toNat) } p m = a.has p m := fun p m => rfl
  rw [hha1] at hx2
  dsimp only at hx2 hr2
  have hoth : a.has other 1 = true → (other - a.r.fr).toNat + 1 ≤ a.xs.length ∧ a.r.fr ≤ other := fun ho => by
    simp [Area.has, hasB] at ho
    omega
  have hl2 : a2.xs.length = a.xs.length := by
    rw [hx2]
    split
    · rename_i ho
      rw [length_splice _ _ _ (by rw [hl1]; exact (hoth ho).1), hl1]
    · exact hl1
  have hb2 : isBytes a2.xs := by
    rw [hx2]
    split
    · exact isBytes_splice hb1 (fun x hx => by simp at hx; omega)
    · exact hb1
  have hkn2 : (at_ - a2.r.fr).toNat = k := by rw [hr2]; exact hkn
  have hcut : k + n.toNat ≤ a2.xs.length := by omega
  have hval : ∀ i : Nat, i < n.toNat → a2.xs.getD (k + i) 0 = if other = at_ + i then v % 256 else (bytesOf w n.toNat).getD i 0 := by
    intro i hi
    have e1 : (splice a.xs k (bytesOf w n.toNat)).getD (k + i) 0 = (bytesOf w n.toNat).getD i 0 := by
      rw [splice_getD _ _ _ hfit, if_pos (by omega), Nat.add_sub_cancel_left]
    have hai : a.has (at_ + i) 1 = true := has_sub hh (by omega) (by omega)
    rw [hx2]
    by_cases ho : a.has other 1 = true
    · rw [if_pos ho, splice_getD _ _ _ (by rw [hl1]; exact (hoth ho).1), e1]
      have := (hoth ho).2
      by_cases hoi : other = at_ + i
      · rw [if_pos hoi, if_pos (by simp; omega)]
        have : k + i - (other - a.r.fr).toNat = 0 := by omega
        rw [this]
        rfl
      · rw [if_neg hoi, if_neg (by simp; omega)]
    · rw [if_neg ho, e1, if_neg]
      rintro rfl
      exact ho hai
  refine ⟨cut a2.xs k n.toNat, cut_length hcut, hn, cut_bytes hb2, by have := hoka.fs; omega, fun i hi => ⟨?_, ?_⟩, ?_, ?_⟩
  · have hai : a2.has (at_ + i) 1 = true := by rw [hhas]; exact has_sub hh (by omega) (by omega)
    rw [load_one hu2 hai]
    have : (at_ + (i : Int) - a2.r.fr).toNat = k + i := by rw [hr2]; omega
    rw [this, cut_one (by omega), leW_one, cut_getD hi]
  · rw [cut_getD hi]
    exact hval i hi
  · rw [load_wide hu2 (by rw [hhas]; exact hh) hn hm, hkn2]
  · rw [read_wide hu2 (by rw [hhas]; exact hh) hn, hkn2]
end Go.Proofs.Ytbffclcjhcbejaa

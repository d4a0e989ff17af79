/- The rows of what may be unset, as they lie: laws. No conditions. -/
import Derived.Test.YtlmoblmkhicoeaaGreatDoorU1
set_option linter.unusedVariables false
set_option linter.unusedSimpArgs false
namespace Go.Proofs.YtlmoblmkhicoeaaGreatDoor
open Go.RowKit
def unV (F : Fn) (gs : Nat → Nat) (k b : Nat) : Value := if b < k ∧ (rchL F).getD b false = true then .slice (some ⟨gs b, 0, none⟩) F.rs.toNat F.rs.toNat else .slice none 0 0
/-- The first k rows are laid down. -/
structure UnW (w : World) (F : Fn) (gI k : Nat) (gs : Nat → Nat) (ins : List (List Bool)) (W : World) : Prop where
  ib : ∃ cs, Blk W gI 66 cs ∧ cs.size = F.bl.length ∧ ∀ b (h : b < cs.size), cs[b] = unV F gs k b
  ro : ∀ b, b < k → (rchL F).getD b false = true → OwnB W w.heap.size (.slice (some ⟨gs b, 0, none⟩) F.rs.toNat F.rs.toNat) (ins.getD b []) ∧ (ins.getD b []).length = F.rs.toNat ∧ w.heap.size ≤ gs b ∧ gs b < W.heap.size
  nd : ∀ b c, b < k → c < k → (rchL F).getD b false = true → (rchL F).getD c false = true → b ≠ c → gs b ≠ gs c
  be : Below w.heap.size w W
  gb : w.heap.size ≤ gI
theorem UnW.below {w W W' : World} {F : Fn} {gI k : Nat} {gs : Nat → Nat} {ins : List (List Bool)} (h : UnW w F gI k gs ins W) (hb : Below W.heap.size W W') : UnW w F gI k gs ins W' := by
  obtain ⟨cs, h1, h2, h3⟩ := h.ib
  exact ⟨⟨cs, h1.below hb h1.lt, h2, h3⟩, fun b x y => let ⟨p, q, r, s⟩ := h.ro b x y; ⟨p.below hb, q, r, Nat.lt_of_lt_of_le s hb.size⟩, h.nd, h.be.trans (below_of_le hb h.be.size), h.gb⟩
theorem UnW.cell {w W : World} {F : Fn} {gI k : Nat} {gs : Nat → Nat} {ins : List (List Bool)} (h : UnW w F gI k gs ins W) {b : Nat} (hb : b < F.bl.length) : W.cell? ⟨gI, b, none⟩ = some (unV F gs k b) ∧ W.frozen? ⟨gI, b, none⟩ = false := by
  obtain ⟨cs, h1, h2, h3⟩ := h.ib
  exact ⟨by rw [h1.cell, Array.getElem?_eq_getElem (by omega), h3], h1.frozen b⟩
theorem unV_yes {F : Fn} {gs : Nat → Nat} {k b : Nat} (hb : b < k) (hr : (rchL F).getD b false = true) : unV F gs k b = .slice (some ⟨gs b, 0, none⟩) F.rs.toNat F.rs.toNat := by rw [unV, if_pos ⟨hb, hr⟩]
theorem unV_no {F : Fn} {gs : Nat → Nat} {k b : Nat} (hr : (rchL F).getD b false = false) : unV F gs k b = .slice none 0 0 := by rw [unV, if_neg (by rw [hr]; simp)]
theorem UnW.start {w W : World} {F : Fn} {gI : Nat} (gs : Nat → Nat) (ins : List (List Bool)) (hb : Blk W gI 66 (Array.replicate F.bl.length (.slice none 0 0))) (be : Below w.heap.size w W) (hg : w.heap.size ≤ gI) : UnW w F gI 0 gs ins W :=
  ⟨⟨_, hb, by simp, fun b h => by rw [unV, if_neg (by omega)]; simp⟩, fun b h => absurd h (by omega), fun b c h => absurd h (by omega), be, hg⟩
theorem UnW.skip {w W : World} {F : Fn} {gI k : Nat} {gs : Nat → Nat} {ins : List (List Bool)} (h : UnW w F gI k gs ins W) (hr : (rchL F).getD k false = false) : UnW w F gI (k + 1) gs ins W := by
  obtain ⟨cs, h1, h2, h3⟩ := h.ib
  have hne : ∀ b, b < k + 1 → (rchL F).getD b false = true → b < k := fun b hb hr' => by
    rcases Nat.lt_or_ge b k with h1 | h1
    · exact h1
    · have : b = k := by omega
      subst this; rw [hr] at hr'; cases hr'
  refine ⟨⟨cs, h1, h2, fun b hb => ?_⟩, fun b hb hr' => h.ro b (hne b hb hr') hr', fun b c hb hc x y => h.nd b c (hne b hb x) (hne c hc y) x y, h.be, h.gb⟩
  rw [h3 b hb]
  cases hrb : (rchL F).getD b false with
  | false => rw [unV_no hrb, unV_no hrb]
  | true =>
    by_cases hbk : b < k
    · rw [unV_yes hbk hrb, unV_yes (by omega) hrb]
    · by_cases hbk2 : b < k + 1
      · exact absurd (hne b hbk2 hrb) hbk
      · rw [unV, unV, if_neg (by omega), if_neg (by omega)]
theorem set_blk_cells {W : World} {g n : Nat} {t : TypeId} {cs : Array Value} (h : Blk W g t cs) (k : Nat) (v : Value) : Blk (W.setCell ⟨g, k, none⟩ v) g t (cs.setIfInBounds k v) := h.set_ k v
/-- One row more. -/
theorem UnW.add {w W : World} {F : Fn} {gI k : Nat} {gs : Nat → Nat} (h : UnW w F gI k gs (unZ F) W) (hk : k < F.bl.length) (hr : (rchL F).getD k false = true) (hR : F.rs.toNat ≤ maxLen) :
    UnW w F gI (k + 1) (fun b => if b = k then W.heap.size else gs b) (unZ F) ((W.alloc (.cells (Array.replicate F.rs.toNat (.bool false)) 4)).setCell ⟨gI, k, none⟩ (.slice (some ⟨W.heap.size, 0, none⟩) F.rs.toNat F.rs.toNat)) := by
  have hal := below1 W (.cells (Array.replicate F.rs.toNat (.bool false)) 4)
  have h2 := h.below hal
  obtain ⟨cs, q1, q2, q3⟩ := h2.ib
  obtain ⟨cs0, q10, -, -⟩ := h.ib
  have hgI := q10.lt
  have hkc : Keeps (fun q => q = gI) (W.alloc (.cells (Array.replicate F.rs.toNat (.bool false)) 4)) ((W.alloc (.cells (Array.replicate F.rs.toNat (.bool false)) 4)).setCell ⟨gI, k, none⟩ (.slice (some ⟨W.heap.size, 0, none⟩) F.rs.toNat F.rs.toNat)) := (Keeps.refl (fun q => q = gI) _).setCell (p := ⟨gI, k, none⟩) (Or.inr rfl) _
  have hz : (unZ F).getD k [] = List.replicate F.rs.toNat false := by
    have hl : k < (unZ F).length := by simp [unZ, hk]
    have e : (unZ F).getD k [] = (unZ F)[k] := by simp [hl]
    rw [e]
    simp only [unZ, List.getElem_map, List.getElem_range, hr, if_true]
  have hnew := OwnB.made W F.rs.toNat w.heap.size h.be.size hR
  have hne : ∀ {v : Value} {l : List Bool}, OwnB (W.alloc (.cells (Array.replicate F.rs.toNat (.bool false)) 4)) w.heap.size v l → ∀ q, v.ownBlock = some q → ¬ q = gI := by
    intro v l ho q hq e
    obtain ⟨cur, hc⟩ := owns_kind ho hq
    exact absurd (Blk.kind q1 (e ▸ hc)) (by decide)
  have hsz : ((W.alloc (.cells (Array.replicate F.rs.toNat (.bool false)) 4)).setCell ⟨gI, k, none⟩ (.slice (some ⟨W.heap.size, 0, none⟩) F.rs.toNat F.rs.toNat)).heap.size = W.heap.size + 1 := by rw [World.size_setCell, World.size_alloc]
  refine ⟨⟨_, q1.set_ k _, by simp [q2], fun b hb => ?_⟩, fun b hb hrb => ?_, fun b c hb hc hrb hrc hbc => ?_, below_far h2.be h.gb _, h.gb⟩
  · have hb' : b < cs.size := by simpa using hb
    rw [set_get _ hb']
    by_cases e : k = b
    · subst e
      rw [if_pos rfl, unV_yes (by omega) hr, if_pos rfl]
    · rw [if_neg e, q3 b hb']
      cases hrb : (rchL F).getD b false with
      | false => rw [unV_no hrb, unV_no hrb]
      | true =>
        by_cases hbk : b < k
        · rw [unV_yes hbk hrb, unV_yes (by omega) hrb, if_neg (fun e2 => e e2.symm)]
        · rw [unV, unV, if_neg (by omega), if_neg (by omega)]
  · by_cases e : b = k
    · subst e
      simp only [↓reduceIte]
      rw [hz, hsz]
      exact ⟨hnew.keeps hkc (hne hnew), by simp, h.be.size, by omega⟩
    · simp only [if_neg e]
      obtain ⟨p, q, r, s⟩ := h.ro b (by omega) hrb
      have p2 := p.below hal
      exact ⟨p2.keeps hkc (hne p2), q, r, by rw [hsz]; omega⟩
  · by_cases e1 : b = k
    · by_cases e2 : c = k
      · exact absurd (e1.trans e2.symm) hbc
      · simp only [if_pos e1, if_neg e2]
        have := (h.ro c (by omega) hrc).2.2.2
        omega
    · by_cases e2 : c = k
      · simp only [if_pos e2, if_neg e1]
        have := (h.ro b (by omega) hrb).2.2.2
        omega
      · simp only [if_neg e1, if_neg e2]
        exact h.nd b c (by omega) (by omega) hrb hrc hbc
/-- One row turned. -/
theorem UnW.join {w W W' : World} {F : Fn} {gI : Nat} {gs : Nat → Nat} {ins : List (List Bool)} (h : UnW w F gI F.bl.length gs ins W) {b : Nat} (hb : b < F.bl.length) (hr : (rchL F).getD b false = true) (hk : Keeps (fun q => q = gs b) W W') {new : List Bool} (ho : OwnB W' w.heap.size (.slice (some ⟨gs b, 0, none⟩) F.rs.toNat F.rs.toNat) new) (hl : new.length = F.rs.toNat) (hi : ins.length = F.bl.length) :
    UnW w F gI F.bl.length gs (ins.set b new) W' := by
  obtain ⟨cs, q1, q2, q3⟩ := h.ib
  obtain ⟨p, -, r, s⟩ := h.ro b hb hr
  have hgI : ¬ gI = gs b := fun e => by
    obtain ⟨cur, hc⟩ := owns_kind p (g := gs b) rfl
    exact absurd (Blk.kind q1 (e ▸ hc)) (by decide)
  refine ⟨⟨cs, q1.keeps hk hgI, q2, q3⟩, fun c hc hrc => ?_, h.nd, h.be.trans (hk.toBelow h.be.size (fun q hq e => by omega)), h.gb⟩
  obtain ⟨p', q', r', s'⟩ := h.ro c hc hrc
  by_cases e : b = c
  · subst e
    have e2 : (ins.set b new).getD b [] = new := by simp [hi, hb]
    rw [e2]
    exact ⟨ho, hl, r, Nat.lt_of_lt_of_le s hk.size⟩
  · have e2 : (ins.set b new).getD c [] = ins.getD c [] := by
      simp only [List.getD_eq_getElem?_getD]
      rw [List.getElem?_set_ne e]
    rw [e2]
    exact ⟨p'.keeps hk (fun q hq e3 => by
      have e4 : q = gs c := by simpa [Value.ownBlock] using hq.symm
      exact h.nd c b hc hb hrc hr (fun e5 => e e5.symm) (e4 ▸ e3)), q', r', Nat.lt_of_lt_of_le s' hk.size⟩
/-- The rows, and which are done. -/
structure UnD (w : World) (F : Fn) (gI gD : Nat) (gs : Nat → Nat) (ins : List (List Bool)) (dn : List Bool) (W : World) : Prop where
  u : UnW w F gI F.bl.length gs ins W
  ok : UnOk F ins
  d : BRow W gD dn
  dl : dn.length = F.bl.length
  dg : w.heap.size ≤ gD
  dne : ∀ b, b < F.bl.length → (rchL F).getD b false = true → gs b ≠ gD
theorem UnD.below {w W W' : World} {F : Fn} {gI gD : Nat} {gs : Nat → Nat} {ins : List (List Bool)} {dn : List Bool} (h : UnD w F gI gD gs ins dn W) (hb : Below W.heap.size W W') : UnD w F gI gD gs ins dn W' :=
  ⟨h.u.below hb, h.ok, h.d.below hb, h.dl, h.dg, h.dne⟩
theorem UnD.join {w W W' : World} {F : Fn} {gI gD : Nat} {gs : Nat → Nat} {ins : List (List Bool)} {dn : List Bool} (h : UnD w F gI gD gs ins dn W) {b : Nat} (hb : b < F.bl.length) (hr : (rchL F).getD b false = true) (hk : Keeps (fun q => q = gs b) W W') {new : List Bool} (ho : OwnB W' w.heap.size (.slice (some ⟨gs b, 0, none⟩) F.rs.toNat F.rs.toNat) new) (hl : new.length = F.rs.toNat) : UnD w F gI gD gs (ins.set b new) dn W' :=
  ⟨h.u.join hb hr hk ho hl h.ok.n, h.ok.set_ b hr hl, h.d.keeps hk (fun e => h.dne b hb hr e.symm), h.dl, h.dg, h.dne⟩
theorem UnD.done {w W : World} {F : Fn} {gI gD : Nat} {gs : Nat → Nat} {ins : List (List Bool)} {dn : List Bool} (h : UnD w F gI gD gs ins dn W) (k : Nat) : UnD w F gI gD gs ins (dn.set k true) (W.setCell ⟨gD, k, none⟩ (.bool true)) := by
  have hk : Keeps (fun q => q = gD) W (W.setCell ⟨gD, k, none⟩ (.bool true)) := (Keeps.refl (fun q => q = gD) W).setCell (p := ⟨gD, k, none⟩) (Or.inr rfl) _
  obtain ⟨cs, q1, q2, q3⟩ := h.u.ib
  obtain ⟨cd, d1, d2⟩ := h.d.b
  refine ⟨⟨⟨cs, q1.keeps hk (fun e => absurd (Blk.kind q1 (e ▸ d1)) (by decide)), q2, q3⟩, fun b hb hr => ?_, h.u.nd, below_far h.u.be h.dg _, h.u.gb⟩, h.ok, h.d.set_ k true, by rw [List.length_set]; exact h.dl, h.dg, h.dne⟩
  obtain ⟨p, q, r, s⟩ := h.u.ro b hb hr
  exact ⟨p.keeps hk (fun q' hq e => by
    have e4 : q' = gs b := by simpa [Value.ownBlock] using hq.symm
    exact h.dne b hb hr (e4 ▸ e)), q, r, by rw [World.size_setCell]; exact s⟩
/-- A block that is none of these is turned. -/
theorem UnD.far {w W W' : World} {F : Fn} {gI gD q : Nat} {gs : Nat → Nat} {ins : List (List Bool)} {dn : List Bool} (h : UnD w F gI gD gs ins dn W) (hk : Keeps (fun k => k = q) W W') (h1 : gI ≠ q) (h2 : ∀ b, b < F.bl.length → (rchL F).getD b false = true → gs b ≠ q) (h3 : gD ≠ q) (hq : w.heap.size ≤ q) : UnD w F gI gD gs ins dn W' := by
  obtain ⟨cs, q1, q2, q3⟩ := h.u.ib
  refine ⟨⟨⟨cs, q1.keeps hk h1, q2, q3⟩, fun b hb hr => ?_, h.u.nd, h.u.be.trans (hk.toBelow h.u.be.size (fun k hk e => by omega)), h.u.gb⟩, h.ok, h.d.keeps hk h3, h.dl, h.dg, h.dne⟩
  obtain ⟨p, q', r, s⟩ := h.u.ro b hb hr
  exact ⟨p.keeps hk (fun q'' hq' e => by
    have e4 : q'' = gs b := by simpa [Value.ownBlock] using hq'.symm
    exact h2 b hb hr (e4 ▸ e)), q', r, Nat.lt_of_lt_of_le s hk.size⟩
end Go.Proofs.YtlmoblmkhicoeaaGreatDoor

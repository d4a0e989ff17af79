/- Rows of rows of ints, in a block of one's own. No conditions. Walks: flow.Live. Conditions: the tables; small parts. -/
import Derived.Test.YtlmoblmkhicoeaaGreatDoorG2
import Derived.Test.YtlmoblmkhicoeaaGreatDoorH2
import Derived.Deep.DeepCutAuto
set_option linter.unusedVariables false
set_option linter.unusedSimpArgs false
namespace Go.Proofs.YtlmoblmkhicoeaaGreatDoor
open Go.RowKit
/-- A block whose cells are rows of ints of one's own. -/
structure RRow (W : World) (B g : Nat) (tl : List (List Int)) : Prop where
  b : ∃ cs : Array Value, Blk W g 34 cs ∧ cs.size = tl.length ∧ ∀ i (h : i < tl.length) (h2 : i < cs.size), OwnI W B cs[i] tl[i]
theorem RRow.lt {W : World} {B g : Nat} {tl : List (List Int)} (h : RRow W B g tl) : g < W.heap.size := by
  obtain ⟨cs, hb, _⟩ := h.b
  exact hb.lt
theorem RRow.frozen {W : World} {B g : Nat} {tl : List (List Int)} (h : RRow W B g tl) (j : Nat) : W.frozen? ⟨g, j, none⟩ = false := by
  obtain ⟨cs, hb, _⟩ := h.b
  exact hb.frozen j
theorem RRow.ne {W : World} {g : Nat} {t : TypeId} {cs : Array Value} (h : Blk W g t cs) (ht : t ≠ 3) {B' : Nat} {v : Value} {l : List Int} (hv : OwnI W B' v l) : ∀ q, v.ownBlock = some q → ¬ q = g := by
  intro q hq e
  obtain ⟨cur, hc⟩ := owns_kind hv hq
  exact ht (Blk.kind (e ▸ h) hc)
theorem RRow.keeps {W W' : World} {F : Nat → Prop} {B g : Nat} {tl : List (List Int)} (h : RRow W B g tl) (hk : Keeps F W W') (hg : ¬ F g) (hF : ∀ q, B ≤ q → ¬ F q) : RRow W' B g tl := by
  obtain ⟨cs, hb, h1, h2⟩ := h.b
  exact ⟨cs, hb.keeps hk hg, h1, fun i a b => (h2 i a b).keeps hk (fun q hq => hF q ((h2 i a b).ge q hq))⟩
theorem RRow.below {W W' : World} {B g : Nat} {tl : List (List Int)} (h : RRow W B g tl) (hb : Below W.heap.size W W') : RRow W' B g tl := h.keeps (keeps_of_below (fun _ => False) hb) id (fun _ _ => id)
theorem RRow.cell {W : World} {B g : Nat} {tl : List (List Int)} (h : RRow W B g tl) (i : Nat) (hi : i < tl.length) : ∃ v, W.cell? ⟨g, i, none⟩ = some v ∧ OwnI W B v tl[i] := by
  obtain ⟨cs, hb, h1, h2⟩ := h.b
  exact ⟨cs[i]'(by omega), by rw [hb.cell]; simp [h1, hi], h2 i hi (by omega)⟩
theorem RRow.set_ {W : World} {B g : Nat} {tl : List (List Int)} (h : RRow W B g tl) (i : Nat) {v : Value} {l : List Int} (hv : OwnI W B v l) : RRow (W.setCell ⟨g, i, none⟩ v) B g (tl.set i l) := by
  obtain ⟨cs, hb, h1, h2⟩ := h.b
  have hk : Keeps (fun q => q = g) W (W.setCell ⟨g, i, none⟩ v) := (Keeps.refl (fun q => q = g) W).setCell (p := ⟨g, i, none⟩) (Or.inr rfl) _
  refine ⟨_, hb.set_ i v, by simp [h1], fun j a b => ?_⟩
  rw [List.length_set] at a
  by_cases e : i = j
  · subst e
    have : (cs.setIfInBounds i v)[i]'b = v := by simp
    rw [this, List.getElem_set_self]
    exact hv.keeps hk (RRow.ne hb (by decide) hv)
  · have : (cs.setIfInBounds i v)[j]'b = cs[j]'(by omega) := by rw [Array.getElem_setIfInBounds, if_neg e]
    rw [this, List.getElem_set_ne e]
    exact (h2 j a (by omega)).keeps hk (RRow.ne hb (by decide) (h2 j a (by omega)))
/-- A change of another block of another kind. -/
theorem RRow.other {W W' : World} {B g q : Nat} {tl : List (List Int)} {t : TypeId} {cs : Array Value} (h : RRow W B g tl) (hk : Keeps (fun k => k = q) W W') (hq : Blk W q t cs) (ht : t ≠ 3) (hg : g ≠ q) : RRow W' B g tl := by
  obtain ⟨cs', hb, h1, h2⟩ := h.b
  exact ⟨cs', hb.keeps hk hg, h1, fun i a b => (h2 i a b).keeps hk (RRow.ne hq ht (h2 i a b))⟩
theorem RRow.made (w : World) (n B : Nat) : RRow (w.alloc (.cells (Array.replicate n (.slice none 0 0)) 34)) B w.heap.size (List.replicate n []) :=
  ⟨_, Blk.new _ _ _, by simp, fun i a b => by simp [OwnI.nil]⟩
theorem RRow.of {W : World} {g n : Nat} (h : Blk W g 34 (Array.replicate n (.slice none 0 0))) (B : Nat) : RRow W B g (List.replicate n []) :=
  ⟨_, h, by simp, fun i a b => by simp [OwnI.nil]⟩
theorem RRow.to {W : World} {B g n : Nat} {tl : List (List Int)} (h : RRow W B g tl) (hn : tl.length = n) (hm : n ≤ maxLen) : ToAt W (.slice (some ⟨g, 0, none⟩) n n) tl := by
  subst hn
  obtain ⟨cs, hb, h1, h2⟩ := h.b
  refine ⟨cs.toList, by simp [h1], ⟨_, _, rfl, Nat.le_refl _, hm, fun _ => ⟨g, 0, rfl, hb.lt, fun j u hj => ?_⟩⟩, fun i a b => ?_⟩
  · rw [Nat.zero_add, hb.cell]; simpa using hj
  · have := (h2 i a (by omega)).ints
    simpa using this
theorem make_rows (n : Nat) (hn : n ≤ 16777216) (w : World) : (Instr.makeSlice 27 (.int .i64 (n : Int)) (.int .i64 (n : Int))).run Tryz.prog w = .ok (.slice (some ⟨w.heap.size, 0, none⟩) n n) (w.alloc (.cells (Array.replicate n (.slice none 0 0)) 34)) :=
  made_one und27 inf34 rfl (by decide) n hn w
end Go.Proofs.YtlmoblmkhicoeaaGreatDoor
namespace Go.Proofs.YtlmoblmkhicoeaaGreatDoor
open Go.RowKit
theorem cell_far {W : World} {g q j k : Nat} (h : g ≠ q) (u : Value) : (W.setCell ⟨q, k, none⟩ u).cell? ⟨g, j, none⟩ = W.cell? ⟨g, j, none⟩ := World.cell?_of_block (a := ⟨g, j, none⟩) (Below.heap_setCell W ⟨q, k, none⟩ u g h)
/-- What is live at a reached block's beginning. -/
def inL (F : Fn) (b : Nat) : List Int := if (rchL F).getD b false then listW ((liveL F).getD b zeroW) (nW F) else []
def liveIn (F : Fn) : List (List Int) := (List.range F.bl.length).map (inL F)
theorem liveIn_len (F : Fn) : (liveIn F).length = F.bl.length := by simp [liveIn]
theorem LvS.other {wb W W' : World} {gl gg k m q : Nat} {inv : Value} {gs : List Nat} {ins : List (List Nat)} {t : TypeId} {cs : Array Value} (h : LvS wb gl gg k m inv gs ins W) (hk : Keeps (fun k => k = q) W W') (hq : Blk W q t cs) (h1 : t ≠ 88) (h2 : t ≠ 91) (h3 : t ≠ 110) (hge : wb.heap.size ≤ q) : LvS wb gl gg k m inv gs ins W' :=
  ⟨h.lb.keeps hk (fun e => h1 (Blk.kind hq (e ▸ h.lb))) , h.glb, ownsRow_keeps h.ow hk (fun p hp e => by
    obtain ⟨cur, hc⟩ := owns_kind h.ow hp
    exact h2 (Blk.kind hq (e ▸ hc))), h.gn, h.il, fun i a b => (h.st i a b).keeps hk (fun e => h3 ((h.st i a b).kind (e ▸ hq))), h.nd, h.gsb, h.be.trans (hk.toBelow h.be.size (fun p hp e => by omega))⟩
structure LiW (w : World) (wb : World) (F : Fn) (gl gg m : Nat) (inv : Value) (gs : List Nat) (B gI gO gL k : Nat) (fx : Array Value) (W : World) : Prop where
  s : LvS wb gl gg F.bl.length m inv gs (liveL F) W
  lb : Blk W gL 48 #[.slice (some ⟨gI, 0, none⟩) F.bl.length F.bl.length, .slice (some ⟨gO, 0, none⟩) F.bl.length F.bl.length]
  ri : ∃ tl, RRow W B gI tl ∧ tl.length = F.bl.length ∧ ∀ b, tl.getD b [] = if b < k then inL F b else []
  ro : ∃ tl, RRow W B gO tl ∧ tl.length = F.bl.length
  be : Below w.heap.size w W
  ne : gI ≠ gO
  bI : B ≤ gI
  bO : B ≤ gO
  wB : w.heap.size + 2 ≤ B
  eB : wb.heap.size ≤ B
  rb : Blk W (w.heap.size + 1) 48 #[.slice none 0 0, .slice none 0 0]
  bx : Blk W w.heap.size 25 fx
theorem LiW.below {w wb W W' : World} {F : Fn} {gl gg m : Nat} {inv : Value} {gs : List Nat} {B gI gO gL k : Nat} {fx : Array Value} (h : LiW w wb F gl gg m inv gs B gI gO gL k fx W) (hb : Below W.heap.size W W') : LiW w wb F gl gg m inv gs B gI gO gL k fx W' := by
  obtain ⟨t1, a1, a2, a3⟩ := h.ri
  obtain ⟨t2, b1, b2⟩ := h.ro
  exact ⟨h.s.below hb, h.lb.below hb h.lb.lt, ⟨t1, a1.below hb, a2, a3⟩, ⟨t2, b1.below hb, b2⟩, h.be.trans (below_of_le hb h.be.size), h.ne, h.bI, h.bO, h.wB, h.eB, h.rb.below hb h.rb.lt, h.bx.below hb h.bx.lt⟩
theorem LiW.skip {w wb W : World} {F : Fn} {gl gg m : Nat} {inv : Value} {gs : List Nat} {B gI gO gL k : Nat} {fx : Array Value} (h : LiW w wb F gl gg m inv gs B gI gO gL k fx W) (hr : (rchL F).getD k false = false) : LiW w wb F gl gg m inv gs B gI gO gL (k + 1) fx W := by
  obtain ⟨t1, a1, a2, a3⟩ := h.ri
  refine ⟨h.s, h.lb, ⟨t1, a1, a2, fun b => ?_⟩, h.ro, h.be, h.ne, h.bI, h.bO, h.wB, h.eB, h.rb, h.bx⟩
  rw [a3]
  by_cases hb : b < k
  · rw [if_pos hb, if_pos (by omega)]
  · rw [if_neg hb]
    split
    · have : b = k := by omega
      subst this
      simp only [inL, hr, Bool.false_eq_true, if_false]
    · rfl
/-- Both rows written. -/
theorem LiW.put {w wb W : World} {F : Fn} {gl gg m : Nat} {inv : Value} {gs : List Nat} {B gI gO gL k : Nat} {fx : Array Value} (h : LiW w wb F gl gg m inv gs B gI gO gL k fx W) (hkn : k < F.bl.length) (hr : (rchL F).getD k false = true) {v1 v2 : Value} {l2 : List Int} (h1 : OwnI W B v1 (listW ((liveL F).getD k zeroW) (nW F))) (h2 : OwnI W B v2 l2) :
    LiW w wb F gl gg m inv gs B gI gO gL (k + 1) fx ((W.setCell ⟨gI, k, none⟩ v1).setCell ⟨gO, k, none⟩ v2) := by
  obtain ⟨t1, a1, a2, a3⟩ := h.ri
  obtain ⟨t2, b1, b2⟩ := h.ro
  obtain ⟨c1, d1, -⟩ := a1.b
  obtain ⟨c2, d2, -⟩ := b1.b
  have k1 : Keeps (fun q => q = gI) W (W.setCell ⟨gI, k, none⟩ v1) := (Keeps.refl (fun q => q = gI) W).setCell (p := ⟨gI, k, none⟩) (Or.inr rfl) _
  have d2' : Blk (W.setCell ⟨gI, k, none⟩ v1) gO 34 c2 := d2.keeps k1 h.ne.symm
  have k2 : Keeps (fun q => q = gO) (W.setCell ⟨gI, k, none⟩ v1) ((W.setCell ⟨gI, k, none⟩ v1).setCell ⟨gO, k, none⟩ v2) := (Keeps.refl (fun q => q = gO) _).setCell (p := ⟨gO, k, none⟩) (Or.inr rfl) _
  have e1 := a1.set_ k h1
  have e2 := (b1.other k1 d1 (by decide) h.ne.symm).set_ k (h2.keeps k1 (RRow.ne d1 (by decide) h2))
  have hgL1 : ¬ gL = gI := fun e => absurd (Blk.kind (e ▸ h.lb) d1) (by decide)
  have hgL2 : ¬ gL = gO := fun e => absurd (Blk.kind (e ▸ h.lb) d2) (by decide)
  have hl1 := h.lb.keeps k1 hgL1
  have hq1 := h.bI
  have hq2 := h.bO
  have hw := h.wB
  have he := h.eB
  have hs1 := h.s.other k1 d1 (by decide) (by decide) (by decide) (by omega)
  have hb1 : Below w.heap.size w (W.setCell ⟨gI, k, none⟩ v1) := h.be.trans (k1.toBelow h.be.size (fun q hq e => by omega))
  refine ⟨hs1.other k2 d2' (by decide) (by decide) (by decide) (by omega), hl1.keeps k2 hgL2, ⟨_, e1.other k2 d2' (by decide) h.ne, by rw [List.length_set]; exact a2, fun b => ?_⟩, ⟨_, e2, by rw [List.length_set]; exact b2⟩, hb1.trans (k2.toBelow hb1.size (fun q hq e => by omega)), h.ne, h.bI, h.bO, h.wB, h.eB, (h.rb.keeps k1 (by omega)).keeps k2 (by omega), (h.bx.keeps k1 (by omega)).keeps k2 (by omega)⟩
  have hv : inL F k = listW ((liveL F).getD k zeroW) (nW F) := by simp only [inL, hr, if_true]
  rw [← hv]
  by_cases hb : b = k
  · subst hb
    rw [if_pos (by omega)]
    simp [a2, hkn]
  · have e : (t1.set k (inL F k)).getD b [] = t1.getD b [] := by
      simp only [List.getD_eq_getElem?_getD]
      rw [List.getElem?_set_ne (Ne.symm hb)]
    rw [e, a3]
    by_cases hb2 : b < k
    · rw [if_pos hb2, if_pos (by omega)]
    · rw [if_neg hb2, if_neg (by omega)]
theorem LiW.end_ {w wb W : World} {F : Fn} {gl gg m : Nat} {inv : Value} {gs : List Nat} {B gI gO gL : Nat} {fx : Array Value} (h : LiW w wb F gl gg m inv gs B gI gO gL F.bl.length fx W) : ∃ tO, RRow W B gI (liveIn F) ∧ RRow W B gO tO ∧ tO.length = F.bl.length := by
  obtain ⟨t1, a1, a2, a3⟩ := h.ri
  obtain ⟨t2, b1, b2⟩ := h.ro
  refine ⟨t2, ?_, b1, b2⟩
  have : t1 = liveIn F := by
    apply List.ext_getElem (by rw [a2, liveIn_len])
    intro i x y
    have := a3 i
    rw [if_pos (by omega)] at this
    simp only [List.getD_eq_getElem?_getD, List.getElem?_eq_getElem x, Option.getD_some] at this
    rw [this]
    simp [liveIn]
  rw [← this]; exact a1
theorem LiW.bW {w wb W : World} {F : Fn} {gl gg m : Nat} {inv : Value} {gs : List Nat} {B gI gO gL k : Nat} {fx : Array Value} (h : LiW w wb F gl gg m inv gs B gI gO gL k fx W) : B ≤ W.heap.size := by
  obtain ⟨t1, a1, -⟩ := h.ri
  have := a1.lt
  have := h.bI
  omega
theorem LiW.start {w w1 wb W : World} {F : Fn} {gl gg m : Nat} {inv : Value} {gs : List Nat} {gI gO gL : Nat} {fx : Array Value} (h : LvS wb gl gg F.bl.length m inv gs (liveL F) w1) (hb : Below w.heap.size w w1) (hr : Blk w1 (w.heap.size + 1) 48 #[.slice none 0 0, .slice none 0 0]) (hx : Blk w1 w.heap.size 25 fx)
    (hW : Below w1.heap.size w1 W) (bL : Blk W gL 48 #[.slice (some ⟨gI, 0, none⟩) F.bl.length F.bl.length, .slice (some ⟨gO, 0, none⟩) F.bl.length F.bl.length])
    (bI : Blk W gI 34 (Array.replicate F.bl.length (.slice none 0 0))) (bO : Blk W gO 34 (Array.replicate F.bl.length (.slice none 0 0))) (ne : gI ≠ gO) (h1 : w1.heap.size ≤ gI) (h2 : w1.heap.size ≤ gO) : LiW w wb F gl gg m inv gs w1.heap.size gI gO gL 0 fx W :=
  ⟨h.below hW, bL, ⟨_, RRow.of bI _, by simp, fun b => by
    rw [if_neg (by omega)]
    simp only [List.getD_eq_getElem?_getD, List.getElem?_replicate]
    split <;> rfl⟩, ⟨_, RRow.of bO _, by simp⟩, hb.trans (below_of_le hW hb.size), ne, h1, h2, by have := hr.lt; omega, h.be.size, hr.below hW hr.lt, hx.below hW hx.lt⟩
end Go.Proofs.YtlmoblmkhicoeaaGreatDoor

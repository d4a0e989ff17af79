/- What Link holds in memory. Conditions: what each states. -/
import Derived.Test.YteoglkofeogknaaGreatDoorX3
import Derived.Test.YteoglkofeogknaaGreatDoorY4
import Derived.Test.YteoglkofeogknaaGreatDoorLS
set_option linter.unusedVariables false
set_option linter.unusedSimpArgs false
namespace Go.Proofs.YteoglkofeogknaaGreatDoor
open Go.RowKit
/-- What Link answers. -/
def LkPost (entry : ByteArray) (ex : List Rng) (os : List Ob) (w : World) (e : Ending) (w' : World) : Prop := ∃ im, e = .returned (.tuple #[im, .agg #[.int .i64 (lkF entry ex os).1, .int .i64 (lkF entry ex os).2]]) ∧ Below w.heap.size w w' ∧ ((lkF entry ex os).2 ≠ 0 → im = .agg #[.slice none 0 0, .slice none 0 0, .int .i64 0]) ∧ ((lkF entry ex os).2 = 0 → ∃ vR vF en, im = .agg #[vR, vF, .int .i64 en] ∧ RSlice w' vR (layR (jres os).1 ex) ∧ FillsAt w' vF (lkP ex os) ∧ (NF (jres os).1 (layR (jres os).1 ex) entry).getD (.int .i64 0) = .int .i64 en ∧ 0 ≤ en ∧ en ≤ 16777216)
/-- The two sections lie behind. -/
structure KL (w1 W : World) (vT vD : Value) (T D : List UInt8) : Prop where
  t : OwnB W w1.heap.size vT T
  d : OwnB W w1.heap.size vD D
  low : Below w1.heap.size w1 W
theorem KL.bel {w1 W W' : World} {vT vD : Value} {T D : List UInt8} (h : KL w1 W vT vD T D) (hb : Below W.heap.size W W') : KL w1 W' vT vD T D :=
  ⟨ownsRow_keeps h.t (keeps_of_below (fun _ => False) hb) (fun _ _ => id), ownsRow_keeps h.d (keeps_of_below (fun _ => False) hb) (fun _ _ => id), h.low.trans (hb.mono h.low.size)⟩
theorem KL.putT {w1 W W' : World} {vT vD : Value} {T D T' : List UInt8} (h : KL w1 W vT vD T D) (hk : Keeps (fun i => some i = vT.ownBlock) W W') (ho : OwnB W' w1.heap.size vT T') (hne : ∀ g, vT.ownBlock = some g → vD.ownBlock ≠ some g) : KL w1 W' vT vD T' D :=
  ⟨ho, ownsRow_keeps h.d hk (fun g hg e => hne g e.symm hg), h.low.trans (hk.low (fun i hi e => by have := own_ge h.t e.symm; omega) h.low.size)⟩
theorem KL.putD {w1 W W' : World} {vT vD : Value} {T D D' : List UInt8} (h : KL w1 W vT vD T D) (hk : Keeps (fun i => some i = vD.ownBlock) W W') (ho : OwnB W' w1.heap.size vD D') (hne : ∀ g, vT.ownBlock = some g → vD.ownBlock ≠ some g) : KL w1 W' vT vD T D' :=
  ⟨ownsRow_keeps h.t hk (fun g hg e => hne g hg e.symm), ho, h.low.trans (hk.low (fun i hi e => by have := own_ge h.d e.symm; omega) h.low.size)⟩
theorem KL.step {w1 W W' : World} {vT vD : Value} {J : Ob} {F : ByteArray → Option Value} {i : Nat} (h : KL w1 W vT vD (lkS J F i).1 (lkS J F i).2) (hk : Keeps (fun j => some j = (if (J.rl.getD i default).sec = 1 then vD else vT).ownBlock) W W')
    (ho : OwnB W' w1.heap.size (if (J.rl.getD i default).sec = 1 then vD else vT) (set4 (if (J.rl.getD i default).sec = 1 then (lkS J F i).2 else (lkS J F i).1) (J.rl.getD i default).at_.toNat (wB (putR (valI (F (J.rl.getD i default).nm)) (J.rl.getD i default) 4096 (if (J.rl.getD i default).sec = 1 then (lkS J F i).2 else (lkS J F i).1)).2)))
    (hne : ∀ g, vT.ownBlock = some g → vD.ownBlock ≠ some g) : KL w1 W' vT vD (lkS J F (i + 1)).1 (lkS J F (i + 1)).2 := by
  by_cases hs : (J.rl.getD i default).sec = 1
  · simp only [if_pos hs] at hk ho
    have e : lkS J F (i + 1) = ((lkS J F i).1, set4 (lkS J F i).2 (J.rl.getD i default).at_.toNat (wB (putR (valI (F (J.rl.getD i default).nm)) (J.rl.getD i default) 4096 (lkS J F i).2).2)) := by
      show (if (J.rl.getD i default).sec = 1 then _ else _) = _
      rw [if_pos hs]
    rw [e]
    exact h.putD hk ho hne
  · simp only [if_neg hs] at hk ho
    have e : lkS J F (i + 1) = (set4 (lkS J F i).1 (J.rl.getD i default).at_.toNat (wB (putR (valI (F (J.rl.getD i default).nm)) (J.rl.getD i default) 4096 (lkS J F i).1).2), (lkS J F i).2) := by
      show (if (J.rl.getD i default).sec = 1 then _ else _) = _
      rw [if_neg hs]
    rw [e]
    exact h.putT hk ho hne
theorem KL.low' {w1 W W' : World} {vT vD : Value} {T D : List UInt8} (h : KL w1 W vT vD T D) {c : Bool} (hk : Keeps (fun j => some j = (if c then vD else vT).ownBlock) W W') : Below w1.heap.size w1 W' := by
  refine h.low.trans (hk.low (fun i hi e => ?_) h.low.size)
  cases c with
  | true => have := own_ge h.d e.symm; omega
  | false => have := own_ge h.t e.symm; omega
/-- Link's two results are written. -/
theorem link_out {w W : World} {p : Nat} {F : Nat → Prop} {a b c d e : Value} (hI : Blk W p 32 #[a, b, c]) (hF : Blk W (p + 1) 34 #[d, e]) (hk : Keeps F w W) (hp : w.heap.size ≤ p) (x y z u v : Value) :
    ∃ W3, W3 = ((((W.setCell ⟨p, 0, none⟩ x).setCell ⟨p, 1, none⟩ y).setCell ⟨p, 2, none⟩ z).setCell ⟨p + 1, 0, none⟩ u).setCell ⟨p + 1, 1, none⟩ v ∧ Blk W3 p 32 #[x, y, z] ∧ Blk W3 (p + 1) 34 #[u, v] ∧ Keeps F w W3 ∧ Keeps (fun i => i = p ∨ i = p + 1) W W3 := by
  refine ⟨_, rfl, ?_, ?_, ?_, ?_⟩
  · have h1 : Blk (((W.setCell ⟨p, 0, none⟩ x).setCell ⟨p, 1, none⟩ y).setCell ⟨p, 2, none⟩ z) p 32 #[x, y, z] := by simpa using ((hI.set_ 0 x).set_ 1 y).set_ 2 z
    exact (h1.far (by show p ≠ p + 1; omega) _).far (by show p ≠ p + 1; omega) _
  · have h1 := ((hF.far (p := ⟨p, 0, none⟩) (by show p + 1 ≠ p; omega) x).far (p := ⟨p, 1, none⟩) (by show p + 1 ≠ p; omega) y).far (p := ⟨p, 2, none⟩) (by show p + 1 ≠ p; omega) z
    simpa using (h1.set_ 0 u).set_ 1 v
  · exact ((((hk.setCell (p := ⟨p, 0, none⟩) (Or.inl hp) x).setCell (p := ⟨p, 1, none⟩) (Or.inl hp) y).setCell (p := ⟨p, 2, none⟩) (Or.inl hp) z).setCell (p := ⟨p + 1, 0, none⟩) (Or.inl (Nat.le_succ_of_le hp)) u).setCell (p := ⟨p + 1, 1, none⟩) (Or.inl (Nat.le_succ_of_le hp)) v
  · exact (((((Keeps.refl (fun i => i = p ∨ i = p + 1) W).setCell (p := ⟨p, 0, none⟩) (Or.inr (Or.inl rfl)) x).setCell (p := ⟨p, 1, none⟩) (Or.inr (Or.inl rfl)) y).setCell (p := ⟨p, 2, none⟩) (Or.inr (Or.inl rfl)) z).setCell (p := ⟨p + 1, 0, none⟩) (Or.inr (Or.inr rfl)) u).setCell (p := ⟨p + 1, 1, none⟩) (Or.inr (Or.inr rfl)) v
theorem arowF : ARow 30 46 2 32 := arow_of (z := .agg #[.int .i64 0, .slice none 0 0]) Tryz.underlying30 (by kernel_rfl) (by rfl) (by decide)
/-- What lies in memory while the fills are gathered. -/
structure FL (w1 W : World) (o ba : Nat) (vR vT vD vF : Value) (en : Int) (T D : List UInt8) (l : List (Int × Value)) : Prop where
  kl : KL w1 W vT vD T D
  out : Blk W o 32 #[vR, vF, .int .i64 en]
  arr : Blk W ba 37 #[vT, vD]
  own : W.ownsRow w1.heap.size 46 2 vF l.length (l.flatMap fun x => [.int .i64 x.1, x.2])
  ge : w1.heap.size ≤ o ∧ w1.heap.size ≤ ba
theorem FL.bel {w1 W W' : World} {o ba : Nat} {vR vT vD vF : Value} {en : Int} {T D : List UInt8} {l : List (Int × Value)} (h : FL w1 W o ba vR vT vD vF en T D l) (hb : Below W.heap.size W W') : FL w1 W' o ba vR vT vD vF en T D l :=
  ⟨h.kl.bel hb, h.out.below hb h.out.lt, h.arr.below hb h.arr.lt, own_below h.own hb, h.ge⟩
theorem FL.app {w1 W : World} {o ba : Nat} {vR vT vD vF : Value} {en : Int} {T D : List UInt8} {l : List (Int × Value)} (h : FL w1 W o ba vR vT vD vF en T D l) (fr : Int) (bv : Value) (h1 : bv.oneCell' = true) (hl : l.length ≤ 16) :
    ∃ v' w', (Builtin.append_ #[30, 30] 30 #[vF, .slice (some ⟨W.heap.size, 0, none⟩) 1 1]).run Tryz.prog (W.alloc (.cells #[.int .i64 fr, bv] 46)).drew = .ok v' w' ∧ Blk w' o 32 #[vR, vF, .int .i64 en] ∧ Below w1.heap.size w1 w' ∧ FL w1 (w'.setCell ⟨o, 1, none⟩ v') o ba vR vT vD v' en T D (l ++ [(fr, bv)]) := by
  have h' := h.bel (((Below.refl W.heap.size W).alloc (Nat.le_refl _) (.cells #[.int .i64 fr, bv] 46)).drew)
  have hu : RowOf (W.alloc (.cells #[.int .i64 fr, bv] 46)).drew (.slice (some ⟨W.heap.size, 0, none⟩) 1 1) 1 [.int .i64 fr, bv] := ⟨_, 1, rfl, Nat.le_refl _, by decide, fun _ => ⟨W.heap.size, 0, rfl, by show W.heap.size < (W.alloc _).heap.size; simp, fun j u hj => by
    have := (Blk.new W 46 #[.int .i64 fr, bv]).drew.cell (0 + j)
    rw [this]
    simpa using hj⟩⟩
  have hge : W.heap.size ≤ (W.alloc (.cells #[.int .i64 fr, bv] 46)).drew.heap.size := by show W.heap.size ≤ (W.alloc _).heap.size; simp
  obtain ⟨v', w', r1, r2, r3, r4⟩ := app_any arowF 30 h'.own hu (by simp) (by simp [h1]; rfl) (by unfold maxLen; omega) (by omega) (Nat.le_trans h.kl.low.size hge)
  have hkp : Keeps (fun i => some i = vF.ownBlock) (W.alloc (.cells #[.int .i64 fr, bv] 46)).drew w' := (Keeps.refl _ _).grown r3 (fun g hg => Or.inr hg.symm)
  have hfl : ∀ {g : Nat}, vF.ownBlock = some g → ∃ cur, Blk (W.alloc (.cells #[.int .i64 fr, bv] 46)).drew g 46 cur := fun hg => owns_kind h'.own hg
  have ho : Blk w' o 32 #[vR, vF, .int .i64 en] := h'.out.keeps hkp (fun e => by obtain ⟨cur, hb⟩ := hfl e.symm; exact h'.out.ne_ hb (by decide) rfl)
  have ha : Blk w' ba 37 #[vT, vD] := h'.arr.keeps hkp (fun e => by obtain ⟨cur, hb⟩ := hfl e.symm; exact h'.arr.ne_ hb (by decide) rfl)
  have ht : OwnB w' w1.heap.size vT T := ownsRow_keeps h'.kl.t hkp (fun g hg e => by
    obtain ⟨cur, hb⟩ := hfl e.symm
    obtain ⟨cur2, hb2⟩ := owns_kind h'.kl.t hg
    exact hb2.ne_ hb (by decide) rfl)
  have hd : OwnB w' w1.heap.size vD D := ownsRow_keeps h'.kl.d hkp (fun g hg e => by
    obtain ⟨cur, hb⟩ := hfl e.symm
    obtain ⟨cur2, hb2⟩ := owns_kind h'.kl.d hg
    exact hb2.ne_ hb (by decide) rfl)
  have hlow : Below w1.heap.size w1 w' := h'.kl.low.grown r3 (Nat.le_trans h.kl.low.size hge) (fun g hg => own_ge h'.own hg)
  have hks : Keeps (fun i => i = o) w' (w'.setCell ⟨o, 1, none⟩ v') := (Keeps.refl (fun i => i = o) w').setCell (p := ⟨o, 1, none⟩) (Or.inr rfl) v'
  refine ⟨v', w', r1, ho, hlow, ⟨⟨ownsRow_keeps ht hks (fun g hg e => ?_), ownsRow_keeps hd hks (fun g hg e => ?_), hlow.setCell h.ge.1 v'⟩, by simpa using ho.set_ 1 v', ha.keeps hks (fun e => ?_), ownsRow_keeps (by simpa using r2) hks (fun g hg e => ?_), h.ge⟩⟩
  · obtain ⟨cur2, hb2⟩ := owns_kind ht hg
    subst e
    exact hb2.ne_ ho (by decide) rfl
  · obtain ⟨cur2, hb2⟩ := owns_kind hd hg
    subst e
    exact hb2.ne_ ho (by decide) rfl
  · subst e
    exact ha.ne_ ho (by decide) rfl
  · obtain ⟨cur2, hb2⟩ := owns_kind r2 hg
    subst e
    exact hb2.ne_ ho (by decide) rfl
/-- The fills, as values. -/
def plV (vT vD : Value) (T D : List UInt8) (f0 f1 : Int) : Nat → List (Int × Value)
  | 0 => []
  | 1 => if T = [] then [] else [(f0, vT)]
  | _ => (if T = [] then [] else [(f0, vT)]) ++ (if D = [] then [] else [(f1, vD)])
theorem plV_len (vT vD : Value) (T D : List UInt8) (f0 f1 : Int) (j : Nat) : (plV vT vD T D f0 f1 j).length ≤ 16 := by
  match j with
  | 0 => simp [plV]
  | 1 => by_cases h : T = [] <;> simp [plV, h]
  | j + 2 => by_cases h : T = [] <;> by_cases h2 : D = [] <;> simp [plV, h, h2]
theorem fills_of {W : World} {B : Nat} {vT vD vF : Value} {T D : List UInt8} {f0 f1 : Int} (ht : OwnB W B vT T) (hd : OwnB W B vD D) (ho : W.ownsRow B 46 2 vF (plV vT vD T D f0 f1 2).length ((plV vT vD T D f0 f1 2).flatMap fun x => [.int .i64 x.1, x.2])) : FillsAt W vF ((if T = [] then [] else [(f0, T)]) ++ (if D = [] then [] else [(f1, D)])) := by
  have ht : Bys W vT T := RowOf.own ht
  have hd : Bys W vD D := RowOf.own hd
  obtain ⟨A, cap, hv, c1, c2, c3⟩ := RowOf.own ho
  have hlen : (plV vT vD T D f0 f1 2).length = ((if T = [] then [] else [(f0, T)]) ++ (if D = [] then [] else [(f1, D)]) : List (Int × List UInt8)).length := by
    unfold plV
    by_cases h1 : T = [] <;> by_cases h2 : D = [] <;> simp [h1, h2]
  rw [hlen] at hv c1 c3
  refine ⟨A, cap, hv, c1, c2, fun hn => ?_⟩
  obtain ⟨g, off, e, hg, hc⟩ := c3 hn
  refine ⟨g, off, e, hg, fun k hk => ?_⟩
  unfold plV at hc
  by_cases h1 : T = []
  · by_cases h2 : D = []
    · simp [h1, h2] at hk
    · simp only [h1, h2, if_true, if_false, List.nil_append] at hk hc ⊢
      have hk0 : k = 0 := by simpa using hk
      subst hk0
      exact ⟨hc 0 _ rfl, vD, hc 1 _ rfl, hd⟩
  · by_cases h2 : D = []
    · simp only [h1, h2, if_true, if_false, List.append_nil] at hk hc ⊢
      have hk0 : k = 0 := by simpa using hk
      subst hk0
      exact ⟨hc 0 _ rfl, vT, hc 1 _ rfl, ht⟩
    · simp only [h1, h2, if_false] at hk hc ⊢
      match k, hk with
      | 0, _ => exact ⟨hc 0 _ rfl, vT, hc 1 _ rfl, ht⟩
      | 1, _ => exact ⟨hc 2 _ rfl, vD, hc 3 _ rfl, hd⟩
      | k + 2, hk => exact absurd hk (by simp)
end Go.Proofs.YteoglkofeogknaaGreatDoor

/- Walk: (*linker).lay. Conditions: what the theorem states. -/
import Derived.Test.YteoglkofeogknaaGreatDoorLQ
import Derived.Test.YteoglkofeogknaaGreatDoorX0
import Derived.Deep.CutRange
import Derived.Laws.Concat
set_option linter.unusedVariables false
set_option linter.unusedSimpArgs false
namespace Go.Proofs.YteoglkofeogknaaGreatDoor
open Go.RowKit
/-- A linker. -/
def LK (W : World) (k : Nat) (z1 z2 z3 z4 vR : Value) (bN bP : Nat) : Prop := Blk W k 65 #[z1, z2, z3, z4, vR, .map (some bN), .map (some bP)]
/-- What lies in memory while lay gives names. -/
structure LY (w0 w W : World) (k bN bP p B n : Nat) (z1 z2 z3 z4 vR : Value) (R : List Rng) (f : ByteArray → Option Value) : Prop where
  lk : LK W k z1 z2 z3 z4 vR bN bP
  own : OwnG W B vR R
  mp : MapV W bN n f
  keeps : Keeps (fun i => i = k ∨ i = bN) w W
  flt : Blk W p 34 #[.int .i64 0, .int .i64 0]
  sz : B ≤ W.heap.size
  low : Below w0.heap.size w0 W
  lk0 : w0.heap.size ≤ k ∧ w0.heap.size ≤ bN ∧ w0.heap.size ≤ W.heap.size
section
variable {w0 w W W' : World} {k bN bP p B n : Nat} {z1 z2 z3 z4 vR : Value} {R : List Rng} {f g : ByteArray → Option Value}
theorem LY.bel (h : LY w0 w W k bN bP p B n z1 z2 z3 z4 vR R f) (hb : Below W.heap.size W W') : LY w0 w W' k bN bP p B n z1 z2 z3 z4 vR R f :=
  ⟨Blk.below h.lk hb (Blk.lt h.lk), own_below h.own hb, h.mp.below hb, h.keeps.trans (keeps_of_below (fun _ => False) hb) (fun _ _ h => h.elim), h.flt.below hb h.flt.lt, Nat.le_trans h.sz hb.size, h.low.trans (hb.mono h.lk0.2.2), h.lk0.1, h.lk0.2.1, Nat.le_trans h.lk0.2.2 hb.size⟩
/-- The map of names is turned. -/
theorem LY.map (h : LY w0 w W k bN bP p B n z1 z2 z3 z4 vR R f) (hg : W.grownBy W' (some bN)) {m : Nat} (hm : MapV W' bN m g) : LY w0 w W' k bN bP p B m z1 z2 z3 z4 vR R g := by
  have hk : Keeps (fun i => i = bN) W W' := (Keeps.refl _ _).grown hg (fun j hj => by injection hj with hj; exact Or.inr hj.symm)
  refine ⟨Blk.grown h.lk hg (fun e => ?_), ownsRow_keeps h.own hk (fun j hj e => ?_), hm, h.keeps.trans hk (fun _ _ h => Or.inr h), h.flt.grown hg (fun e => ?_), Nat.le_trans h.sz hg.size, h.low.grown hg h.lk0.2.2 (fun j hj => by injection hj with hj; rw [← hj]; exact h.lk0.2.1), h.lk0.1, h.lk0.2.1, Nat.le_trans h.lk0.2.2 hg.size⟩
  · injection e with e
    exact h.mp.ne_blk h.lk e
  · subst e
    obtain ⟨c, hb⟩ := owns_kind h.own hj
    exact h.mp.ne_blk hb rfl
  · injection e with e
    exact h.mp.ne_blk h.flt e
end
/-- A fault's cells are written. -/
theorem fault_out {w W : World} {p : Nat} {F : Nat → Prop} (h : Blk W p 34 #[.int .i64 0, .int .i64 0]) (hk : Keeps F w W) (hp : w.heap.size ≤ p) (x y : Value) : ∃ W3, W3 = (W.setCell ⟨p, 0, none⟩ x).setCell ⟨p, 1, none⟩ y ∧ Blk W3 p 34 #[x, y] ∧ Keeps F w W3 :=
  ⟨_, rfl, by simpa using (h.set_ 0 x).set_ 1 y, (hk.setCell (p := ⟨p, 0, none⟩) (Or.inl hp) x).setCell (p := ⟨p, 1, none⟩) (Or.inl hp) y⟩
theorem flatMap_len2 {α β : Type} (f : α → List β) (hf : ∀ x, (f x).length = 2) : ∀ l : List α, (l.flatMap f).length = l.length * 2
  | [] => rfl
  | x :: l => by rw [List.flatMap_cons, List.length_append, hf, flatMap_len2 f hf l, List.length_cons]; omega
/-- How lay ends. -/
theorem lay_end {w0 w W W0 : World} {k bN bP p B n m : Nat} {z1 z2 z3 z4 vR : Value} {R : List Rng} {J : Ob} {ex : List Rng} (h : LY w0 w W k bN bP p B n z1 z2 z3 z4 vR R (nameF (nameL J R ++ (nameR R).take m))) (hp : w.heap.size = p) (hB : W0.heap.size = B) (hS : p + 1 = W0.heap.size) (hR : layR J ex = R) (hl : R.length ≤ 2 + m / 2) (hm : R.length = 2 + m / 2 ∧ m % 2 = 0 ∨ m = 0) :
    ∃ W3, W3 = (W.setCell ⟨p, 0, none⟩ (.int .i64 0)).setCell ⟨p, 1, none⟩ (.int .i64 0) ∧ Blk W3 p 34 #[.int .i64 0, .int .i64 0] ∧ Keeps (fun i => i = k ∨ i = bN) w W3 ∧ ∃ vR n, OwnG W3 w.heap.size vR (layR J ex) ∧ LK W3 k z1 z2 z3 z4 vR bN bP ∧ MapV W3 bN n (nameF (nameL J (layR J ex) ++ nameR (layR J ex))) := by
  obtain ⟨W3, hW3, h1, h2⟩ := fault_out h.flt h.keeps (by rw [hp]; exact Nat.le_refl _) (.int .i64 0) (.int .i64 0)
  have hk : Keeps (fun i => i = p) W W3 := by rw [hW3]; exact ((Keeps.refl (fun i => i = p) W).setCell (p := ⟨p, 0, none⟩) (Or.inr rfl) _).setCell (p := ⟨p, 1, none⟩) (Or.inr rfl) _
  have hnr : (nameR R).take m = nameR R := by
    apply List.take_of_length_le
    have : (nameR R).length = (R.drop 2).length * 2 := flatMap_len2 _ (fun _ => rfl) _
    rw [this, List.length_drop]
    omega
  rw [hnr] at h
  refine ⟨W3, hW3, h1, h2, vR, n, ?_, ?_, ?_⟩
  · rw [hR]
    refine ownsRow_lower (ownsRow_keeps h.own hk (fun j hj e => ?_)) (by omega)
    have := (own_some2 h.own hj).1
    omega
  · exact Blk.keeps h.lk hk (fun e => by subst e; exact absurd (Blk.kind h.lk h.flt) (by decide))
  · rw [hR]
    exact h.mp.keeps hk (fun e => h.mp.ne_blk h.flt e.symm)
set_option maxRecDepth 100000 in
set_option maxHeartbeats 40000000 in
theorem lay_any (k bN bP : Nat) (z1 z2 z3 z4 vX : Value) (J : Ob) (ex : List Rng) (w0 w : World) (hk : LK w k z1 z2 z3 z4 (.slice none 0 0) bN bP) (hJ : ObAt w0 z1 z2 z3 z4 J) (hX : RSlice w0 vX ex) (hw0 : Below w0.heap.size w0 w) (hk0 : w0.heap.size ≤ k ∧ w0.heap.size ≤ bN ∧ w0.heap.size ≤ w.heap.size) (hN : MapV w bN 0 (fun _ => none))
    (hl : J.tx.length ≤ 1048576 ∧ J.dt.length ≤ 1048576 ∧ J.lb.length ≤ 4096) (hlb : ∀ x ∈ J.lb, (x.sec = 0 ∨ x.sec = 1) ∧ 0 ≤ x.at_ ∧ x.at_ ≤ 1048576 ∧ x.nm.size ≤ maxLen) (hex : ∀ r ∈ ex, 0 ≤ r.sz ∧ r.sz ≤ 1048576 ∧ r.nm.size ≤ 31) (hxl : ex.length ≤ 4194304) :
    Calls Tryz.prog 31 #[.pointer (some ⟨k, 0, none⟩), vX] w fun e w' => e = .returned (.agg #[.int .i64 0, .int .i64 (layC J ex)]) ∧ Keeps (fun i => i = k ∨ i = bN) w w' ∧ (layBad J ex = false → ∃ vR n, OwnG w' w.heap.size vR (layR J ex) ∧ LK w' k z1 z2 z3 z4 vR bN bP ∧ MapV w' bN n (nameF (nameL J (layR J ex) ++ nameR (layR J ex)))) := by
  obtain ⟨p, hp⟩ : ∃ p, w.heap.size = p := ⟨_, rfl⟩
  have HP := Lib.hid hp
  have HK := Lib.hid hk
  have HJ := Lib.hid hJ
  have HZ := Lib.hid (And.intro hw0 hk0)
  have HX := Lib.hid hX
  have HN := Lib.hid hN
  have HL := Lib.hid hl
  have HLB := Lib.hid hlb
  have HEX := Lib.hid hex
  obtain ⟨A1, c1, rfl, m1⟩ := hJ.tx.form
  obtain ⟨A2, c2, rfl, m2⟩ := hJ.dt.form
  obtain ⟨N1, hN1⟩ : ∃ n, J.tx.length = n := ⟨_, rfl⟩
  obtain ⟨N2, hN2⟩ : ∃ n, J.dt.length = n := ⟨_, rfl⟩
  have HNN := Lib.hid (And.intro hN1 hN2)
  rw [hN1] at HK hl ⊢
  rw [hN2] at HK hl ⊢
  obtain ⟨q1, q2, q3⟩ := hl
  obtain ⟨AX, cX, rfl, x1, x2, _, _⟩ := hX
  obtain ⟨A3, c3, rfl, m3, m3'⟩ := hJ.lb.form
  obtain ⟨N3, hN3⟩ : ∃ n, J.lb.length = n := ⟨_, rfl⟩
  have HN3 := Lib.hid hN3
  rw [hN3] at HK q3 m3 ⊢
  unfold maxLen at m3'
  obtain ⟨NX, hNX⟩ : ∃ n, ex.length = n := ⟨_, rfl⟩
  have HNX := Lib.hid hNX
  rw [hNX] at HX x1 hxl ⊢
  clear hk hJ hN hlb hex hN1 hN2 hNX hN3 hw0 hk0
  have HW0 : Hid (Blk (w.alloc (.cells #[.int .i64 0, .int .i64 0] 34)) p 34 #[.int .i64 0, .int .i64 0] ∧ Below w.heap.size w (w.alloc (.cells #[.int .i64 0, .int .i64 0] 34))) := by
    subst hp
    exact ⟨Blk.new w _ _, (Below.refl _ _).alloc (Nat.le_refl _) _⟩
  go_enter Tryz.func31, Tryz.ntmps31
  go_wp2_with fail
  try rw [hp]
  obtain ⟨W0, hW0⟩ : ∃ W0, w.alloc (.cells #[.int .i64 0, .int .i64 0] 34) = W0 := ⟨_, rfl⟩
  rw [hW0] at HW0 ⊢
  have HS0 : Hid (p + 1 = W0.heap.size) := by show _ = _; rw [← hW0, ← hp]; simp
  have HK0 : Hid (LK W0 k (.slice A1 N1 c1) (.slice A2 N2 c2) (.slice A3 N3 c3) z4 (.slice none 0 0) bN bP) := Blk.below HK.out HW0.out.2 HK.out.lt
  have k0 : W0.cell? ⟨k, 0, none⟩ = some (.slice A1 N1 c1) := by rw [Blk.cell HK0.out]; rfl
  have k1 : W0.cell? ⟨k, 1, none⟩ = some (.slice A2 N2 c2) := by rw [Blk.cell HK0.out]; rfl
  clear hW0 hp
  -- the two ranges, and the whole row
  obtain ⟨Wb, hWb⟩ : ∃ Wb, (W0.alloc (.cells #[.string ⟨#[116, 101, 120, 116]⟩, .int .i64 0, .int .i64 N1, .bool false, .bool true, .string ⟨#[100, 97, 116, 97]⟩, .int .i64 0, .int .i64 N2, .bool true, .bool false] 48)).drew = Wb := ⟨_, rfl⟩
  have hb0 : Below W0.heap.size W0 Wb := by rw [← hWb]; exact ((Below.refl _ _).alloc (Nat.le_refl _) _).drew
  have hown : OwnG Wb W0.heap.size (.slice (some ⟨W0.heap.size, 0, none⟩) 2 2) [⟨textS, 0, N1, false, true⟩, ⟨dataS, 0, N2, true, false⟩] := by
    rw [← hWb]
    exact ⟨rfl, Or.inr ⟨W0.heap.size, 2, _, rfl, Nat.le_refl _, heap_alloc_new W0 _, Nat.le_refl _, by decide, rfl, rfl⟩⟩
  have hbw : Below w.heap.size w Wb := HW0.out.2.trans (hb0.mono HW0.out.2.size)
  obtain ⟨vR, W1, ra, rb, rc, rd⟩ := OwnG.app hown ((HX.out.below HZ.out.1).below (hbw.mono (Nat.le_refl _))) (by simp) (by rw [HNX.out]; omega) hb0.size
  rw [show [⟨textS, 0, (N1 : Int), false, true⟩, ⟨dataS, 0, (N2 : Int), true, false⟩] ++ ex = allR J ex by unfold allR; rw [HNN.out.1, HNN.out.2]; rfl] at rb
  have HRW : Hid (OwnG W1 W0.heap.size vR (allR J ex) ∧ Below W0.heap.size W0 W1) := ⟨rb, (hb0.grown rc hb0.size (fun g hg => (own_some2 hown hg).1))⟩
  have HRA := Lib.hid ra
  have HWB := Lib.hid hWb
  have HB0 := Lib.hid hb0
  clear ra rb rc rd hown hbw hWb hb0
  refine wp_region_held_drew (S := (fun W => W.cell? ⟨k, 0, none⟩ = some (.slice A1 N1 c1) ∧ W.cell? ⟨k, 1, none⟩ = some (.slice A2 N2 c2))) (by kernel_rfl) ?_ (fun hHeld => ?_)
  · exact ⟨k0, k1⟩
  refine FU 18 rfl ?_
  iterate 14 ((first | (refine TN 18 ?_ rfl ?_ ?_; rotate_left 1; focus (intro w h; (try dsimp only at h); first | (go_simp; done) | (go_simp; with_reducible rfl))) | refine TM 18 rfl ?_); (try simp only [AP, Nat.reduceAdd, Nat.reduceSub]))
  (refine TW 15 ?_ rfl ?_ ?_; rotate_left 1; focus (intro w h; (try dsimp only at h); first | (go_simp; done) | (go_simp; with_reducible rfl))); (try simp only [AP])
  refine wpAnyH_ready (rs := [14]) (by kernel_rfl) (by simp) ?_
  refine AllReadyH.cons rfl (fun K hK => ?_) AllReadyH.nil
  rw [if_pos (by rfl)]
  go_simp
  rw [HWB.out]
  have hkb : ∀ {a : Addr} {v : Value}, W0.cell? a = some v → Wb.cell? a = some v := fun h => (HB0.out.cell (cell_lt h)).trans h
  refine hK.out _ _ ⟨hkb k0, hkb k1⟩ (fun hHeld => ?_)
  clear hK K hkb
  try simp only [AP]
  refine wpAnyH_ready (rs := [16]) (by kernel_rfl) (by simp) ?_
  refine AllReadyH.cons rfl (fun K hK => ?_) AllReadyH.nil
  refine step_append_eq rfl (.tmp 27) (.tmp 28) 28 rfl rfl rfl HRA.out ?_
  have hk1 : ∀ {a : Addr} {v : Value}, W0.cell? a = some v → W1.cell? a = some v := fun h => (HRW.out.2.cell (cell_lt h)).trans h
  refine hK.out _ _ ⟨hk1 k0, hk1 k1⟩ (fun hHeld => ?_)
  clear hK K hk1
  try simp only [AP]
  (refine TW 17 ?_ rfl ?_ ?_; rotate_left 1; focus (intro w h; (try dsimp only at h); first | (go_simp; done) | (go_simp; with_reducible rfl))); (try simp only [AP])
  refine wpAnyH_done (by kernel_rfl) ?_ _
  clear hHeld k0 k1 HWB HB0 HRA
  obtain ⟨l, hl⟩ : ∃ l, allR J ex = l := ⟨_, rfl⟩
  have HLL := Lib.hid hl
  have hll : l.length = NX + 2 := by rw [← hl, allR_len, HNX.out]
  have HLN := Lib.hid hll
  have HSZ : Hid (∀ r ∈ l, 0 ≤ r.sz ∧ r.sz ≤ 1048576) := by
    intro r hr
    rw [← hl] at hr
    unfold allR at hr
    rcases List.mem_cons.1 hr with rfl | hr
    · have := HL.out.1; dsimp only; omega
    · rcases List.mem_cons.1 hr with rfl | hr
      · have := HL.out.2.1; dsimp only; omega
      · have := HEX.out r hr; omega
  rw [hl] at HRW
  obtain ⟨g, cR, hvR⟩ := own_some HRW.out.1 (by omega)
  rw [hll] at hvR
  have hst : Hid (OwnG W1 W0.heap.size vR (layAt 4096 (l.take 0) ++ l.drop 0) ∧ Below W0.heap.size W0 W1) := HRW.out
  obtain ⟨NR, hNR⟩ : ∃ n, NX + 2 = n := ⟨_, rfl⟩
  rw [hNR] at HLN hvR
  have hNRb : NR ≤ 4194306 := by omega
  subst hvR
  have HNR := Lib.hid hNR
  clear hl hll hNR
  obtain ⟨mR, mR'⟩ : NR ≤ cR ∧ cR ≤ maxLen := by
    obtain ⟨A', c', e, h1, h2⟩ := slice_form HRW.out.1
    injection e with e1 e2 e3
    subst e3
    exact ⟨by omega, h2⟩
  unfold maxLen at mR'
  go_wp2_with fail
  clear hHeld HRW
  try (rename_i hH0 hH1; clear hH0 hH1)
  obtain ⟨B, hB⟩ : ∃ B, W0.heap.size = B := ⟨_, rfl⟩
  have HB := Lib.hid hB
  rw [hB] at hst
  clear hB
  go_loopw [32, 6, 7] (fun iv av sv W => ∃ i : Nat, i ≤ NR ∧ iv = .int .i64 i ∧ av = .int .i64 (4096 + sumR (l.take i)) ∧ sv = .int .i64 (sumR (l.take i)) ∧ Hid (sumR (l.take i) ≤ 1048576) ∧ Hid (OwnG W B (.slice (some ⟨g, 0, none⟩) NR cR) (layAt 4096 (l.take i) ++ l.drop i) ∧ Below B W0 W)) (fun iv _ _ _ => NR - (intOf iv).toNat)
  case atStart => exact ⟨0, Nat.zero_le _, rfl, rfl, rfl, by show sumR [] ≤ _; decide, hst.out⟩
  case round =>
    clear hst
    obtain ⟨i, hi, rfl, rfl, rfl, HS, HI⟩ := hrel
    have hS0 : 0 ≤ sumR (l.take i) := sumR_nonneg (fun r hr => (HSZ.out r (List.mem_of_mem_take hr)).1)
    have hS1 := HS.out
    by_cases hlt : i < NR
    · as_aux_lemma =>
      have hil : i < l.length := by rw [HLN.out]; exact hlt
      have hlen := lay_len (a := 4096) (l := l) (i := i) (by omega)
      have hil2 : i < (layAt 4096 (l.take i) ++ l.drop i).length := by omega
      have hge := lay_get (a := 4096) hil hil2
      obtain ⟨d0, d1, d2, d3, d4⟩ := HI.out.1.cells.five hil2
      rw [hge] at d0 d1 d2 d3 d4
      simp only [Nat.zero_add] at d0 d1 d2 d3 d4
      have hsz := HSZ.out _ (List.getElem_mem hil)
      have hsn := sumR_snoc hil
      have hst2 := lay_step (a := 4096) hil
      have o1 := HI.out.1.setF hil2 (4096 + sumR (l.take i))
      have o2 := o1.setS (i := i) (by rw [List.length_set]; exact hil2) (upI l[i].sz)
      simp only [List.getElem_set_self, List.set_set, hge] at o2
      rw [hst2] at o2
      have hf := (own_parts (n := NR) (xs := (layAt 4096 (l.take i) ++ l.drop i).flatMap Rng.cells) (by have h := HI.out.1; unfold OwnG at h; rw [hlen, HLN.out] at h; exact h)).2.2.2.2.2
      have hgB : B ≤ g ∧ g < wr.heap.size := by
        have h := own_some2 HI.out.1 (g := g) rfl
        exact h
      have HI2 : Hid (OwnG ((wr.setCell ⟨g, i * 5 + 1, none⟩ (.int .i64 (4096 + sumR (l.take i)))).setCell ⟨g, i * 5 + 2, none⟩ (.int .i64 (upI l[i].sz))) B (.slice (some ⟨g, 0, none⟩) NR cR) (layAt 4096 (l.take (i + 1)) ++ l.drop (i + 1)) ∧ Below B W0 ((wr.setCell ⟨g, i * 5 + 1, none⟩ (.int .i64 (4096 + sumR (l.take i)))).setCell ⟨g, i * 5 + 2, none⟩ (.int .i64 (upI l[i].sz)))) := by
        refine ⟨o2, ?_⟩
        have h := HI.out.2
        exact (h.setCell (p := ⟨g, i * 5 + 1, none⟩) hgB.1 _).setCell (p := ⟨g, i * 5 + 2, none⟩) hgB.1 _
      obtain ⟨r, hr⟩ : ∃ r, l[i] = r := ⟨_, rfl⟩
      rw [hr] at d0 d1 d2 d3 d4 hsz hsn HI2
      have hup := upI_le hsz.1
      have HSN := Lib.hid hsn
      obtain ⟨S, hS⟩ : ∃ S, sumR (l.take i) = S := ⟨_, rfl⟩
      rw [hS] at hS0 hS1 HI2 HSN ⊢
      obtain ⟨u, hu⟩ : ∃ u, upI r.sz = u := ⟨_, rfl⟩
      have HU := Lib.hid (up_any r.sz wr hsz.1 (by omega))
      rw [hu] at hup HI2 HSN HU
      have hf1 := hf (i * 5 + 1)
      have hf2 := hf (i * 5 + 2)
      have e3 : (i : Int) < (NR : Int) := by omega
      have e5 : (0 : Int) ≤ (i : Int) := by omega
      have e6 : IntKind.i64.wrap ((i : Int) + 1) = ((i + 1 : Nat) : Int) := by rw [IntWalk.i64_in _ (by omega)]; omega
      have e7 : IntKind.i64.wrap (4096 + S + u) = 4096 + (S + u) := by rw [IntWalk.i64_in _ (by omega)]; omega
      have e8 : IntKind.i64.wrap (S + u) = S + u := IntWalk.i64_in _ (by omega)
      clear hil hlen hil2 hge hsn hst2 o1 o2 hf hr hS hu HI d0 d3 d4
      go_wp2_with fail
      refine HU.out.mono ?_
      rintro e w' ⟨rfl, rfl⟩
      go_upto_region 7 with fail
      have hc2 : ((wr.setCell ⟨g, i * 5 + 1, none⟩ (.int .i64 (4096 + S))).setCell ⟨g, i * 5 + 2, none⟩ (.int .i64 u)).cell? ⟨g, i * 5 + 2, none⟩ = some (.int .i64 u) :=
        World.cell?_setCell_same _ _ _ (by rw [World.cell?_setCell_other (h := ne_off (by omega))]; exact d2)
      generalize ((wr.setCell ⟨g, i * 5 + 1, none⟩ (.int .i64 (4096 + S))).setCell ⟨g, i * 5 + 2, none⟩ (.int .i64 u)) = W2 at HI2 hc2 ⊢
      clear d1 d2 hf1 hf2 HU
      by_cases hbig : 1048576 < S + u
      · have HBAD : Hid (layBad J ex = true) := by
          show _ = _
          unfold layBad
          rw [HLL.out]
          have h1 := sumR_take_le (l := l) (fun r hr => (HSZ.out r hr).1) (i + 1)
          rw [HSN.out] at h1
          have h2 : 1048576 < sumR l := by omega
          simp [h2]
        have hpB : p < B := by rw [← HB.out, ← HS0.out]; omega
        have hfb := HW0.out.1.below HI2.out.2 hpB
        have g0 : W2.cell? ⟨p, 0, none⟩ = some (.int .i64 0) := by rw [hfb.cell]; rfl
        have g1 : W2.cell? ⟨p, 1, none⟩ = some (.int .i64 0) := by rw [hfb.cell]; rfl
        have f0 := hfb.frozen 0
        have f1 := hfb.frozen 1
        have hkw : Keeps (fun i => i = k ∨ i = bN) w W2 := keeps_of_below _ (HW0.out.2.trans (HI2.out.2.mono (by rw [HP.out]; omega)))
        have HF := Lib.hid (fault_out hfb hkw (by rw [HP.out]; exact Nat.le_refl _) (.int .i64 0) (.int .i64 3))
        clear hfb hkw
        go_wp2_with fail
        obtain ⟨W3, hW3, h1, h2⟩ := HF.out
        rw [← hW3]
        have y0 := h1.cell 0
        have y1 := h1.cell 1
        refine bodyPost_ret (v := .agg #[.int .i64 0, .int .i64 3]) (by simp [results, Tryz.results31, y0, y1, go_sem]) rfl ?_
        exact ⟨by unfold layC; rw [HBAD.out]; rfl, h2, fun h => by rw [HBAD.out] at h; cases h⟩
      · have HS2 : Hid (sumR (l.take (i + 1)) ≤ 1048576) := by show _ ≤ _; rw [HSN.out]; omega
        go_wp2_with fail
        go_roundw
        case rel => exact ⟨i + 1, by omega, by go_num, by rw [HSN.out], by rw [HSN.out], HS2.out, HI2.out⟩
        case measure => simp [intOf]; omega
    · have hiN : i = NR := by omega
      have HIN := Lib.hid hiN
      have hI := HI.out
      have hS := HS.out
      rw [List.take_of_length_le (l := l) (by rw [HLN.out]; omega)] at hI hS
      rw [List.drop_of_length_le (l := l) (by rw [HLN.out]; omega), List.append_nil] at hI
      have HR : Hid (OwnG wr B (.slice (some ⟨g, 0, none⟩) NR cR) (layR J ex) ∧ Below B W0 wr ∧ sumR l ≤ 1048576) := by
        refine ⟨?_, hI.2, hS⟩
        unfold layR
        rw [HLL.out]
        exact hI.1
      clear HI HS hI hS hS0 hS1 hiN hi hlt
      have hpB : p < B := by rw [← HB.out, ← HS0.out]; omega
      have hkB : k < B := by rw [← HB.out]; exact Blk.lt HK0.out
      have hkw : Keeps (fun i => i = k ∨ i = bN) w wr := keeps_of_below _ (HW0.out.2.trans (HR.out.2.1.mono (by rw [HP.out]; omega)))
      have hfb := HW0.out.1.below HR.out.2.1 hpB
      by_cases hlong : 16 < NR
      · have HBAD : Hid (layBad J ex = true) := by
          show _ = _
          unfold layBad
          rw [HLL.out, HLN.out]
          simp [hlong]
        have g0 : wr.cell? ⟨p, 0, none⟩ = some (.int .i64 0) := by rw [hfb.cell]; rfl
        have g1 : wr.cell? ⟨p, 1, none⟩ = some (.int .i64 0) := by rw [hfb.cell]; rfl
        have f0 := hfb.frozen 0
        have f1 := hfb.frozen 1
        have HF := Lib.hid (fault_out hfb hkw (by rw [HP.out]; exact Nat.le_refl _) (.int .i64 0) (.int .i64 3))
        have hin := HIN.out
        subst hin
        clear hfb hkw
        go_wp2_with fail
        obtain ⟨W3, hW3, h1, h2⟩ := HF.out
        rw [← hW3]
        have y0 := h1.cell 0
        have y1 := h1.cell 1
        refine bodyPost_ret (v := .agg #[.int .i64 0, .int .i64 3]) (by simp [results, Tryz.results31, y0, y1, go_sem]) rfl ?_
        exact ⟨by unfold layC; rw [HBAD.out]; rfl, h2, fun h => by rw [HBAD.out] at h; cases h⟩
      · have HBAD : Hid (layBad J ex = false) := by
          show _ = _
          unfold layBad
          rw [HLL.out, HLN.out]
          have h2 := HR.out.2.2
          simp
          omega
        obtain ⟨R, hRR⟩ : ∃ R, layR J ex = R := ⟨_, rfl⟩
        have HRR := Lib.hid hRR
        rw [hRR] at HR
        have hlkr := Blk.below HK0.out (by rw [HB.out]; exact HR.out.2.1) (Blk.lt HK0.out)
        have hmr := (HN.out.below HW0.out.2).below (by rw [HB.out]; exact HR.out.2.1)
        have hkk : Keeps (fun j => j = k) wr (wr.setCell ⟨k, 4, none⟩ (.slice (some ⟨g, 0, none⟩) NR cR)) := (Keeps.refl (fun j => j = k) wr).setCell (p := ⟨k, 4, none⟩) (Or.inr rfl) _
        have hLY : Hid (LY w0 w (wr.setCell ⟨k, 4, none⟩ (.slice (some ⟨g, 0, none⟩) NR cR)) k bN bP p B 0 (.slice A1 N1 c1) (.slice A2 N2 c2) (.slice A3 N3 c3) z4 (.slice (some ⟨g, 0, none⟩) NR cR) R (nameF ((nameL J R).take 0))) := by
          refine ⟨?_, ownsRow_keeps HR.out.1 hkk (fun j hj e => by have := (own_some2 HR.out.1 hj).1; omega), hmr.keeps hkk (fun e => hmr.ne_blk hlkr e.symm), hkw.trans hkk (fun _ _ h => Or.inl h), hfb.keeps hkk (by rw [← HB.out] at hkB; have := HS0.out; intro e; subst e; exact absurd (Blk.kind hlkr hfb) (by decide)), by have h := HR.out.2.1.size; rw [← HB.out]; simpa using h, ?_, HZ.out.2.1, HZ.out.2.2.1, ?_⟩
          · have h := Blk.set_ hlkr 4 (.slice (some ⟨g, 0, none⟩) NR cR)
            unfold LK
            simpa using h
          · exact (HZ.out.1.trans (hkw.low (n := w0.heap.size) (fun i hi e => by have := HZ.out.2; rcases e with e | e <;> omega) HZ.out.2.2.2)).setCell (p := ⟨k, 4, none⟩) HZ.out.2.1 _
          · have h := hkw.size
            have h2 := HZ.out.2.2.2
            simp
            omega
        have kc2 : wr.cell? ⟨k, 2, none⟩ = some (.slice A3 N3 c3) := by rw [Blk.cell hlkr]; rfl
        have kc4 : wr.cell? ⟨k, 4, none⟩ = some (.slice none 0 0) := by rw [Blk.cell hlkr]; rfl
        have kf4 := Blk.frozen hlkr 4
        have hin := HIN.out
        subst hin
        clear hfb hkw hlkr hmr hkk hRR
        go_upto_region 15 with fail
        clear kc2 kc4 kf4
        generalize (wr.setCell ⟨k, 4, none⟩ (.slice (some ⟨g, 0, none⟩) i cR)) = W2 at hLY ⊢
        have kc2 : W2.cell? ⟨k, 2, none⟩ = some (.slice A3 N3 c3) := by rw [Blk.cell hLY.out.lk]; rfl
        go_wp2_with fail
        clear kc2
        go_loopw [82] (fun jv W => ∃ j : Nat, j ≤ N3 ∧ jv = .int .i64 j ∧ Hid (∃ n, n ≤ j ∧ LY w0 w W k bN bP p B n (.slice A1 N1 c1) (.slice A2 N2 c2) (.slice A3 N3 c3) z4 (.slice (some ⟨g, 0, none⟩) i cR) R (nameF ((nameL J R).take j)))) (fun jv _ => N3 - (intOf jv).toNat)
        case atStart => exact ⟨0, Nat.zero_le _, rfl, 0, Nat.le_refl _, hLY.out⟩
        case round =>
          clear hLY
          obtain ⟨j, hj, rfl, HL⟩ := hrel
          obtain ⟨n, hn, hly⟩ := HL.out
          by_cases hlt : j < N3
          · as_aux_lemma =>
            have hjl : j < J.lb.length := by rw [HN3.out]; exact hlt
            obtain ⟨g3, off3, rfl, _, hc⟩ := (HJ.out.below hly.low).lb.at_ (by omega)
            obtain ⟨x, hx⟩ : ∃ x, J.lb.getD j default = x := ⟨_, rfl⟩
            have hcx := hc j hjl
            rw [hx] at hcx
            obtain ⟨x0, x1', x2', x3⟩ := hcx
            have hmem : x ∈ J.lb := by rw [← hx]; simp [List.getD, hjl]
            obtain ⟨hsec, ha0, ha1, hns⟩ := HLB.out x hmem
            have hRl : R.length = i := by rw [← HRR.out, layR_len, HNX.out]; exact HNR.out
            have hi2 : 2 ≤ i := by have := HNR.out; omega
            have hsn : 0 ≤ x.sec ∧ x.sec < i := by omega
            obtain ⟨sn, hsn2⟩ := Int.eq_ofNat_of_zero_le hsn.1
            have hsl : sn < R.length := by omega
            have hrc := (hly.own.cells.five hsl).2.1
            rw [Nat.zero_add] at hrc
            have hfr : 0 ≤ R[sn].fr ∧ R[sn].fr ≤ 2097152 := by
              have hsl' : sn < l.length := by rw [HLN.out]; omega
              have hrr := HRR.out
              unfold layR at hrr
              rw [HLL.out] at hrr
              have hg : R[sn] = (layAt 4096 l)[sn]'(by rw [layAt_len]; exact hsl') := by simp only [← hrr]
              rw [hg, layAt_get hsl']
              have h1 := sumR_take_le (l := l) (fun r hr => (HSZ.out r hr).1) sn
              have h2 : 0 ≤ sumR (l.take sn) := sumR_nonneg (fun r hr => (HSZ.out r (List.mem_of_mem_take hr)).1)
              have h3 := HR.out.2.2
              dsimp only
              omega
            obtain ⟨fr, hfr2⟩ : ∃ fr, R[sn].fr = fr := ⟨_, rfl⟩
            rw [hfr2] at hrc hfr
            have hnl : (nameL J R).take (j + 1) = (nameL J R).take j ++ [(x.nm, fr + x.at_)] := by
              have hjn : j < (nameL J R).length := by unfold nameL; rw [List.length_map]; exact hjl
              have e : J.lb[j] = x := by rw [← hx]; simp [List.getD, hjl]
              have e2 : R.getD sn default = R[sn] := by simp [List.getD, hsl]
              have e3 : (nameL J R)[j] = (x.nm, fr + x.at_) := by
                simp only [nameL, List.getElem_map]
                rw [e, hsn2, Int.toNat_natCast, e2, hfr2]
              rw [List.take_succ_eq_append_getElem hjn, e3]
            have HNL := Lib.hid hnl
            obtain ⟨s, hs⟩ : ∃ s, wr.heap.size = s := ⟨_, rfl⟩
            have hb3 : Below wr.heap.size wr (wr.alloc (.cells #[.string x.nm, .int .i64 x.sec, .int .i64 x.at_, .bool x.gl] 68)) := (Below.refl _ _).alloc (Nat.le_refl _) _
            have hbs : Blk (wr.alloc (.cells #[.string x.nm, .int .i64 x.sec, .int .i64 x.at_, .bool x.gl] 68)) s 68 #[.string x.nm, .int .i64 x.sec, .int .i64 x.at_, .bool x.gl] := by rw [← hs]; exact Blk.new wr _ _
            have h3 := hly.bel hb3
            rw [hsn2] at hsn hbs h3 hb3 x1'
            obtain ⟨nm, sec, at_, gl⟩ := x
            dsimp only at x0 x1' x2' x3 hsec ha0 ha1 hns hsn2 hbs h3 hb3 hnl HNL
            subst hsn2
            have HL3 := Lib.hid h3
            have HBS := Lib.hid hbs
            have e3 : (j : Int) < (N3 : Int) := by omega
            have e5 : (0 : Int) ≤ (j : Int) := by omega
            have e6 : IntKind.i64.wrap ((j : Int) + 1) = ((j + 1 : Nat) : Int) := by rw [IntWalk.i64_in _ (by omega)]; omega
            have e7 : IntKind.i64.wrap (fr + at_) = fr + at_ := IntWalk.i64_in _ (by omega)
            have e8 : (0 : Int) ≤ (sn : Int) := by omega
            have e9 : (sn : Int) < (i : Int) := by omega
            have kc2 := Blk.cell hly.lk 2
            clear hc hx hmem hnl hb3 hbs h3 hly HL
            go_upto_region 18 with fail
            clear x0 x1' x2' x3 kc2 hrc
            obtain ⟨W3, hW3⟩ : ∃ W3, wr.alloc (.cells #[.string nm, .int .i64 sn, .int .i64 at_, .bool gl] 68) = W3 := ⟨_, rfl⟩
            rw [hW3] at HL3 HBS ⊢
            clear hW3
            have hd : Below W3.heap.size W3 W3.drew := (Below.refl _ _).drew
            have HD := Lib.hid (HL3.out.bel hd)
            obtain ⟨w4, hup, hm4, hg4⟩ := HD.out.mp.put Tryz.underlying62 nm (.int .i64 (fr + at_)) hns (by unfold maxLen; omega)
            have HL4 : Hid (LY w0 w w4 k bN bP p B (n + 1) (.slice A1 N1 c1) (.slice A2 N2 c2) (.slice (some ⟨g3, off3, none⟩) N3 c3) z4 (.slice (some ⟨g, 0, none⟩) i cR) R (nameF ((nameL J R).take (j + 1)))) :=
              HD.out.map hg4 (hm4.congr (fun s' => by rw [HNL.out, nameF_snoc]))
            have hbs4 : Blk w4 s 68 #[.string nm, .int .i64 sn, .int .i64 at_, .bool gl] := (HBS.out.below hd HBS.out.lt).grown hg4 (fun e => by injection e with e; exact HL3.out.mp.ne_blk HBS.out e)
            have hcell : ∀ (W : World) (h : LY w0 w W k bN bP p B n (.slice A1 N1 c1) (.slice A2 N2 c2) (.slice (some ⟨g3, off3, none⟩) N3 c3) z4 (.slice (some ⟨g, 0, none⟩) i cR) R (nameF ((nameL J R).take j)) ∨ LY w0 w W k bN bP p B (n + 1) (.slice A1 N1 c1) (.slice A2 N2 c2) (.slice (some ⟨g3, off3, none⟩) N3 c3) z4 (.slice (some ⟨g, 0, none⟩) i cR) R (nameF ((nameL J R).take (j + 1)))) (hs : Blk W s 68 #[.string nm, .int .i64 sn, .int .i64 at_, .bool gl]), W.cell? ⟨k, 5, none⟩ = some (.map (some bN)) ∧ W.cell? ⟨s, 0, none⟩ = some (.string nm) ∧ W.cell? ⟨s, 1, none⟩ = some (.int .i64 sn) ∧ W.cell? ⟨s, 2, none⟩ = some (.int .i64 at_) ∧ W.cell? ⟨g, sn * 5 + 1, none⟩ = some (.int .i64 fr) := fun W h hs => by
              have hlk : LK W k (.slice A1 N1 c1) (.slice A2 N2 c2) (.slice (some ⟨g3, off3, none⟩) N3 c3) z4 (.slice (some ⟨g, 0, none⟩) i cR) bN bP := by rcases h with h | h <;> exact h.lk
              have hown : OwnG W B (.slice (some ⟨g, 0, none⟩) i cR) R := by rcases h with h | h <;> exact h.own
              refine ⟨by rw [Blk.cell hlk]; rfl, by rw [hs.cell]; rfl, by rw [hs.cell]; rfl, by rw [hs.cell]; rfl, ?_⟩
              have h := (hown.cells.five hsl).2.1
              rw [Nat.zero_add, hfr2] at h
              exact h
            have HC3 := Lib.hid (hcell _ (Or.inl HD.out) (HBS.out.below hd HBS.out.lt))
            have HC4 := Lib.hid (hcell _ (Or.inr HL4.out) hbs4)
            clear hm4 hg4 hbs4 hd hcell HD HL3 HBS
            refine wp_region_held_drew (S := (fun W => W.cell? ⟨k, 5, none⟩ = some (.map (some bN)) ∧ W.cell? ⟨s, 0, none⟩ = some (.string nm) ∧ W.cell? ⟨s, 1, none⟩ = some (.int .i64 sn) ∧ W.cell? ⟨s, 2, none⟩ = some (.int .i64 at_) ∧ W.cell? ⟨g, sn * 5 + 1, none⟩ = some (.int .i64 fr))) (by kernel_rfl) ?_ (fun hHeld => ?_)
            · exact HC3.out
            refine FU 16 rfl ?_
            iterate 15 ((first | (refine TN 16 ?_ rfl ?_ ?_; rotate_left 1; focus (intro w h; (try dsimp only at h); first | (go_simp; done) | (go_simp; with_reducible rfl))) | refine TM 16 rfl ?_); (try simp only [AP, Nat.reduceAdd, Nat.reduceSub]))
            refine wpAnyH_ready (rs := [15]) (by kernel_rfl) (by simp) ?_
            refine AllReadyH.cons rfl (fun K hK => ?_) AllReadyH.nil
            rw [if_pos (by rfl)]
            go_simp
            refine hK.out _ _ HC4.out (fun hHeld => ?_)
            clear hK K
            try simp only [AP]
            refine wpAnyH_done (by kernel_rfl) ?_ _
            clear hHeld
            go_wp2_with fail
            go_roundw
            case rel => exact ⟨j + 1, by omega, by go_num, n + 1, by omega, HL4.out⟩
            case measure => simp [intOf]; omega
          · have hjN : j = N3 := by omega
            subst hjN
            have hlyN : Hid (LY w0 w wr k bN bP p B n (.slice A1 N1 c1) (.slice A2 N2 c2) (.slice A3 j c3) z4 (.slice (some ⟨g, 0, none⟩) i cR) R (nameF (nameL J R ++ (nameR R).take 0))) := by
              have h := hly
              rw [List.take_of_length_le (l := nameL J R) (by unfold nameL; rw [List.length_map, HN3.out]; exact Nat.le_refl _)] at h
              rw [List.take_zero, List.append_nil]
              exact h
            have hRl : R.length = i := by rw [← HRR.out, layR_len, HNX.out]; exact HNR.out
            have HNJ := Lib.hid hn
            have hi2 : 2 ≤ i := by have := HNR.out; omega
            have hi2' : (2 : Int) ≤ (i : Int) := by omega
            clear hly HL hn hlt hj
            by_cases hc2 : cR = 2
            · subst hc2
              obtain rfl : i = 2 := by omega
              have hfin := lay_end hlyN.out HP.out HB.out HS0.out HRR.out (by rw [hRl]; exact Nat.le_refl _) (by omega)
              have g0 : wr.cell? ⟨p, 0, none⟩ = some (.int .i64 0) := by rw [hlyN.out.flt.cell]; rfl
              have g1 : wr.cell? ⟨p, 1, none⟩ = some (.int .i64 0) := by rw [hlyN.out.flt.cell]; rfl
              have f0 := hlyN.out.flt.frozen 0
              have f1 := hlyN.out.flt.frozen 1
              have HFN := Lib.hid hfin
              clear hfin hlyN
              go_wp2_with fail
              refine wp_loop_rounds 1 ?_
              rw [rounds_succ]
              go_wp2_with fail
              obtain ⟨W3, hW3, h1, h2, h3⟩ := HFN.out
              rw [← hW3]
              have y0 := h1.cell 0
              have y1 := h1.cell 1
              refine bodyPost_ret (v := .agg #[.int .i64 0, .int .i64 0]) (by simp [results, Tryz.results31, y0, y1, go_sem]) rfl ?_
              exact ⟨by unfold layC; rw [HBAD.out]; rfl, h2, fun _ => h3⟩
            · go_upto_region 21 with fail
              obtain ⟨M, hM⟩ : ∃ M, i - 2 = M := ⟨_, rfl⟩
              have HM := Lib.hid hM
              rw [hM]
              have hMi : M + 2 = i := by omega
              have HMI := Lib.hid hMi
              have hMb : M ≤ 14 := by omega
              have hMc : (M : Int) ≤ (cR : Int) := by omega
              clear hM
              go_loopw [105] (fun av W => ∃ a : Nat, a ≤ M ∧ av = .int .i64 a ∧ Hid (∃ n, n ≤ j + 2 * a ∧ LY w0 w W k bN bP p B n (.slice A1 N1 c1) (.slice A2 N2 c2) (.slice A3 j c3) z4 (.slice (some ⟨g, 0, none⟩) i cR) R (nameF (nameL J R ++ (nameR R).take (2 * a))))) (fun av _ => M - (intOf av).toNat)
              case atStart => exact ⟨0, Nat.zero_le _, rfl, n, by have := HNJ.out; omega, hlyN.out⟩
              case round =>
                clear hlyN
                obtain ⟨a, ha, rfl, HL⟩ := hrel
                obtain ⟨n, hn, hly⟩ := HL.out
                by_cases hlt : a < M
                · as_aux_lemma =>
                  have hal : a + 2 < R.length := by omega
                  obtain ⟨x0, x1', x2', x3, x4⟩ := hly.own.cells.five hal
                  have hrm : R[a + 2] ∈ R := List.getElem_mem hal
                  have hrx : R[a + 2].nm.size ≤ 31 ∧ 0 ≤ R[a + 2].fr ∧ R[a + 2].fr ≤ 2097152 ∧ 0 ≤ R[a + 2].sz ∧ R[a + 2].sz ≤ 2097152 := by
                    have hsl' : a + 2 < l.length := by rw [HLN.out]; omega
                    have hrr := HRR.out
                    unfold layR at hrr
                    rw [HLL.out] at hrr
                    have hg : R[a + 2] = (layAt 4096 l)[a + 2]'(by rw [layAt_len]; exact hsl') := by simp only [← hrr]
                    rw [hg, layAt_get hsl']
                    have h1 := sumR_take_le (l := l) (fun r hr => (HSZ.out r hr).1) (a + 2)
                    have h2 : 0 ≤ sumR (l.take (a + 2)) := sumR_nonneg (fun r hr => (HSZ.out r (List.mem_of_mem_take hr)).1)
                    have h3 := HR.out.2.2
                    have h4 := HSZ.out _ (List.getElem_mem hsl')
                    have h5 := upI_le h4.1
                    have h6 : l[a + 2] ∈ ex := by
                      have hll := HLL.out
                      unfold allR at hll
                      have hax : a < ex.length := by rw [HNX.out]; have := HNR.out; have := HMI.out; omega
                      have : l[a + 2] = ex[a] := by simp only [← hll, List.getElem_cons_succ]
                      rw [this]
                      exact List.getElem_mem hax
                    have h7 := HEX.out _ h6
                    dsimp only
                    omega
                  obtain ⟨r, hr⟩ : ∃ r, R[a + 2] = r := ⟨_, rfl⟩
                  rw [hr] at x0 x1' x2' x3 x4 hrx
                  simp only [show 0 + (a + 2) * 5 = 10 + a * 5 by omega] at x0 x1' x2' x3 x4
                  have hnr : (nameR R).take (2 * (a + 1)) = (nameR R).take (2 * a) ++ [(r.nm, r.fr), (endS r.nm, r.fr + r.sz)] := by
                    unfold nameR
                    have h := flatMap_take2 (fun r : Rng => [(r.nm, r.fr), (endS r.nm, r.fr + r.sz)]) (fun _ => rfl) (R.drop 2) a (by rw [List.length_drop]; omega)
                    have hg : (R.drop 2)[a]'(by rw [List.length_drop]; omega) = r := by rw [← hr, List.getElem_drop]; simp only [Nat.add_comm 2 a]
                    rw [hg] at h
                    exact h
                  have HNR2 := Lib.hid hnr
                  obtain ⟨s, hs⟩ : ∃ s, wr.heap.size = s := ⟨_, rfl⟩
                  have hb3 : Below wr.heap.size wr (wr.alloc (.cells #[.string r.nm, .int .i64 r.fr, .int .i64 r.sz, .bool r.wr, .bool r.ex] 48)) := (Below.refl _ _).alloc (Nat.le_refl _) _
                  have HBS : Hid (Blk (wr.alloc (.cells #[.string r.nm, .int .i64 r.fr, .int .i64 r.sz, .bool r.wr, .bool r.ex] 48)) s 48 #[.string r.nm, .int .i64 r.fr, .int .i64 r.sz, .bool r.wr, .bool r.ex]) := by rw [← hs]; exact Blk.new wr _ _
                  have HL3 := Lib.hid (hly.bel hb3)
                  obtain ⟨q1', q2', q3', q4', q5'⟩ := hrx
                  have e3 : (a : Int) < (M : Int) := by omega
                  have e5 : (0 : Int) ≤ (a : Int) := by omega
                  have e6 : IntKind.i64.wrap ((a : Int) + 1) = ((a + 1 : Nat) : Int) := by rw [IntWalk.i64_in _ (by omega)]; omega
                  have e7 : IntKind.i64.wrap (r.fr + r.sz) = r.fr + r.sz := IntWalk.i64_in _ (by omega)
                  have hcat : ∀ W : World, (Op.stringOp .add r.nm ⟨#[46, 101, 110, 100]⟩).run Tryz.prog W = .ok (.string (endS r.nm)) W := fun W => run_string_add_sum W r.nm ⟨#[46, 101, 110, 100]⟩ (by have : ByteArray.size ⟨#[46, 101, 110, 100]⟩ = 4 := rfl; omega)
                  clear hrm hr hnr hb3 hly HL hal
                  go_upto_region 23 with fail
                  clear x0 x1' x2' x3 x4
                  obtain ⟨W3, hW3⟩ : ∃ W3, wr.alloc (.cells #[.string r.nm, .int .i64 r.fr, .int .i64 r.sz, .bool r.wr, .bool r.ex] 48) = W3 := ⟨_, rfl⟩
                  rw [hW3] at HL3 HBS ⊢
                  clear hW3
                  have hd : Below W3.heap.size W3 W3.drew := (Below.refl _ _).drew
                  have HD := Lib.hid (HL3.out.bel hd)
                  have kc5 : W3.drew.cell? ⟨k, 5, none⟩ = some (.map (some bN)) := by rw [Blk.cell HD.out.lk]; rfl
                  have s0 : W3.drew.cell? ⟨s, 0, none⟩ = some (.string r.nm) := by rw [(HBS.out.below hd HBS.out.lt).cell]; rfl
                  have s1 : W3.drew.cell? ⟨s, 1, none⟩ = some (.int .i64 r.fr) := by rw [(HBS.out.below hd HBS.out.lt).cell]; rfl
                  have s2 : W3.drew.cell? ⟨s, 2, none⟩ = some (.int .i64 r.sz) := by rw [(HBS.out.below hd HBS.out.lt).cell]; rfl
                  have hz : ∀ u : World, (zeroValue 3).run Tryz.prog u = .ok (.int .i64 0) u := fun u => by kernel_rfl
                  have hns1 : r.nm.size ≤ maxLen := by unfold maxLen; omega
                  have hns2 : (endS r.nm).size ≤ maxLen := by
                    have : (endS r.nm).size = r.nm.size + 4 := by unfold endS; rw [ByteArray.size_append]; rfl
                    unfold maxLen
                    omega
                  have hbk : ∀ (W W' : World), (LK W k (.slice A1 N1 c1) (.slice A2 N2 c2) (.slice A3 j c3) z4 (.slice (some ⟨g, 0, none⟩) i cR) bN bP ∧ Blk W s 48 #[.string r.nm, .int .i64 r.fr, .int .i64 r.sz, .bool r.wr, .bool r.ex]) → W.grownBy W' (some bN) → (LK W' k (.slice A1 N1 c1) (.slice A2 N2 c2) (.slice A3 j c3) z4 (.slice (some ⟨g, 0, none⟩) i cR) bN bP ∧ Blk W' s 48 #[.string r.nm, .int .i64 r.fr, .int .i64 r.sz, .bool r.wr, .bool r.ex]) := fun W W' h hg =>
                    ⟨Blk.grown h.1 hg (fun e => by injection e with e; exact HL3.out.mp.ne_blk HL3.out.lk e), h.2.grown hg (fun e => by injection e with e; exact HL3.out.mp.ne_blk HBS.out e)⟩
                  have hSc : ∀ W : World, (LK W k (.slice A1 N1 c1) (.slice A2 N2 c2) (.slice A3 j c3) z4 (.slice (some ⟨g, 0, none⟩) i cR) bN bP ∧ Blk W s 48 #[.string r.nm, .int .i64 r.fr, .int .i64 r.sz, .bool r.wr, .bool r.ex]) → W.cell? ⟨k, 5, none⟩ = some (.map (some bN)) ∧ W.cell? ⟨s, 0, none⟩ = some (.string r.nm) ∧ W.cell? ⟨s, 1, none⟩ = some (.int .i64 r.fr) ∧ W.cell? ⟨s, 2, none⟩ = some (.int .i64 r.sz) := fun W h =>
                    ⟨by rw [Blk.cell h.1]; rfl, by rw [h.2.cell]; rfl, by rw [h.2.cell]; rfl, by rw [h.2.cell]; rfl⟩
                  obtain ⟨v0, st, w4, hm1, hg1, hst1⟩ := HD.out.mp.entry Tryz.underlying62 hz r.nm hns1 (by unfold maxLen; omega)
                  obtain ⟨w5, hs1, hmp5, hg5⟩ := hst1 (.int .i64 r.fr)
                  have hl5 := HD.out.map (hg1.trans hg5) hmp5
                  obtain ⟨v1, st2, w6, hm2, hg6, hst2⟩ := hl5.mp.entry Tryz.underlying62 hz (endS r.nm) hns2 (by unfold maxLen; omega)
                  obtain ⟨w7, hs2, hmp7, hg7⟩ := hst2 (.int .i64 (r.fr + r.sz))
                  have HL7 : Hid (LY w0 w w7 k bN bP p B (n + 1 + 1) (.slice A1 N1 c1) (.slice A2 N2 c2) (.slice A3 j c3) z4 (.slice (some ⟨g, 0, none⟩) i cR) R (nameF (nameL J R ++ (nameR R).take (2 * (a + 1))))) :=
                    hl5.map (hg6.trans hg7) (hmp7.congr (fun s' => by
                      rw [HNR2.out, show [(r.nm, r.fr), (endS r.nm, r.fr + r.sz)] = [(r.nm, r.fr)] ++ [(endS r.nm, r.fr + r.sz)] from rfl, ← List.append_assoc, ← List.append_assoc, nameF_snoc, nameF_snoc]))
                  have hB3 : LK W3.drew k (.slice A1 N1 c1) (.slice A2 N2 c2) (.slice A3 j c3) z4 (.slice (some ⟨g, 0, none⟩) i cR) bN bP ∧ Blk W3.drew s 48 #[.string r.nm, .int .i64 r.fr, .int .i64 r.sz, .bool r.wr, .bool r.ex] := ⟨HD.out.lk, HBS.out.below hd HBS.out.lt⟩
                  have HS4 := Lib.hid (hSc _ (hbk _ _ hB3 hg1))
                  have HS5 := Lib.hid (hSc _ (hbk _ _ (hbk _ _ hB3 hg1) hg5))
                  have HS6 := Lib.hid (hSc _ (hbk _ _ (hbk _ _ (hbk _ _ hB3 hg1) hg5) hg6))
                  have HS7 := Lib.hid (hSc _ (hbk _ _ (hbk _ _ (hbk _ _ (hbk _ _ hB3 hg1) hg5) hg6) hg7))
                  clear hz hbk hSc hst1 hst2 hmp5 hmp7 hl5 hg1 hg5 hg6 hg7 hB3 hns1 hns2 hd HD HL3 HBS
                  refine wp_region_held_drew (S := (fun W => W.cell? ⟨k, 5, none⟩ = some (.map (some bN)) ∧ W.cell? ⟨s, 0, none⟩ = some (.string r.nm) ∧ W.cell? ⟨s, 1, none⟩ = some (.int .i64 r.fr) ∧ W.cell? ⟨s, 2, none⟩ = some (.int .i64 r.sz))) (by kernel_rfl) ?_ (fun hHeld => ?_)
                  · exact ⟨kc5, s0, s1, s2⟩
                  refine FU 26 rfl ?_
                  iterate 20 ((first | (refine TN 26 ?_ rfl ?_ ?_; rotate_left 1; focus (intro w h; (try dsimp only at h); first | (go_simp; done) | (go_simp; with_reducible rfl))) | refine TM 26 rfl ?_); (try simp only [AP, Nat.reduceAdd, Nat.reduceSub]))
                  refine wpAnyH_ready (rs := [20]) (by kernel_rfl) (by simp) ?_
                  refine AllReadyH.cons rfl (fun K hK => ?_) AllReadyH.nil
                  rw [if_pos (by rfl)]
                  go_simp
                  refine hK.out _ _ HS4.out (fun hHeld => ?_)
                  clear hK K
                  try simp only [AP]
                  (refine TW 21 ?_ rfl ?_ ?_; rotate_left 1; focus (intro w h; (try dsimp only at h); first | (go_simp; done) | (go_simp; with_reducible rfl))); (try simp only [AP])
                  refine wpAnyH_ready (rs := [22]) (by kernel_rfl) (by simp) ?_
                  refine AllReadyH.cons rfl (fun K hK => ?_) AllReadyH.nil
                  rw [if_pos (by rfl)]
                  go_simp
                  refine hK.out _ _ HS5.out (fun hHeld => ?_)
                  clear hK K
                  try simp only [AP]
                  refine wpAnyH_ready (rs := [23]) (by kernel_rfl) (by simp) ?_
                  refine AllReadyH.cons rfl (fun K hK => ?_) AllReadyH.nil
                  rw [if_pos (by rfl)]
                  go_simp
                  refine hK.out _ _ HS6.out (fun hHeld => ?_)
                  clear hK K
                  try simp only [AP]
                  (refine TW 24 ?_ rfl ?_ ?_; rotate_left 1; focus (intro w h; (try dsimp only at h); first | (go_simp; done) | (go_simp; with_reducible rfl))); (try simp only [AP])
                  refine wpAnyH_ready (rs := [25]) (by kernel_rfl) (by simp) ?_
                  refine AllReadyH.cons rfl (fun K hK => ?_) AllReadyH.nil
                  rw [if_pos (by rfl)]
                  go_simp
                  refine hK.out _ _ HS7.out (fun hHeld => ?_)
                  clear hK K
                  try simp only [AP]
                  refine wpAnyH_done (by kernel_rfl) ?_ _
                  clear hHeld
                  go_wp2_with fail
                  go_roundw
                  case rel => exact ⟨a + 1, by omega, by go_num, n + 1 + 1, by omega, HL7.out⟩
                  case measure => simp [intOf]; omega
                · have haM : a = M := by omega
                  have hfin := lay_end hly HP.out HB.out HS0.out HRR.out (by rw [hRl]; omega) (by omega)
                  have g0 : wr.cell? ⟨p, 0, none⟩ = some (.int .i64 0) := by rw [hly.flt.cell]; rfl
                  have g1 : wr.cell? ⟨p, 1, none⟩ = some (.int .i64 0) := by rw [hly.flt.cell]; rfl
                  have f0 := hly.flt.frozen 0
                  have f1 := hly.flt.frozen 1
                  have HFN := Lib.hid hfin
                  clear hfin hly HL
                  subst haM
                  go_wp2_with fail
                  obtain ⟨W3, hW3, h1, h2, h3⟩ := HFN.out
                  rw [← hW3]
                  have y0 := h1.cell 0
                  have y1 := h1.cell 1
                  refine bodyPost_ret (v := .agg #[.int .i64 0, .int .i64 0]) (by simp [results, Tryz.results31, y0, y1, go_sem]) rfl ?_
                  exact ⟨by unfold layC; rw [HBAD.out]; rfl, h2, fun _ => h3⟩
end Go.Proofs.YteoglkofeogknaaGreatDoor

/- Walks: Exits. No conditions. 'make': rows of one cell each. No conditions. Plain facts of layer 18's tests. No conditions. -/
import Derived.Test.YtlmoblmkhicoeaaGreatDoorI8
import Derived.Test.YtlmoblmkhicoeaaGreatDoorT0
import Derived.Laws.MakeOwn
import Derived.Laws.OwnMore
import Derived.Test.YtlmoblmkhicoeaaGreatDoorI2
set_option linter.unusedVariables false
set_option linter.unusedSimpArgs false
namespace Go.Proofs.YtlmoblmkhicoeaaGreatDoor
open Go.RowKit
theorem ints_blk {W : World} {g n : Nat} {t : TypeId} (l : List Int) (h : Blk W g t (l.map iv).toArray) (hn : l.length = n) (hl : n ≤ maxLen) : Ints W (.slice (some ⟨g, 0, none⟩) n n) l := by
  subst hn
  refine ⟨_, _, rfl, Nat.le_refl _, hl, fun _ => ⟨g, 0, rfl, h.lt, fun j u hj => ?_⟩⟩
  rw [h.cell, Nat.zero_add]
  simpa using hj
theorem ints_nil (W : World) : Ints W (.slice none 0 0) [] := ⟨none, 0, rfl, Nat.le_refl _, by decide, fun h => absurd h (by simp)⟩
/-- Its block, if it has one, lies from w's end on. -/
def Fresh (w : World) (v : Value) : Prop := ∀ g, v.ownBlock = some g → w.heap.size ≤ g
theorem fresh_nil (w : World) : Fresh w (.slice none 0 0) := by intro g h; cases h
theorem fresh_at {w : World} {g n c : Nat} (h : w.heap.size ≤ g) : Fresh w (.slice (some ⟨g, 0, none⟩) n c) := by intro g' h'; cases h'; exact h
theorem size_le1 (w : World) (o : Obj) : w.heap.size ≤ (w.alloc o).heap.size := by simp [World.size_alloc]
theorem size_le2 (w : World) (o p : Obj) : w.heap.size ≤ ((w.alloc o).alloc p).heap.size := by simp [World.size_alloc]; omega
theorem below1 (w : World) (o : Obj) : Below w.heap.size w (w.alloc o) := (Below.refl _ _).alloc (Nat.le_refl _) o
theorem below2 (w : World) (o p : Obj) : Below w.heap.size w ((w.alloc o).alloc p) := (below1 w o).alloc (size_le1 w o) p
theorem below3 (w : World) (o p q : Obj) : Below w.heap.size w (((w.alloc o).alloc p).alloc q) := (below2 w o p).alloc (size_le2 w o p) q
theorem drewB {B : Nat} {a w : World} (h : Below B a w) : Below B a w.drew := ⟨h.os, h.tape, h.output, h.size, h.block⟩
set_option maxRecDepth 100000 in
set_option maxHeartbeats 4000000 in
theorem exits_any (x : Ex) (w : World) :
    Calls Tryz.prog 25 #[exv x] w fun e w' => (∃ a b, e = .returned (.tuple #[a, b]) ∧ (Ints w' a (exR x) ∧ Fresh w a) ∧ (Ints w' b (exT x) ∧ Fresh w b)) ∧ Below w.heap.size w w' := by
  unfold exv
  go_enter Tryz.func25, Tryz.ntmps25
  cases k1 : (x.k == 1) with
  | true =>
    have e1 := eq_of_beq k1
    have HR := Lib.hid (show exR x = [] ∧ exT x = [x.t] by simp [exR, exT, e1])
    clear e1
    go_wp2
    go_region
    all_goals (try go_wp2)
    refine bodyPost_ret (v := .tuple #[.slice none 0 0, .slice (some ⟨w.heap.size + 1 + 1, 0, none⟩) 1 1]) (by simp [results, Tryz.results25, go_sem]) rfl ⟨⟨_, _, rfl, ?_, ?_⟩, drewB (below3 _ _ _ _)⟩
    · rw [HR.out.1]; exact ⟨ints_nil _, fresh_nil w⟩
    · rw [HR.out.2]; exact ⟨ints_blk (t := 3) [x.t] (blk_at (by simp [World.size_alloc]) _ _) rfl (by decide), fresh_at (by omega)⟩
  | false =>
    have n1 := ne_of_beq_false k1
    cases k2 : (x.k == 2) with
    | true =>
      have e1 := eq_of_beq k2
      have HR := Lib.hid (show exR x = [x.a] ∧ exT x = [x.t, x.e] by simp [exR, exT, e1])
      clear e1 n1
      go_wp2
      go_region
      all_goals (try go_wp2)
      refine bodyPost_ret (v := .tuple #[.slice (some ⟨w.heap.size + 1, 0, none⟩) 1 1, .slice (some ⟨w.heap.size + 1 + 1, 0, none⟩) 2 2]) (by simp [results, Tryz.results25, go_sem]) rfl ⟨⟨_, _, rfl, ?_, ?_⟩, drewB (below3 _ _ _ _)⟩
      · rw [HR.out.1]; exact ⟨ints_blk (t := 3) [x.a] ((blk_at (by simp [World.size_alloc]) _ _).alloc _) rfl (by decide), fresh_at (by omega)⟩
      · rw [HR.out.2]; exact ⟨ints_blk (t := 3) [x.t, x.e] (blk_at (by simp [World.size_alloc]) _ _) rfl (by decide), fresh_at (by omega)⟩
    | false =>
      have n2 := ne_of_beq_false k2
      cases k4 : (x.k == 4) with
      | true =>
        have e1 := eq_of_beq k4
        have HR := Lib.hid (show exR x = [x.a] ∧ exT x = [x.t, x.e] by simp [exR, exT, e1])
        clear e1 n1 n2
        go_wp2
        go_region
        all_goals (try go_wp2)
        refine bodyPost_ret (v := .tuple #[.slice (some ⟨w.heap.size + 1, 0, none⟩) 1 1, .slice (some ⟨w.heap.size + 1 + 1, 0, none⟩) 2 2]) (by simp [results, Tryz.results25, go_sem]) rfl ⟨⟨_, _, rfl, ?_, ?_⟩, drewB (below3 _ _ _ _)⟩
        · rw [HR.out.1]; exact ⟨ints_blk (t := 3) [x.a] ((blk_at (by simp [World.size_alloc]) _ _).alloc _) rfl (by decide), fresh_at (by omega)⟩
        · rw [HR.out.2]; exact ⟨ints_blk (t := 3) [x.t, x.e] (blk_at (by simp [World.size_alloc]) _ _) rfl (by decide), fresh_at (by omega)⟩
      | false =>
        have n4 := ne_of_beq_false k4
        cases k3 : (x.k == 3) with
        | true =>
          have e1 := eq_of_beq k3
          by_cases h0 : 0 ≤ x.a
          · have HR := Lib.hid (show exR x = [x.a] ∧ exT x = [] by simp [exR, exT, e1, h0])
            clear e1 n1 n2 n4
            go_wp2
            refine bodyPost_ret (v := .tuple #[.slice (some ⟨w.heap.size + 1, 0, none⟩) 1 1, .slice none 0 0]) (by simp [results, Tryz.results25, go_sem]) rfl ⟨⟨_, _, rfl, ?_, ?_⟩, below2 _ _ _⟩
            · rw [HR.out.1]; exact ⟨ints_blk (t := 3) [x.a] (blk_at (by simp [World.size_alloc]) _ _) rfl (by decide), fresh_at (by omega)⟩
            · rw [HR.out.2]; exact ⟨ints_nil _, fresh_nil w⟩
          · have HR := Lib.hid (show exR x = [] ∧ exT x = [] by simp [exR, exT, e1, h0])
            clear e1 n1 n2 n4
            go_wp2
            refine bodyPost_ret (v := .tuple #[.slice none 0 0, .slice none 0 0]) (by simp [results, Tryz.results25, go_sem]) rfl ⟨⟨_, _, rfl, ?_, ?_⟩, below2 _ _ _⟩
            · rw [HR.out.1]; exact ⟨ints_nil _, fresh_nil w⟩
            · rw [HR.out.2]; exact ⟨ints_nil _, fresh_nil w⟩
        | false =>
          have n3 := ne_of_beq_false k3
          have HR := Lib.hid (show exR x = [] ∧ exT x = [] by simp [exR, exT, n1, n2, n3, n4])
          clear n1 n2 n3 n4
          go_wp2
          refine bodyPost_ret (v := .tuple #[.slice none 0 0, .slice none 0 0]) (by simp [results, Tryz.results25, go_sem]) rfl ⟨⟨_, _, rfl, ?_, ?_⟩, below2 _ _ _⟩
          · rw [HR.out.1]; exact ⟨ints_nil _, fresh_nil w⟩
          · rw [HR.out.2]; exact ⟨ints_nil _, fresh_nil w⟩
theorem enters_ap1 (a : Array Value) (w : World) : (callFunc 97 a).run Tryz.prog w = .ok (.enter 97 a) w := by kernel_rfl
/-- A row of ints in a block of the call's own. -/
structure IRow (W : World) (g : Nat) (l : List Int) : Prop where
  b : ∃ cs, Blk W g 3 cs ∧ cs.toList = l.map iv
theorem IRow.cell {W : World} {g : Nat} {l : List Int} (h : IRow W g l) (j : Nat) (hj : j < l.length) : W.cell? ⟨g, j, none⟩ = some (.int .i64 l[j]) := by
  obtain ⟨cs, hb, hc⟩ := h.b
  rw [hb.cell, ← Array.getElem?_toList, hc, List.getElem?_map, List.getElem?_eq_getElem hj]; rfl
theorem IRow.frozen {W : World} {g : Nat} {l : List Int} (h : IRow W g l) (j : Nat) : W.frozen? ⟨g, j, none⟩ = false := by
  obtain ⟨cs, hb, hc⟩ := h.b
  exact hb.frozen j
theorem IRow.lt {W : World} {g : Nat} {l : List Int} (h : IRow W g l) : g < W.heap.size := by
  obtain ⟨cs, hb, hc⟩ := h.b
  exact hb.lt
theorem IRow.set_ {W : World} {g : Nat} {l : List Int} (h : IRow W g l) (j : Nat) (u : Int) : IRow (W.setCell ⟨g, j, none⟩ (.int .i64 u)) g (l.set j u) := by
  obtain ⟨cs, hb, hc⟩ := h.b
  exact ⟨_, hb.set_ j _, by rw [Array.toList_setIfInBounds, hc, List.map_set]; rfl⟩
theorem IRow.below {W W' : World} {g : Nat} {l : List Int} (h : IRow W g l) (hb : Below W.heap.size W W') : IRow W' g l := by
  obtain ⟨cs, h1, hc⟩ := h.b
  exact ⟨_, h1.below hb h1.lt, hc⟩
theorem IRow.ints {W : World} {g : Nat} {l : List Int} (h : IRow W g l) (hl : l.length ≤ maxLen) : Ints W (.slice (some ⟨g, 0, none⟩) l.length l.length) l :=
  ⟨_, _, rfl, Nat.le_refl _, hl, fun _ => ⟨g, 0, rfl, h.lt, fun j u hj => by
    have hj' : j < l.length := by
      rcases Nat.lt_or_ge j l.length with h | h
      · exact h
      · rw [List.getElem?_eq_none (by simpa using h)] at hj; cases hj
    rw [Nat.zero_add, h.cell j hj']
    rw [List.getElem?_map, List.getElem?_eq_getElem hj'] at hj
    exact hj⟩⟩
set_option maxRecDepth 100000 in
set_option maxHeartbeats 1000000 in
theorem ap1_any (gp g n : Nat) (led : List Int) (bs : List Bl) (w : World) (hn : led.length = n) (hp : w.cell? ⟨gp, 0, none⟩ = some (.slice (some ⟨g, 0, none⟩) n n)) (hr : IRow w g led) (hbs : ∀ x ∈ bs, x.x.k = 4 → 0 ≤ x.x.e ∧ x.x.e < n) :
    Tests w 97 #[.pointer (some ⟨gp, 0, none⟩)] (fun W x v => atB W x v ∧ x ∈ bs) (fun x => x.x.k == 4 && decide (1 < led.getD x.x.e.toNat 0)) := by
  rintro W hb x v ⟨⟨ov, ho, rfl⟩, hx⟩
  replace hx := hbs x hx
  obtain ⟨A, c, rfl, h1, h2⟩ := ho.form
  have hp' : W.cell? ⟨gp, 0, none⟩ = some (.slice (some ⟨g, 0, none⟩) n n) := (hb.cell (p := ⟨gp, 0, none⟩) (cell_lt hp)).trans hp
  have hr' := hr.below hb
  clear ho hp hb
  show Calls Tryz.prog 97 #[blv x _, .pointer (some ⟨gp, 0, none⟩)] W fun e W' => e = .returned (.bool (x.x.k == 4 && decide (1 < led.getD x.x.e.toNat 0))) ∧ Below W.heap.size W W'
  unfold blv
  cases hk : (x.x.k == 4) with
  | true =>
    obtain ⟨e1, e2⟩ := hx (eq_of_beq hk)
    obtain ⟨j, hj⟩ : ∃ j : Nat, x.x.e = (j : Int) := ⟨x.x.e.toNat, by omega⟩
    have hjn : j < led.length := by omega
    have c0 := hr'.cell j hjn
    have hg : led.getD x.x.e.toNat 0 = led[j] := by rw [hj]; simp [hjn]
    obtain ⟨q, hq⟩ : ∃ q, led[j] = q := ⟨_, rfl⟩
    rw [hq] at c0 hg
    rw [hg, hj]
    have hjn' : j < n := by omega
    have c1 := cell_al c0 (.cells #[.slice A x.os.length c, .int .i64 x.x.k, .int .i64 x.x.a, .int .i64 x.x.d, .int .i64 x.x.t, .int .i64 j] 45)
    have c2 := cell_al hp' (.cells #[.slice A x.os.length c, .int .i64 x.x.k, .int .i64 x.x.a, .int .i64 x.x.d, .int .i64 x.x.t, .int .i64 j] 45)
    clear hg hq hj e1 e2 hx c0 hp' hr hr'
    go_enter Tryz.func97, Tryz.ntmps97
    by_cases hq : 1 < q
    all_goals
      go_wp2
      go_ret
      exact ⟨ret_bool (by simp [hq]), below1 _ _⟩
  | false =>
    clear hx hp' hr hr'
    go_enter Tryz.func97, Tryz.ntmps97
    go_wp2
    go_ret
    exact ⟨rfl, below1 _ _⟩
end Go.Proofs.YtlmoblmkhicoeaaGreatDoor
namespace Go.Proofs.YtlmoblmkhicoeaaGreatDoor
open Go.RowKit
theorem made_one {t e : TypeId} {bytes : Nat} {z : Value} (u : Tryz.prog.underlying t = some (.slice e)) (h : (Tryz.prog.info? e).map (fun i => (i.zero, i.size, i.bytes)) = some (some z, 1, bytes)) (hz : z.cells = #[z]) (hb : bytes ≤ 4096) (n : Nat) (hn : n ≤ 16777216) (w : World) :
    (Instr.makeSlice t (.int .i64 (n : Int)) (.int .i64 (n : Int))).run Tryz.prog w = .ok (.slice (some ⟨w.heap.size, 0, none⟩) n n) (w.alloc (.cells (Array.replicate n z) e)) := by
  obtain ⟨i0, hi, hz0, hz1, hz2⟩ := info_parts h
  have h := run_make (P := Tryz.prog) w t e i0 z u hi hz0 .i64 .i64 (n : Int) (n : Int) (by omega) (Int.le_refl _) (by
    rw [hz2]
    have : (bytes : Int) * n ≤ 4096 * 16777216 := Int.mul_le_mul (by omega) (by omega) (by omega) (by omega)
    omega) (by omega)
  have e1 : ((n : Int)).toNat = n := by omega
  rw [e1] at h
  have e2 : madeCells #[z] n = Array.replicate n z := by
    apply Array.toList_inj.1
    rw [toList_madeCells_one, Array.toList_replicate]
  rw [hz1, hz, Nat.mul_one, e2] at h
  exact h
theorem und34 : Tryz.prog.underlying 34 = some (.slice 3) := by kernel_rfl
theorem inf3 : (Tryz.prog.info? 3).map (fun i => (i.zero, i.size, i.bytes)) = some (some (.int .i64 0), 1, 8) := by kernel_rfl
theorem make_ints (n : Nat) (hn : n ≤ 16777216) (w : World) : (Instr.makeSlice 34 (.int .i64 (n : Int)) (.int .i64 (n : Int))).run Tryz.prog w = .ok (.slice (some ⟨w.heap.size, 0, none⟩) n n) (w.alloc (.cells (Array.replicate n (.int .i64 0)) 3)) :=
  made_one und34 inf3 rfl (by decide) n hn w
end Go.Proofs.YtlmoblmkhicoeaaGreatDoor
namespace Go.Proofs.YtlmoblmkhicoeaaGreatDoor
theorem toB_iff {n m : Int} : toB n m = true ↔ 1 ≤ n ∧ n < m := by simp [toB]
theorem regB_tf {regs r : Int} (h : regB regs r true false = true) : 0 ≤ r ∧ r < regs := by
  unfold regB at h
  split at h <;> simp_all
theorem exB_to {regs n : Int} {x : Ex} (h : exB regs n x = true) : ∀ t ∈ exT x, 1 ≤ t ∧ t < n := by
  intro t ht
  unfold exB at h
  unfold exT at ht
  split at h
  · simp_all [toB_iff]
  · split at h
    · simp_all [toB_iff]
      rcases ht with rfl | rfl <;> omega
    · split at h
      · simp_all
      · split at h
        · simp_all [toB_iff]
          rcases ht with rfl | rfl <;> omega
        · simp at h
theorem exB_regs {regs n : Int} {x : Ex} (h : exB regs n x = true) : ∀ r ∈ exR x, 0 ≤ r ∧ r < regs := by
  intro t ht
  unfold exB at h
  unfold exR at ht
  split at h
  · simp_all
  · split at h
    · simp_all
      exact regB_tf h.1
    · split at h
      · simp only [Bool.and_eq_true] at h
        have h1 := h.1
        unfold regB at h1
        split at h1 <;> simp_all
      · split at h
        · simp_all
          exact regB_tf h.1
        · simp at h
theorem exB_set {regs n : Int} {x : Ex} (h : exB regs n x = true) (hk : x.k = 4) : (1 ≤ x.e ∧ x.e < n) ∧ (1 ≤ x.t ∧ x.t < n) ∧ (0 ≤ x.d ∧ x.d < regs) ∧ (0 ≤ x.a ∧ x.a < regs) ∧ x.t ≠ x.e := by
  simp [exB, hk, toB_iff] at h
  exact ⟨h.2.2.2.1, h.2.2.1, regB_tf h.2.1, regB_tf h.1, h.2.2.2.2⟩
theorem exT_len (x : Ex) : (exT x).length ≤ 2 := by
  unfold exT
  split
  · simp
  · split <;> simp
theorem exR_len (x : Ex) : (exR x).length ≤ 1 := by
  unfold exR
  split
  · simp
  · split <;> simp
end Go.Proofs.YtlmoblmkhicoeaaGreatDoor

/- Objects that came in: from the row's reading to where they lie, and how much they hold. No conditions. -/
import Derived.Test.YteoglkofeogknaaGreatDoorQA
import Derived.ProofKit
import Derived.OpenShut
import Derived.Lib.SmallJoins
set_option linter.unusedVariables false
set_option linter.unusedSimpArgs false
namespace Go.Proofs.YteoglkofeogknaaGreatDoor
open Go.ChangeShapes Go.WideShapes Go.ChangeAt Go.RowKit Go.Joins
theorem list_of_each {α : Type} {Q : Nat → α → Prop} : ∀ (n : Nat), (∀ i, i < n → ∃ r, Q i r) → ∃ rs : List α, rs.length = n ∧ ∀ i (h : i < rs.length), Q i rs[i]
  | 0, _ => ⟨[], rfl, fun i h => by simp at h⟩
  | n + 1, h => by
    obtain ⟨rs, hl, hq⟩ := list_of_each n (fun i hi => h i (by omega))
    obtain ⟨r, hr⟩ := h n (by omega)
    refine ⟨rs ++ [r], by simp [hl], fun i hi => ?_⟩
    by_cases c : i < rs.length
    · rw [List.getElem_append_left c]; exact hq i c
    · have : i = rs.length := by simp at hi; omega
      subst this
      simp
      rw [hl]
      exact hr
section
variable {H : Type} {enc : TypeId × Value → H} {W : World}
theorem bulk_sum {α : Type} (b : α → Nat) : ∀ (rs : List α) (es : List (DataW H × List MemPlace)), rs.length = es.length → (∀ i (h1 : i < rs.length) (h2 : i < es.length), b rs[i] ≤ Rows.uptoBulk es[i].1) → (rs.map b).sum ≤ Rows.uptoBulkAll (es.map (·.1))
  | [], es, _, _ => by simp
  | r :: rs, [], h, _ => by simp at h
  | r :: rs, e :: es, h, hb => by
    have h0 := hb 0 (by simp) (by simp)
    have ih := bulk_sum b rs es (by simpa using h) (fun i h1 h2 => hb (i + 1) (by simpa using h1) (by simpa using h2))
    simp only [List.map_cons, List.sum_cons, Rows.uptoBulkAll]
    simp only [List.getElem_cons_zero] at h0
    omega
/-- A slice that came in, of elements of c cells each. -/
theorem row_in {α : Type} {T E : TypeId} {c : Nat} (f : α → List Value) (b : α → Nat) (Q : α → Prop) (hu : Tryz.prog.underlying T = some (.slice E)) (hc : Tryz.prog.cellsOf E = c) (h0 : 0 < c) (hf : ∀ a, (f a).length = c)
    (each : ∀ {n : Nat} {cs : List Value} {y : DataW H × List MemPlace}, DataW.trod enc Tryz.prog W 0 (fun _ => true) true n E cs = some y → ∃ a, cs = f a ∧ b a ≤ Rows.uptoBulk y.1 ∧ Q a)
    {fuel : Nat} {v : Value} {x : DataW H × List MemPlace} (h : DataW.trod enc Tryz.prog W 0 (fun _ => true) true fuel T [v] = some x) :
    ∃ rs : List α, RowOf W v rs.length (rs.flatMap f) ∧ (∀ r ∈ rs, Q r) ∧ (rs.map b).sum + 1 ≤ Rows.uptoBulk x.1 := by
  rcases DataW.trod_slice hu h with ⟨hcs, hx⟩ | ⟨a, len, cap, elems, rest, n, _, hcs, hx, _, hl, hm, hlen, hel, _, _⟩
  · obtain rfl : v = .slice none 0 0 := by simpa using hcs
    exact ⟨[], ⟨none, 0, rfl, Nat.le_refl _, by decide, fun h => absurd h (by simp)⟩, (fun r hr => by cases hr), by rw [hx]; simp [Rows.uptoBulk]⟩
  · obtain rfl : v = .slice (some a) len cap := by simpa using hcs
    rw [hc] at hel
    have each' : ∀ i, i < len → ∃ r : α, W.cells? 0 (a.add (i * c)) c = some (f r) ∧ Q r ∧ ∃ y, elems[i]? = some y ∧ b r ≤ Rows.uptoBulk y.1 := by
      intro i hi
      have h1 := hel i hi
      rw [List.getElem?_eq_getElem (by omega)] at h1
      obtain ⟨cs, hcc, ht⟩ := Option.bind_eq_some_iff.1 h1
      obtain ⟨r, rfl, hb, hq⟩ := each ht
      exact ⟨r, hcc, hq, _, List.getElem?_eq_getElem (by omega), hb⟩
    obtain ⟨rs, hrl, hrs⟩ := list_of_each len each'
    refine ⟨rs, ⟨some a, cap, by rw [hrl], by omega, hm, fun hpos => ?_⟩, fun r hr => ?_, ?_⟩
    · obtain ⟨bk, off, spot⟩ := a
      have hcell : ∀ i (hi : i < rs.length) j, j < c → W.cell? (((⟨bk, off, spot⟩ : Addr).add (i * c)).add j) = (f rs[i])[j]? := fun i hi j hj => (World.cells?_some (hrs i hi).1).2.2 j hj
      have h00 := hcell 0 hpos 0 h0
      rw [Nat.zero_mul] at h00
      obtain ⟨u, hu0⟩ : ∃ u, (f rs[0])[0]? = some u := ⟨_, List.getElem?_eq_getElem (l := f rs[0]) (i := 0) (by rw [hf]; exact h0)⟩
      have hspot : spot = none := by simpa [Addr.add] using World.cell?_spot (h00.trans hu0)
      subst hspot
      rw [addr_add, addr_add] at h00
      refine ⟨bk, off, rfl, cell_lt (a := ⟨bk, off + 0 + 0, none⟩) (h00.trans hu0), fun j u hj => ?_⟩
      obtain ⟨i, hi, q, hq, rfl, hfu⟩ := flatMap_idx f c h0 hf hj
      have := hcell i hi q hq
      rw [addr_add, addr_add] at this
      rw [← Nat.add_assoc]
      exact this.trans hfu
    · obtain ⟨i, hi, rfl⟩ := List.getElem_of_mem hr
      exact (hrs i hi).2.1
    · rw [hx]
      have := bulk_sum b rs elems (by omega) (fun i h1 h2 => by
        obtain ⟨y, hy, hb⟩ := (hrs i h1).2.2
        rw [List.getElem?_eq_getElem h2] at hy
        injection hy with hy
        rw [hy]
        exact hb)
      simp only [Rows.uptoBulk]
      omega
theorem cells_u8 : Tryz.prog.cellsOf 5 = 1 := by kernel_rfl
theorem cells_lb : Tryz.prog.cellsOf 68 = 4 := by kernel_rfl
theorem cells_rl : Tryz.prog.cellsOf 51 = 5 := by kernel_rfl
theorem cells_ob : Tryz.prog.cellsOf 41 = 4 := by kernel_rfl
theorem cells_int : Tryz.prog.cellsOf 3 = 1 := by kernel_rfl
theorem cells_bool : Tryz.prog.cellsOf 4 = 1 := by kernel_rfl
theorem cells_string : Tryz.prog.cellsOf 9 = 1 := by kernel_rfl
theorem cells_bs : Tryz.prog.cellsOf 37 = 1 := by kernel_rfl
theorem cells_lbs : Tryz.prog.cellsOf 38 = 1 := by kernel_rfl
theorem cells_rls : Tryz.prog.cellsOf 39 = 1 := by kernel_rfl
theorem u8_of {x : Int} (h : (Lit.int .u8 x).wf = true) : ∃ b : UInt8, byv b = .int .u8 x := by
  have h2 : 0 ≤ x ∧ x ≤ 255 := by
    have := bounds_u8 h
    omega
  refine ⟨UInt8.ofNat x.toNat, ?_⟩
  unfold byv
  simp
  omega
theorem bulk_pos : ∀ d : DataW H, 1 ≤ Rows.uptoBulk d := fun d => by
  cases d with
  | lit l => cases l <;> simp [Rows.uptoBulk]
  | _ => simp [Rows.uptoBulk]
theorem byte_of {n : Nat} {cs : List Value} {y : DataW H × List MemPlace} (h : DataW.trod enc Tryz.prog W 0 (fun _ => true) true n 5 cs = some y) : ∃ b : UInt8, cs = [byv b] ∧ 1 ≤ Rows.uptoBulk y.1 ∧ True := by
  obtain ⟨x, q, _, b1⟩ := DataW.trod_int Tryz.underlying5 h
  obtain ⟨b, hb⟩ := u8_of b1
  exact ⟨b, by rw [q, hb], bulk_pos _, trivial⟩
theorem four_list {l : List Value} (h : l.length = 4) : ∃ a b c d, l = [a, b, c, d] := by
  match l, h with
  | [a, b, c, d], _ => exact ⟨a, b, c, d, rfl⟩
theorem five_list {l : List Value} (h : l.length = 5) : ∃ a b c d e, l = [a, b, c, d, e] := by
  match l, h with
  | [a, b, c, d, e], _ => exact ⟨a, b, c, d, e, rfl⟩
theorem lbl_of {n : Nat} {cs : List Value} {y : DataW H × List MemPlace} (h : DataW.trod enc Tryz.prog W 0 (fun _ => true) true n 68 cs = some y) : ∃ x : Lbl, cs = x.cells ∧ 1 ≤ Rows.uptoBulk y.1 ∧ x.nm.size ≤ maxLen := by
  obtain ⟨xs, m, _, _, hl, hx, hf⟩ := DataW.trod_struct Tryz.underlying68 h
  rw [cells_lb] at hl
  obtain ⟨a, b, c, d, rfl⟩ := four_list hl
  have hxl : xs.length = 4 := by rw [hx]; rfl
  have f0 : DataW.trod enc Tryz.prog W 0 (fun _ => true) true m 9 (([a, b, c, d].drop 0).take (Tryz.prog.cellsOf 9)) = xs[0]? := hf 0 _ rfl
  have f1 : DataW.trod enc Tryz.prog W 0 (fun _ => true) true m 3 (([a, b, c, d].drop 1).take (Tryz.prog.cellsOf 3)) = xs[1]? := hf 1 _ rfl
  have f2 : DataW.trod enc Tryz.prog W 0 (fun _ => true) true m 3 (([a, b, c, d].drop 2).take (Tryz.prog.cellsOf 3)) = xs[2]? := hf 2 _ rfl
  have f3 : DataW.trod enc Tryz.prog W 0 (fun _ => true) true m 4 (([a, b, c, d].drop 3).take (Tryz.prog.cellsOf 4)) = xs[3]? := hf 3 _ rfl
  rw [List.getElem?_eq_getElem (by omega)] at f0 f1 f2 f3
  rw [cells_string] at f0
  rw [cells_int] at f1 f2
  rw [cells_bool] at f3
  obtain ⟨s, q0, _, hs⟩ := DataW.trod_string Tryz.underlying9 f0
  obtain ⟨x1, q1, _, _⟩ := DataW.trod_int Tryz.underlying3 f1
  obtain ⟨x2, q2, _, _⟩ := DataW.trod_int Tryz.underlying3 f2
  obtain ⟨x3, q3, _⟩ := DataW.trod_bool Tryz.underlying4 f3
  simp at q0 q1 q2 q3
  subst q0 q1 q2 q3
  exact ⟨⟨s, x1, x2, x3⟩, rfl, bulk_pos _, hs⟩
theorem rel_of {n : Nat} {cs : List Value} {y : DataW H × List MemPlace} (h : DataW.trod enc Tryz.prog W 0 (fun _ => true) true n 51 cs = some y) : ∃ x : Rel, cs = x.cells ∧ 1 ≤ Rows.uptoBulk y.1 ∧ x.nm.size ≤ maxLen := by
  obtain ⟨xs, m, _, _, hl, hx, hf⟩ := DataW.trod_struct Tryz.underlying51 h
  rw [cells_rl] at hl
  obtain ⟨a, b, c, d, e, rfl⟩ := five_list hl
  have hxl : xs.length = 5 := by rw [hx]; rfl
  have f0 : DataW.trod enc Tryz.prog W 0 (fun _ => true) true m 3 (([a, b, c, d, e].drop 0).take (Tryz.prog.cellsOf 3)) = xs[0]? := hf 0 _ rfl
  have f1 : DataW.trod enc Tryz.prog W 0 (fun _ => true) true m 3 (([a, b, c, d, e].drop 1).take (Tryz.prog.cellsOf 3)) = xs[1]? := hf 1 _ rfl
  have f2 : DataW.trod enc Tryz.prog W 0 (fun _ => true) true m 3 (([a, b, c, d, e].drop 2).take (Tryz.prog.cellsOf 3)) = xs[2]? := hf 2 _ rfl
  have f3 : DataW.trod enc Tryz.prog W 0 (fun _ => true) true m 3 (([a, b, c, d, e].drop 3).take (Tryz.prog.cellsOf 3)) = xs[3]? := hf 3 _ rfl
  have f4 : DataW.trod enc Tryz.prog W 0 (fun _ => true) true m 9 (([a, b, c, d, e].drop 4).take (Tryz.prog.cellsOf 9)) = xs[4]? := hf 4 _ rfl
  rw [List.getElem?_eq_getElem (by omega)] at f0 f1 f2 f3 f4
  rw [cells_string] at f4
  rw [cells_int] at f0 f1 f2 f3
  obtain ⟨x0, q0, _, _⟩ := DataW.trod_int Tryz.underlying3 f0
  obtain ⟨x1, q1, _, _⟩ := DataW.trod_int Tryz.underlying3 f1
  obtain ⟨x2, q2, _, _⟩ := DataW.trod_int Tryz.underlying3 f2
  obtain ⟨x3, q3, _, _⟩ := DataW.trod_int Tryz.underlying3 f3
  obtain ⟨s, q4, _, hs⟩ := DataW.trod_string Tryz.underlying9 f4
  simp at q0 q1 q2 q3 q4
  subst q0 q1 q2 q3 q4
  exact ⟨⟨x0, x1, x2, x3, s⟩, rfl, bulk_pos _, hs⟩
theorem flat_one (bs : List UInt8) : bs.flatMap (fun b => [byv b]) = bs.map byv := by
  induction bs with
  | nil => rfl
  | cons b bs ih => rw [List.flatMap_cons, ih]; rfl
theorem sum_ones {α : Type} (l : List α) : (l.map fun _ => 1).sum = l.length := by
  induction l with
  | nil => rfl
  | cons x l ih => rw [List.map_cons, List.sum_cons, ih, List.length_cons]; omega
def wtO (o : Ob) : Nat := o.tx.length + o.dt.length + o.lb.length + o.rl.length + 1
theorem obj_of {n : Nat} {cs : List Value} {y : DataW H × List MemPlace} (h : DataW.trod enc Tryz.prog W 0 (fun _ => true) true n 41 cs = some y) : ∃ a : (Value × Value × Value × Value) × Ob, cs = QC a.1 ∧ wtO a.2 ≤ Rows.uptoBulk y.1 ∧ ObAt W a.1.1 a.1.2.1 a.1.2.2.1 a.1.2.2.2 a.2 ∧ NmOK a.2 := by
  obtain ⟨xs, m, _, hy, hl, hx, hf⟩ := DataW.trod_struct Tryz.underlying41 h
  rw [cells_ob] at hl
  obtain ⟨a, b, c, d, rfl⟩ := four_list hl
  have hxl : xs.length = 4 := by rw [hx]; rfl
  have f0 : DataW.trod enc Tryz.prog W 0 (fun _ => true) true m 37 (([a, b, c, d].drop 0).take (Tryz.prog.cellsOf 37)) = xs[0]? := hf 0 _ rfl
  have f1 : DataW.trod enc Tryz.prog W 0 (fun _ => true) true m 37 (([a, b, c, d].drop 1).take (Tryz.prog.cellsOf 37)) = xs[1]? := hf 1 _ rfl
  have f2 : DataW.trod enc Tryz.prog W 0 (fun _ => true) true m 38 (([a, b, c, d].drop 2).take (Tryz.prog.cellsOf 38)) = xs[2]? := hf 2 _ rfl
  have f3 : DataW.trod enc Tryz.prog W 0 (fun _ => true) true m 39 (([a, b, c, d].drop 3).take (Tryz.prog.cellsOf 39)) = xs[3]? := hf 3 _ rfl
  rw [List.getElem?_eq_getElem (by omega)] at f0 f1 f2 f3
  rw [cells_bs] at f0 f1
  rw [cells_lbs] at f2
  rw [cells_rls] at f3
  obtain ⟨tx, r0, _, w0⟩ := row_in (fun b : UInt8 => [byv b]) (fun _ => 1) (fun _ => True) Tryz.underlying37 cells_u8 (by omega) (fun _ => rfl) byte_of f0
  obtain ⟨dt, r1, _, w1⟩ := row_in (fun b : UInt8 => [byv b]) (fun _ => 1) (fun _ => True) Tryz.underlying37 cells_u8 (by omega) (fun _ => rfl) byte_of f1
  obtain ⟨lb, r2, n2, w2⟩ := row_in Lbl.cells (fun _ => 1) (fun x => x.nm.size ≤ maxLen) Tryz.underlying38 cells_lb (by omega) (fun _ => rfl) lbl_of f2
  obtain ⟨rl, r3, n3, w3⟩ := row_in Rel.cells (fun _ => 1) (fun x => x.nm.size ≤ maxLen) Tryz.underlying39 cells_rl (by omega) (fun _ => rfl) rel_of f3
  rw [flat_one] at r0 r1
  rw [sum_ones] at w0 w1 w2 w3
  refine ⟨((a, b, c, d), ⟨tx, dt, lb, rl⟩), rfl, ?_, ⟨r0, r1, r2, r3⟩, n2, n3⟩
  have hs := bulk_sum (H := H) (fun e : DataW H × List MemPlace => Rows.uptoBulk e.1) xs xs rfl (fun i h1 h2 => Nat.le_refl _)
  obtain ⟨x0, x1, x2, x3, rfl⟩ : ∃ x0 x1 x2 x3, xs = [x0, x1, x2, x3] := by
    match xs, hxl with
    | [x0, x1, x2, x3], _ => exact ⟨x0, x1, x2, x3, rfl⟩
  simp only [List.map_cons, List.map_nil, List.sum_cons, List.sum_nil, List.getElem_cons_zero, List.getElem_cons_succ] at hs w0 w1 w2 w3
  rw [hy]
  simp only [Rows.uptoBulk, List.map_cons, List.map_nil]
  unfold wtO
  dsimp only
  omega
/-- The objects that came in. -/
theorem objs_in {fuel : Nat} {v : Value} {x : DataW H × List MemPlace} (h : DataW.trod enc Tryz.prog W 0 (fun _ => true) true fuel 29 [v] = some x) : ∃ os, OsAt W v os ∧ (∀ o ∈ os, NmOK o) ∧ (os.map wtO).sum ≤ Rows.uptoBulk x.1 := by
  obtain ⟨rs, r0, r1, r2⟩ := row_in (fun a : (Value × Value × Value × Value) × Ob => QC a.1) (fun a => wtO a.2) (fun a => ObAt W a.1.1 a.1.2.1 a.1.2.2.1 a.1.2.2.2 a.2 ∧ NmOK a.2) Tryz.underlying29 cells_ob (by omega) (fun _ => rfl) obj_of h
  refine ⟨rs.map (·.2), ⟨rs.map (·.1), by simp, ?_, fun i hi => ?_⟩, fun o ho => ?_, ?_⟩
  · rw [List.length_map, List.flatMap_map]
    exact r0
  · have hi' : i < rs.length := by simpa using hi
    have e : (rs.map (·.2)).getD i default = rs[i].2 := by simp [List.getD, hi']
    rw [e]
    simpa using (r1 rs[i] (List.getElem_mem _)).1
  · obtain ⟨a, ha, rfl⟩ := List.mem_map.1 ho
    exact (r1 a ha).2
  · rw [List.map_map]
    have : (rs.map (wtO ∘ fun a => a.2)).sum = (rs.map fun a => wtO a.2).sum := rfl
    omega
end
theorem wt_len : ∀ os : List Ob, os.length ≤ (os.map wtO).sum
  | [] => by simp
  | o :: os => by
    have := wt_len os
    simp only [List.map_cons, List.sum_cons, List.length_cons]
    unfold wtO at *
    omega
theorem fold_sz : ∀ (os : List Ob) (J : Ob), (os.foldl jstep J).tx.length ≤ J.tx.length + 16 * (os.map wtO).sum ∧ (os.foldl jstep J).dt.length ≤ J.dt.length + 16 * (os.map wtO).sum ∧ (os.foldl jstep J).lb.length ≤ J.lb.length + (os.map wtO).sum ∧ (os.foldl jstep J).rl.length ≤ J.rl.length + (os.map wtO).sum
  | [], J => by simp
  | o :: os, J => by
    have ih := fold_sz os (jstep J o)
    have h1 := padL_len J.tx
    have h2 := padL_len J.dt
    have e1 : (jstep J o).tx.length = (padL J.tx).length + o.tx.length := by unfold jstep; simp
    have e2 : (jstep J o).dt.length = (padL J.dt).length + o.dt.length := by unfold jstep; simp
    have e3 : (jstep J o).lb.length = J.lb.length + o.lb.length := by unfold jstep; simp
    have e4 : (jstep J o).rl.length = J.rl.length + o.rl.length := by unfold jstep; simp
    rw [List.foldl_cons]
    simp only [List.map_cons, List.sum_cons]
    have hw : wtO o = o.tx.length + o.dt.length + o.lb.length + o.rl.length + 1 := rfl
    omega
theorem take_sum (os : List Ob) (k : Nat) : ((os.take k).map wtO).sum ≤ (os.map wtO).sum := by
  conv => rhs; rw [← List.take_append_drop k os]
  rw [List.map_append, List.sum_append]
  omega
/-- What is small is joined to what is small. -/
theorem sz_ok {os : List Ob} (h : (os.map wtO).sum ≤ 4194304) (k : Nat) : SzOK (joinO (os.take k)) := by
  have h1 := take_sum os k
  have h2 := fold_sz (os.take k) ⟨[], [], [], []⟩
  unfold SzOK joinO
  simp only [List.length_nil, Nat.zero_add] at h2
  omega
end Go.Proofs.YteoglkofeogknaaGreatDoor

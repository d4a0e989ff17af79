/- A function that came in: from the row's reading to where it lies, and how long its parts are. Conditions: what the reading gives. -/
import Derived.Test.YtlmoblmkhicoeaaGreatDoorCards
import Derived.Test.YtlmoblmkhicoeaaGreatDoorTie
import Derived.Test.YtlmoblmkhicoeaaGreatDoorJ3
import Derived.ProofKit
import Derived.OpenShut
import Derived.Deep.DeepHandedRow
import Derived.Lib.LaidTab
import Derived.SizedLaws
set_option linter.unusedVariables false
set_option linter.unusedSimpArgs false
namespace Go.Proofs.YtlmoblmkhicoeaaGreatDoor
open Go.ChangeShapes Go.WideShapes Go.ChangeAt Go.RowKit
theorem list_of_each {α : Type} {Q : Nat → α → Prop} : ∀ (n : Nat), (∀ i, i < n → ∃ r, Q i r) → ∃ rs : List α, rs.length = n ∧ ∀ i (h : i < rs.length), Q i rs[i]
  | 0, _ => ⟨[], rfl, fun i h => by simp at h⟩
  | n + 1, h => by
    obtain ⟨rs, hl, hq⟩ := list_of_each n (fun i hi => h i (by omega))
    obtain ⟨r, hr⟩ := h n (by omega)
    refine ⟨rs ++ [r], by simp [hl], fun i hi => ?_⟩
    by_cases c : i < rs.length
    · rw [List.getElem_append_left c]; exact hq i c
    · have : i = rs.length := by simp at hi; omega
      subst this
      simp
      rw [hl]
      exact hr
section
variable {H : Type} {enc : TypeId × Value → H} {W : World}
theorem weightsAll_mem {P : Program} {e : TypeId} : ∀ {l : List (DataW H)} {d : DataW H}, d ∈ l → ∀ m ∈ d.weights P e, m ∈ DataW.weightsAll P e l
  | x :: l, d, hd, m, hm => by
    simp only [DataW.weightsAll, List.mem_append]
    rcases List.mem_cons.1 hd with rfl | hd
    · exact Or.inl hm
    · exact Or.inr (weightsAll_mem hd m hm)
def In (y : DataW H) (t : TypeId) : Prop := ∀ m ∈ y.weights Tryz.prog t, m ≤ reachBytes
/-- A slice that came in, of elements of c cells each, within the form's own reach. -/
theorem row_in {α : Type} {T E : TypeId} {c : Nat} (f : α → List Value) (Q : α → Prop) (hu : Tryz.prog.underlying T = some (.slice E)) (hc : Tryz.prog.cellsOf E = c) (h0 : 0 < c) (hf : ∀ a, (f a).length = c)
    (each : ∀ {n : Nat} {cs : List Value} {y : DataW H × List MemPlace}, DataW.trod enc Tryz.prog W 0 (fun _ => true) true n E cs = some y → In y.1 E → ∃ a, cs = f a ∧ Q a)
    {fuel : Nat} {v : Value} {x : DataW H × List MemPlace} (h : DataW.trod enc Tryz.prog W 0 (fun _ => true) true fuel T [v] = some x) (hw : In x.1 T) :
    ∃ rs : List α, RowOf W v rs.length (rs.flatMap f) ∧ (∀ r ∈ rs, Q r) ∧ rs.length * Tryz.prog.bytesOf E ≤ reachBytes := by
  rcases DataW.trod_slice hu h with ⟨hcs, hx⟩ | ⟨a, len, cap, elems, rest, n, _, hcs, hx, _, hl, hm, hlen, hel, _, _⟩
  · obtain rfl : v = .slice none 0 0 := by simpa using hcs
    exact ⟨[], ⟨none, 0, rfl, Nat.le_refl _, by decide, fun h => absurd h (by simp)⟩, (fun r hr => by cases hr), by simp⟩
  · obtain rfl : v = .slice (some a) len cap := by simpa using hcs
    rw [hc] at hel
    have each' : ∀ i, i < len → ∃ r : α, W.cells? 0 (a.add (i * c)) c = some (f r) ∧ Q r := by
      intro i hi
      have h1 := hel i hi
      have hil : i < elems.length := by omega
      rw [List.getElem?_eq_getElem hil] at h1
      obtain ⟨cs, hcc, ht⟩ := Option.bind_eq_some_iff.1 h1
      obtain ⟨r, rfl, hq⟩ := each ht (fun m hm' => hw m (by
        rw [hx]
        simp only [DataW.weights, hu]
        refine List.mem_cons_of_mem _ (List.mem_append_left _ (weightsAll_mem (d := elems[i].1) ?_ m hm'))
        exact List.mem_map.2 ⟨elems[i], List.getElem_mem hil, rfl⟩))
      exact ⟨r, hcc, hq⟩
    obtain ⟨rs, hrl, hrs⟩ := list_of_each len each'
    refine ⟨rs, ⟨some a, cap, by rw [hrl], by omega, hm, fun hpos => ?_⟩, fun r hr => ?_, ?_⟩
    · obtain ⟨bk, off, spot⟩ := a
      have hcell : ∀ i (hi : i < rs.length) j, j < c → W.cell? (((⟨bk, off, spot⟩ : Addr).add (i * c)).add j) = (f rs[i])[j]? := fun i hi j hj => (World.cells?_some (hrs i hi).1).2.2 j hj
      have h00 := hcell 0 hpos 0 h0
      rw [Nat.zero_mul] at h00
      obtain ⟨u, hu0⟩ : ∃ u, (f rs[0])[0]? = some u := ⟨_, List.getElem?_eq_getElem (l := f rs[0]) (i := 0) (by rw [hf]; exact h0)⟩
      have hspot : spot = none := by simpa [Addr.add] using World.cell?_spot (h00.trans hu0)
      subst hspot
      rw [addr_add, addr_add] at h00
      refine ⟨bk, off, rfl, cell_lt (a := ⟨bk, off + 0 + 0, none⟩) (h00.trans hu0), fun j u hj => ?_⟩
      obtain ⟨i, hi, q, hq, rfl, hfu⟩ := flatMap_idx f c h0 hf hj
      have := hcell i hi q hq
      rw [addr_add, addr_add] at this
      rw [← Nat.add_assoc]
      exact this.trans hfu
    · obtain ⟨i, hi, rfl⟩ := List.getElem_of_mem hr
      exact (hrs i hi).2
    · have h1 := hw ((elems.length + rest.length) * Tryz.prog.bytesOf E) (by rw [hx]; simp [DataW.weights, hu])
      refine Nat.le_trans (Nat.mul_le_mul_right _ ?_) h1
      rw [hrl, ← hlen]
      exact Nat.le_add_right _ _
theorem cells_int : Tryz.prog.cellsOf 3 = 1 := by kernel_rfl
theorem cells_bool : Tryz.prog.cellsOf 4 = 1 := by kernel_rfl
theorem cells_string : Tryz.prog.cellsOf 9 = 1 := by kernel_rfl
theorem cells_ints : Tryz.prog.cellsOf 34 = 1 := by kernel_rfl
theorem cells_ops : Tryz.prog.cellsOf 41 = 1 := by kernel_rfl
theorem cells_sls : Tryz.prog.cellsOf 22 = 1 := by kernel_rfl
theorem cells_bls : Tryz.prog.cellsOf 23 = 1 := by kernel_rfl
theorem cells_op : Tryz.prog.cellsOf 75 = 7 := by kernel_rfl
theorem cells_ex : Tryz.prog.cellsOf 43 = 5 := by kernel_rfl
theorem cells_bl : Tryz.prog.cellsOf 45 = 6 := by kernel_rfl
theorem cells_sl : Tryz.prog.cellsOf 142 = 3 := by kernel_rfl
theorem cells_fn : Tryz.prog.cellsOf 25 = 5 := by kernel_rfl
set_option maxRecDepth 100000 in
theorem bytes_int : Tryz.prog.bytesOf 3 = 8 := by kernel_rfl
set_option maxRecDepth 100000 in
theorem bytes_op : Tryz.prog.bytesOf 75 = 80 := by kernel_rfl
set_option maxRecDepth 100000 in
theorem bytes_bl : Tryz.prog.bytesOf 45 = 64 := by kernel_rfl
theorem int_of {n : Nat} {cs : List Value} {y : DataW H × List MemPlace} (h : DataW.trod enc Tryz.prog W 0 (fun _ => true) true n 3 cs = some y) (hw : In y.1 3) : ∃ x : Int, cs = [iv x] ∧ True := by
  obtain ⟨x, q, _, b1⟩ := DataW.trod_int Tryz.underlying3 h
  exact ⟨x, q, trivial⟩
theorem flat_iv (l : List Int) : l.flatMap (fun x => [iv x]) = l.map iv := by
  induction l with
  | nil => rfl
  | cons b l ih => rw [List.flatMap_cons, ih]; rfl
theorem ints_in {fuel : Nat} {v : Value} {x : DataW H × List MemPlace} (h : DataW.trod enc Tryz.prog W 0 (fun _ => true) true fuel 34 [v] = some x) (hw : In x.1 34) : ∃ l, Ints W v l ∧ l.length ≤ 17592186044414 := by
  obtain ⟨l, h1, _, h2⟩ := row_in (fun x : Int => [iv x]) (fun _ => True) Tryz.underlying34 cells_int (by decide) (fun _ => rfl) int_of h hw
  rw [flat_iv] at h1
  rw [bytes_int] at h2
  unfold reachBytes at h2
  exact ⟨l, h1, by omega⟩
theorem three_list {l : List Value} (h : l.length = 3) : ∃ a b c, l = [a, b, c] := by
  match l, h with
  | [a, b, c], _ => exact ⟨a, b, c, rfl⟩
theorem five_list {l : List Value} (h : l.length = 5) : ∃ a b c d e, l = [a, b, c, d, e] := by
  match l, h with
  | [a, b, c, d, e], _ => exact ⟨a, b, c, d, e, rfl⟩
theorem six_list {l : List Value} (h : l.length = 6) : ∃ a b c d e f, l = [a, b, c, d, e, f] := by
  match l, h with
  | [a, b, c, d, e, f], _ => exact ⟨a, b, c, d, e, f, rfl⟩
theorem seven_list {l : List Value} (h : l.length = 7) : ∃ a b c d e f g, l = [a, b, c, d, e, f, g] := by
  match l, h with
  | [a, b, c, d, e, f, g], _ => exact ⟨a, b, c, d, e, f, g, rfl⟩
/-- The reach of a struct's part. -/
theorem in_part {t : TypeId} {fs : Array Field} (hu : Tryz.prog.underlying t = some (.struct fs)) {y : DataW H} {xs : List (DataW H × List MemPlace)} (hy : y = .agg (xs.map (·.1))) (hw : In y t) (j : Nat) (hj : j < xs.length) (tj : TypeId) (ht : (fs.toList.map (·.type))[j]? = some tj) : In xs[j].1 tj := by
  intro m hm
  refine hw m ?_
  rw [hy]
  simp only [DataW.weights, hu]
  exact DataW.weights_mem_each ht (by rw [List.getElem?_map, List.getElem?_eq_getElem hj]; rfl) m hm
theorem op_of {n : Nat} {cs : List Value} {y : DataW H × List MemPlace} (h : DataW.trod enc Tryz.prog W 0 (fun _ => true) true n 75 cs = some y) (hw : In y.1 75) :
    ∃ a : Op × Value, cs = opc a ∧ Ints W a.2 a.1.ar ∧ a.1.ar.length ≤ 17592186044414 ∧ a.1.tx.size ≤ maxLen := by
  obtain ⟨xs, m, _, hy, hl, hx, hf⟩ := DataW.trod_struct Tryz.underlying75 h
  rw [cells_op] at hl
  obtain ⟨a, b, c, d, e, f, g, rfl⟩ := seven_list hl
  have hxl : xs.length = 7 := by rw [hx]; rfl
  have f0 : DataW.trod enc Tryz.prog W 0 (fun _ => true) true m 3 (([a, b, c, d, e, f, g].drop 0).take (Tryz.prog.cellsOf 3)) = xs[0]? := hf 0 _ rfl
  have f1 : DataW.trod enc Tryz.prog W 0 (fun _ => true) true m 3 (([a, b, c, d, e, f, g].drop 1).take (Tryz.prog.cellsOf 3)) = xs[1]? := hf 1 _ rfl
  have f2 : DataW.trod enc Tryz.prog W 0 (fun _ => true) true m 3 (([a, b, c, d, e, f, g].drop 2).take (Tryz.prog.cellsOf 3)) = xs[2]? := hf 2 _ rfl
  have f3 : DataW.trod enc Tryz.prog W 0 (fun _ => true) true m 3 (([a, b, c, d, e, f, g].drop 3).take (Tryz.prog.cellsOf 3)) = xs[3]? := hf 3 _ rfl
  have f4 : DataW.trod enc Tryz.prog W 0 (fun _ => true) true m 3 (([a, b, c, d, e, f, g].drop 4).take (Tryz.prog.cellsOf 3)) = xs[4]? := hf 4 _ rfl
  have f5 : DataW.trod enc Tryz.prog W 0 (fun _ => true) true m 9 (([a, b, c, d, e, f, g].drop 5).take (Tryz.prog.cellsOf 9)) = xs[5]? := hf 5 _ rfl
  have f6 : DataW.trod enc Tryz.prog W 0 (fun _ => true) true m 34 (([a, b, c, d, e, f, g].drop 6).take (Tryz.prog.cellsOf 34)) = xs[6]? := hf 6 _ rfl
  rw [List.getElem?_eq_getElem (by omega)] at f0 f1 f2 f3 f4 f5 f6
  rw [cells_int] at f0 f1 f2 f3 f4
  rw [cells_string] at f5
  rw [cells_ints] at f6
  obtain ⟨x0, q0, _, _⟩ := DataW.trod_int Tryz.underlying3 f0
  obtain ⟨x1, q1, _, _⟩ := DataW.trod_int Tryz.underlying3 f1
  obtain ⟨x2, q2, _, _⟩ := DataW.trod_int Tryz.underlying3 f2
  obtain ⟨x3, q3, _, _⟩ := DataW.trod_int Tryz.underlying3 f3
  obtain ⟨x4, q4, _, _⟩ := DataW.trod_int Tryz.underlying3 f4
  obtain ⟨s, q5, _, hs⟩ := DataW.trod_string Tryz.underlying9 f5
  obtain ⟨l, r1, r2⟩ := ints_in f6 (in_part Tryz.underlying75 (congrArg Prod.fst hy) hw 6 (by omega) _ rfl)
  simp at q0 q1 q2 q3 q4 q5
  subst q0 q1 q2 q3 q4 q5
  exact ⟨(⟨x0, x1, x2, x3, x4, s, l⟩, g), rfl, r1, r2, hs⟩
theorem ops_in {fuel : Nat} {v : Value} {x : DataW H × List MemPlace} (h : DataW.trod enc Tryz.prog W 0 (fun _ => true) true fuel 41 [v] = some x) (hw : In x.1 41) :
    ∃ os, OpsAt W v os ∧ os.length ≤ 17592186044416 ∧ ∀ o ∈ os, o.ar.length ≤ 17592186044414 ∧ o.tx.size ≤ maxLen := by
  obtain ⟨rs, r0, r1, r2⟩ := row_in opc (fun a => Ints W a.2 a.1.ar ∧ a.1.ar.length ≤ 17592186044414 ∧ a.1.tx.size ≤ maxLen) Tryz.underlying41 cells_op (by decide) (fun _ => rfl) op_of h hw
  rw [bytes_op] at r2
  unfold reachBytes at r2
  refine ⟨rs.map (·.1), ⟨rs.map (·.2), by simp, ?_, fun i hi hi2 => ?_⟩, by rw [List.length_map]; omega, fun o ho => ?_⟩
  · rw [List.length_map, List.zip_map', List.map_id'' (fun _ => rfl)]
    exact r0
  · have hi' : i < rs.length := by simpa using hi
    simpa using (r1 rs[i] (List.getElem_mem _)).1
  · obtain ⟨a, ha, rfl⟩ := List.mem_map.1 ho
    exact (r1 a ha).2
theorem ex_of {n : Nat} {cs : List Value} {y : DataW H × List MemPlace} (h : DataW.trod enc Tryz.prog W 0 (fun _ => true) true n 43 cs = some y) : ∃ x : Ex, cs = [.int .i64 x.k, .int .i64 x.a, .int .i64 x.d, .int .i64 x.t, .int .i64 x.e] := by
  obtain ⟨xs, m, _, hy, hl, hx, hf⟩ := DataW.trod_struct Tryz.underlying43 h
  rw [cells_ex] at hl
  obtain ⟨a, b, c, d, e, rfl⟩ := five_list hl
  have hxl : xs.length = 5 := by rw [hx]; rfl
  have f0 : DataW.trod enc Tryz.prog W 0 (fun _ => true) true m 3 (([a, b, c, d, e].drop 0).take (Tryz.prog.cellsOf 3)) = xs[0]? := hf 0 _ rfl
  have f1 : DataW.trod enc Tryz.prog W 0 (fun _ => true) true m 3 (([a, b, c, d, e].drop 1).take (Tryz.prog.cellsOf 3)) = xs[1]? := hf 1 _ rfl
  have f2 : DataW.trod enc Tryz.prog W 0 (fun _ => true) true m 3 (([a, b, c, d, e].drop 2).take (Tryz.prog.cellsOf 3)) = xs[2]? := hf 2 _ rfl
  have f3 : DataW.trod enc Tryz.prog W 0 (fun _ => true) true m 3 (([a, b, c, d, e].drop 3).take (Tryz.prog.cellsOf 3)) = xs[3]? := hf 3 _ rfl
  have f4 : DataW.trod enc Tryz.prog W 0 (fun _ => true) true m 3 (([a, b, c, d, e].drop 4).take (Tryz.prog.cellsOf 3)) = xs[4]? := hf 4 _ rfl
  rw [List.getElem?_eq_getElem (by omega)] at f0 f1 f2 f3 f4
  rw [cells_int] at f0 f1 f2 f3 f4
  obtain ⟨x0, q0, _, _⟩ := DataW.trod_int Tryz.underlying3 f0
  obtain ⟨x1, q1, _, _⟩ := DataW.trod_int Tryz.underlying3 f1
  obtain ⟨x2, q2, _, _⟩ := DataW.trod_int Tryz.underlying3 f2
  obtain ⟨x3, q3, _, _⟩ := DataW.trod_int Tryz.underlying3 f3
  obtain ⟨x4, q4, _, _⟩ := DataW.trod_int Tryz.underlying3 f4
  simp at q0 q1 q2 q3 q4
  subst q0 q1 q2 q3 q4
  exact ⟨⟨x0, x1, x2, x3, x4⟩, rfl⟩
theorem bl_of {n : Nat} {cs : List Value} {y : DataW H × List MemPlace} (h : DataW.trod enc Tryz.prog W 0 (fun _ => true) true n 45 cs = some y) (hw : In y.1 45) :
    ∃ a : Bl × Value, cs = blc a ∧ OpsAt W a.2 a.1.os ∧ a.1.os.length ≤ 17592186044416 ∧ ∀ o ∈ a.1.os, o.ar.length ≤ 17592186044414 ∧ o.tx.size ≤ maxLen := by
  obtain ⟨xs, m, _, hy, hl, hx, hf⟩ := DataW.trod_struct Tryz.underlying45 h
  rw [cells_bl] at hl
  obtain ⟨a, b, c, d, e, f, rfl⟩ := six_list hl
  have hxl : xs.length = 2 := by rw [hx]; rfl
  have f0 : DataW.trod enc Tryz.prog W 0 (fun _ => true) true m 41 (([a, b, c, d, e, f].drop 0).take (Tryz.prog.cellsOf 41)) = xs[0]? := hf 0 _ rfl
  have f1 : DataW.trod enc Tryz.prog W 0 (fun _ => true) true m 43 (([a, b, c, d, e, f].drop 1).take (Tryz.prog.cellsOf 43)) = xs[1]? := hf 1 _ rfl
  rw [List.getElem?_eq_getElem (by omega)] at f0 f1
  rw [cells_ops] at f0
  rw [cells_ex] at f1
  obtain ⟨os, r0, r1, r2⟩ := ops_in f0 (in_part Tryz.underlying45 (congrArg Prod.fst hy) hw 0 (by omega) _ rfl)
  obtain ⟨x, hx⟩ := ex_of f1
  have hx' : [b, c, d, e, f] = [.int .i64 x.k, .int .i64 x.a, .int .i64 x.d, .int .i64 x.t, .int .i64 x.e] := hx
  injection hx' with g1 hx'
  injection hx' with g2 hx'
  injection hx' with g3 hx'
  injection hx' with g4 hx'
  injection hx' with g5 hx'
  subst g1 g2 g3 g4 g5
  exact ⟨(⟨os, x⟩, a), rfl, r0, r1, r2⟩
theorem bls_in {fuel : Nat} {v : Value} {x : DataW H × List MemPlace} (h : DataW.trod enc Tryz.prog W 0 (fun _ => true) true fuel 23 [v] = some x) (hw : In x.1 23) :
    ∃ bs, BlsAt W v bs ∧ bs.length ≤ 17592186044416 ∧ ∀ b ∈ bs, b.os.length ≤ 17592186044416 ∧ ∀ o ∈ b.os, o.ar.length ≤ 17592186044414 ∧ o.tx.size ≤ maxLen := by
  obtain ⟨rs, r0, r1, r2⟩ := row_in blc (fun a => OpsAt W a.2 a.1.os ∧ a.1.os.length ≤ 17592186044416 ∧ ∀ o ∈ a.1.os, o.ar.length ≤ 17592186044414 ∧ o.tx.size ≤ maxLen) Tryz.underlying23 cells_bl (by decide) (fun _ => rfl) bl_of h hw
  rw [bytes_bl] at r2
  unfold reachBytes at r2
  refine ⟨rs.map (·.1), ⟨rs.map (·.2), by simp, ?_, fun i hi hi2 => ?_⟩, by rw [List.length_map]; omega, fun o ho => ?_⟩
  · rw [List.length_map, List.zip_map', List.map_id'' (fun _ => rfl)]
    exact r0
  · have hi' : i < rs.length := by simpa using hi
    simpa using (r1 rs[i] (List.getElem_mem _)).1
  · obtain ⟨a, ha, rfl⟩ := List.mem_map.1 ho
    exact (r1 a ha).2
theorem sl_of {n : Nat} {cs : List Value} {y : DataW H × List MemPlace} (h : DataW.trod enc Tryz.prog W 0 (fun _ => true) true n 142 cs = some y) (hw : In y.1 142) : ∃ a : Sl, cs = slc a ∧ True := by
  obtain ⟨xs, m, _, hy, hl, hx, hf⟩ := DataW.trod_struct Tryz.underlying142 h
  rw [cells_sl] at hl
  obtain ⟨a, b, c, rfl⟩ := three_list hl
  have hxl : xs.length = 3 := by rw [hx]; rfl
  have f0 : DataW.trod enc Tryz.prog W 0 (fun _ => true) true m 3 (([a, b, c].drop 0).take (Tryz.prog.cellsOf 3)) = xs[0]? := hf 0 _ rfl
  have f1 : DataW.trod enc Tryz.prog W 0 (fun _ => true) true m 3 (([a, b, c].drop 1).take (Tryz.prog.cellsOf 3)) = xs[1]? := hf 1 _ rfl
  have f2 : DataW.trod enc Tryz.prog W 0 (fun _ => true) true m 4 (([a, b, c].drop 2).take (Tryz.prog.cellsOf 4)) = xs[2]? := hf 2 _ rfl
  rw [List.getElem?_eq_getElem (by omega)] at f0 f1 f2
  rw [cells_int] at f0 f1
  rw [cells_bool] at f2
  obtain ⟨x0, q0, _, _⟩ := DataW.trod_int Tryz.underlying3 f0
  obtain ⟨x1, q1, _, _⟩ := DataW.trod_int Tryz.underlying3 f1
  obtain ⟨x2, q2, _⟩ := DataW.trod_bool Tryz.underlying4 f2
  simp at q0 q1 q2
  subst q0 q1 q2
  exact ⟨⟨x0, x1, x2⟩, rfl, trivial⟩
/-- The function that came in. -/
theorem fn_in {fuel : Nat} {cs : List Value} {x : DataW H × List MemPlace} (h : DataW.trod enc Tryz.prog W 0 (fun _ => true) true fuel 25 cs = some x) (hw : In x.1 25) :
    ∃ F sv bv, cs = (fnA F sv bv).toList ∧ SlsAt W sv F.sl ∧ BlsAt W bv F.bl ∧ Small F := by
  obtain ⟨xs, m, _, hy, hl, hx, hf⟩ := DataW.trod_struct Tryz.underlying25 h
  rw [cells_fn] at hl
  obtain ⟨a, b, c, d, e, rfl⟩ := five_list hl
  have hxl : xs.length = 5 := by rw [hx]; rfl
  have f0 : DataW.trod enc Tryz.prog W 0 (fun _ => true) true m 9 (([a, b, c, d, e].drop 0).take (Tryz.prog.cellsOf 9)) = xs[0]? := hf 0 _ rfl
  have f1 : DataW.trod enc Tryz.prog W 0 (fun _ => true) true m 3 (([a, b, c, d, e].drop 1).take (Tryz.prog.cellsOf 3)) = xs[1]? := hf 1 _ rfl
  have f2 : DataW.trod enc Tryz.prog W 0 (fun _ => true) true m 3 (([a, b, c, d, e].drop 2).take (Tryz.prog.cellsOf 3)) = xs[2]? := hf 2 _ rfl
  have f3 : DataW.trod enc Tryz.prog W 0 (fun _ => true) true m 22 (([a, b, c, d, e].drop 3).take (Tryz.prog.cellsOf 22)) = xs[3]? := hf 3 _ rfl
  have f4 : DataW.trod enc Tryz.prog W 0 (fun _ => true) true m 23 (([a, b, c, d, e].drop 4).take (Tryz.prog.cellsOf 23)) = xs[4]? := hf 4 _ rfl
  rw [List.getElem?_eq_getElem (by omega)] at f0 f1 f2 f3 f4
  rw [cells_string] at f0
  rw [cells_int] at f1 f2
  rw [cells_sls] at f3
  rw [cells_bls] at f4
  obtain ⟨s, q0, _, hs⟩ := DataW.trod_string Tryz.underlying9 f0
  obtain ⟨x1, q1, _, _⟩ := DataW.trod_int Tryz.underlying3 f1
  obtain ⟨x2, q2, _, _⟩ := DataW.trod_int Tryz.underlying3 f2
  obtain ⟨sl, s0, _, _⟩ := row_in slc (fun _ => True) Tryz.underlying22 cells_sl (by decide) (fun _ => rfl) sl_of f3 (in_part Tryz.underlying25 (congrArg Prod.fst hy) hw 3 (by omega) _ rfl)
  obtain ⟨bl, b0, b1, b2⟩ := bls_in f4 (in_part Tryz.underlying25 (congrArg Prod.fst hy) hw 4 (by omega) _ rfl)
  simp at q0 q1 q2
  subst q0 q1 q2
  exact ⟨⟨s, x1, x2, sl, bl⟩, d, e, rfl, s0, b0, hs, b1, fun b hb => (b2 b hb).1, fun b hb => (b2 b hb).2⟩
end
end Go.Proofs.YtlmoblmkhicoeaaGreatDoor

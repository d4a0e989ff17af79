/- A function of three-address code as data, and how it lies; rows; appends as equations. No conditions. -/
import Derived.Test.YtlmoblmkhicoeaaGreatDoorOwn
import Derived.Maps.AppendAt
import Derived.Laws.BytesArg
import Derived.Lib.Hide
import Derived.Lib.Bytes
set_option linter.unusedVariables false
set_option linter.unusedSimpArgs false
namespace Go.Proofs.YtlmoblmkhicoeaaGreatDoor
open Go.RowKit
/-- A slice whose cells read xs. -/
def RowOf (W : World) (v : Value) (n : Nat) (xs : List Value) : Prop := ∃ A cap, v = .slice A n cap ∧ n ≤ cap ∧ cap ≤ maxLen ∧ (0 < n → ∃ g off, A = some ⟨g, off, none⟩ ∧ g < W.heap.size ∧ ∀ j u, xs[j]? = some u → W.cell? ⟨g, off + j, none⟩ = some u)
theorem RowOf.below {W W' : World} {v : Value} {n : Nat} {xs : List Value} (h : RowOf W v n xs) (hb : Below W.heap.size W W') : RowOf W' v n xs := by
  obtain ⟨A, cap, h1, h2, h3, h4⟩ := h
  refine ⟨A, cap, h1, h2, h3, fun hn => ?_⟩
  obtain ⟨g, off, e, hg, hc⟩ := h4 hn
  exact ⟨g, off, e, Nat.lt_of_lt_of_le hg hb.size, fun j u hj => (hb.cell (p := ⟨g, off + j, none⟩) hg).trans (hc j u hj)⟩
theorem RowOf.lo {W W' : World} {B : Nat} {v : Value} {n : Nat} {xs : List Value} (h : RowOf W v n xs) (hB : W.heap.size ≤ B) (hb : Below B W W') (hs : W.heap.size ≤ W'.heap.size) : RowOf W' v n xs := by
  obtain ⟨A, cap, h1, h2, h3, h4⟩ := h
  refine ⟨A, cap, h1, h2, h3, fun hn => ?_⟩
  obtain ⟨g, off, e, hg, hc⟩ := h4 hn
  exact ⟨g, off, e, Nat.lt_of_lt_of_le hg hs, fun j u hj => (World.cell?_of_block (a := ⟨g, off + j, none⟩) (hb.block g (Nat.lt_of_lt_of_le hg hB))).trans (hc j u hj)⟩
theorem RowOf.keeps {W W' : World} {F : Nat → Prop} {v : Value} {n : Nat} {xs : List Value} (h : RowOf W v n xs) (hk : Keeps F W W') (hF : ∀ g, v.ownBlock = some g → ¬ F g) : RowOf W' v n xs := by
  obtain ⟨A, cap, h1, h2, h3, h4⟩ := h
  refine ⟨A, cap, h1, h2, h3, fun hn => ?_⟩
  obtain ⟨g, off, e, hg, hc⟩ := h4 hn
  refine ⟨g, off, e, Nat.lt_of_lt_of_le hg hk.size, fun j u hj => (hk.cell (p := ⟨g, off + j, none⟩) hg (hF g ?_)).trans (hc j u hj)⟩
  rw [h1, e]; rfl
theorem RowOf.own {W : World} {B size : Nat} {e : TypeId} {v : Value} {n : Nat} {xs : List Value} (h : W.ownsRow B e size v n xs) : RowOf W v n xs := by
  rcases h.2 with ⟨rfl, rfl⟩ | ⟨g, cap, cur, hv, _⟩
  · exact ⟨none, 0, rfl, by omega, by decide, fun h => by omega⟩
  · subst hv
    obtain ⟨_, h2, h3, h4, h5, _⟩ := own_parts h
    exact ⟨_, cap, rfl, h3, h4, fun _ => ⟨g, 0, rfl, h2, fun j u hj => by rw [Nat.zero_add]; exact h5 j u hj⟩⟩
/-- A type of slices, its elements' type, cells, bytes. -/
structure ARow (t e : TypeId) (size bytes : Nat) : Prop where
  u : Tryz.prog.underlying t = some (.slice e)
  i : ∃ (i : TypeInfo) (z : Value), Tryz.prog.info? e = some i ∧ i.zero = some z ∧ i.size = size ∧ i.bytes = bytes ∧ z.cells.size = size
  p : 0 < size
theorem arow_of {t e : TypeId} {size bytes : Nat} {z : Value} (u : Tryz.prog.underlying t = some (.slice e)) (h : (Tryz.prog.info? e).map (fun i => (i.zero, i.size, i.bytes)) = some (some z, size, bytes)) (hz : z.cells.size = size) (p : 0 < size) : ARow t e size bytes := by
  obtain ⟨i, hi, hz0, hz1, hz2⟩ := info_parts h
  exact ⟨u, ⟨i, z, hi, hz0, hz1, hz2, hz⟩, p⟩
theorem append_nil {t e : TypeId} {size bytes : Nat} (F : ARow t e size bytes) (ty : TypeId) (w : World) (A : Option Addr) (n cap c : Nat) (hn : n ≤ cap) (hm : cap ≤ maxLen) : (Builtin.append_ #[t, t] ty #[.slice A n cap, .slice none 0 c]).run Tryz.prog w = .ok (.slice A n cap) w := by
  obtain ⟨i, z, hi, hz, hs, hb, _⟩ := F.i
  unfold maxLen at hm
  cases A with
  | none =>
    simp [Builtin.append_, run_underlying F.u, sizeOf, typeInfo, hi, Builtin.lenOf, Builtin.firstCells, storeCells]
    intro h
    omega
  | some a => simp [Builtin.append_, run_underlying F.u, sizeOf, typeInfo, hi, Builtin.lenOf, Builtin.firstCells, storeCells, hn]
/-- Appending a row that lies anywhere to one of one's own. -/
theorem app_any {t e : TypeId} {size bytes : Nat} (F : ARow t e size bytes) (ty : TypeId) {w : World} {B n m : Nat} {v u : Value} {xs ys : List Value} (hown : w.ownsRow B e size v n xs) (hu : RowOf w u m ys) (hl : ys.length = m * size) (h1 : ∀ y ∈ ys, y.oneCell' = true) (h63 : n + m ≤ maxLen) (hbytes : (n + m) * bytes ≤ 140737488355328) (hB : B ≤ w.heap.size) :
    ∃ v' w', (Builtin.append_ #[t, t] ty #[v, u]).run Tryz.prog w = .ok v' w' ∧ w'.ownsRow B e size v' (n + m) (xs ++ ys) ∧ w.grownBy w' v.ownBlock ∧ (v'.ownBlock = v.ownBlock ∨ v'.ownBlock = some w.heap.size) := by
  obtain ⟨A, cap, rfl, k1, k2, k3⟩ := hu
  obtain ⟨i, z, hi, hz, hs, hb, hc⟩ := F.i
  cases A with
  | none =>
    have hm : m = 0 := by
      rcases Nat.eq_zero_or_pos m with h | h
      · exact h
      · obtain ⟨g, off, e, _⟩ := k3 h
        cases e
    subst hm
    obtain rfl : ys = [] := List.eq_nil_of_length_eq_zero (by omega)
    obtain ⟨Av, cv, rfl, c1, c2⟩ := slice_form hown
    refine ⟨_, w, append_nil F ty w Av n cv cap c1 c2, by simpa using hown, ⟨rfl, rfl, rfl, Nat.le_refl _, fun _ _ _ => rfl⟩, Or.inl rfl⟩
  | some a =>
    have hcell : ∀ j u, ys[j]? = some u → w.cell? (a.add j) = some u := fun j u hj => by
      have hm : 0 < m := by
        rcases Nat.eq_zero_or_pos m with h | h
        · subst h
          rw [List.getElem?_eq_none (by omega)] at hj
          cases hj
        · exact h
      obtain ⟨g, off, e, _, hcc⟩ := k3 hm
      cases e
      rw [addr_add]
      exact hcc j u hj
    obtain ⟨v', w', r1, r2, r3, _, r5⟩ := run_append_own_at (P := Tryz.prog) (w := w) B t ty e i z size bytes F.u hi hz hs hb hc F.p v n xs hown a m cap ys hl hcell h1 h63 hbytes hB
    exact ⟨v', w', r1, r2, r3, r5⟩
theorem wpList_append_eq {P : Program} {w w' : World} {ops : Array Oper} {rest : List Oper} {o : Oper} {a : Act} {Q : Exit → Act → World → Prop} (hgd : o.guard = none) (s x : Operand) (t : TypeId)
    (ho : o.op = .call { callee := .builtin .append, args := #[s, x], argTypes := #[t, t] }) {v u v' : Value} (hs : a.eval s = v) (hx : a.eval x = u)
    (hr : (Builtin.append_ #[t, t] o.type #[v, u]).run P w = .ok v' w') (h : wpList P ops Q rest (a.put o.dst v') w') : wpList P ops Q (o :: rest) a w :=
  wpList_plain hgd fun K hK => by
    unfold Oper.wp execOp
    simp only [ho, resolve, invoke, builtin, Sem.run_bind, Sem.run_pure, Result.andThen_ok, List.map_toArray, List.map_cons, List.map_nil, hs, hx, hr]
    exact hK _ _ h
theorem empty_own {w : World} (t : TypeId) (size : Nat) : (w.alloc (.cells #[] t)).ownsRow w.heap.size t size (.slice (some ⟨w.heap.size, 0, none⟩) 0 0) 0 [] :=
  ⟨by simp, Or.inr ⟨w.heap.size, 0, #[], rfl, Nat.le_refl _, heap_alloc_new w _, Nat.le_refl _, Nat.zero_le _, by simp, by simp⟩⟩
theorem RowOf.alloc {W : World} {v : Value} {n : Nat} {xs : List Value} (h : RowOf W v n xs) (o : Obj) : RowOf (W.alloc o) v n xs := h.below ((Below.refl _ _).alloc (Nat.le_refl _) o)

/-- Only blocks from B on are turned. -/
theorem Keeps.toBelow {F : Nat → Prop} {w w' : World} {B : Nat} (h : Keeps F w w') (hB : B ≤ w.heap.size) (hF : ∀ k, k < B → ¬ F k) : Below B w w' :=
  ⟨h.os, h.tape, h.output, h.size, fun k hk => h.block k (by omega) (hF k hk)⟩
theorem below_of_le {B B' : Nat} {w w' : World} (h : Below B w w') (hB : B' ≤ B) : Below B' w w' := ⟨h.os, h.tape, h.output, h.size, fun k hk => h.block k (by omega)⟩
theorem eq_of_toList {a b : ByteArray} (h : a.toList = b.toList) : a = b := by
  rw [Lib.toList_data, Lib.toList_data] at h
  apply ByteArray.ext
  exact Array.toList_inj.1 h
def iv (n : Int) : Value := .int .i64 n
def Ints (W : World) (v : Value) (l : List Int) : Prop := RowOf W v l.length (l.map iv)
structure Op where
  k : Int
  d : Int
  a : Int
  b : Int
  im : Int
  tx : ByteArray
  ar : List Int
structure Ex where
  k : Int
  a : Int
  d : Int
  t : Int
  e : Int
structure Bl where
  os : List Op
  x : Ex
structure Sl where
  sz : Int
  al : Int
  vo : Bool
structure Fn where
  nm : ByteArray
  ps : Int
  rs : Int
  sl : List Sl
  bl : List Bl
def opc (p : Op × Value) : List Value := [.int .i64 p.1.k, .int .i64 p.1.d, .int .i64 p.1.a, .int .i64 p.1.b, .int .i64 p.1.im, .string p.1.tx, p.2]
def blc (p : Bl × Value) : List Value := [p.2, .int .i64 p.1.x.k, .int .i64 p.1.x.a, .int .i64 p.1.x.d, .int .i64 p.1.x.t, .int .i64 p.1.x.e]
def slc (s : Sl) : List Value := [.int .i64 s.sz, .int .i64 s.al, .bool s.vo]
/-- Rows of operations: vs are their Args. -/
def OpsAt (W : World) (v : Value) (os : List Op) : Prop :=
  ∃ vs : List Value, vs.length = os.length ∧ RowOf W v os.length ((os.zip vs).flatMap opc) ∧ ∀ i (h : i < os.length) (h2 : i < vs.length), Ints W vs[i] os[i].ar
def BlsAt (W : World) (v : Value) (bs : List Bl) : Prop :=
  ∃ vs : List Value, vs.length = bs.length ∧ RowOf W v bs.length ((bs.zip vs).flatMap blc) ∧ ∀ i (h : i < bs.length) (h2 : i < vs.length), OpsAt W vs[i] bs[i].os
def SlsAt (W : World) (v : Value) (ss : List Sl) : Prop := RowOf W v ss.length (ss.flatMap slc)
theorem Ints.below {W W' : World} {v : Value} {l : List Int} (h : Ints W v l) (hb : Below W.heap.size W W') : Ints W' v l := RowOf.below h hb
theorem OpsAt.below {W W' : World} {v : Value} {os : List Op} (h : OpsAt W v os) (hb : Below W.heap.size W W') : OpsAt W' v os := by
  obtain ⟨vs, h1, h2, h3⟩ := h
  exact ⟨vs, h1, h2.below hb, fun i a b => (h3 i a b).below hb⟩
theorem BlsAt.below {W W' : World} {v : Value} {bs : List Bl} (h : BlsAt W v bs) (hb : Below W.heap.size W W') : BlsAt W' v bs := by
  obtain ⟨vs, h1, h2, h3⟩ := h
  exact ⟨vs, h1, h2.below hb, fun i a b => (h3 i a b).below hb⟩
theorem SlsAt.below {W W' : World} {v : Value} {ss : List Sl} (h : SlsAt W v ss) (hb : Below W.heap.size W W') : SlsAt W' v ss := RowOf.below h hb
theorem Ints.keeps {W W' : World} {F : Nat → Prop} {v : Value} {l : List Int} (h : Ints W v l) (hk : Keeps F W W') (hF : ∀ g, v.ownBlock = some g → ¬ F g) : Ints W' v l := RowOf.keeps h hk hF
/-- What lies below a mark stays when only blocks from the mark on are turned. -/
theorem RowOf.lo2 {W W' : World} {B : Nat} {v : Value} {n : Nat} {xs : List Value} (h : RowOf W v n xs) (hv : ∀ g, v.ownBlock = some g → g < B) (hb : Below B W W') : RowOf W' v n xs := by
  obtain ⟨A, cap, h1, h2, h3, h4⟩ := h
  refine ⟨A, cap, h1, h2, h3, fun hn => ?_⟩
  obtain ⟨g, off, e, hg, hc⟩ := h4 hn
  have hgB : g < B := hv g (by rw [h1, e]; rfl)
  exact ⟨g, off, e, Nat.lt_of_lt_of_le hg hb.size, fun j u hj => (hb.cell (p := ⟨g, off + j, none⟩) hgB).trans (hc j u hj)⟩
/-- The address of a row that is not empty. -/
theorem RowOf.open_ {W : World} {v : Value} {n : Nat} {xs : List Value} (h : RowOf W v n xs) (hn : 0 < n) : ∃ g off cap, v = .slice (some ⟨g, off, none⟩) n cap ∧ n ≤ cap ∧ cap ≤ maxLen ∧ g < W.heap.size ∧ ∀ j u, xs[j]? = some u → W.cell? ⟨g, off + j, none⟩ = some u := by
  obtain ⟨A, cap, h1, h2, h3, h4⟩ := h
  obtain ⟨g, off, e, hg, hc⟩ := h4 hn
  exact ⟨g, off, cap, by rw [h1, e], h2, h3, hg, hc⟩
theorem RowOf.form {W : World} {v : Value} {n : Nat} {xs : List Value} (h : RowOf W v n xs) : ∃ A cap, v = .slice A n cap ∧ n ≤ cap ∧ cap ≤ maxLen := by
  obtain ⟨A, cap, h1, h2, h3, _⟩ := h
  exact ⟨A, cap, h1, h2, h3⟩
structure IntsOpen (W : World) (g off : Nat) (l : List Int) : Prop where
  lt : l ≠ [] → g < W.heap.size
  c : ∀ i (h : i < l.length), W.cell? ⟨g, off + i, none⟩ = some (.int .i64 l[i])
theorem Ints.open_ {W : World} {v : Value} {l : List Int} (h : Ints W v l) (hn : 0 < l.length) : ∃ g off cap, v = .slice (some ⟨g, off, none⟩) l.length cap ∧ l.length ≤ cap ∧ cap ≤ maxLen ∧ g < W.heap.size ∧ ∀ i (h : i < l.length), W.cell? ⟨g, off + i, none⟩ = some (.int .i64 l[i]) := by
  obtain ⟨g, off, cap, e, h2, h3, h4, h5⟩ := RowOf.open_ h hn
  exact ⟨g, off, cap, e, h2, h3, h4, fun i hi => h5 i _ (by rw [List.getElem?_map, List.getElem?_eq_getElem hi]; rfl)⟩
theorem zip_flat {α : Type} (f : α × Value → List Value) (c : Nat) (hf : ∀ x, (f x).length = c) (l : List α) (vs : List Value) (hl : vs.length = l.length) (i : Nat) (hi : i < l.length) (j : Nat) (hj : j < c) :
    ((l.zip vs).flatMap f)[i * c + j]? = (f (l[i], vs[i]'(by omega)))[j]? := by
  rw [flatMap_at f c hf (l.zip vs) i (by rw [List.length_zip]; omega) j hj, List.getElem_zip]
/-- One operation's seven cells. -/
structure OpCells (W : World) (g o : Nat) (x : Op) (av : Value) : Prop where
  c0 : W.cell? ⟨g, o, none⟩ = some (.int .i64 x.k)
  c1 : W.cell? ⟨g, o + 1, none⟩ = some (.int .i64 x.d)
  c2 : W.cell? ⟨g, o + 2, none⟩ = some (.int .i64 x.a)
  c3 : W.cell? ⟨g, o + 3, none⟩ = some (.int .i64 x.b)
  c4 : W.cell? ⟨g, o + 4, none⟩ = some (.int .i64 x.im)
  c5 : W.cell? ⟨g, o + 5, none⟩ = some (.string x.tx)
  c6 : W.cell? ⟨g, o + 6, none⟩ = some av
  ar : Ints W av x.ar
structure BlCells (W : World) (g o : Nat) (x : Bl) (ov : Value) : Prop where
  c0 : W.cell? ⟨g, o, none⟩ = some ov
  c1 : W.cell? ⟨g, o + 1, none⟩ = some (.int .i64 x.x.k)
  c2 : W.cell? ⟨g, o + 2, none⟩ = some (.int .i64 x.x.a)
  c3 : W.cell? ⟨g, o + 3, none⟩ = some (.int .i64 x.x.d)
  c4 : W.cell? ⟨g, o + 4, none⟩ = some (.int .i64 x.x.t)
  c5 : W.cell? ⟨g, o + 5, none⟩ = some (.int .i64 x.x.e)
  os : OpsAt W ov x.os
structure SlCells (W : World) (g o : Nat) (x : Sl) : Prop where
  c0 : W.cell? ⟨g, o, none⟩ = some (.int .i64 x.sz)
  c1 : W.cell? ⟨g, o + 1, none⟩ = some (.int .i64 x.al)
  c2 : W.cell? ⟨g, o + 2, none⟩ = some (.bool x.vo)
theorem OpsAt.open_ {W : World} {v : Value} {os : List Op} (h : OpsAt W v os) (hn : 0 < os.length) : ∃ g off cap, v = .slice (some ⟨g, off, none⟩) os.length cap ∧ os.length ≤ cap ∧ cap ≤ maxLen ∧ g < W.heap.size ∧ ∀ i (h : i < os.length), ∃ av, OpCells W g (off + i * 7) os[i] av := by
  obtain ⟨vs, h1, h2, h3⟩ := h
  obtain ⟨g, off, cap, e, h4, h5, h6, h7⟩ := h2.open_ hn
  refine ⟨g, off, cap, e, h4, h5, h6, fun i hi => ⟨vs[i]'(by omega), ?_⟩⟩
  have hz := fun j (hj : j < 7) => zip_flat opc 7 (fun _ => rfl) os vs h1 i hi j hj
  have hc : ∀ j (hj : j < 7) u, (opc (os[i], vs[i]'(by omega)))[j]? = some u → W.cell? ⟨g, off + i * 7 + j, none⟩ = some u := fun j hj u hu => by
    rw [Nat.add_assoc]; exact h7 _ u (by rw [hz j hj]; exact hu)
  exact ⟨hc 0 (by decide) _ rfl, hc 1 (by decide) _ rfl, hc 2 (by decide) _ rfl, hc 3 (by decide) _ rfl, hc 4 (by decide) _ rfl, hc 5 (by decide) _ rfl, hc 6 (by decide) _ rfl, h3 i hi (by omega)⟩
theorem BlsAt.open_ {W : World} {v : Value} {bs : List Bl} (h : BlsAt W v bs) (hn : 0 < bs.length) : ∃ g off cap, v = .slice (some ⟨g, off, none⟩) bs.length cap ∧ bs.length ≤ cap ∧ cap ≤ maxLen ∧ g < W.heap.size ∧ ∀ i (h : i < bs.length), ∃ ov, BlCells W g (off + i * 6) bs[i] ov := by
  obtain ⟨vs, h1, h2, h3⟩ := h
  obtain ⟨g, off, cap, e, h4, h5, h6, h7⟩ := h2.open_ hn
  refine ⟨g, off, cap, e, h4, h5, h6, fun i hi => ⟨vs[i]'(by omega), ?_⟩⟩
  have hz := fun j (hj : j < 6) => zip_flat blc 6 (fun _ => rfl) bs vs h1 i hi j hj
  have hc : ∀ j (hj : j < 6) u, (blc (bs[i], vs[i]'(by omega)))[j]? = some u → W.cell? ⟨g, off + i * 6 + j, none⟩ = some u := fun j hj u hu => by
    rw [Nat.add_assoc]; exact h7 _ u (by rw [hz j hj]; exact hu)
  exact ⟨hc 0 (by decide) _ rfl, hc 1 (by decide) _ rfl, hc 2 (by decide) _ rfl, hc 3 (by decide) _ rfl, hc 4 (by decide) _ rfl, hc 5 (by decide) _ rfl, h3 i hi (by omega)⟩
theorem SlsAt.open_ {W : World} {v : Value} {ss : List Sl} (h : SlsAt W v ss) (hn : 0 < ss.length) : ∃ g off cap, v = .slice (some ⟨g, off, none⟩) ss.length cap ∧ ss.length ≤ cap ∧ cap ≤ maxLen ∧ g < W.heap.size ∧ ∀ i (h : i < ss.length), SlCells W g (off + i * 3) ss[i] := by
  obtain ⟨g, off, cap, e, h4, h5, h6, h7⟩ := RowOf.open_ h hn
  refine ⟨g, off, cap, e, h4, h5, h6, fun i hi => ?_⟩
  have hc : ∀ j (hj : j < 3) u, (slc ss[i])[j]? = some u → W.cell? ⟨g, off + i * 3 + j, none⟩ = some u := fun j hj u hu => by
    rw [Nat.add_assoc]; exact h7 _ u (by rw [flatMap_at slc 3 (fun _ => rfl) ss i hi j hj]; exact hu)
  exact ⟨hc 0 (by decide) _ rfl, hc 1 (by decide) _ rfl, hc 2 (by decide) _ rfl⟩
theorem OpCells.below {W W' : World} {g o : Nat} {x : Op} {av : Value} (h : OpCells W g o x av) (hb : Below W.heap.size W W') (hg : g < W.heap.size) : OpCells W' g o x av := by
  have q := fun i => hb.cell (p := ⟨g, i, none⟩) hg
  exact ⟨(q _).trans h.c0, (q _).trans h.c1, (q _).trans h.c2, (q _).trans h.c3, (q _).trans h.c4, (q _).trans h.c5, (q _).trans h.c6, h.ar.below hb⟩
theorem BlCells.below {W W' : World} {g o : Nat} {x : Bl} {ov : Value} (h : BlCells W g o x ov) (hb : Below W.heap.size W W') (hg : g < W.heap.size) : BlCells W' g o x ov := by
  have q := fun i => hb.cell (p := ⟨g, i, none⟩) hg
  exact ⟨(q _).trans h.c0, (q _).trans h.c1, (q _).trans h.c2, (q _).trans h.c3, (q _).trans h.c4, (q _).trans h.c5, h.os.below hb⟩
theorem SlCells.below {W W' : World} {g o : Nat} {x : Sl} (h : SlCells W g o x) (hb : Below W.heap.size W W') (hg : g < W.heap.size) : SlCells W' g o x := by
  have q := fun i => hb.cell (p := ⟨g, i, none⟩) hg
  exact ⟨(q _).trans h.c0, (q _).trans h.c1, (q _).trans h.c2⟩
end Go.Proofs.YtlmoblmkhicoeaaGreatDoor

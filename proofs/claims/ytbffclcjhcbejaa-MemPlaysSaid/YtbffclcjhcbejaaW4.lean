/- Walks: (*Mem).Store as a whole, Fetch, slices.Clone of bytes, Read. Conditions: numbers within the ranges' bounds. -/
import Derived.Test.YtbffclcjhcbejaaPut
namespace Go.Proofs.Ytbffclcjhcbejaa
open Go.RowKit

theorem rows_updA (ms : List Area) (at_ n : Int) (f : Area → Area) (hf : ∀ a ∈ ms, a.has at_ n = true → (f a).rows = a.rows) : rowsOf (updA ms at_ n f) = rowsOf ms := by
  induction ms with
  | nil => rfl
  | cons a r ih =>
    unfold updA
    split
    · rename_i h
      simp only [rowsOf, List.flatMap_cons]
      rw [hf a (by simp) h]
    · have := ih (fun x hx => hf x (by simp [hx]))
      simp only [rowsOf, List.flatMap_cons] at this ⊢
      rw [this]
theorem rows_putA {w : World} {bm : Nat} {ms : List Area} {at_ n : Int} {cs : List Int} (h : MemAt w bm ms) (hcs : (cs.length : Int) = n) : rowsOf (putA ms at_ n cs) = rowsOf ms := by
  apply rows_updA
  intro a ha hh
  have hl := (h.each a ha).lx
  simp [Area.has, hasB] at hh
  have : (splice a.xs (at_ - a.r.fr).toNat cs).length = a.xs.length := length_splice _ _ _ (by omega)
  simp only [Area.rows]
  rw [rowBlk_len this]

/-- What a store comes to: its error, and memory. -/
def storeR (ms : List Area) (at_ n v : Int) : Int × List Area :=
  match accR ms at_ n with
  | (_, some a) => if a.r.wr then (0, putA ms at_ n (bytesOf v n.toNat)) else (32, ms)
  | (e, none) => (e, ms)

set_option maxRecDepth 100000 in
set_option maxHeartbeats 400000 in
theorem store_bad (bm : Nat) (ms : List Area) (at_ n v : Int) (e : Int) (w : World) (hm : MemAt w bm ms) (h4 : 0 ≤ at_) (h5 : at_ ≤ 4294967295) (hst : accR ms at_ n = (e, none)) :
    Calls Try.prog 8 #[.pointer (some ⟨bm, 0, none⟩), .int .u32 at_, .int .i64 n, .int .u32 v] w
      fun r w' => r = .returned (.int .i64 e) ∧ Below w.heap.size w w' := by
  have HM := Lib.hid hm
  have he := accR_none hst
  have he2 : (e != 0) = true := by simp; omega
  clear hm he
  go_enter Try.func8, Try.ntmps8
  go_wp2_with fail
  refine (access_any _ ms _ _ _ HM.out h4 h5).mono ?_
  rintro e w1 ⟨rfl, hb1⟩
  rw [hst]
  clear hst
  have HB1 := Lib.hid hb1
  clear hb1
  simp only [accV]
  go_wp2
  go_ret
  exact ⟨rfl, HB1.out⟩
set_option maxRecDepth 100000 in
set_option maxHeartbeats 400000 in
theorem store_ro (bm : Nat) (ms : List Area) (at_ n v : Int) (a : Area) (w : World) (hm : MemAt w bm ms) (h4 : 0 ≤ at_) (h5 : at_ ≤ 4294967295) (hst : accR ms at_ n = (0, some a)) (hwr : a.r.wr = false) :
    Calls Try.prog 8 #[.pointer (some ⟨bm, 0, none⟩), .int .u32 at_, .int .i64 n, .int .u32 v] w
      fun r w' => r = .returned (.int .i64 32) ∧ Below w.heap.size w w' := by
  have HM := Lib.hid hm
  clear hm
  go_enter Try.func8, Try.ntmps8
  go_wp2_with fail
  refine (access_any _ ms _ _ _ HM.out h4 h5).mono ?_
  rintro e w1 ⟨rfl, hb1⟩
  rw [hst]
  obtain ⟨_, _, _, hfa⟩ := accR_some hst
  have ha := (HM.out.below hb1).each a (findA_spec hfa).1
  have c3 : w1.cell? ⟨a.b, 3, none⟩ = some (.bool false) := by rw [ha.blk.cell, ← hwr]; rfl
  have HB1 := Lib.hid hb1
  clear hb1 hst ha hfa hwr
  simp only [accV]
  go_wp2
  go_ret
  exact ⟨rfl, HB1.out⟩
theorem store_any (bm : Nat) (ms : List Area) (at_ n v : Int) (w : World) (hm : MemAt w bm ms) (h4 : 0 ≤ at_) (h5 : at_ ≤ 4294967295) (hv0 : 0 ≤ v) (hv1 : v ≤ 4294967295) :
    Calls Try.prog 8 #[.pointer (some ⟨bm, 0, none⟩), .int .u32 at_, .int .i64 n, .int .u32 v] w
      fun r w' => r = .returned (.int .i64 (storeR ms at_ n v).1) ∧ MemAt w' bm (storeR ms at_ n v).2 ∧ Keeps (· ∈ rowsOf ms) w w' ∧ rowsOf (storeR ms at_ n v).2 = rowsOf ms := by
  cases hacc : accR ms at_ n with
  | mk e oa =>
    cases oa with
    | none =>
      have : storeR ms at_ n v = (e, ms) := by simp [storeR, hacc]
      rw [this]
      exact (store_bad bm ms at_ n v e w hm h4 h5 hacc).mono fun r w' ⟨h1, h2⟩ => ⟨h1, hm.below h2, keeps_of_below _ h2, rfl⟩
    | some a =>
      obtain ⟨rfl, hn, _, hfa⟩ := accR_some hacc
      cases hwr : a.r.wr with
      | false =>
        have : storeR ms at_ n v = (32, ms) := by simp [storeR, hacc, hwr]
        rw [this]
        exact (store_ro bm ms at_ n v a w hm h4 h5 hacc hwr).mono fun r w' ⟨h1, h2⟩ => ⟨h1, hm.below h2, keeps_of_below _ h2, rfl⟩
      | true =>
        have : storeR ms at_ n v = (0, putA ms at_ n (bytesOf v n.toNat)) := by simp [storeR, hacc, hwr]
        rw [this]
        have hlen : ((bytesOf v n.toNat).length : Int) = n := by
          rcases hn with rfl | rfl | rfl <;> rfl
        refine (store_ok bm ms at_ n v a w hm h4 h5 hv0 hv1 hacc hwr).mono ?_
        rintro r w' ⟨h1, g, cur, hk, hb, hg, hb'⟩
        refine ⟨h1, hm.putA hfa hlen (bytesOf_bytes hv0 hv1 _) hk hb hg hb', hk.mono fun i _ e => ?_, rows_putA hm hlen⟩
        subst e
        exact List.mem_flatMap.2 ⟨a, (findA_spec hfa).1, List.mem_append_left _ hg⟩

/-- What a fetch comes to. -/
def fetchR (ms : List Area) (at_ : Int) : Int × Int :=
  match accR ms at_ 4 with
  | (_, some a) => if a.r.ex then loadR ms at_ 4 else (0, 33)
  | (e, none) => (0, e)
set_option maxRecDepth 100000 in
set_option maxHeartbeats 400000 in
theorem fetch_any (bm : Nat) (ms : List Area) (at_ : Int) (w : World) (hm : MemAt w bm ms) (h4 : 0 ≤ at_) (h5 : at_ ≤ 4294967295) :
    Calls Try.prog 24 #[.pointer (some ⟨bm, 0, none⟩), .int .u32 at_] w
      fun e w' => e = .returned (.tuple #[.int .u32 (fetchR ms at_).1, .int .i64 (fetchR ms at_).2]) ∧ Below w.heap.size w w' := by
  have HM := Lib.hid hm
  clear hm
  go_enter Try.func24, Try.ntmps24
  go_wp2_with fail
  refine (access_any _ ms _ _ _ HM.out h4 h5).mono ?_
  rintro e w1 ⟨rfl, hb1⟩
  have hm1 := HM.out.below hb1
  have HB1 := Lib.hid hb1
  have HM1 := Lib.hid hm1
  have hfr : fetchR ms at_ = (match accR ms at_ 4 with | (_, some a) => if a.r.ex then loadR ms at_ 4 else (0, 33) | (e, none) => (0, e)) := rfl
  generalize hacc : accR ms at_ 4 = acc at hfr ⊢
  obtain ⟨e, oa⟩ := acc
  have HFR := Lib.hid hfr
  clear hm1 hb1 hfr
  cases oa with
  | none =>
    have he := accR_none hacc
    have he2 : (e != 0) = true := by simp; omega
    clear he hacc
    simp only [accV]
    go_wp2
    go_ret2
    exact ⟨by rw [HFR.out]; rfl, HB1.out⟩
  | some a =>
    obtain ⟨rfl, hn, _, hfa⟩ := accR_some hacc
    have ha := HM1.out.each a (findA_spec hfa).1
    cases hex : a.r.ex with
    | false =>
      have c4 : w1.cell? ⟨a.b, 4, none⟩ = some (.bool false) := by rw [ha.blk.cell, ← hex]; rfl
      have HEX := Lib.hid hex
      clear ha hfa hacc hex hn
      simp only [accV]
      go_wp2
      go_ret2
      exact ⟨by rw [HFR.out]; simp only [HEX.out]; rfl, HB1.out⟩
    | true =>
      have c4 : w1.cell? ⟨a.b, 4, none⟩ = some (.bool true) := by rw [ha.blk.cell, ← hex]; rfl
      have HEX := Lib.hid hex
      clear ha hfa hacc hex hn
      simp only [accV]
      go_wp2_with fail
      refine (load_any _ ms _ _ _ HM1.out h4 h5).mono ?_
      rintro e w2 ⟨rfl, hb2⟩
      have HB2 := Lib.hid (HB1.out.trans (hb2.mono HB1.out.size))
      clear hb2
      go_wp2
      go_ret2
      exact ⟨by rw [HFR.out]; simp only [HEX.out, if_true]; rfl, HB2.out⟩

/-- An append whose run is known. -/
theorem wpList_append_eq {P : Program} {w w' : World} {ops : Array Oper} {rest : List Oper} {o : Oper} {a : Act} {Q : Exit → Act → World → Prop} (hgd : o.guard = none) (s x : Operand) (t : TypeId)
    (ho : o.op = .call { callee := .builtin .append, args := #[s, x], argTypes := #[t, t] }) {v u v' : Value} (hs : a.eval s = v) (hx : a.eval x = u)
    (hr : (Builtin.append_ #[t, t] o.type #[v, u]).run P w = .ok v' w') (h : wpList P ops Q rest (a.put o.dst v') w') : wpList P ops Q (o :: rest) a w :=
  wpList_plain hgd fun K hK => by
    unfold Oper.wp execOp
    simp only [ho, resolve, invoke, builtin, Sem.run_bind, Sem.run_pure, Result.andThen_ok, List.map_toArray, List.map_cons, List.map_nil, hs, hx, hr]
    exact hK _ _ h
theorem info5f : (Try.prog.info? 5).map (fun i => (i.zero, i.size, i.bytes)) = some (some (.int .u8 0), 1, 1) := by kernel_rfl
theorem own_brow {w : World} {base : Nat} {v : Value} {n : Nat} {xs : List Int} (h : w.ownsRow base 5 1 v n (xs.map (Value.int .u8))) : BRow w v xs ∧ n = xs.length ∧ ∀ g ∈ rowBlk v xs, base ≤ g := by
  have hn : n = xs.length := by have := h.1; simp at this; omega
  subst hn
  rcases h.2 with ⟨rfl, hz⟩ | ⟨g, cap, cur, rfl, hg, hh, h1, h2, h3, h4⟩
  · have : xs = [] := List.length_eq_zero_iff.1 hz
    subst this
    exact ⟨⟨none, 0, rfl, Nat.le_refl _, Nat.zero_le _, fun h => absurd rfl h⟩, rfl, fun g hg => by simp [rowBlk] at hg⟩
  · refine ⟨⟨_, cap, rfl, h1, h2, fun _ => ⟨g, cur, rfl, hh, by simpa using h3, by simpa using h4⟩⟩, rfl, fun g' hg' => ?_⟩
    obtain ⟨_, e⟩ := mem_rowBlk hg'
    have : g = g' := by simpa [Value.ownBlock] using e
    omega
set_option maxRecDepth 100000 in
set_option maxHeartbeats 400000 in
/-- A copy of bytes in new memory. -/
theorem cloneB (ad : Addr) (cap : Nat) (xs : List Int) (w : World) (hc : ∀ j v, (xs.map (Value.int .u8))[j]? = some v → w.cell? (ad.add j) = some v) (hl : xs.length ≤ 16777216) :
    Calls Try.prog 27 #[.slice (some ad) xs.length cap] w fun e w' => ∃ v, e = .returned v ∧ w'.ownsRow w.heap.size 5 1 v xs.length (xs.map (Value.int .u8)) ∧ Below w.heap.size w w' := by
  obtain ⟨i0, hi, hz0, hz1, hz2⟩ := info_parts info5f
  have hown : (w.alloc (.cells #[] 5)).ownsRow w.heap.size 5 1 (.slice (some ⟨w.heap.size, 0, none⟩) 0 0) 0 [] :=
    ⟨rfl, Or.inr ⟨w.heap.size, 0, #[], rfl, Nat.le_refl _, heap_alloc_new w _, Nat.le_refl _, Nat.zero_le _, rfl, rfl⟩⟩
  obtain ⟨v', w2, hap, ho, hg, _⟩ := run_append_own (P := Try.prog) (w.alloc (.cells #[] 5)) w.heap.size 33 33 5 i0 (.int .u8 0) 1 1 Try.underlying33 hi hz0 hz1 hz2 rfl (by decide) _ 0 [] hown ad xs.length cap (xs.map (Value.int .u8)) (by simp)
    (fun j u hj => by have := hc j u hj; rw [World.cell?_alloc_lt _ _ _ (cell_lt this)]; exact this) (oneCell_bytes _) (by unfold maxLen; omega) (by omega) (by simp)
  have hbs : ∀ w, (Instr.buildSlice 33 0 #[]).run Try.prog w = .ok (.slice (some ⟨w.heap.size, 0, none⟩) 0 0) (w.alloc (.cells #[] 5)) := fun _ => by kernel_rfl
  rw [Nat.zero_add, List.nil_append] at ho
  have hbel : Below w.heap.size w w2 := ((Below.refl _ _).alloc (Nat.le_refl _) _).grown hg (by simp) (fun k hk => by simp [Value.ownBlock] at hk; omega)
  have HO := Lib.hid ho
  have HB := Lib.hid hbel
  have hnn := fun w => Lib.run_eql_slice_nil (P := Try.prog) w 33 5 (some ad) xs.length cap 0 0 Try.underlying33
  have HAP := Lib.hid hap
  clear ho hg hbel hc hown hi hz0 hz1 hz2 hap
  go_enter Try.func27, Try.ntmps27
  go_wp2_with (at_builtin; refine wpList_append_eq rfl (.tmp 5) (.tmp 6) 33 rfl rfl rfl HAP.out ?_)
  go_ret
  exact ⟨v', rfl, HO.out, HB.out⟩
end Go.Proofs.Ytbffclcjhcbejaa

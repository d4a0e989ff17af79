/- Walks: base.Bytes, padded, align, Clip; append to rows of one's own. Conditions: what each theorem states. -/
import Derived.Test.YteoglkofeogknaaGreatDoorSF
import Derived.Maps.AppendAt
import Derived.Laws.BytesArg
import Derived.Lib.Hide
set_option linter.unusedVariables false
set_option linter.unusedSimpArgs false
namespace Go.Proofs.YteoglkofeogknaaGreatDoor
open Go.RowKit
/-- A type of slices, its elements' type, cells, bytes. -/
structure ARow (t e : TypeId) (size bytes : Nat) : Prop where
  u : Tryz.prog.underlying t = some (.slice e)
  i : ∃ (i : TypeInfo) (z : Value), Tryz.prog.info? e = some i ∧ i.zero = some z ∧ i.size = size ∧ i.bytes = bytes ∧ z.cells.size = size
  p : 0 < size
theorem arow_of {t e : TypeId} {size bytes : Nat} {z : Value} (u : Tryz.prog.underlying t = some (.slice e)) (h : (Tryz.prog.info? e).map (fun i => (i.zero, i.size, i.bytes)) = some (some z, size, bytes)) (hz : z.cells.size = size) (p : 0 < size) : ARow t e size bytes := by
  obtain ⟨i, hi, hz0, hz1, hz2⟩ := info_parts h
  exact ⟨u, ⟨i, z, hi, hz0, hz1, hz2, hz⟩, p⟩
theorem arowB : ARow 37 5 1 1 := arow_of (z := .int .u8 0) Tryz.underlying37 (by kernel_rfl) (by rfl) (by decide)
theorem arowL : ARow 38 68 4 40 := arow_of (z := .agg #[.string ⟨#[]⟩, .int .i64 0, .int .i64 0, .bool false]) Tryz.underlying38 (by kernel_rfl) (by rfl) (by decide)
theorem arowR : ARow 39 51 5 48 := arow_of (z := .agg #[.int .i64 0, .int .i64 0, .int .i64 0, .int .i64 0, .string ⟨#[]⟩]) Tryz.underlying39 (by kernel_rfl) (by rfl) (by decide)
theorem arowO : ARow 29 41 4 96 := arow_of (z := .agg #[.slice none 0 0, .slice none 0 0, .slice none 0 0, .slice none 0 0]) Tryz.underlying29 (by kernel_rfl) (by rfl) (by decide)
theorem append_nil {t e : TypeId} {size bytes : Nat} (F : ARow t e size bytes) (ty : TypeId) (w : World) (A : Option Addr) (n cap c : Nat) (hn : n ≤ cap) (hm : cap ≤ maxLen) : (Builtin.append_ #[t, t] ty #[.slice A n cap, .slice none 0 c]).run Tryz.prog w = .ok (.slice A n cap) w := by
  obtain ⟨i, z, hi, hz, hs, hb, _⟩ := F.i
  unfold maxLen at hm
  cases A with
  | none =>
    simp [Builtin.append_, run_underlying F.u, sizeOf, typeInfo, hi, Builtin.lenOf, Builtin.firstCells, storeCells]
    intro h
    omega
  | some a => simp [Builtin.append_, run_underlying F.u, sizeOf, typeInfo, hi, Builtin.lenOf, Builtin.firstCells, storeCells, hn]
/-- Appending a row that lies anywhere to one of one's own. -/
theorem app_any {t e : TypeId} {size bytes : Nat} (F : ARow t e size bytes) (ty : TypeId) {w : World} {B n m : Nat} {v u : Value} {xs ys : List Value} (hown : w.ownsRow B e size v n xs) (hu : RowOf w u m ys) (hl : ys.length = m * size) (h1 : ∀ y ∈ ys, y.oneCell' = true) (h63 : n + m ≤ maxLen) (hbytes : (n + m) * bytes ≤ 140737488355328) (hB : B ≤ w.heap.size) :
    ∃ v' w', (Builtin.append_ #[t, t] ty #[v, u]).run Tryz.prog w = .ok v' w' ∧ w'.ownsRow B e size v' (n + m) (xs ++ ys) ∧ w.grownBy w' v.ownBlock ∧ (v'.ownBlock = v.ownBlock ∨ v'.ownBlock = some w.heap.size) := by
  obtain ⟨A, cap, rfl, k1, k2, k3⟩ := hu
  obtain ⟨i, z, hi, hz, hs, hb, hc⟩ := F.i
  cases A with
  | none =>
    have hm : m = 0 := by
      rcases Nat.eq_zero_or_pos m with h | h
      · exact h
      · obtain ⟨g, off, e, _⟩ := k3 h
        cases e
    subst hm
    obtain rfl : ys = [] := List.eq_nil_of_length_eq_zero (by omega)
    obtain ⟨Av, cv, rfl, c1, c2⟩ := slice_form hown
    refine ⟨_, w, append_nil F ty w Av n cv cap c1 c2, by simpa using hown, ⟨rfl, rfl, rfl, Nat.le_refl _, fun _ _ _ => rfl⟩, Or.inl rfl⟩
  | some a =>
    have hcell : ∀ j u, ys[j]? = some u → w.cell? (a.add j) = some u := fun j u hj => by
      have hm : 0 < m := by
        rcases Nat.eq_zero_or_pos m with h | h
        · subst h
          rw [List.getElem?_eq_none (by omega)] at hj
          cases hj
        · exact h
      obtain ⟨g, off, e, _, hcc⟩ := k3 hm
      cases e
      rw [addr_add]
      exact hcc j u hj
    obtain ⟨v', w', r1, r2, r3, _, r5⟩ := run_append_own_at (P := Tryz.prog) (w := w) B t ty e i z size bytes F.u hi hz hs hb hc F.p v n xs hown a m cap ys hl hcell h1 h63 hbytes hB
    exact ⟨v', w', r1, r2, r3, r5⟩
theorem oneB (bs : List UInt8) : ∀ y ∈ bs.map byv, y.oneCell' = true := fun y hy => by
  obtain ⟨b, _, rfl⟩ := List.mem_map.1 hy
  rfl
theorem oneL (xs : List Lbl) : ∀ y ∈ xs.flatMap Lbl.cells, y.oneCell' = true := fun y hy => by
  obtain ⟨x, _, hx⟩ := List.mem_flatMap.1 hy
  simp [Lbl.cells] at hx
  rcases hx with rfl | rfl | rfl | rfl <;> rfl
theorem oneR (xs : List Rel) : ∀ y ∈ xs.flatMap Rel.cells, y.oneCell' = true := fun y hy => by
  obtain ⟨x, _, hx⟩ := List.mem_flatMap.1 hy
  simp [Rel.cells] at hx
  rcases hx with rfl | rfl | rfl | rfl | rfl <;> rfl
open Go.RowKit
theorem wpList_append_eq {P : Program} {w w' : World} {ops : Array Oper} {rest : List Oper} {o : Oper} {a : Act} {Q : Exit → Act → World → Prop} (hgd : o.guard = none) (s x : Operand) (t : TypeId)
    (ho : o.op = .call { callee := .builtin .append, args := #[s, x], argTypes := #[t, t] }) {v u v' : Value} (hs : a.eval s = v) (hx : a.eval x = u)
    (hr : (Builtin.append_ #[t, t] o.type #[v, u]).run P w = .ok v' w') (h : wpList P ops Q rest (a.put o.dst v') w') : wpList P ops Q (o :: rest) a w :=
  wpList_plain hgd fun K hK => by
    unfold Oper.wp execOp
    simp only [ho, resolve, invoke, builtin, Sem.run_bind, Sem.run_pure, Result.andThen_ok, List.map_toArray, List.map_cons, List.map_nil, hs, hx, hr]
    exact hK _ _ h
theorem empty_own {w : World} (t : TypeId) (size : Nat) : (w.alloc (.cells #[] t)).ownsRow w.heap.size t size (.slice (some ⟨w.heap.size, 0, none⟩) 0 0) 0 [] :=
  ⟨by simp, Or.inr ⟨w.heap.size, 0, #[], rfl, Nat.le_refl _, heap_alloc_new w _, Nat.le_refl _, Nat.zero_le _, by simp, by simp⟩⟩
theorem RowOf.alloc {W : World} {v : Value} {n : Nat} {xs : List Value} (h : RowOf W v n xs) (o : Obj) : RowOf (W.alloc o) v n xs := h.below ((Below.refl _ _).alloc (Nat.le_refl _) o)
set_option maxRecDepth 100000 in
set_option maxHeartbeats 1000000 in
theorem bytes_any (v : Value) (bs : List UInt8) (w : World) (h : Bys w v bs) (hl : bs.length ≤ 1099511627776) :
    Calls Tryz.prog 11 #[v] w fun e w' => ∃ v', e = .returned v' ∧ w'.ownsRow w.heap.size 5 1 v' bs.length (bs.map byv) ∧ Below w.heap.size w w' := by
  have hbs : ∀ w, (Instr.buildSlice 37 0 #[]).run Tryz.prog w = .ok (.slice (some ⟨w.heap.size, 0, none⟩) 0 0) (w.alloc (.cells #[] 5)) := fun _ => by kernel_rfl
  obtain ⟨v', w2, hap, ho, hg, hb⟩ := app_any arowB 37 (empty_own (w := w) 5 1) (RowOf.alloc h (.cells #[] 5)) (by simp) (oneB bs) (by unfold maxLen; omega) (by omega) (by simp)
  rw [Nat.zero_add, List.nil_append] at ho
  have HO := Lib.hid ho
  have HB : Hid (Below w.heap.size w w2) := ((Below.refl _ _).alloc (Nat.le_refl _) _).grown hg (by simp) (fun k hk => by simp [Value.ownBlock] at hk; omega)
  have HAP := Lib.hid hap
  obtain ⟨A, cap, rfl, _, _, _⟩ := h
  clear ho hg hb hap
  go_enter Tryz.func11, Tryz.ntmps11
  go_wp2_with (at_builtin; refine wpList_append_eq rfl (.tmp 3) (.tmp 4) 37 rfl rfl rfl HAP.out ?_)
  go_ret
  exact ⟨_, rfl, HO.out, HB.out⟩
set_option maxHeartbeats 1000000 in
theorem clip_any (A : Option Addr) (n cap : Nat) (w : World) (hn : n ≤ cap) (hm : cap ≤ maxLen) : Calls Tryz.prog 20 #[.slice A n cap] w fun e w' => e = .returned (.slice A n n) ∧ w = w' := by
  unfold maxLen at hm
  cases A with
  | none =>
    go_enter Tryz.func20, Tryz.ntmps20
    go_wp2
    go_ret
    exact ⟨rfl, rfl⟩
  | some a =>
    go_enter Tryz.func20, Tryz.ntmps20
    go_wp2
    go_ret
    exact ⟨rfl, rfl⟩
open Go.RowKit
def padN (n : Nat) : Nat := (16 - n % 16) % 16
/-- Bytes up to a multiple of 16. -/
def padL (bs : List UInt8) : List UInt8 := bs ++ List.replicate (padN bs.length) 0
def sliceLen : Value → Nat
  | .slice _ n _ => n
  | _ => 0
/-- A row of bytes of one's own. -/
def OwnB (w : World) (B : Nat) (v : Value) (bs : List UInt8) : Prop := w.ownsRow B 5 1 v bs.length (bs.map byv)
/-- Only the row's own block and new ones have turned; the row lies there or in a new one. -/
structure Grew (w w' : World) (v v' : Value) : Prop where
  keeps : Keeps (fun i => v.ownBlock = some i ∨ w.heap.size ≤ i) w w'
  own : v'.ownBlock = v.ownBlock ∨ ∃ g, v'.ownBlock = some g ∧ w.heap.size ≤ g
theorem Grew.refl (w : World) (v : Value) : Grew w w v v := ⟨Keeps.refl _ _, Or.inl rfl⟩
theorem Grew.step {w w1 w2 : World} {v v1 v2 : Value} (h : Grew w w1 v v1) {o : Obj} (hg : (w1.alloc o).grownBy w2 v1.ownBlock) (hb : v2.ownBlock = v1.ownBlock ∨ v2.ownBlock = some (w1.alloc o).heap.size) : Grew w w2 v v2 := by
  have hs := h.keeps.size
  refine ⟨(h.keeps.alloc o).grown hg (fun g hg => ?_), ?_⟩
  · rcases h.own with e | ⟨g', e, hg'⟩
    · rw [e] at hg; exact Or.inr (Or.inl hg)
    · rw [e] at hg; injection hg with hg; subst hg; exact Or.inl hg'
  · rcases hb with e | e
    · rw [e]; exact h.own
    · exact Or.inr ⟨_, e, by simp; omega⟩
theorem one_row {w : World} (b : UInt8) : RowOf (w.alloc (.cells #[byv b] 5)) (.slice (some ⟨w.heap.size, 0, none⟩) 1 1) 1 [byv b] :=
  ⟨_, 1, rfl, Nat.le_refl _, by decide, fun _ => ⟨w.heap.size, 0, rfl, by simp, fun j u hj => by
    have := (Blk.new w 5 #[byv b]).cell (0 + j)
    rw [this]
    simpa using hj⟩⟩
theorem OwnB.alloc {w : World} {B : Nat} {v : Value} {bs : List UInt8} (h : OwnB w B v bs) (o : Obj) : OwnB (w.alloc o) B v bs := ownsRow_keeps h (keeps_of_below (fun _ => False) ((Below.refl _ _).alloc (Nat.le_refl _) o)) (fun _ _ => id)
/-- One byte more. -/
theorem OwnB.snoc {w : World} {B : Nat} {v : Value} {bs : List UInt8} (h : OwnB w B v bs) (b : UInt8) (hl : bs.length ≤ 1099511627776) (hB : B ≤ w.heap.size) :
    ∃ v' w', (Builtin.append_ #[37, 37] 37 #[v, .slice (some ⟨w.heap.size, 0, none⟩) 1 1]).run Tryz.prog (w.alloc (.cells #[byv b] 5)) = .ok v' w' ∧ OwnB w' B v' (bs ++ [b]) ∧ (w.alloc (.cells #[byv b] 5)).grownBy w' v.ownBlock ∧ (v'.ownBlock = v.ownBlock ∨ v'.ownBlock = some (w.alloc (.cells #[byv b] 5)).heap.size) := by
  obtain ⟨v', w', r1, r2, r3, r4⟩ := app_any arowB 37 (h.alloc (.cells #[byv b] 5)) (one_row b) (by simp) (oneB [b]) (by unfold maxLen; omega) (by omega) (by simp; omega)
  refine ⟨v', w', r1, ?_, r3, r4⟩
  unfold OwnB
  rw [List.length_append, List.map_append]
  exact r2
theorem byv0 : byv 0 = .int .u8 0 := rfl
open Go.RowKit
theorem setB {cs : Array Value} {off : Nat} {u v : Value} : (cs.setIfInBounds off u).setIfInBounds off v = cs.setIfInBounds off v := by simp
theorem own_some2 {w : World} {B size : Nat} {e : TypeId} {v : Value} {n : Nat} {xs : List Value} (h : w.ownsRow B e size v n xs) {g : Nat} (hg : v.ownBlock = some g) : B ≤ g ∧ g < w.heap.size := by
  rcases h.2 with ⟨rfl, _⟩ | ⟨g', cap, cur, rfl, h1, h2, _⟩
  · simp [Value.ownBlock] at hg
  · have : g' = g := by simpa [Value.ownBlock] using hg
    subst this
    exact ⟨h1, (Blk.lt (t := e) h2)⟩
theorem Blk.grew {w w' : World} {F : Nat → Prop} {g t : Nat} {cs : Array Value} (h : Blk w g t cs) (k : Keeps F w w') (hF : ¬ F g) : Blk w' g t cs := h.keeps k hF
/-- What align leaves. -/
structure Alg (w w' : World) (b t off B : Nat) (cs : Array Value) (v v' : Value) (bs : List UInt8) : Prop where
  blk : Blk w' b t (cs.setIfInBounds off v')
  own : OwnB w' B v' bs
  keeps : Keeps (fun i => v.ownBlock = some i ∨ i = b ∨ w.heap.size ≤ i) w w'
  at_ : v'.ownBlock = v.ownBlock ∨ ∃ g, v'.ownBlock = some g ∧ w.heap.size ≤ g
theorem Alg.apart {w w' : World} {b t off B : Nat} {cs : Array Value} {v v' : Value} {bs : List UInt8} (h : Alg w w' b t off B cs v v' bs) (hb : b < w.heap.size) (hne : v.ownBlock ≠ some b) : v'.ownBlock ≠ some b := by
  rcases h.at_ with e | ⟨g, e, hg⟩
  · rwa [e]
  · rw [e]; intro h; injection h with h; omega
set_option maxRecDepth 100000 in
set_option maxHeartbeats 4000000 in
theorem align_any (b t off B : Nat) (cs : Array Value) (v : Value) (bs : List UInt8) (w : World) (hb : Blk w b t cs) (hc : cs[off]? = some v) (h : OwnB w B v bs) (hne : v.ownBlock ≠ some b) (hl : bs.length ≤ 1099511627000) (hB : B ≤ w.heap.size) :
    Calls Tryz.prog 19 #[.pointer (some ⟨b, off, none⟩), .int .i64 16] w fun e w' => e = .returned (.tuple #[]) ∧ ∃ v', Alg w w' b t off B cs v v' (padL bs) := by
  have hp : padN bs.length ≤ 15 := by unfold padN; omega
  have hbl := hb.lt
  have hoff : off < cs.size := by
    rcases Nat.lt_or_ge off cs.size with h' | h'
    · exact h'
    · rw [Array.getElem?_eq_none h'] at hc; cases hc
  obtain ⟨A0, cap0, hv, _, _⟩ := slice_form h
  have HST : Hid (∃ (A : Option Addr) (n cap j : Nat) (ds : List UInt8), n = bs.length + j ∧ j ≤ padN bs.length ∧ ds = bs ++ List.replicate j 0 ∧ Alg w w b t off B cs v (.slice A n cap) ds ∧ B ≤ w.heap.size) := by
    refine ⟨A0, bs.length, cap0, 0, bs, rfl, Nat.zero_le _, by simp, ⟨?_, by rw [← hv]; exact h, Keeps.refl _ _, Or.inl (by rw [← hv])⟩, hB⟩
    have e : cs.setIfInBounds off (.slice A0 bs.length cap0) = cs := by
      rw [← hv]
      apply Array.ext_getElem?
      intro i
      by_cases hi : off = i
      · subst hi; rw [Array.getElem?_setIfInBounds_self_of_lt hoff, hc]
      · rw [Array.getElem?_setIfInBounds_ne hi]
    rw [e]
    exact hb
  have HNE := Lib.hid hne
  have HBL := Lib.hid hbl
  have HOF := Lib.hid hoff
  clear h hv hb hc hne hbl hoff
  go_enter Tryz.func19, Tryz.ntmps19
  go_wp2_with fail
  go_loopw [] (fun wr => Hid (∃ (A : Option Addr) (n cap j : Nat) (ds : List UInt8), n = bs.length + j ∧ j ≤ padN bs.length ∧ ds = bs ++ List.replicate j 0 ∧ Alg w wr b t off B cs v (.slice A n cap) ds ∧ B ≤ wr.heap.size)) (fun wr => bs.length + 16 - sliceLen ((wr.cell? ⟨b, off, none⟩).getD undef))
  case atStart => exact HST.out
  case round =>
    clear HST
    obtain ⟨A, n, cap, j, ds, hn, hj, e, h1, h3⟩ := hrel.out
    have HN := Lib.hid hn
    have c0 : wr.cell? ⟨b, off, none⟩ = some (.slice A n cap) := by rw [h1.blk.cell, Array.getElem?_setIfInBounds_self_of_lt HOF.out]
    by_cases hz : n % 16 = 0
    · have hj2 : j = padN bs.length := by unfold padN at hj ⊢; omega
      have HF : Hid (Alg w wr b t off B cs v (.slice A n cap) (padL bs)) := by
        rw [e, hj2] at h1
        exact h1
      have e1 : (n : Int).tmod 16 = 0 := by rw [Int.tmod_eq_emod_of_nonneg (by omega)]; omega
      clear hrel hn hj2 hz hj e h1 h3
      go_wp2_with fail
      go_end0
      exact ⟨rfl, _, HF.out⟩
    · have hcl : ds.length = n := by rw [e, hn]; simp
      obtain ⟨v', w', r1, r2, r3, r4⟩ := h1.own.snoc 0 (by omega) h3
      obtain ⟨A2, cap2, hv2, _, _⟩ := slice_form r2
      rw [List.length_append, hcl, List.length_singleton] at hv2
      have hsz := r3.size
      simp at hsz
      have hap := h1.apart HBL.out HNE.out
      have hbk : Blk w' b t (cs.setIfInBounds off (.slice A n cap)) := (h1.blk.alloc _).grown r3 (fun h => hap h.symm)
      have d0 : w'.cell? ⟨b, off, none⟩ = some (.slice A n cap) := by rw [hbk.cell, Array.getElem?_setIfInBounds_self_of_lt HOF.out]
      have d1 : w'.frozen? ⟨b, off, none⟩ = false := hbk.frozen off
      have hbn : Blk (w'.setCell ⟨b, off, none⟩ v') b t (cs.setIfInBounds off v') := by
        have := hbk.set_ off v'
        rwa [setB] at this
      have hown : v'.ownBlock ≠ some b := by
        rcases r4 with e | e
        · rw [e]; exact hap
        · rw [e]; intro h; injection h with h; simp at h; have := h1.keeps.size; have := HBL.out; omega
      have HI2 : Hid (∃ (A : Option Addr) (n' cap j : Nat) (ds : List UInt8), n' = bs.length + j ∧ j ≤ padN bs.length ∧ ds = bs ++ List.replicate j 0 ∧ Alg w (w'.setCell ⟨b, off, none⟩ (.slice A2 (n + 1) cap2)) b t off B cs v (.slice A n' cap) ds ∧ B ≤ (w'.setCell ⟨b, off, none⟩ (.slice A2 (n + 1) cap2)).heap.size) := by
        subst hv2
        refine ⟨A2, n + 1, cap2, j + 1, ds ++ [0], by omega, by unfold padN at hj ⊢; omega, by rw [e, List.replicate_succ', List.append_assoc], ⟨hbn, ?_, ?_, ?_⟩, by have := HBL.out; have := h1.keeps.size; simp; omega⟩
        · exact ownsRow_keeps r2 ((Keeps.refl (fun i => i = b) w').setCell (p := ⟨b, off, none⟩) (Or.inr rfl) _) (fun g hg e => hown (by rw [hg, e]))
        · have hk := (h1.keeps.alloc (.cells #[byv 0] 5)).grown r3 (fun g hg => by
            rcases h1.at_ with e | ⟨g', e, hg'⟩
            · rw [e] at hg; exact Or.inr (Or.inl hg)
            · rw [e] at hg; injection hg with hg; subst hg; exact Or.inl hg')
          exact hk.setCell (p := ⟨b, off, none⟩) (Or.inr (Or.inr (Or.inl rfl))) _
        · rcases r4 with e | e
          · rw [e]; exact h1.at_
          · exact Or.inr ⟨_, e, by have := h1.keeps.size; simp; omega⟩
      have HR := Lib.hid r1
      have e1 : ((n : Int).tmod 16 == 0) = false := by rw [Int.tmod_eq_emod_of_nonneg (by omega)]; simp; omega
      have e2 : ((n : Int).tmod 16 != 0) = true := by simp only [bne, e1]; rfl
      have HM : Hid (((w'.setCell ⟨b, off, none⟩ (.slice A2 (n + 1) cap2)).cell? ⟨b, off, none⟩) = some (.slice A2 (n + 1) cap2)) := World.cell?_setCell_same _ _ _ d0
      have HM1 : Hid (bs.length + 16 - (n + 1) < bs.length + 16 - n) := by show _ < _; unfold padN at hj; omega
      subst hv2
      clear h1 h3 r1 r2 r3 r4 hrel hcl e hn hap hbk hbn hown hsz hj
      go_wp2_with (at_builtin; refine wpList_append_eq rfl (.tmp 16) (.tmp 17) 37 rfl rfl rfl HR.out ?_)
      go_roundw
      case rel => exact HI2.out
      case measure =>
        rw [HM.out, c0]
        exact HM1.out
end Go.Proofs.YteoglkofeogknaaGreatDoor

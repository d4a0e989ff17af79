/- Walks: link.up, link.name; a map as a function; rows of ranges. Conditions: what each states. -/
import Derived.Test.YteoglkofeogknaaGreatDoorMC
import Derived.Laws.IdiomStrings
import Derived.Test.YteoglkofeogknaaGreatDoorGA
import Derived.Maps.OwnSet
import Derived.WideKeyEntry
set_option linter.unusedVariables false
set_option linter.unusedSimpArgs false
namespace Go.Proofs.YteoglkofeogknaaGreatDoor
open Go.RowKit
def upI (n : Int) : Int := (n + 15) / 16 * 16
theorem up_any (n : Int) (w : World) (h0 : 0 ≤ n) (h1 : n ≤ 1152921504606846976) : Calls Tryz.prog 51 #[.int .i64 n] w fun e w' => e = .returned (.int .i64 (upI n)) ∧ w = w' := by
  have e1 : IntKind.i64.wrap (n + 15) = n + 15 := IntWalk.i64_in _ (by omega)
  have e2 : (n + 15).tdiv 16 = (n + 15) / 16 := Int.tdiv_eq_ediv_of_nonneg (by omega)
  have e3 : IntKind.i64.wrap ((n + 15) / 16) = (n + 15) / 16 := IntWalk.i64_in _ (by omega)
  have e4 : IntKind.i64.wrap ((n + 15) / 16 * 16) = upI n := by unfold upI; exact IntWalk.i64_in _ (by omega)
  go_enter Tryz.func51, Tryz.ntmps51
  go_wp2
  go_ret
  exact ⟨rfl, rfl⟩
set_option maxRecDepth 100000 in
set_option maxHeartbeats 4000000 in
theorem lname_any (s : ByteArray) (w : World) (hs : s.size ≤ maxLen) : Calls Tryz.prog 30 #[.string s] w fun e w' => e = .returned (.bool (nameB s)) ∧ Below w.heap.size w w' := by
  unfold maxLen at hs
  by_cases h0 : 0 < s.size
  · have e0 := isEmpty_of s h0
    by_cases h1 : s.size ≤ 31
    · by_cases h2 : 97 ≤ (s[0]'h0).toNat
      · by_cases h3 : (s[0]'h0).toNat ≤ 122
        · have hfin : nameB s = s.data.toList.all (fun c => nameC c.toNat) := by simp [nameB, h0, h1, h2, h3]
          have HFIN := Lib.hid hfin
          clear hfin
          have hcv := run_bytes_of_string (P := Tryz.prog) w 9 37 5 s Tryz.underlying9 Tryz.underlying37 Tryz.underlying5
          obtain ⟨cap, hcap⟩ : ∃ cap, grownCap w s.size 0 5 = cap := ⟨_, rfl⟩
          rw [hcap] at hcv
          have hcell : ∀ j (hj : j < s.size), (w.drew.alloc (.cells (bytesRow s cap) 5 ((bytesRow s cap).size, (bytesRow s cap).size + 1))).cell? ⟨w.heap.size, j, none⟩ = some (.int .u8 ((s[j]'hj).toNat : Int)) := fun j hj => by
            have := World.cell?_alloc_mark w.drew (bytesRow s cap) 5 ((bytesRow s cap).size, (bytesRow s cap).size + 1) j
            rw [show w.drew.heap.size = w.heap.size from rfl] at this
            rw [this, bytesRow_at s cap j hj]
            rfl
          have hbel : Below w.heap.size w (w.drew.alloc (.cells (bytesRow s cap) 5 ((bytesRow s cap).size, (bytesRow s cap).size + 1))) := (Below.refl _ _).drew.alloc (Nat.le_refl _) _
          generalize (w.drew.alloc (.cells (bytesRow s cap) 5 ((bytesRow s cap).size, (bytesRow s cap).size + 1))) = w1 at hcv hcell hbel
          obtain ⟨p, hp⟩ : ∃ p, w.heap.size = p := ⟨_, rfl⟩
          rw [hp] at hcv hcell hbel ⊢
          have HC := Lib.hid hcell
          have HB := Lib.hid hbel
          clear hcap hp hcell hbel
          go_enter Tryz.func30, Tryz.ntmps30
          go_wp2_with fail
          go_loop [25] (fun i => ∃ k : Nat, k ≤ s.size ∧ i = .int .i64 k ∧ Hid ((s.data.toList.take k).all (fun c => nameC c.toNat) = true)) (fun i => s.size - (intOf i).toNat)
          case atStart => exact ⟨0, Nat.zero_le _, rfl, rfl⟩
          case round =>
            obtain ⟨k, hk, rfl, HA⟩ := hrel
            by_cases hlt : k < s.size
            · have hx := HC.out k hlt
              obtain ⟨c, hc⟩ : ∃ c : Nat, (s[k]'hlt).toNat = c := ⟨_, rfl⟩
              rw [hc] at hx
              have HT := Lib.hid (fun h => allC_step s (fun c => nameC c.toNat) k hlt HA.out (by rw [hc]; exact nameC_true (c := c) h))
              have HF := Lib.hid (fun h => allC_stop s (fun c => nameC c.toNat) k hlt (by rw [hc]; exact nameC_false (c := c) h))
              have e3 : (k : Int) < (s.size : Int) := by omega
              have e5 : (0 : Int) ≤ (k : Int) := by omega
              have e6 : IntKind.i64.wrap ((k : Int) + 1) = ((k + 1 : Nat) : Int) := by rw [IntWalk.i64_in _ (by omega)]; omega
              clear h2 h3
              rcases (show ((97 ≤ c ∧ c ≤ 122) ∨ (48 ≤ c ∧ c ≤ 57) ∨ c = 95) ∨ (c < 48 ∨ (58 ≤ c ∧ c ≤ 94) ∨ c = 96 ∨ 123 ≤ c) by omega) with hcs | hcs
              · have HT2 := Lib.hid (HT.out hcs)
                rcases hcs with ⟨d1, d2⟩ | ⟨d1, d2⟩ | rfl
                all_goals
                  go_wp2
                  go_round
                  case rel => exact ⟨k + 1, by omega, by go_num, HT2.out⟩
                  case measure => simp [intOf]; omega
              · have HF2 := Lib.hid (HF.out (by omega))
                have q95 : ((c : Int) != 95) = true := by simp; omega
                rcases hcs with d1 | ⟨d1, d2⟩ | rfl | d1
                all_goals
                  go_wp2
                  go_ret
                  exact ⟨by rw [HFIN.out, HF2.out]; rfl, HB.out⟩
            · have hsk : s.data.toList.take k = s.data.toList := List.take_of_length_le (by have h3 : s.size = s.data.size := rfl; simp; omega)
              have hfin : nameB s = true := by rw [HFIN.out, ← hsk]; exact HA.out
              have HN := Lib.hid hfin
              clear hfin hsk
              go_wp2
              go_ret
              exact ⟨by rw [HN.out]; rfl, HB.out⟩
        · have hfin : nameB s = false := by simp [nameB, h0, h1, h2, h3]
          have HFIN := Lib.hid hfin
          clear hfin
          go_enter Tryz.func30, Tryz.ntmps30
          go_wp2
          go_ret
          exact ⟨by rw [HFIN.out]; rfl, Below.refl _ _⟩
      · have hfin : nameB s = false := by simp [nameB, h0, h1, h2]
        have HFIN := Lib.hid hfin
        clear hfin
        go_enter Tryz.func30, Tryz.ntmps30
        go_wp2
        go_ret
        exact ⟨by rw [HFIN.out]; rfl, Below.refl _ _⟩
    · have hfin : nameB s = false := by simp [nameB, h0, h1]
      have HFIN := Lib.hid hfin
      clear hfin
      go_enter Tryz.func30, Tryz.ntmps30
      go_wp2
      go_ret
      exact ⟨by rw [HFIN.out]; rfl, Below.refl _ _⟩
  · have e0 := isEmpty_nil s h0
    have hfin : nameB s = false := by simp [nameB, h0]
    have HFIN := Lib.hid hfin
    clear hfin
    go_enter Tryz.func30, Tryz.ntmps30
    go_wp2
    go_ret
    exact ⟨by rw [HFIN.out]; rfl, Below.refl _ _⟩
end Go.Proofs.YteoglkofeogknaaGreatDoor
namespace Go.Proofs.YteoglkofeogknaaGreatDoor
open Go.RowKit
open Go.Maps (Keyed)
/-- An element reads as itself. -/
def RV (v : Value) : Option (DataW Value × List MemPlace) := some (.held v, [])
/-- Block b is a map that holds what f tells, at most n entries. -/
def MapV (w : World) (b n : Nat) (f : ByteArray → Option Value) : Prop :=
  ∃ D : DataW Value, w.ownsMap Tryz.prog 9 RV b n D ∧ ∀ s : ByteArray, Maps.has D (.string s.data.toList) = (f s).isSome ∧ ∀ z, D.atKey (.string s.data.toList) z = (match f s with | some v => .held v | none => z)
theorem MapV.new (w : World) : MapV (w.alloc (.map #[] 0)) w.heap.size 0 (fun _ => none) := ⟨.map [], World.ownsMap_made _ _ _ _, fun s => ⟨rfl, fun z => rfl⟩⟩
theorem MapV.lt {w : World} {b n : Nat} {f : ByteArray → Option Value} (h : MapV w b n f) : b < w.heap.size := by obtain ⟨D, h1, _⟩ := h; exact h1.lt
section
variable {t e : TypeId} {z : Value} {w : World} {b n : Nat} {f : ByteArray → Option Value}
theorem RV_inv {v : Value} {ps : List MemPlace} {x : DataW Value} (h : RV v = some (x, ps)) : x = .held v := by unfold RV at h; injection h with h; injection h with h1 _; exact h1.symm
theorem RV_get {x : Option Value} {z v : Value} {ps : List MemPlace} (h : RV v = some (match x with | some v => DataW.held v | none => DataW.held z, ps)) : v = x.getD z := by
  have := RV_inv h
  cases x with
  | none => injection this with this; exact this.symm
  | some u => injection this with this; exact this.symm
set_option maxRecDepth 100000 in
theorem MapV.look (h : MapV w b n f) (ht : Tryz.prog.underlying t = some (.map 9 e)) (hz : (zeroValue e).run Tryz.prog w = .ok z w) (s : ByteArray) (hs : s.size ≤ maxLen) : (Instr.lookup t (.map (some b)) (.string s) false).run Tryz.prog w = .ok ((f s).getD z) w := by
  obtain ⟨D, h1, h2⟩ := h
  obtain ⟨v, ps, hr, hv⟩ := h1.lookup lawS ht hz (zd := .held z) (zp := []) rfl (Go.WideMaps.keyOf_string_mk (P := Tryz.prog) Tryz.underlying9 hs)
  rw [(h2 s).2] at hv
  rw [hr, RV_get hv]
set_option maxRecDepth 100000 in
theorem MapV.look2 (h : MapV w b n f) (ht : Tryz.prog.underlying t = some (.map 9 e)) (hz : (zeroValue e).run Tryz.prog w = .ok z w) (s : ByteArray) (hs : s.size ≤ maxLen) : (Instr.lookup t (.map (some b)) (.string s) true).run Tryz.prog w = .ok (.tuple #[(f s).getD z, .bool (f s).isSome]) w := by
  obtain ⟨D, h1, h2⟩ := h
  obtain ⟨v, ps, hr, hv⟩ := h1.look_ok lawS ht hz (zd := .held z) (zp := []) rfl (Go.WideMaps.keyOf_string_mk (P := Tryz.prog) Tryz.underlying9 hs)
  rw [(h2 s).2] at hv
  rw [(h2 s).1] at hr
  rw [hr, RV_get hv]
theorem MapV.put (h : MapV w b n f) (ht : Tryz.prog.underlying t = some (.map 9 e)) (s : ByteArray) (v : Value) (hs : s.size ≤ maxLen) (hn : n < maxLen) : ∃ w', (Instr.mapUpdate t (.map (some b)) (.string s) v).run Tryz.prog w = .ok () w' ∧ MapV w' b (n + 1) (fun s' => if s' = s then some v else f s') ∧ w.grownBy w' (some b) := by
  obtain ⟨D, h1, h2⟩ := h
  obtain ⟨w', hr, ho, hg⟩ := h1.update lawS ht hn (Go.WideMaps.keyOf_string_mk (P := Tryz.prog) Tryz.underlying9 hs) (val := v) (d := .held v) (ps := []) rfl
  refine ⟨w', hr, ⟨_, ho, fun s' => ?_⟩, hg⟩
  have h0 := h1.isMap
  by_cases he : s' = s
  · subst he
    simp only [if_true]
    refine ⟨Maps.has_put_same h0 (by trivial) _, fun z => ?_⟩
    rw [Maps.atKey_put_same h0 (by trivial)]
  · simp only [if_neg he]
    have hk : Lit.string s'.data.toList ≠ Lit.string s.data.toList := by intro h; injection h with h; exact he (ByteArray.ext (Array.toList_inj.1 h))
    exact ⟨by rw [Maps.has_put_other hk]; exact (h2 s').1, fun z => by rw [Maps.atKey_put_other hk]; exact (h2 s').2 z⟩
theorem MapV.kept {w' : World} {row : Option Nat} (h : MapV w b n f) (hg : w.grownBy w' row) (hne : some b ≠ row) : MapV w' b n f := by
  obtain ⟨D, h1, h2⟩ := h
  exact ⟨D, h1.kept hg hne, h2⟩
theorem MapV.keeps {w' : World} {F : Nat → Prop} (h : MapV w b n f) (hk : Keeps F w w') (hF : ¬ F b) : MapV w' b n f := by
  obtain ⟨D, ⟨es, cl, hb, r⟩, h2⟩ := h
  exact ⟨D, ⟨es, cl, (hk.block b (World.ownsMap.lt (H := Value) (P := Tryz.prog) (k := 9) ⟨es, cl, hb, r⟩) hF).trans hb, r⟩, h2⟩
theorem MapV.below {w' : World} (h : MapV w b n f) (hb : Below w.heap.size w w') : MapV w' b n f := h.keeps (keeps_of_below (fun _ => False) hb) id
theorem MapV.alloc (h : MapV w b n f) (o : Obj) : MapV (w.alloc o) b n f := h.below ((Below.refl _ _).alloc (Nat.le_refl _) o)
theorem MapV.congr (h : MapV w b n f) {g : ByteArray → Option Value} (hg : ∀ s, f s = g s) : MapV w b n g := by
  have : f = g := funext hg
  rwa [← this]
end
end Go.Proofs.YteoglkofeogknaaGreatDoor
set_option linter.unusedVariables false
set_option linter.unusedSimpArgs false
namespace Go.Proofs.YteoglkofeogknaaGreatDoor
open Go.RowKit
open Go.ChangeMaps (setBlock heap_setBlock_same heap_setBlock_other)
/-- What lies lower than all that may turn stays. -/
theorem Keeps.low {F : Nat → Prop} {w W : World} {n : Nat} (h : Keeps F w W) (hF : ∀ i, i < n → ¬ F i) (hn : n ≤ w.heap.size) : Below n w W := ⟨h.os, h.tape, h.output, h.size, fun i hi => h.block i (Nat.lt_of_lt_of_le hi hn) (hF i hi)⟩
theorem flat_set {α : Type} (f : α → List Value) (c : Nat) (hc : ∀ x, (f x).length = c) (l : List α) (i : Nat) (hi : i < l.length) (y : α) (j : Nat) (hj : j < c) (u : Value) (hy : f y = (f l[i]).set j u) : (l.flatMap f).set (i * c + j) u = (l.set i y).flatMap f := by
  refine set_el f c hc l i hi y _ (by rw [List.length_set, flatMap_len f c hc]) (fun q hq => ?_) (fun q hq h => ?_)
  · rw [hy]
    by_cases hjq : j = q
    · subst hjq
      rw [List.getElem?_set_self (by rw [flatMap_len f c hc]; have : (i + 1) * c ≤ l.length * c := Nat.mul_le_mul_right _ hi; rw [Nat.add_mul] at this; omega), List.getElem?_set_self (by rw [hc]; exact hj)]
    · rw [List.getElem?_set_ne (by omega), List.getElem?_set_ne hjq, flatMap_at f c hc l i hi q hq]
  · rw [List.getElem?_set_ne (h j hj).symm]
theorem rngC_len : ∀ r : Rng, r.cells.length = 5 := fun _ => rfl
/-- A row of ranges of the call's own. -/
def OwnG (W : World) (B : Nat) (v : Value) (rs : List Rng) : Prop := W.ownsRow B 48 5 v rs.length (rs.flatMap Rng.cells)
theorem OwnG.cells {W : World} {B g n c : Nat} {rs : List Rng} (h : OwnG W B (.slice (some ⟨g, 0, none⟩) n c) rs) : RCells W g 0 rs := fun i hi j u hu => by
  have h1 : W.ownsRow B 48 5 (.slice (some ⟨g, 0, none⟩) n c) rs.length (rs.flatMap Rng.cells) := h
  obtain ⟨A', c', e, _⟩ := slice_form h1
  injection e with e1 e2 e3
  subst e2
  have hc := (own_parts h1).2.2.2.2.1
  have hj : j < 5 := by
    have := (Array.getElem?_eq_some_iff.1 hu).1
    simpa [rngArr] using this
  have := hc (i * 5 + j) u (by rw [flatMap_at Rng.cells 5 rngC_len rs i hi j hj]; simpa [rngArr, Rng.cells] using hu)
  rw [show 0 + i * 5 + j = i * 5 + j by omega]
  exact this
theorem OwnG.row {W : World} {B : Nat} {v : Value} {rs : List Rng} (h : OwnG W B v rs) (hn : ∀ r ∈ rs, r.nm.size ≤ maxLen) : RSlice W v rs := by
  obtain ⟨A, c, rfl, h1, h2⟩ := slice_form h
  refine ⟨A, c, rfl, h1, h2, hn, fun hne => ?_⟩
  have hp : 0 < rs.length := List.length_pos_iff.2 hne
  obtain ⟨g, c', e⟩ := own_some h hp
  injection e with e1 e2 e3
  subst e1 e3
  exact ⟨g, 0, rfl, (own_parts h).2.1, h.cells⟩
/-- From is written. -/
theorem OwnG.setF {W : World} {B g n c : Nat} {rs : List Rng} (h : OwnG W B (.slice (some ⟨g, 0, none⟩) n c) rs) {i : Nat} (hi : i < rs.length) (x : Int) : OwnG (W.setCell ⟨g, i * 5 + 1, none⟩ (.int .i64 x)) B (.slice (some ⟨g, 0, none⟩) n c) (rs.set i ⟨rs[i].nm, x, rs[i].sz, rs[i].wr, rs[i].ex⟩) := by
  have h1 : W.ownsRow B 48 5 (.slice (some ⟨g, 0, none⟩) n c) rs.length (rs.flatMap Rng.cells) := h
  obtain ⟨A', c', e, _⟩ := slice_form h1
  injection e with e1 e2 e3
  subst e2
  have hl := flatMap_len Rng.cells 5 rngC_len rs
  have h2 := own_set h1 (j := i * 5 + 1) (by rw [hl]; omega) (.int .i64 x)
  rw [flat_set Rng.cells 5 rngC_len rs i hi ⟨rs[i].nm, x, rs[i].sz, rs[i].wr, rs[i].ex⟩ 1 (by omega) (.int .i64 x) rfl] at h2
  unfold OwnG
  rw [List.length_set]
  exact h2
/-- Size is written. -/
theorem OwnG.setS {W : World} {B g n c : Nat} {rs : List Rng} (h : OwnG W B (.slice (some ⟨g, 0, none⟩) n c) rs) {i : Nat} (hi : i < rs.length) (x : Int) : OwnG (W.setCell ⟨g, i * 5 + 2, none⟩ (.int .i64 x)) B (.slice (some ⟨g, 0, none⟩) n c) (rs.set i ⟨rs[i].nm, rs[i].fr, x, rs[i].wr, rs[i].ex⟩) := by
  have h1 : W.ownsRow B 48 5 (.slice (some ⟨g, 0, none⟩) n c) rs.length (rs.flatMap Rng.cells) := h
  obtain ⟨A', c', e, _⟩ := slice_form h1
  injection e with e1 e2 e3
  subst e2
  have hl := flatMap_len Rng.cells 5 rngC_len rs
  have h2 := own_set h1 (j := i * 5 + 2) (by rw [hl]; omega) (.int .i64 x)
  rw [flat_set Rng.cells 5 rngC_len rs i hi ⟨rs[i].nm, rs[i].fr, x, rs[i].wr, rs[i].ex⟩ 2 (by omega) (.int .i64 x) rfl] at h2
  unfold OwnG
  rw [List.length_set]
  exact h2
theorem arowG : ARow 28 48 5 40 := arow_of (z := .agg #[.string ⟨#[]⟩, .int .i64 0, .int .i64 0, .bool false, .bool false]) Tryz.underlying28 (by kernel_rfl) (by rfl) (by decide)
theorem oneG (rs : List Rng) : ∀ y ∈ rs.flatMap Rng.cells, y.oneCell' = true := fun y hy => by
  obtain ⟨r, _, h⟩ := List.mem_flatMap.1 hy
  simp only [Rng.cells, List.mem_cons, List.not_mem_nil, or_false] at h
  rcases h with rfl | rfl | rfl | rfl | rfl <;> rfl
theorem RSlice.rowOf {W : World} {v : Value} {rs : List Rng} (h : RSlice W v rs) : RowOf W v rs.length (rs.flatMap Rng.cells) := by
  obtain ⟨A, cap, rfl, h1, h2, h3, h4⟩ := h
  refine ⟨A, cap, rfl, h1, h2, fun hp => ?_⟩
  obtain ⟨g, off, rfl, hg, hc⟩ := h4 (List.ne_nil_of_length_pos hp)
  refine ⟨g, off, rfl, hg, fun j u hj => ?_⟩
  obtain ⟨i, hi, q, hq, rfl, hfu⟩ := flatMap_idx Rng.cells 5 (by omega) rngC_len hj
  have := hc i hi q u (by simpa [rngArr, Rng.cells] using hfu)
  rw [← Nat.add_assoc]
  exact this
/-- Ranges behind ranges of one's own. -/
theorem OwnG.app {w : World} {B : Nat} {v u : Value} {xs ys : List Rng} (h : OwnG w B v xs) (hu : RSlice w u ys) (hl : xs.length ≤ 549755813888) (hl2 : ys.length ≤ 549755813888) (hB : B ≤ w.heap.size) :
    ∃ v' w', (Builtin.append_ #[28, 28] 28 #[v, u]).run Tryz.prog w = .ok v' w' ∧ OwnG w' B v' (xs ++ ys) ∧ w.grownBy w' v.ownBlock ∧ (v'.ownBlock = v.ownBlock ∨ v'.ownBlock = some w.heap.size) := by
  obtain ⟨v', w', r1, r2, r3, r4⟩ := app_any arowG 28 h hu.rowOf (flatMap_len _ 5 rngC_len ys) (oneG ys) (by unfold maxLen; omega) (by omega) hB
  refine ⟨v', w', r1, ?_, r3, r4⟩
  unfold OwnG
  rw [List.length_append, List.flatMap_append]
  exact r2
theorem setBlock_twice (w : World) (b : Nat) (o o' : Obj) : setBlock (setBlock w b o) b o' = setBlock w b o' := by
  unfold setBlock
  simp
set_option maxRecDepth 100000 in
/-- 'm[k]' as the place of an assignment: the entry is taken, then stored into. -/
theorem MapV.entry {t e : TypeId} {z : Value} {w : World} {b n : Nat} {f : ByteArray → Option Value} (h : MapV w b n f) (ht : Tryz.prog.underlying t = some (.map 9 e)) (hz : ∀ u : World, (zeroValue e).run Tryz.prog u = .ok z u) (s : ByteArray) (hs : s.size ≤ maxLen) (hn : n < maxLen) :
    ∃ (v0 : Value) (st : Nat) (w1 : World), (Instr.mapEntry t (.map (some b)) (.string s)).run Tryz.prog w = .ok (.tuple #[v0, .int .i64 st]) w1 ∧ w.grownBy w1 (some b) ∧
      ∀ val : Value, ∃ w2, (Instr.entryStore t (.map (some b)) (.int .i64 st) val).run Tryz.prog w1 = .ok () w2 ∧ MapV w2 b (n + 1) (fun s' => if s' = s then some val else f s') ∧ w1.grownBy w2 (some b) := by
  have hput := fun v => h.put ht s v hs hn
  obtain ⟨D, h1, h2⟩ := h
  obtain ⟨es, clock, hb, F, hsz, rfl⟩ := h1
  obtain ⟨v0, st, es1, clock1, hr, _, hst⟩ := WideElems.entry_then_store (WideMaps.string_law Tryz.underlying9) ht hz hb F (Go.WideMaps.keyOf_string_mk (P := Tryz.prog) Tryz.underlying9 hs)
  refine ⟨v0, st, _, hr, ⟨rfl, rfl, rfl, by simp [setBlock], fun i _ hi => heap_setBlock_other hb _ (fun e => hi (by rw [e]))⟩, fun val => ?_⟩
  have hb1 := heap_setBlock_same hb (.map es1 clock1)
  obtain ⟨es', clock', hs1, hs2⟩ := hst _ val hb1
  obtain ⟨w', hp1, hp2, hp3⟩ := hput val
  rw [hs2] at hp1
  have hw : setBlock w b (.map es' clock') = w' := by injection hp1
  refine ⟨_, hs1, ?_, ⟨rfl, rfl, rfl, by simp [setBlock], fun i _ hi => heap_setBlock_other hb1 _ (fun e => hi (by rw [e]))⟩⟩
  rw [setBlock_twice, hw]
  exact hp2
theorem MapV.ne_blk {w : World} {b n k t : Nat} {f : ByteArray → Option Value} {cs : Array Value} (h : MapV w b n f) (hk : Blk w k t cs) : k ≠ b := by
  obtain ⟨D, ⟨es, cl, hb, _⟩, _⟩ := h
  intro e
  subst e
  unfold Blk at hk
  rw [hb] at hk
  injection hk with hk
  cases hk
end Go.Proofs.YteoglkofeogknaaGreatDoor

/- Sets of registers as rows of truth values: laws; set.list, set.join, Clone. No conditions beyond what they state. Walks: twice's set: Clone, join. No conditions beyond what they state. -/
import Derived.Test.YtlmoblmkhicoeaaGreatDoorE1
set_option linter.unusedVariables false
set_option linter.unusedSimpArgs false
namespace Go.Proofs.YtlmoblmkhicoeaaGreatDoor
open Go.RowKit
theorem und66 : Tryz.prog.underlying 66 = some (.slice 4) := by kernel_rfl
theorem arowB : ARow 66 4 1 1 := arow_of und66 inf4 rfl (by decide)
/-- A row of truth values of one's own, from a base on. -/
def OwnB (W : World) (B : Nat) (v : Value) (l : List Bool) : Prop := W.ownsRow B 4 1 v l.length (l.map bv)
theorem OwnB.bools {W : World} {B : Nat} {v : Value} {l : List Bool} (h : OwnB W B v l) : Bools W v l := RowOf.own h
theorem OwnB.ge {W : World} {B : Nat} {v : Value} {l : List Bool} (h : OwnB W B v l) : ∀ g, v.ownBlock = some g → B ≤ g := by
  intro g hg
  rcases h.2 with ⟨rfl, _⟩ | ⟨g', cap, cur, rfl, hb, _⟩
  · cases hg
  · cases hg; exact hb
theorem OwnB.lt {W : World} {B : Nat} {v : Value} {l : List Bool} (h : OwnB W B v l) : ∀ g, v.ownBlock = some g → g < W.heap.size := by
  intro g hg
  rcases h.2 with ⟨rfl, _⟩ | ⟨g', cap, cur, rfl, hb, hh, _⟩
  · cases hg
  · cases hg; exact Blk.lt (t := 4) hh
theorem OwnB.keeps {W W' : World} {F : Nat → Prop} {B : Nat} {v : Value} {l : List Bool} (h : OwnB W B v l) (hk : Keeps F W W') (hF : ∀ g, v.ownBlock = some g → ¬ F g) : OwnB W' B v l := ownsRow_keeps h hk hF
theorem OwnB.below {W W' : World} {B : Nat} {v : Value} {l : List Bool} (h : OwnB W B v l) (hb : Below W.heap.size W W') : OwnB W' B v l := ownsRow_keeps h (keeps_of_below (fun _ => False) hb) (fun _ _ => id)
theorem OwnB.lower {W : World} {B B' : Nat} {v : Value} {l : List Bool} (h : OwnB W B v l) (hb : B' ≤ B) : OwnB W B' v l := ownsRow_lower h hb
theorem OwnB.form {W : World} {B : Nat} {v : Value} {l : List Bool} (h : OwnB W B v l) : ∃ A c, v = .slice A l.length c ∧ l.length ≤ c ∧ c ≤ maxLen := RowOf.form h.bools
theorem OwnB.keepsB {W W' : World} {B : Nat} {v : Value} {l : List Bool} (h : OwnB W B v l) (hk : Keeps (fun k => v.ownBlock = some k) W W') (hB : B ≤ W.heap.size) : Below B W W' :=
  hk.toBelow hB (fun k hk' hv => by have := h.ge k hv; omega)
/-- Its cells, where it has any. -/
theorem OwnB.open_ {W : World} {B : Nat} {v : Value} {l : List Bool} (h : OwnB W B v l) (hn : 0 < l.length) : ∃ g c, v = .slice (some ⟨g, 0, none⟩) l.length c ∧ B ≤ g ∧ g < W.heap.size ∧ l.length ≤ c ∧ c ≤ maxLen ∧ (∀ i (h : i < l.length), W.cell? ⟨g, i, none⟩ = some (.bool l[i])) ∧ ∀ j, W.frozen? ⟨g, j, none⟩ = false := by
  obtain ⟨g, c, rfl⟩ := own_some h hn
  obtain ⟨p1, p2, p3, p4, p5, p6⟩ := own_parts h
  exact ⟨g, c, rfl, p1, p2, p3, p4, fun i hi => p5 i _ (by rw [List.getElem?_map, List.getElem?_eq_getElem hi]; rfl), p6⟩
theorem OwnB.set_ {W : World} {B g c n : Nat} {l : List Bool} (h : OwnB W B (.slice (some ⟨g, 0, none⟩) n c) l) (hn : l.length = n) {j : Nat} (hj : j < l.length) (u : Bool) : OwnB (W.setCell ⟨g, j, none⟩ (.bool u)) B (.slice (some ⟨g, 0, none⟩) n c) (l.set j u) := by
  subst hn
  unfold OwnB at h ⊢
  rw [List.length_set, List.map_set]
  exact own_set h (by simpa using hj) (bv u)
theorem OwnB.made (W : World) (n B : Nat) (hB : B ≤ W.heap.size) (hn : n ≤ maxLen) : OwnB (W.alloc (.cells (Array.replicate n (.bool false)) 4)) B (.slice (some ⟨W.heap.size, 0, none⟩) n n) (List.replicate n false) := by
  unfold OwnB
  rw [List.length_replicate]
  exact ⟨by simp, Or.inr ⟨W.heap.size, n, _, rfl, hB, Blk.new W 4 _, Nat.le_refl _, hn, by simp, by simp [bv]⟩⟩
theorem OwnB.of {W : World} {g n B : Nat} (h : Blk W g 4 (Array.replicate n (.bool false))) (hB : B ≤ g) (hn : n ≤ maxLen) : OwnB W B (.slice (some ⟨g, 0, none⟩) n n) (List.replicate n false) := by
  unfold OwnB
  rw [List.length_replicate]
  exact ⟨by simp, Or.inr ⟨g, n, _, rfl, hB, h, Nat.le_refl _, hn, by simp, by simp [bv]⟩⟩
theorem make_set (n : Nat) (hn : n ≤ 16777216) (w : World) : (Instr.makeSlice 66 (.int .i64 (n : Int)) (.int .i64 (n : Int))).run Tryz.prog w = .ok (.slice (some ⟨w.heap.size, 0, none⟩) n n) (w.alloc (.cells (Array.replicate n (.bool false)) 4)) :=
  made_one und66 inf4 rfl (by decide) n hn w
/-- The members among the first k. -/
def ixsN (l : List Bool) : Nat → List Int
  | 0 => []
  | k + 1 => if l.getD k false then ixsN l k ++ [(k : Int)] else ixsN l k
def ixs (l : List Bool) : List Int := ixsN l l.length
theorem ixsN_len (l : List Bool) : ∀ k, (ixsN l k).length ≤ k
  | 0 => Nat.le_refl _
  | k + 1 => by
    have := ixsN_len l k
    rw [ixsN]
    split
    · rw [List.length_append]; simp; omega
    · omega
theorem mem_ixsN {l : List Bool} {r : Int} : ∀ {k}, r ∈ ixsN l k ↔ 0 ≤ r ∧ r < (k : Int) ∧ l.getD r.toNat false = true
  | 0 => by simp [ixsN]; omega
  | k + 1 => by
    have ih := mem_ixsN (l := l) (r := r) (k := k)
    rw [ixsN]
    split
    · rename_i h
      rw [List.mem_append, List.mem_singleton, ih]
      constructor
      · rintro (⟨a, b, c⟩ | rfl)
        · exact ⟨a, by omega, c⟩
        · exact ⟨by omega, by omega, by rw [show ((k : Int)).toNat = k by omega]; exact h⟩
      · rintro ⟨a, b, c⟩
        by_cases e : r = k
        · exact Or.inr e
        · exact Or.inl ⟨a, by omega, c⟩
    · rename_i h
      rw [ih]
      constructor
      · rintro ⟨a, b, c⟩; exact ⟨a, by omega, c⟩
      · rintro ⟨a, b, c⟩
        refine ⟨a, ?_, c⟩
        by_cases e : r = k
        · subst e
          rw [show ((k : Int)).toNat = k by omega] at c
          exact absurd c h
        · omega
set_option maxRecDepth 100000 in
set_option maxHeartbeats 2000000 in
theorem setList_any (l : List Bool) (v : Value) (w : World) (h : Bools w v l) (hl : l.length ≤ 4096) :
    Calls Tryz.prog 18 #[v] w fun e w' => (∃ v', e = .returned v' ∧ OwnI w' w.heap.size v' (ixs l)) ∧ Below w.heap.size w w' := by
  obtain ⟨A, c, rfl, h1, h2⟩ := RowOf.form h
  unfold maxLen at h2
  have HB := Lib.hid h
  clear h
  go_enter Tryz.func18, Tryz.ntmps18
  go_wp2_with fail
  go_loopw [8, 3] (fun i ov wr => ∃ k : Nat, k ≤ l.length ∧ i = .int .i64 k ∧ Hid (OwnI wr w.heap.size ov (ixsN l k) ∧ Below w.heap.size w wr)) (fun i _ _ => l.length - (intOf i).toNat)
  case atStart => exact ⟨0, Nat.zero_le _, rfl, OwnI.nil _ _, Below.refl _ _⟩
  case round =>
    obtain ⟨k, hk, rfl, HW⟩ := hrel
    by_cases hlt : k < l.length
    · obtain ⟨g, off, cap, ea, h3, h4, hg, hc⟩ := (HB.out.below HW.out.2).open_ (Nat.lt_of_le_of_lt (Nat.zero_le _) hlt)
      cases ea
      have c0 := hc k hlt
      obtain ⟨b, hb⟩ : ∃ b, l[k] = b := ⟨_, rfl⟩
      rw [hb] at c0
      have hgd : l.getD k false = b := by simp [hlt, hb]
      have hixl := ixsN_len l k
      cases b with
      | true =>
        obtain ⟨v', w3, hap, how, hkp⟩ := HW.out.1.push HW.out.2.size (by omega) (k : Int) 34
        have HAP := Lib.hid hap
        have HN := Lib.hid (show OwnI w3 w.heap.size v' (ixsN l (k + 1)) ∧ Below w.heap.size w w3 from ⟨by rw [ixsN, hgd, if_pos rfl]; exact how, HW.out.2.trans (HW.out.1.keepsB hkp HW.out.2.size)⟩)
        clear hap how hkp HW hc hb hgd
        go_wp2_with (at_builtin; refine wpList_append_eq rfl (.tmp 14) (.tmp 16) 34 rfl rfl rfl HAP.out ?_)
        go_roundw
        case rel => exact ⟨k + 1, by omega, by go_num, HN.out⟩
        case measure => simp [intOf]; omega
      | false =>
        have HN := Lib.hid (show OwnI wr w.heap.size u3 (ixsN l (k + 1)) ∧ Below w.heap.size w wr from ⟨by rw [ixsN, hgd, if_neg (by decide)]; exact HW.out.1, HW.out.2⟩)
        clear HW hc hb hgd
        go_wp2_with fail
        go_roundw
        case rel => exact ⟨k + 1, by omega, by go_num, HN.out⟩
        case measure => simp [intOf]; omega
    · have hke : k = l.length := by omega
      subst hke
      have HN := Lib.hid HW.out
      clear HW
      go_wp2_with fail
      go_ret
      exact ⟨⟨_, rfl, HN.out.1⟩, HN.out.2⟩
end Go.Proofs.YtlmoblmkhicoeaaGreatDoor
namespace Go.Proofs.YtlmoblmkhicoeaaGreatDoor
open Go.RowKit
set_option maxRecDepth 100000 in
set_option maxHeartbeats 1000000 in
theorem setClone_any (l : List Bool) (v : Value) (w : World) (h : Bools w v l) (hl : l.length ≤ 4096) :
    Calls Tryz.prog 38 #[v] w fun e w' => (∃ v', e = .returned v' ∧ OwnB w' w.heap.size v' l) ∧ Below w.heap.size w w' := by
  obtain ⟨A, c, rfl, h1, h2, h3⟩ := h
  unfold maxLen at h2
  cases A with
  | none =>
    have hz : l = [] := by
      rcases Nat.eq_zero_or_pos l.length with hz | hp
      · exact List.length_eq_zero_iff.1 hz
      · obtain ⟨g, off, e, -⟩ := h3 hp
        cases e
    subst hz
    have hnn := fun w => Lib.run_eql_slice_nil (P := Tryz.prog) w 66 4 none 0 c 0 0 und66
    show Calls Tryz.prog 38 #[.slice none 0 c] w _
    go_enter Tryz.func38, Tryz.ntmps38
    go_wp2
    go_ret
    exact ⟨⟨_, rfl, ⟨by simp, Or.inl ⟨rfl, rfl⟩⟩⟩, Below.refl _ _⟩
  | some a =>
    have hnn := fun w => Lib.run_eql_slice_nil (P := Tryz.prog) w 66 4 (some a) l.length c 0 0 und66
    have hrow : RowOf w (.slice (some a) l.length c) l.length (l.map bv) := ⟨_, c, rfl, h1, h2, h3⟩
    obtain ⟨v', w2, hap, ho, hg, -⟩ := app_any arowB 66 (empty_own (w := w) 4 1) (hrow.alloc _) (by simp) (fun y hy => by
      obtain ⟨i, _, rfl⟩ := List.mem_map.1 hy
      rfl) (by unfold maxLen; omega) (by omega) (by simp [World.size_alloc])
    have hbs : ∀ w, (Instr.buildSlice 66 0 #[]).run Tryz.prog w = .ok (.slice (some ⟨w.heap.size, 0, none⟩) 0 0) (w.alloc (.cells #[] 4)) := fun _ => by kernel_rfl
    rw [Nat.zero_add, List.nil_append] at ho
    have HO := Lib.hid (show OwnB w2 w.heap.size v' l from ho)
    have HB := Lib.hid (show Below w.heap.size w w2 from ((Below.refl _ _).alloc (Nat.le_refl _) _).grown hg (by simp [World.size_alloc]) (fun k hk => by simp [Value.ownBlock] at hk; omega))
    have HAP := Lib.hid hap
    clear ho hg hap hrow h3
    go_enter Tryz.func38, Tryz.ntmps38
    go_wp2_with (at_builtin; refine wpList_append_eq rfl (.tmp 5) (.tmp 6) 66 rfl rfl rfl HAP.out ?_)
    go_ret
    exact ⟨⟨_, rfl, HO.out⟩, HB.out⟩
/-- The first k taken over. -/
def jnB (l m : List Bool) : Nat → List Bool
  | 0 => l
  | k + 1 => (jnB l m k).set k (l.getD k false || m.getD k false)
def moB (l m : List Bool) : Nat → Bool
  | 0 => false
  | k + 1 => moB l m k || (m.getD k false && !(l.getD k false))
theorem jnB_len (l m : List Bool) : ∀ k, (jnB l m k).length = l.length
  | 0 => rfl
  | k + 1 => by rw [jnB, List.length_set, jnB_len l m k]
theorem jnB_ge (l m : List Bool) : ∀ k i, k ≤ i → (jnB l m k).getD i false = l.getD i false
  | 0, _, _ => rfl
  | k + 1, i, h => by
    rw [jnB, ← jnB_ge l m k i (by omega)]
    simp only [List.getD_eq_getElem?_getD]
    rw [List.getElem?_set_ne (by omega)]
theorem set_getD_self (l : List Bool) (k : Nat) : l.set k (l.getD k false) = l := by
  rcases Nat.lt_or_ge k l.length with h | h
  · have e : l.getD k false = l[k] := by simp [h]
    rw [e, List.set_getElem_self]
  · exact List.set_eq_of_length_le h
theorem jnB_same (l m : List Bool) {k : Nat} (h : m.getD k false = false ∨ l.getD k false = true) : jnB l m (k + 1) = jnB l m k := by
  rw [jnB]
  have e : (l.getD k false || m.getD k false) = (jnB l m k).getD k false := by
    rw [jnB_ge l m k k (Nat.le_refl _)]
    rcases h with h | h <;> rw [h] <;> simp
  rw [e, set_getD_self]
theorem jnB_get (l m : List Bool) : ∀ k i, k ≤ l.length → (jnB l m k).getD i false = (l.getD i false || (decide (i < k) && m.getD i false))
  | 0, i, _ => by simp [jnB]
  | k + 1, i, h => by
    rw [jnB]
    have ih := jnB_get l m k i (by omega)
    by_cases e : k = i
    · subst e
      have hl : k < (jnB l m k).length := by rw [jnB_len]; omega
      have e2 : ((jnB l m k).set k (l.getD k false || m.getD k false)).getD k false = (l.getD k false || m.getD k false) := by
        simp only [List.getD_eq_getElem?_getD, List.getElem?_set_self hl, Option.getD_some]
      rw [e2]; simp
    · have e2 : ((jnB l m k).set k (l.getD k false || m.getD k false)).getD i false = (jnB l m k).getD i false := by
        simp only [List.getD_eq_getElem?_getD]
        rw [List.getElem?_set_ne e]
      rw [e2, ih]
      have : decide (i < k + 1) = decide (i < k) := by
        by_cases h2 : i < k
        · simp [h2]; omega
        · simp [h2]; omega
      rw [this]
set_option maxRecDepth 100000 in
set_option maxHeartbeats 2000000 in
theorem setJoin_any (s tv : Value) (l m : List Bool) (B g : Nat) (w : World) (h : OwnB w B s l) (ht : Bools w tv m) (hml : m.length = l.length) (hl : l.length ≤ 4096) (hne : ∀ q, tv.ownBlock = some q → ¬ s.ownBlock = some q) (hc : w.cell? ⟨g, 0, none⟩ = some tv) (hg : ¬ s.ownBlock = some g) :
    Calls Tryz.prog 37 #[s, .slice (some ⟨g, 0, none⟩) 1 1] w fun e w' => e = .returned (.bool (moB l m l.length)) ∧ OwnB w' B s (jnB l m l.length) ∧ Keeps (fun k => s.ownBlock = some k) w w' := by
  obtain ⟨A, c, rfl, h1, h2⟩ := h.form
  obtain ⟨At, ct, rfl, t1, t2⟩ := RowOf.form ht
  unfold maxLen at h2 t2
  have HS := Lib.hid h
  have HT := Lib.hid ht
  have HNE := Lib.hid hne
  have HG := Lib.hid hg
  have HC := Lib.hid hc
  clear h ht hne hg hc
  go_enter Tryz.func37, Tryz.ntmps37
  go_wp2_with fail
  go_loopw [12, 5] (fun i mv wr => ∃ k : Nat, k ≤ 1 ∧ i = .int .i64 k ∧ mv = .bool (if k = 0 then false else moB l m l.length) ∧ Hid (OwnB wr B (.slice A l.length c) (if k = 0 then l else jnB l m l.length) ∧ Keeps (fun k => (Value.slice A l.length c).ownBlock = some k) w wr)) (fun i _ _ => 1 - (intOf i).toNat)
  case atStart => exact ⟨0, Nat.zero_le _, rfl, rfl, HS.out, Keeps.refl _ _⟩
  case round =>
    clear HS
    obtain ⟨k, hk, rfl, rfl, HW⟩ := hrel
    rcases Nat.eq_zero_or_pos k with rfl | hk1
    · have hw := HW.out
      rw [if_pos rfl] at hw
      rw [if_pos rfl]
      have HW2 := Lib.hid hw
      have c0 : wr.cell? ⟨g, 0, none⟩ = some (.slice At m.length ct) := (hw.2.cell (p := ⟨g, 0, none⟩) (cell_lt HC.out) HG.out).trans HC.out
      clear hw HW
      go_wp2_with fail
      go_loopw [18, 5] (fun i mv wr => ∃ j : Nat, j ≤ m.length ∧ i = .int .i64 j ∧ mv = .bool (moB l m j) ∧ Hid (OwnB wr B (.slice A l.length c) (jnB l m j) ∧ Keeps (fun k => (Value.slice A l.length c).ownBlock = some k) w wr)) (fun i _ _ => m.length - (intOf i).toNat)
      case atStart => exact ⟨0, Nat.zero_le _, rfl, rfl, HW2.out⟩
      case round =>
        clear HW2 c0
        obtain ⟨j, hj, rfl, rfl, HW⟩ := hrel
        by_cases hjt : j < m.length
        · obtain ⟨gt, ot, ct', ea, q1, q2, qg, qc⟩ := (show Bools wr (.slice At m.length ct) m from RowOf.keeps HT.out HW.out.2 HNE.out).open_ (Nat.lt_of_le_of_lt (Nat.zero_le _) hjt)
          cases ea
          have c0 := qc j hjt
          have hjl : j < (jnB l m j).length := by rw [jnB_len]; omega
          have hjll : j < l.length := by omega
          obtain ⟨g2, c2, ea2, -, -, -, -, d1, d2⟩ := HW.out.1.open_ (by omega)
          rw [jnB_len] at ea2
          cases ea2
          have d0 := d1 j hjl
          have f0 := d2 j
          have e1 : (jnB l m j)[j] = l.getD j false := by
            rw [← jnB_ge l m j j (Nat.le_refl _)]; simp [hjl]
          rw [e1] at d0
          have e2 : m[j] = m.getD j false := by simp [hjt]
          rw [e2] at c0
          obtain ⟨b, hb⟩ : ∃ b, m.getD j false = b := ⟨_, rfl⟩
          obtain ⟨a, ha⟩ : ∃ a, l.getD j false = a := ⟨_, rfl⟩
          rw [hb] at c0
          rw [ha] at d0
          have HMO := Lib.hid (show moB l m (j + 1) = (moB l m j || (b && !a)) by rw [moB, ha, hb])
          have HSE := Lib.hid (fun (u : Bool) => OwnB.set_ HW.out.1 (jnB_len l m j) hjl u)
          have HSA := Lib.hid (show (b = false ∨ a = true) → jnB l m (j + 1) = jnB l m j from fun h => jnB_same l m (by rw [ha, hb]; exact h))
          have HST := Lib.hid (show b = true → (jnB l m j).set j true = jnB l m (j + 1) from fun h => by rw [jnB, hb, h, Bool.or_true])
          have c0' := fun q => (show (wr.drewN q).cell? ⟨gt, ot + j, none⟩ = _ from c0)
          have d0' := fun q => (show (wr.drewN q).cell? ⟨g2, j, none⟩ = _ from d0)
          have f0' := fun q => (show (wr.drewN q).frozen? ⟨g2, j, none⟩ = _ from f0)
          obtain ⟨mo, hmo⟩ : ∃ mo, moB l m j = mo := ⟨_, rfl⟩
          rw [hmo] at HMO ⊢
          clear ha hb hmo d1 qc e1 e2 d2
          have HK := Lib.hid HW.out
          clear HW
          cases b with
          | false =>
            have HN := Lib.hid (HSA.out (Or.inl rfl))
            go_wp2_with fail
            go_roundw
            case rel => exact ⟨j + 1, by omega, by go_num, by rw [HMO.out]; simp, by rw [HN.out]; exact HK.out⟩
            case measure => simp [intOf]; omega
          | true =>
            cases a with
            | true =>
              have HN := Lib.hid (HSA.out (Or.inr rfl))
              go_wp2_with fail
              go_roundw
              case rel => exact ⟨j + 1, by omega, by go_num, by rw [HMO.out]; simp, by rw [HN.out]; exact HK.out⟩
              case measure => simp [intOf]; omega
            | false =>
              go_wp2_with fail
              go_roundw
              case rel => exact ⟨j + 1, by omega, by go_num, by rw [HMO.out]; simp, by rw [← HST.out rfl]; exact ⟨HSE.out true, HK.out.2.setCell (p := ⟨g2, j, none⟩) (Or.inr rfl) _⟩⟩
              case measure => simp [intOf]; omega
        · have hje : j = m.length := by omega
          subst hje
          have HN := Lib.hid (show OwnB wr B (.slice A l.length c) (jnB l m l.length) ∧ Keeps (fun k => (Value.slice A l.length c).ownBlock = some k) w wr from by have := HW.out; rw [hml] at this; exact this)
          clear HW
          go_wp2_with fail
          go_roundw
          case rel => exact ⟨1, Nat.le_refl _, rfl, by rw [if_neg (by decide), hml], by rw [if_neg (by decide)]; exact HN.out⟩
          case measure => simp [intOf]
    · have hke : k = 1 := by omega
      subst hke
      have hw := HW.out
      rw [if_neg (by decide)] at hw
      have HN := Lib.hid hw
      clear HW hw
      rw [if_neg (by decide)]
      go_wp2_with fail
      go_ret
      exact ⟨rfl, HN.out⟩
end Go.Proofs.YtlmoblmkhicoeaaGreatDoor

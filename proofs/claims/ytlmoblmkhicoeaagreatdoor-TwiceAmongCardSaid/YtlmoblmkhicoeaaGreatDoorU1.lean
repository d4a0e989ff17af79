/- Walks: twice.jumped. Conditions: a pass, a set. Plain: what may be unset. No conditions. -/
import Derived.Test.YtlmoblmkhicoeaaGreatDoorW10
set_option linter.unusedVariables false
set_option linter.unusedSimpArgs false
namespace Go.Proofs.YtlmoblmkhicoeaaGreatDoor
open Go.RowKit
/-- What may be unset where a set is jumped to. -/
def jmF (F : Fn) (b : Nat) (s : List Bool) : List Bool := (jnB s (btL F b) s.length).set (blk F b).x.d.toNat false
theorem jmF_len (F : Fn) (b : Nat) (s : List Bool) : (jmF F b s).length = s.length := by rw [jmF, List.length_set, jnB_len]
set_option maxRecDepth 100000 in
set_option maxHeartbeats 4000000 in
theorem jumped_any (gp : Nat) (F : Fn) (sv bv rv tov inv ouv v : Value) (l : List Bool) (b : Nat) (hb : b < F.bl.length) (hk4 : (blk F b).x.k = 4) (w : World) (h : PassAt w gp F sv bv rv tov inv ouv) (hv : Bools w v l) (hl : l.length = F.rs.toNat) :
    Calls Tryz.prog 36 #[.pointer (some ⟨gp, 0, none⟩), v, .int .i64 b] w fun e w' => (∃ v, e = .returned v ∧ OwnB w' w.heap.size v (jmF F b l)) ∧ Below w.heap.size w w' := by
  have hn2 := h.ok.b2
  have hr1 := h.ok.r1
  have hr0 := h.ok.rs0
  obtain ⟨-, -, e5, e6⟩ := set_ok h.ok hb hk4
  obtain ⟨R, hR⟩ : ∃ R, F.rs.toNat = R := ⟨_, rfl⟩
  rw [hR] at hl
  subst hl
  have hRl : l.length ≤ 4096 := by omega
  obtain ⟨dn, hdn⟩ : ∃ dn : Nat, (blk F b).x.d = (dn : Int) := ⟨(blk F b).x.d.toNat, by omega⟩
  have hdl : dn < l.length := by omega
  have HJM := Lib.hid (show jmF F b l = (jnB l (btL F b) l.length).set dn false from by rw [jmF, hdn]; rfl)
  have HCL := Lib.hid (setClone_any l v w hv (by omega))
  have HBT := Lib.hid (fun W (hW : Below w.heap.size w W) => between_any gp F sv bv rv tov inv ouv b hb hk4 W (h.below hW))
  obtain ⟨g2, o2, c2, Ao, co, rfl, r1, r2, r3, r4⟩ := h.bl_ hb
  have p4 : w.cell? ⟨gp, 4, none⟩ = some (.slice (some ⟨g2, o2, none⟩) F.bl.length c2) := (h.pb.cell 4).trans rfl
  have s3 := r4.c3
  rw [hdn] at s3
  have HR := Lib.hid hR
  obtain ⟨Av, cv, rfl, -, -⟩ := RowOf.form hv
  have hlt : (b : Int) < (F.bl.length : Int) := by omega
  clear h hv r4 e5 e6 hR hr0 hr1 hdn hk4
  rw [HR.out] at HBT
  go_enter Tryz.func36, Tryz.ntmps36
  go_wp2_with fail
  refine HCL.out.mono ?_
  rintro e w1 ⟨⟨v1, rfl, ho1⟩, hb1⟩
  obtain ⟨gs, cs, rfl, q1, q2, q3, q4, -, -⟩ := ho1.open_ (by omega)
  have HS1 := Lib.hid (And.intro ho1 hb1)
  clear ho1 hb1
  go_wp2_with fail
  refine (HBT.out w1 HS1.out.2).mono ?_
  rintro e w2 ⟨⟨g, rfl, hg, hbr, hbl⟩, hb2⟩
  have hal := below1 w2 (.cells #[.slice (some ⟨g, 0, none⟩) l.length l.length] 66)
  have hb3 := hb2.trans (below_of_le hal hb2.size)
  have ho3 := HS1.out.1.below hb3
  have hgsl := HS1.out.1.lt gs rfl
  have hb2s := hb2.size
  have HJ := Lib.hid (setJoin_any (.slice (some ⟨gs, 0, none⟩) l.length cs) (.slice (some ⟨g, 0, none⟩) l.length l.length) l (btL F b) w.heap.size w2.heap.size (w2.alloc (.cells #[.slice (some ⟨g, 0, none⟩) l.length l.length] 66)) ho3 ((hbr.below hal).bools hbl (by unfold maxLen; omega)) (by rw [hbl]) (by omega) (fun q hq e => by
    have e1 : q = g := by simpa [Value.ownBlock] using hq.symm
    have e2 : q = gs := by simpa [Value.ownBlock] using e.symm
    omega) (((Blk.new w2 66 #[.slice (some ⟨g, 0, none⟩) l.length l.length]).cell 0).trans rfl) (fun e => by
    have e2 : w2.heap.size = gs := by simpa [Value.ownBlock] using e.symm
    omega))
  have HB3 := Lib.hid (And.intro hb3 (HS1.out.2.trans (below_of_le hb3 HS1.out.2.size)))
  clear hal hb3 ho3 hbr hbl hb2 hg
  go_wp2_with fail
  refine HJ.out.mono ?_
  rintro e w4 ⟨rfl, ho4, hk4⟩
  have hsz : w.heap.size ≤ (w2.alloc (.cells #[.slice (some ⟨g, 0, none⟩) l.length l.length] 66)).heap.size := HB3.out.2.size
  have hB4 := HB3.out.2.trans (hk4.toBelow hsz (fun k hk e => by
    have e2 : k = gs := by simpa [Value.ownBlock] using e.symm
    omega))
  have z4 := (hB4.cell (p := ⟨gp, 4, none⟩) (cell_lt p4)).trans p4
  have z3 := (hB4.cell (p := ⟨g2, o2 + b * 6 + 3, none⟩) r3).trans s3
  have hjl : (jnB l (btL F b) l.length).length = l.length := jnB_len _ _ _
  obtain ⟨gs', cs', ee, -, -, -, -, y1, y2⟩ := ho4.open_ (by omega)
  rw [hjl] at ee
  cases ee
  have y0 := y1 dn (by omega)
  have f0 := y2 dn
  have HN := Lib.hid (show OwnB (w4.setCell ⟨gs, dn, none⟩ (.bool false)) w.heap.size (.slice (some ⟨gs, 0, none⟩) l.length cs) (jmF F b l) ∧ Below w.heap.size w (w4.setCell ⟨gs, dn, none⟩ (.bool false)) from
    ⟨by rw [HJM.out]; exact ho4.set_ hjl (by omega) false, below_far hB4 q1 _⟩)
  clear ho4 hk4 hB4 y1 y2 hsz p4 s3 hb2s
  go_wp2_with fail
  go_ret
  exact ⟨⟨_, rfl, HN.out.1⟩, HN.out.2⟩
end Go.Proofs.YtlmoblmkhicoeaaGreatDoor
namespace Go.Proofs.YtlmoblmkhicoeaaGreatDoor
/-- Rows, which are done, has anything grown? -/
structure Un where
  ins : List (List Bool)
  dn : List Bool
  mo : Bool
def srcF (F : Fn) (b : Nat) (s : List Bool) : List Bool := if (blk F b).x.k == 4 && decide (0 ≤ (blk F b).x.d) then (behF (blk F b).os s).set (blk F b).x.d.toNat false else behF (blk F b).os s
def tgtF (F : Fn) (b : Nat) (s : List Bool) (t : Int) : List Bool := if (blk F b).x.k == 4 && t == (blk F b).x.e then jmF F b s else s
def unT (F : Fn) (b : Nat) (s : List Bool) (st : List (List Bool) × Bool) (t : Int) : List (List Bool) × Bool :=
  (st.1.set t.toNat (jnB (st.1.getD t.toNat []) (tgtF F b s t) (st.1.getD t.toNat []).length), moB (st.1.getD t.toNat []) (tgtF F b s t) (st.1.getD t.toNat []).length || st.2)
def unE (F : Fn) (b : Nat) (s : List Bool) (l : List Int) (st : List (List Bool) × Bool) : List (List Bool) × Bool := l.foldl (unT F b s) st
def unB (F : Fn) (u : Un) (b : Nat) : Un :=
  if (rchL F).getD b false then
    ⟨(unE F b (srcF F b (u.ins.getD b [])) ((edgL F).getD b []) (u.ins, u.mo)).1, u.dn.set b true, (unE F b (srcF F b (u.ins.getD b [])) ((edgL F).getD b []) (u.ins, u.mo)).2 || !(u.dn.getD b false)⟩
  else u
def unP (F : Fn) (u : Un) : Nat → Un
  | 0 => u
  | k + 1 => unB F (unP F u k) k
def unR (F : Fn) (u : Un) : Un := unP F ⟨u.ins, u.dn, false⟩ F.bl.length
def unF (F : Fn) : Nat → Un → List (List Bool)
  | 0, u => u.ins
  | f + 1, u => if u.mo then unF F f (unR F u) else u.ins
/-- The rows as they begin: the first block's Params are set, all others of it may be unset. -/
def ini (R P : Nat) : Nat → List Bool
  | 0 => List.replicate R false
  | k + 1 => (ini R P k).set (P + k) true
def unZ (F : Fn) : List (List Bool) := (List.range F.bl.length).map (fun b => if (rchL F).getD b false then List.replicate F.rs.toNat false else [])
def unI (F : Fn) : List (List Bool) := (unZ F).set 0 (ini F.rs.toNat F.ps.toNat (F.rs.toNat - F.ps.toNat))
def allF (ins : List (List Bool)) : Nat := (ins.map falses).sum
def unM (u : Un) : Nat := allF u.ins + falses u.dn
def un0 (F : Fn) : Un := ⟨unI F, List.replicate F.bl.length false, true⟩
def unL (F : Fn) : List (List Bool) := unF F (unM (un0 F) + 1) (un0 F)
theorem srcF_len (F : Fn) (b : Nat) (s : List Bool) : (srcF F b s).length = s.length := by
  unfold srcF
  split
  · rw [List.length_set, behF_len]
  · rw [behF_len]
theorem tgtF_len (F : Fn) (b : Nat) (s : List Bool) (t : Int) : (tgtF F b s t).length = s.length := by
  unfold tgtF
  split
  · rw [jmF_len]
  · rfl
theorem ini_len (R P : Nat) : ∀ k, (ini R P k).length = R
  | 0 => by simp [ini]
  | k + 1 => by rw [ini, List.length_set, ini_len R P k]
theorem falses_jn (l m : List Bool) : ∀ k, k ≤ l.length → falses (jnB l m k) + (if moB l m k then 1 else 0) ≤ falses l
  | 0, _ => by simp [jnB, moB]
  | k + 1, h => by
    have ih := falses_jn l m k (by omega)
    by_cases hc : m.getD k false = true ∧ l.getD k false = false
    · have h1 : jnB l m (k + 1) = (jnB l m k).set k true := by rw [jnB, hc.1, hc.2]; rfl
      have h2 := falses_set (l := jnB l m k) (k := k) (by rw [jnB_len]; omega) (by rw [jnB_ge l m k k (Nat.le_refl _)]; exact hc.2)
      rw [h1]
      split <;> split at ih <;> omega
    · have hc' : m.getD k false = false ∨ l.getD k false = true := by
        cases hm : m.getD k false with
        | false => exact Or.inl rfl
        | true =>
          cases hl : l.getD k false with
          | false => exact absurd ⟨hm, hl⟩ hc
          | true => exact Or.inr rfl
      have h1 := jnB_same l m hc'
      have h2 : moB l m (k + 1) = moB l m k := by
        rw [moB]
        rcases hc' with e | e <;> rw [e] <;> simp
      rw [h1, h2]; exact ih
theorem allF_set {ins : List (List Bool)} {b : Nat} (hb : b < ins.length) (y : List Bool) : allF (ins.set b y) + falses (ins.getD b []) = allF ins + falses y := by
  have := sum_set falses ins b y hb
  have e : ins[b] = ins.getD b [] := by simp [hb]
  rw [e] at this
  exact this
/-- The rows are as they should be. -/
structure UnOk (F : Fn) (ins : List (List Bool)) : Prop where
  n : ins.length = F.bl.length
  r : ∀ b, b < F.bl.length → (rchL F).getD b false = true → (ins.getD b []).length = F.rs.toNat
  z : ∀ b, b < F.bl.length → (rchL F).getD b false = false → ins.getD b [] = []
theorem UnOk.set_ {F : Fn} {ins : List (List Bool)} (h : UnOk F ins) (b : Nat) (hrb : (rchL F).getD b false = true) {y : List Bool} (hy : y.length = F.rs.toNat) : UnOk F (ins.set b y) := by
  refine ⟨by rw [List.length_set]; exact h.n, fun c hc hr => ?_, fun c hc hr => by
    have hne : b ≠ c := fun e => by subst e; rw [hrb] at hr; cases hr
    have := h.z c hc hr
    rw [List.getD_eq_getElem?_getD] at this ⊢
    rw [List.getElem?_set_ne hne]; exact this⟩
  simp only [List.getD_eq_getElem?_getD, List.getElem?_set]
  split
  · split
    · exact hy
    · rename_i h1 h2; rw [h.n] at h2; omega
  · have := h.r c hc hr
    rwa [List.getD_eq_getElem?_getD] at this
theorem edgL_rch {F : Fn} (h : FnOk F) {b : Nat} (hb : b < F.bl.length) (hr : (rchL F).getD b false = true) : ∀ t ∈ (edgL F).getD b [], 1 ≤ t ∧ t < (F.bl.length : Int) ∧ (rchL F).getD t.toNat false = true := by
  intro t ht
  have h1 := edgL_mem h b t ht
  refine ⟨h1.1, h1.2, h.rch.2.2 b hb hr t ?_⟩
  have e : (edgL F).getD b [] = sortL (onceL (exT F.bl[b].x)) := by simp [edgL, toL, hb]
  rw [e] at ht
  have := mem_onceL.1 (sortL_mem.1 ht)
  have e2 : F.bl.getD b ⟨[], ⟨0, 0, 0, 0, 0⟩⟩ = F.bl[b] := by simp [hb]
  rw [e2]; exact this
theorem unT_ok {F : Fn} {b : Nat} {s : List Bool} {st : List (List Bool) × Bool} (h : UnOk F st.1) {t : Int} (ht : 0 ≤ t ∧ t < (F.bl.length : Int) ∧ (rchL F).getD t.toNat false = true) : UnOk F (unT F b s st t).1 ∧ allF (unT F b s st t).1 + (if (unT F b s st t).2 then 1 else 0) ≤ allF st.1 + (if st.2 then 1 else 0) := by
  have htn : t.toNat < F.bl.length := by omega
  have hr := h.r _ htn ht.2.2
  refine ⟨h.set_ _ ht.2.2 (by rw [jnB_len]; exact hr), ?_⟩
  have h1 := allF_set (ins := st.1) (b := t.toNat) (by rw [h.n]; exact htn) (jnB (st.1.getD t.toNat []) (tgtF F b s t) (st.1.getD t.toNat []).length)
  have h2 := falses_jn (st.1.getD t.toNat []) (tgtF F b s t) _ (Nat.le_refl _)
  unfold unT
  simp only
  by_cases hm : moB (st.1.getD t.toNat []) (tgtF F b s t) (st.1.getD t.toNat []).length = true
  · rw [hm] at h2 ⊢
    simp only [Bool.true_or, if_true] at h2 ⊢
    split <;> omega
  · have hm' : moB (st.1.getD t.toNat []) (tgtF F b s t) (st.1.getD t.toNat []).length = false := by simpa using hm
    rw [hm'] at h2 ⊢
    simp only [Bool.false_or, Bool.false_eq_true, if_false] at h2 ⊢
    split <;> omega
theorem unE_ok {F : Fn} {b : Nat} {s : List Bool} : ∀ (l : List Int) (st : List (List Bool) × Bool), UnOk F st.1 → (∀ t ∈ l, 0 ≤ t ∧ t < (F.bl.length : Int) ∧ (rchL F).getD t.toNat false = true) → UnOk F (unE F b s l st).1 ∧ allF (unE F b s l st).1 + (if (unE F b s l st).2 then 1 else 0) ≤ allF st.1 + (if st.2 then 1 else 0)
  | [], st, h, _ => ⟨h, Nat.le_refl _⟩
  | t :: l, st, h, hl => by
    have h1 := unT_ok (b := b) (s := s) h (hl t (List.mem_cons_self ..))
    have h2 := unE_ok (b := b) (s := s) l (unT F b s st t) h1.1 (fun x hx => hl x (List.mem_cons_of_mem _ hx))
    exact ⟨h2.1, Nat.le_trans h2.2 h1.2⟩
theorem falses_mono (l : List Bool) (k : Nat) : falses (l.set k true) ≤ falses l := by
  rcases Nat.lt_or_ge k l.length with h | h
  · cases hb : l.getD k false with
    | false => have := falses_set h hb; omega
    | true =>
      have : l.set k true = l := by
        have := set_getD_self l k
        rw [hb] at this; exact this
      rw [this]; exact Nat.le_refl _
  · rw [List.set_eq_of_length_le h]; exact Nat.le_refl _
theorem unB_ok {F : Fn} (hF : FnOk F) {u : Un} {b : Nat} (hb : b < F.bl.length) (h : UnOk F u.ins) (hd : u.dn.length = F.bl.length) : UnOk F (unB F u b).ins ∧ (unB F u b).dn.length = F.bl.length ∧ unM (unB F u b) + (if (unB F u b).mo then 1 else 0) ≤ unM u + (if u.mo then 1 else 0) := by
  unfold unB
  split
  · rename_i hr
    have h1 := unE_ok (b := b) (s := srcF F b (u.ins.getD b [])) ((edgL F).getD b []) (u.ins, u.mo) h (fun t ht => by have := edgL_rch hF hb hr t ht; exact ⟨by omega, this.2⟩)
    refine ⟨h1.1, by simp [hd], ?_⟩
    have h3 := h1.2
    simp only at h3
    unfold unM
    simp only
    cases hdb : u.dn.getD b false with
    | true =>
      have h4 := falses_mono u.dn b
      simp only [Bool.not_true, Bool.or_false]
      omega
    | false =>
      have h4 := falses_set (l := u.dn) (k := b) (by rw [hd]; exact hb) hdb
      simp only [Bool.not_false, Bool.or_true, if_true]
      have h5 : allF (unE F b (srcF F b (u.ins.getD b [])) ((edgL F).getD b []) (u.ins, u.mo)).1 ≤ allF u.ins + (if u.mo = true then 1 else 0) := Nat.le_trans (Nat.le_add_right _ _) h3
      omega
  · exact ⟨h, hd, Nat.le_refl _⟩
theorem unP_ok {F : Fn} (hF : FnOk F) {u : Un} (h : UnOk F u.ins) (hd : u.dn.length = F.bl.length) : ∀ k, k ≤ F.bl.length → UnOk F (unP F u k).ins ∧ (unP F u k).dn.length = F.bl.length ∧ unM (unP F u k) + (if (unP F u k).mo then 1 else 0) ≤ unM u + (if u.mo then 1 else 0)
  | 0, _ => ⟨h, hd, Nat.le_refl _⟩
  | k + 1, hk => by
    obtain ⟨a, b, c⟩ := unP_ok hF h hd k (by omega)
    obtain ⟨a', b', c'⟩ := unB_ok hF (u := unP F u k) (b := k) (by omega) a b
    exact ⟨a', b', Nat.le_trans c' c⟩
end Go.Proofs.YtlmoblmkhicoeaaGreatDoor

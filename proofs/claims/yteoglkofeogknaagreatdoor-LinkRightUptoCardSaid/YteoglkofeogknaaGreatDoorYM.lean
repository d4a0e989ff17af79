/- Walk: link.Symbols where there are few names. Conditions: what the theorem states. -/
import Derived.Test.YteoglkofeogknaaGreatDoorYS
import Derived.Test.YteoglkofeogknaaGreatDoorYK
import Derived.Maps.RangeWalk
set_option linter.unusedVariables false
set_option linter.unusedSimpArgs false
namespace Go.Proofs.YteoglkofeogknaaGreatDoor
open Go.RowKit
theorem keyS_inv {key : Value} {kl : Lit} (h : keyOf Tryz.prog 9 key = some kl) : ∃ s : ByteArray, key = .string s := by
  have hk : Tryz.prog.underlying 9 = some .string := Tryz.underlying9
  cases key <;> simp [keyOf, hk, mapKey] at h
  exact ⟨_, rfl⟩
theorem keyS_lit {s : ByteArray} {kl : Lit} (h : keyOf Tryz.prog 9 (.string s) = some kl) : kl = .string s.data.toList := by
  have hk : Tryz.prog.underlying 9 = some .string := Tryz.underlying9
  simp [keyOf, hk, mapKey] at h
  exact h.2.symm
/-- What has been gathered of a map. -/
structure GS (F : ByteArray → Option Value) (left : Lit → Bool) (xs : List Sy) : Prop where
  left : ∀ s : ByteArray, left (.string s.data.toList) = ((F s).isSome && !(xs.any fun x => decide (x.nm = s)))
  vals : ∀ x ∈ xs, F x.nm = some (.int .i64 x.at_)
  nodup : (xs.map Sy.nm).Nodup
theorem GS.step {F : ByteArray → Option Value} {left : Lit → Bool} {xs : List Sy} (h : GS F left xs) {x : ByteArray} {c : Int} (hl : left (.string x.data.toList) = true) (hv : F x = some (.int .i64 c)) : GS F (fun z => left z && !z.sameKey (.string x.data.toList)) (xs ++ [⟨x, c⟩]) := by
  have h0 := h.left x
  rw [hl] at h0
  have hn : (xs.any fun y => decide (y.nm = x)) = false := by
    cases hb : (xs.any fun y => decide (y.nm = x)) with
    | false => rfl
    | true => rw [hb] at h0; simp at h0
  refine ⟨fun s => ?_, fun y hy => ?_, ?_⟩
  · have hk : (Lit.string s.data.toList).sameKey (.string x.data.toList) = decide (x = s) := by
      show (s.data.toList == x.data.toList) = _
      by_cases e : x = s
      · subst e; simp
      · have : ¬ s.data = x.data := fun e2 => e (ByteArray.ext e2).symm
        simp [e, this]
    show (left (.string s.data.toList) && !_) = _
    rw [h.left s, hk, List.any_append]
    cases (F s).isSome <;> cases (xs.any fun x => decide (x.nm = s)) <;> simp
  · rcases List.mem_append.1 hy with hy | hy
    · exact h.vals y hy
    · obtain rfl := List.mem_singleton.1 hy
      exact hv
  · rw [List.map_append, List.nodup_append]
    refine ⟨h.nodup, by simp, fun a ha b hb e => ?_⟩
    simp at hb
    subst hb
    subst e
    obtain ⟨y, hy, rfl⟩ := List.mem_map.1 ha
    rw [List.any_eq_false] at hn
    exact hn y hy (by simp)
theorem nodup_le {α : Type} [DecidableEq α] : ∀ (l ks : List α), l.Nodup → (∀ x ∈ l, x ∈ ks) → l.length ≤ ks.length
  | [], _, _, _ => Nat.zero_le _
  | x :: l, ks, hn, h => by
    have hx := h x List.mem_cons_self
    rw [List.nodup_cons] at hn
    have ih := nodup_le l (ks.erase x) hn.2 (fun y hy => (List.mem_erase_of_ne (fun e => hn.1 (by rw [← e]; exact hy))).2 (h y (List.mem_cons_of_mem _ hy)))
    rw [List.length_erase_of_mem hx] at ih
    have : 0 < ks.length := List.length_pos_of_mem hx
    rw [List.length_cons]
    omega
def names3 : List ByteArray := [⟨#[97]⟩, ⟨#[115, 116, 97, 99, 107]⟩, ⟨#[115, 116, 97, 99, 107, 46, 101, 110, 100]⟩]
theorem OkY.mem {x : Sy} (h : OkY x) : x.nm ∈ names3 := by
  rcases h with ⟨_, h⟩ | ⟨_, h⟩ | ⟨_, h⟩ <;> (rw [h]; simp [names3])
theorem GS.few {F : ByteArray → Option Value} {left : Lit → Bool} {xs : List Sy} (h : GS F left xs) (hf : ∀ s v, F s = some v → ∃ x : Int, v = .int .i64 x ∧ OkY ⟨s, x⟩) : xs.length ≤ 3 ∧ ∀ x ∈ xs, OkY x := by
  have hok : ∀ x ∈ xs, OkY x := fun x hx => by
    obtain ⟨n, hn, hk⟩ := hf _ _ (h.vals x hx)
    injection hn with _ hn
    rw [← hn] at hk
    exact hk
  refine ⟨?_, hok⟩
  have h3 := nodup_le (xs.map Sy.nm) names3 h.nodup (fun s hs => by obtain ⟨x, hx, rfl⟩ := List.mem_map.1 hs; exact (hok x hx).mem)
  rw [List.length_map] at h3
  exact h3
/-- What Symbols answers. -/
def SmPost (F : ByteArray → Option Value) (w : World) (e : Ending) (w' : World) : Prop := ∃ vS ys, e = .returned (.tuple #[vS, .agg #[.int .i64 0, .int .i64 0]]) ∧ Below w.heap.size w w' ∧ SyOf w' vS ys ∧ ys.length ≤ 3 ∧ (∀ x ∈ ys, OkY x) ∧ (∀ s, (F s).isSome = true → ∃ x ∈ ys, x.nm = s) ∧ Up keyY ys
theorem SrtY.syof {w : World} {B g N cap : Nat} {xs : List Sy} (h : SrtY w B g N cap xs) : SyOf w (.slice (some ⟨g, 0, none⟩) N cap) xs := by
  obtain ⟨h1, h2, h3, h4⟩ := h.lt
  refine ⟨some ⟨g, 0, none⟩, cap, by rw [h.1], by rw [h.1]; exact h3, h4, fun _ => ⟨g, 0, rfl, h2, fun k hk => ?_⟩⟩
  obtain ⟨a, b⟩ := h.at_ hk
  have e : xs.getD k default = xs[k] := by simp [List.getD, hk]
  rw [e]
  exact ⟨by simpa using a, by simpa using b⟩
theorem arowY : ARow 22 55 2 24 := arow_of (z := .agg #[.string ⟨#[]⟩, .int .i64 0]) Tryz.underlying22 (by kernel_rfl) (by rfl) (by decide)
def OwnY (w : World) (B : Nat) (v : Value) (xs : List Sy) : Prop := w.ownsRow B 55 2 v xs.length (xs.flatMap Sy.cells)
theorem OwnY.snoc {w : World} {B : Nat} {v : Value} {xs : List Sy} (h : OwnY w B v xs) (x : Sy) (hl : xs.length ≤ 1099511627776) (hB : B ≤ w.heap.size) :
    ∃ v' w', (Builtin.append_ #[22, 22] 22 #[v, .slice (some ⟨w.heap.size, 0, none⟩) 1 1]).run Tryz.prog (w.alloc (.cells #[.string x.nm, .int .i64 x.at_] 55)) = .ok v' w' ∧ OwnY w' B v' (xs ++ [x]) ∧ (w.alloc (.cells #[.string x.nm, .int .i64 x.at_] 55)).grownBy w' v.ownBlock ∧ (v'.ownBlock = v.ownBlock ∨ v'.ownBlock = some (w.alloc (.cells #[.string x.nm, .int .i64 x.at_] 55)).heap.size) := by
  have hu : RowOf (w.alloc (.cells #[.string x.nm, .int .i64 x.at_] 55)) (.slice (some ⟨w.heap.size, 0, none⟩) 1 1) 1 x.cells := ⟨_, 1, rfl, Nat.le_refl _, by decide, fun _ => ⟨w.heap.size, 0, rfl, by simp, fun j u hj => by
    have := (Blk.new w 55 #[.string x.nm, .int .i64 x.at_]).cell (0 + j)
    rw [this]
    simpa [Sy.cells] using hj⟩⟩
  obtain ⟨v', w', r1, r2, r3, r4⟩ := app_any arowY 22 (own_below h ((Below.refl _ _).alloc (Nat.le_refl _) (.cells #[.string x.nm, .int .i64 x.at_] 55))) hu (by simp [Sy.cells]) (by intro y hy; simp [Sy.cells] at hy; rcases hy with rfl | rfl <;> rfl) (by unfold maxLen; omega) (by omega) (by simp; omega)
  refine ⟨v', w', r1, ?_, r3, r4⟩
  unfold OwnY
  rw [List.length_append, List.flatMap_append]
  simpa using r2
set_option maxRecDepth 100000 in
set_option maxHeartbeats 4000000 in
theorem symbols_any (vX v : Value) (ex : List Rng) (os : List Ob) (w : World) (hX : RSlice w vX ex) (h : OsAt w v os) (ho : OpsAt w) (h0 : 0 < w.heap.size) (hnm : ∀ o ∈ os, NmOK o) (hN : os.length ≤ 1073741824) (hB : ∀ k, k ≤ os.length → SzOK (joinO (os.take k))) (hxl : ex.length ≤ 4194304)
    (hst : stF ex os = (0, 0)) (hf : ∀ s v, NF (jres os).1 (layR (jres os).1 ex) s = some v → ∃ x : Int, v = .int .i64 x ∧ OkY ⟨s, x⟩) (hsome : ∃ s, (NF (jres os).1 (layR (jres os).1 ex) s).isSome = true) :
    Calls Tryz.prog 14 #[vX, v] w (SmPost (NF (jres os).1 (layR (jres os).1 ex)) w) := by
  obtain ⟨p, hp⟩ : ∃ p, w.heap.size = p := ⟨_, rfl⟩
  have HP := Lib.hid hp
  obtain ⟨W0, hW0⟩ : ∃ W0, w.alloc (.cells #[.int .i64 0, .int .i64 0] 34) = W0 := ⟨_, rfl⟩
  have hb0 : Below w.heap.size w W0 := by rw [← hW0]; exact (Below.refl _ _).alloc (Nat.le_refl _) _
  have HF0 : Hid (Blk W0 p 34 #[.int .i64 0, .int .i64 0]) := by rw [← hW0, ← hp]; exact Blk.new w _ _
  have HS0 : Hid (W0.heap.size = p + 1) := by show _ = _; rw [← hW0, ← hp]; simp
  have HST := Lib.hid (start_any vX v ex os W0 (hX.below hb0) (h.below hb0) (ho.below h0 hb0) (Nat.lt_of_lt_of_le h0 hb0.size) hnm hN hB hxl)
  have HB0 := Lib.hid hb0
  obtain ⟨F, hF⟩ : ∃ F, NF (jres os).1 (layR (jres os).1 ex) = F := ⟨_, rfl⟩
  rw [hF] at hf hsome ⊢
  have HNF := Lib.hid hF
  clear hF
  have HF := Lib.hid hf
  have HSF := Lib.hid hst
  clear hX h ho h0 hnm hN hB hb0 hf hst
  go_enter Tryz.func14, Tryz.ntmps14
  go_wp2_with fail
  try rw [hp]
  try rw [hW0]
  clear hW0 hp
  refine HST.out.mono ?_
  rintro e w1 ⟨pv, rfl, hb1, hpo⟩
  rw [HSF.out] at hpo ⊢
  dsimp only at hpo ⊢
  obtain ⟨k, z1, z2, z3, z4, vR, bN, bP, n, m, rfl, hlk, hob, hrg, hmN, hmP⟩ := hpo rfl
  have hmN : MapV w1 bN n F := by rw [← HNF.out]; exact hmN
  have HB1 := Lib.hid hb1
  have HF1 := Lib.hid (HF0.out.below hb1 HF0.out.lt)
  have HLK := Lib.hid hlk
  have HMN := Lib.hid hmN
  have HPS : Hid (p + 1 ≤ w1.heap.size) := by show _ ≤ _; rw [← HS0.out]; exact hb1.size
  clear hb1 HST hlk hob hrg hmN hmP
  obtain ⟨q, hq⟩ : ∃ q, w1.heap.size = q := ⟨_, rfl⟩
  go_upto_region 4 with fail
  obtain ⟨W2, hW2⟩ : ∃ W2, w1.alloc (.cells #[.int .i64 0, .int .i64 0] 34) = W2 := ⟨_, rfl⟩
  have hb2 : Below w1.heap.size w1 W2 := by rw [← hW2]; exact (Below.refl _ _).alloc (Nat.le_refl _) _
  rw [hW2]
  have HB2 := Lib.hid hb2
  have hl2 := Blk.below HLK.out hb2 (Blk.lt HLK.out)
  have k5 : W2.cell? ⟨k, 5, none⟩ = some (.map (some bN)) := by rw [hl2.cell]; rfl
  have HMV := Lib.hid (HMN.out.below hb2)
  obtain ⟨D, hown, hD⟩ := HMN.out.below hb2
  obtain ⟨r, hr⟩ : ∃ r, W2.heap.size = r := ⟨_, rfl⟩
  have HD := Lib.hid hD
  have HOWN := Lib.hid hown
  have HRR := Lib.hid hr
  clear hW2 hb2 hl2 hD hown hr hq
  go_wp2_with (first | (at_range; refine wpList_range_own W2 rfl _ 62 rfl 9 3 lawS Tryz.underlying62 RV bN n D rfl HOWN.out ?_; intro w3 hrg3 hg3 hs3) | go_in)
  rw [HRR.out] at hrg3 hs3 ⊢
  have hbr : bN < r := by
    have h1 := HMN.out.lt
    have h2 := HB2.out.size
    have h3 := HRR.out
    omega
  have hw1r : w1.heap.size ≤ r := by
    have h2 := HB2.out.size
    have h3 := HRR.out
    omega
  go_loopw [8] (fun ov W => ∃ (left : Lit → Bool) (cnt : Nat) (xs : List Sy), W.ranges Tryz.prog 9 RV bN r n D left cnt ∧ OwnY W (r + 1) ov xs ∧ Hid (GS F left xs) ∧ Hid (Below w1.heap.size w1 W) ∧ r + 1 ≤ W.heap.size) (fun _ W => W.rangeLeft bN r)
  case atStart =>
    refine ⟨_, _, [], hrg3, ⟨rfl, Or.inl ⟨rfl, rfl⟩⟩, Lib.hid ⟨fun s => ?_, fun x hx => (by cases hx), by simp⟩, Lib.hid (HB2.out.grown hg3 HB2.out.size (fun j hj => by cases hj)), by omega⟩
    rw [(HD.out s).1]
    simp
  case round =>
    clear hrg3 hg3 hs3
    obtain ⟨left, cnt, xs, hrg, hoy, HG, HBW, hsz⟩ := hrel
    go_wp2_with (first | (at_next; refine wpList_next_ranges wr rfl _ rfl 9 lawS RV Value.string (fun c : Value => c) (fun key kl h => keyS_inv h) (fun v y hv => ⟨v, rfl⟩) bN r n D left cnt rfl hrg ?_ ?_) | go_in)
    · intro hc0 hl0
      have hall : ∀ s, (F s).isSome = true → ∃ x ∈ xs, x.nm = s := fun s hs => by
        have h := HG.out.left s
        rw [hl0, hs] at h
        cases hb : (xs.any fun x => decide (x.nm = s)) with
        | false => rw [hb] at h; simp at h
        | true =>
          rw [List.any_eq_true] at hb
          obtain ⟨x, hx, e⟩ := hb
          exact ⟨x, hx, by simpa using e⟩
      obtain ⟨hfew, hok⟩ := HG.out.few HF.out
      obtain ⟨g, cap, hov⟩ : ∃ g cap, u8 = .slice (some ⟨g, 0, none⟩) xs.length cap := by
        obtain ⟨s, hs⟩ := hsome
        obtain ⟨x, hx, _⟩ := hall s hs
        have h := hoy
        unfold OwnY at h
        cases xs with
        | nil => cases hx
        | cons y ys => exact row_shape2 h
      subst hov
      obtain ⟨N, hN⟩ : ∃ N, xs.length = N := ⟨_, rfl⟩
      have hsrt : SrtY wr (r + 1) g N cap xs := ⟨hN, by have h := hoy; unfold OwnY at h; rw [hN] at h; exact h⟩
      have hgr := hsrt.lt.1
      have HSO := Lib.hid (sortY (r + 1) g N cap xs wr hsrt (by omega) hok)
      have HALL := Lib.hid hall
      have HOK := Lib.hid hok
      have HN3 : Hid (xs.length ≤ 3) := Lib.hid hfew
      rw [hN]
      clear hall hok hfew hsrt hoy hrg hc0 hl0 hN
      go_wp2_with fail
      refine HSO.out.mono ?_
      rintro e w9 ⟨rfl, ys, q1, q2, q3⟩
      have hw9 : Below w1.heap.size w1 w9 := HBW.out.trans (q3.low (fun i hi e => by have := HBW.out.size; omega) HBW.out.size)
      have hF9 := HF1.out.below hw9 HF1.out.lt
      have HFO := Lib.hid (fault_out hF9 (keeps_of_below (fun _ => False) (HB0.out.trans ((HB1.out.trans (hw9.mono HB1.out.size)).mono HB0.out.size))) (by rw [HP.out]; exact Nat.le_refl _) (.int .i64 0) (.int .i64 0))
      have l0 : w9.cell? ⟨p, 0, none⟩ = some (.int .i64 0) := by rw [hF9.cell]; rfl
      have l1 : w9.cell? ⟨p, 1, none⟩ = some (.int .i64 0) := by rw [hF9.cell]; rfl
      have fl0 := hF9.frozen 0
      have fl1 := hF9.frozen 1
      have HQ := Lib.hid (And.intro q1 q2)
      have hgp : ¬ g = p := by have := HPS.out; omega
      clear q1 q2 q3 hw9 hF9
      go_wp2_with fail
      try go_region
      all_goals
        obtain ⟨W3, hW3, h1, h2⟩ := HFO.out
        have hks : Keeps (fun i => i = p) w9 W3 := by rw [hW3]; exact ((Keeps.refl (fun i => i = p) w9).setCell (p := ⟨p, 0, none⟩) (Or.inr rfl) _).setCell (p := ⟨p, 1, none⟩) (Or.inr rfl) _
        rw [← hW3]
        have z0 := h1.cell 0
        have z1 := h1.cell 1
        refine bodyPost_ret (v := .tuple #[.slice (some ⟨g, 0, none⟩) N cap, .agg #[.int .i64 0, .int .i64 0]]) (by simp [results, Tryz.results14, z0, z1, go_sem]) rfl ?_
        obtain ⟨q1, q2⟩ := HQ.out
        exact ⟨_, ys, rfl, h2.below, (q2.keep hks hgp).syof, by rw [q1.len]; exact HN3.out, fun x hx => HOK.out x (q1.mem hx), fun s hs => by
          obtain ⟨x, hx, e⟩ := HALL.out s hs
          exact ⟨x, Same.mem (fun k => (q1.same k).symm) hx, e⟩, q1.up⟩
    · intro x c kl y1 y2 w5 cnt5 hkey hlx hvy hat hrg5 hlt hg5 hs5 hen
      have hkl := keyS_lit hkey
      subst hkl
      have hy : y1 = .held c := by unfold RV at hvy; injection hvy with hvy; injection hvy with hvy _; exact hvy.symm
      subst hy
      have hF5 : F x = some c := by
        have h1 := HG.out.left x
        rw [hlx] at h1
        have h2 := (HD.out x).2 (.lit (.int .i64 0))
        rw [hat] at h2
        cases hc : F x with
        | none => rw [hc] at h1; simp at h1
        | some u =>
          rw [hc] at h2
          have h3 : DataW.held c = DataW.held u := h2
          injection h3 with h3
          rw [h3]
      obtain ⟨n5, rfl, hk5⟩ := HF.out _ _ hF5
      obtain ⟨hfew, _⟩ := HG.out.few HF.out
      have HG5 := Lib.hid (HG.out.step hlx hF5)
      have hoy5 : OwnY w5 (r + 1) u8 xs := ownsRow_keeps hoy ((Keeps.refl (fun i => i = r) wr).grown hg5 (fun g hg => Or.inr (by injection hg with hg; exact hg.symm))) (fun g hg e => by have := own_ge hoy hg; omega)
      obtain ⟨v', w6, r1, r2, r3, r4⟩ := OwnY.snoc hoy5 ⟨x, n5⟩ (by omega) (by omega)
      dsimp only at r1 r3
      have hge : ∀ g, u8.ownBlock = some g → r + 1 ≤ g := fun g hg => own_ge hoy hg
      have hrg6 := (hrg5.alloc (.cells #[.string x, .int .i64 n5] 55)).kept r3 (fun e => by have := hge bN e.symm; omega) (fun e => by have := hge r e.symm; omega)
      have HB6 : Hid (Below w1.heap.size w1 w6) := Lib.hid (((HBW.out.grown hg5 HBW.out.size (fun j hj => by injection hj with hj; omega)).alloc (by rw [hs5]; exact HBW.out.size) _).grown r3 (by have := HBW.out.size; simp; omega) (fun j hj => by have := hge j hj; omega))
      have hsz6 : r + 1 ≤ w6.heap.size := by have h1 : (w5.alloc (.cells #[.string x, .int .i64 n5] 55)).heap.size ≤ w6.heap.size := r3.size; have h2 : w5.heap.size ≤ (w5.alloc (.cells #[.string x, .int .i64 n5] 55)).heap.size := by simp
                                             omega
      rw [hs5] at r1
      have HR := Lib.hid r1
      clear r1 hF5 hk5 hfew hoy5 hat
      go_wp2_with (first | (at_builtin; refine wpList_append_eq rfl (.tmp 31) (.tmp 35) 22 rfl rfl rfl HR.out ?_) | go_in)
      go_roundw
      case rel => exact ⟨_, _, _, hrg6, r2, HG5, HB6, hsz6⟩
      case measure => rw [hrg6.left_eq, hrg.left_eq]; exact hlt
end Go.Proofs.YteoglkofeogknaaGreatDoor

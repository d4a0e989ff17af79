/- Plain: the spots rise. No conditions. Walks: the law's moved, where something is. Conditions: the function lies. Plain: the rows of what may be unset, and of the sets. No conditions. -/
import Derived.Test.YtlmoblmkhicoeaaGreatDoorN1
set_option linter.unusedVariables false
set_option linter.unusedSimpArgs false
namespace Go.Proofs.YtlmoblmkhicoeaaGreatDoor
def ltS (x y : Sp) : Prop := x.b < y.b ∨ (x.b = y.b ∧ (x.o < y.o ∨ (x.o = y.o ∧ x.r < y.r)))
theorem seeF_mem {F : Fn} {b op : Nat} {s : List Bool} {l : List Int} (hl : ∀ r ∈ l, 0 ≤ r ∧ r < F.rs) : ∀ x ∈ seeF F b op s l, x.b = b ∧ x.o = op ∧ 0 ≤ x.r ∧ x.r < F.rs := by
  intro x hx
  unfold seeF at hx
  obtain ⟨r, hr, rfl⟩ := List.mem_map.1 hx
  have := hl r (sortL_mem.1 (mem_compact (List.mem_filter.1 hr).1))
  exact ⟨rfl, rfl, this.1, this.2⟩
theorem seeF_up (F : Fn) (b op : Nat) (s : List Bool) (l : List Int) : (seeF F b op s l).Pairwise ltS := by
  unfold seeF
  rw [List.pairwise_map]
  exact ((compact_rising (sortL_sorted l)).filter _).imp (fun h => Or.inr ⟨rfl, Or.inr ⟨rfl, h⟩⟩)
theorem opsN_ok {F : Fn} (hF : FnOk F) (b : Nat) (s : List Bool) : ∀ j, j ≤ (blk F b).os.length → (∀ x ∈ opsN F b s j, x.b = b ∧ x.o < j ∧ 0 ≤ x.r ∧ x.r < F.rs) ∧ (opsN F b s j).Pairwise ltS
  | 0, _ => ⟨fun x hx => by simp [opsN] at hx, by simp [opsN]⟩
  | j + 1, hj => by
    obtain ⟨h1, h2⟩ := opsN_ok hF b s j (by omega)
    rw [opsN, os_getD (by omega)]
    have hm := seeF_mem (b := b) (op := j) (s := s) (askL_reg (op_ok hF (show j < (blk F b).os.length by omega)))
    refine ⟨fun x hx => ?_, List.pairwise_append.2 ⟨h2, seeF_up _ _ _ _ _, fun x hx y hy => ?_⟩⟩
    · rcases List.mem_append.1 hx with hx | hx
      · have := h1 x hx; exact ⟨this.1, by omega, this.2.2⟩
      · have := hm x hx; exact ⟨this.1, by omega, this.2.2⟩
    · have a := h1 x hx
      have c := hm y hy
      exact Or.inr ⟨by omega, Or.inl (by omega)⟩
theorem exiF_ok {F : Fn} (hF : FnOk F) (b : Nat) (s : List Bool) : (∀ x ∈ exiF F b s, x.b = b ∧ x.o = (blk F b).os.length ∧ 0 ≤ x.r ∧ x.r < F.rs) ∧ (exiF F b s).Pairwise ltS := by
  unfold exiF
  split
  · exact ⟨fun x hx => by simp at hx, List.Pairwise.nil⟩
  · exact ⟨seeF_mem (exR_ok hF b), seeF_up _ _ _ _ _⟩
theorem warnN_ok {F : Fn} (hF : FnOk F) : ∀ k, (∀ x ∈ warnN F k, x.b < k ∧ x.o ≤ (blk F x.b).os.length ∧ 0 ≤ x.r ∧ x.r < F.rs) ∧ (warnN F k).Pairwise ltS
  | 0 => ⟨fun x hx => by simp [warnN] at hx, by simp [warnN]⟩
  | k + 1 => by
    obtain ⟨h1, h2⟩ := warnN_ok hF k
    rw [warnN]
    split
    · obtain ⟨a1, a2⟩ := opsN_ok hF k ((unL F).getD k []) _ (Nat.le_refl _)
      obtain ⟨c1, c2⟩ := exiF_ok hF k ((unL F).getD k [])
      refine ⟨fun x hx => ?_, List.pairwise_append.2 ⟨List.pairwise_append.2 ⟨h2, a2, fun x hx y hy => ?_⟩, c2, fun x hx y hy => ?_⟩⟩
      · rcases List.mem_append.1 hx with hx | hx
        · rcases List.mem_append.1 hx with hx | hx
          · have := h1 x hx; exact ⟨by omega, this.2⟩
          · have := a1 x hx; exact ⟨by omega, by rw [this.1]; omega, this.2.2⟩
        · have := c1 x hx; exact ⟨by omega, by rw [this.1]; omega, this.2.2⟩
      · have a := h1 x hx
        have c := a1 y hy
        exact Or.inl (by omega)
      · have c := c1 y hy
        rcases List.mem_append.1 hx with hx | hx
        · have a := h1 x hx; exact Or.inl (by omega)
        · have a := a1 x hx; exact Or.inr ⟨by omega, Or.inl (by omega)⟩
    · exact ⟨fun x hx => by have := h1 x hx; exact ⟨by omega, this.2⟩, h2⟩
/-- The spots of a right function. -/
theorem warnL_ok {F : Fn} (hF : FnOk F) : (∀ i (h : i < (warnL F).length), ((warnL F)[i]).b < F.bl.length ∧ ((warnL F)[i]).o ≤ (blk F ((warnL F)[i]).b).os.length ∧ 0 ≤ ((warnL F)[i]).r ∧ ((warnL F)[i]).r < F.rs) ∧ ∀ i (h : i + 1 < (warnL F).length), ltS ((warnL F)[i]'(by omega)) (warnL F)[i + 1] := by
  obtain ⟨h1, h2⟩ := warnN_ok hF F.bl.length
  have h2' : (warnL F).Pairwise ltS := h2
  exact ⟨fun i h => h1 _ (List.getElem_mem h), fun i h => (List.pairwise_iff_getElem.1 h2') i (i + 1) (by omega) h (by omega)⟩
end Go.Proofs.YtlmoblmkhicoeaaGreatDoor
namespace Go.Proofs.YtlmoblmkhicoeaaGreatDoor
open Go.RowKit
def mvO (r : Int) (o : Op) : Bool := o.d == r && (o.k == 2 || o.k == 28)
theorem mvB_eq (F : Fn) (r : Int) : mvB F r = F.bl.any (fun b => b.os.any (mvO r)) := rfl
set_option maxRecDepth 100000 in
set_option maxHeartbeats 4000000 in
theorem moved_any (F : Fn) (sv bv : Value) (r : Int) (w : World) (h : FnIn w F sv bv) (hm : mvB F r = true) :
    Calls Tryz.prog 9 #[fnv F sv bv, .int .i64 r] w fun e w' => e = .returned (.bool true) ∧ Below w.heap.size w w' := by
  obtain ⟨A, c, rfl, h1, h2⟩ := h.bl.form
  obtain ⟨As, cs, rfl, -, -⟩ := RowOf.form h.sl
  unfold maxLen at h2
  have hb1 := below1 w (.cells #[.string F.nm, .int .i64 F.ps, .int .i64 F.rs, .slice As F.sl.length cs, .slice A F.bl.length c] 25)
  have HBX := Lib.hid hb1
  have c4 : (w.alloc (.cells #[.string F.nm, .int .i64 F.ps, .int .i64 F.rs, .slice As F.sl.length cs, .slice A F.bl.length c] 25)).cell? ⟨w.heap.size, 4, none⟩ = some (.slice A F.bl.length c) := ((Blk.new w 25 #[.string F.nm, .int .i64 F.ps, .int .i64 F.rs, .slice As F.sl.length cs, .slice A F.bl.length c]).cell 4).trans rfl
  have hbs := h.sm.bl
  have HI := Lib.hid h
  have HM := Lib.hid hm
  clear h hb1 hm
  unfold fnv
  go_enter Tryz.func9, Tryz.ntmps9
  go_wp2_with fail
  go_loopw [12] (fun i wr => ∃ k : Nat, k ≤ F.bl.length ∧ i = .int .i64 k ∧ Hid ((F.bl.take k).any (fun b => b.os.any (mvO r)) = false) ∧ Hid (Below w.heap.size w wr)) (fun i _ => F.bl.length - (intOf i).toNat)
  case atStart => exact ⟨0, Nat.zero_le _, rfl, rfl, HBX.out⟩
  case round =>
    clear c4
    obtain ⟨k, hk, rfl, HF, HB⟩ := hrel
    by_cases hlt : k < F.bl.length
    · obtain ⟨g, off, cap, ea, h3, h4, hg, hc⟩ := (HI.out.bl.below HB.out).open_ (by omega)
      cases ea
      obtain ⟨ov, d0, d1, d2, d3, d4, d5, dos⟩ := hc k hlt
      obtain ⟨Ao, co, rfl, o1, o2⟩ := dos.form
      unfold maxLen at o2
      have hsm := HI.out.sm.os F.bl[k] (List.getElem_mem hlt)
      have has := any_step (p := fun b : Bl => b.os.any (mvO r)) hlt HF.out
      obtain ⟨bb, hbb⟩ : ∃ bb, F.bl[k] = bb := ⟨_, rfl⟩
      rw [hbb] at d0 d1 d2 d3 d4 d5 dos has hsm o1
      have hal := below1 wr (.cells #[.slice Ao bb.os.length co, .int .i64 bb.x.k, .int .i64 bb.x.a, .int .i64 bb.x.d, .int .i64 bb.x.t, .int .i64 bb.x.e] 45)
      have HO := Lib.hid (show OpsAt (wr.alloc (.cells #[.slice Ao bb.os.length co, .int .i64 bb.x.k, .int .i64 bb.x.a, .int .i64 bb.x.d, .int .i64 bb.x.t, .int .i64 bb.x.e] 45)) (.slice Ao bb.os.length co) bb.os ∧ Below w.heap.size w (wr.alloc (.cells #[.slice Ao bb.os.length co, .int .i64 bb.x.k, .int .i64 bb.x.a, .int .i64 bb.x.d, .int .i64 bb.x.t, .int .i64 bb.x.e] 45)) from ⟨dos.below hal, HB.out.trans (below_of_le hal HB.out.size)⟩)
      have HAS := Lib.hid has
      obtain ⟨W0, hW0⟩ : ∃ W0, wr.alloc (.cells #[.slice Ao bb.os.length co, .int .i64 bb.x.k, .int .i64 bb.x.a, .int .i64 bb.x.d, .int .i64 bb.x.t, .int .i64 bb.x.e] 45) = W0 := ⟨_, rfl⟩
      rw [hW0] at HO
      have HW0 := Lib.hid hW0
      clear hc dos has hbb hal HB hW0
      go_wp2_with fail
      rw [HW0.out]
      go_loopw [19] (fun i wr => ∃ j : Nat, j ≤ bb.os.length ∧ i = .int .i64 j ∧ Hid ((bb.os.take j).any (mvO r) = false) ∧ Hid (Below W0.heap.size W0 wr)) (fun i _ => bb.os.length - (intOf i).toNat)
      case atStart => exact ⟨0, Nat.zero_le _, rfl, rfl, Below.refl _ _⟩
      case round =>
        clear d0 d1 d2 d3 d4 d5 HW0
        obtain ⟨j, hj, rfl, HG, HB⟩ := hrel
        by_cases hjt : j < bb.os.length
        · obtain ⟨ga, oa, ca, ea, q3, q4, qg, qc⟩ := (HO.out.1.below HB.out).open_ (Nat.lt_of_le_of_lt (Nat.zero_le _) hjt)
          cases ea
          obtain ⟨av, x0, x1, x2, x3, x4, x5, x6, xar⟩ := qc j hjt
          obtain ⟨Aa, caa, rfl, -, -⟩ := xar.form
          have hjs := any_step (p := mvO r) hjt HG.out
          obtain ⟨o, ho⟩ : ∃ o, bb.os[j] = o := ⟨_, rfl⟩
          rw [ho] at x0 x1 x2 x3 x4 x5 x6 hjs
          have hal := below1 wr (.cells #[.int .i64 o.k, .int .i64 o.d, .int .i64 o.a, .int .i64 o.b, .int .i64 o.im, .string o.tx, .slice Aa o.ar.length caa] 75)
          have HB3 := Lib.hid (HB.out.trans (below_of_le hal HB.out.size))
          have HB4 := Lib.hid (HO.out.2.trans (below_of_le HB3.out HO.out.2.size))
          have HJS := Lib.hid hjs
          clear qc xar hal ho hjs HB
          cases hd : (o.d == r) with
          | false =>
            have HN := Lib.hid (HJS.out (by unfold mvO; rw [hd]; rfl))
            go_wp2_with fail
            go_roundw
            case rel => exact ⟨j + 1, by omega, by go_num, HN.out, HB3.out⟩
            case measure => simp [intOf]; omega
          | true =>
            cases h2k : (o.k == 2) with
            | true =>
              go_wp2_with fail
              go_ret
              exact ⟨rfl, HB4.out⟩
            | false =>
              cases h28 : (o.k == 28) with
              | true =>
                go_wp2_with fail
                go_ret
                exact ⟨rfl, HB4.out⟩
              | false =>
                have HN := Lib.hid (HJS.out (by unfold mvO; rw [hd, h2k, h28]; rfl))
                go_wp2_with fail
                go_roundw
                case rel => exact ⟨j + 1, by omega, by go_num, HN.out, HB3.out⟩
                case measure => simp [intOf]; omega
        · have HE := Lib.hid (HAS.out (any_end (Nat.le_of_not_lt hjt) HG.out))
          have hje : j = bb.os.length := by omega
          subst hje
          have HB5 := Lib.hid (HO.out.2.trans (below_of_le HB.out HO.out.2.size))
          clear HG HB
          go_wp2_with fail
          go_roundw
          case rel => exact ⟨k + 1, by omega, by go_num, HE.out, HB5.out⟩
          case measure => simp [intOf]; omega
    · have hn := any_end (Nat.le_of_not_lt hlt) HF.out
      have := HM.out
      rw [mvB_eq, hn] at this
      cases this
end Go.Proofs.YtlmoblmkhicoeaaGreatDoor
namespace Go.Proofs.YtlmoblmkhicoeaaGreatDoor
theorem ixsN_mem (l : List Bool) (r : Int) : ∀ k, r ∈ ixsN l k ↔ ∃ j : Nat, j < k ∧ r = (j : Int) ∧ l.getD j false = true
  | 0 => by simp [ixsN]
  | k + 1 => by
    have ih := ixsN_mem l r k
    rw [ixsN]
    constructor
    · intro h
      split at h
      · rename_i hk
        rcases List.mem_append.1 h with h | h
        · obtain ⟨j, a, b, c⟩ := ih.1 h
          exact ⟨j, by omega, b, c⟩
        · exact ⟨k, by omega, by simpa using h, hk⟩
      · obtain ⟨j, a, b, c⟩ := ih.1 h
        exact ⟨j, by omega, b, c⟩
    · rintro ⟨j, a, b, c⟩
      by_cases hj : j = k
      · subst hj
        rw [if_pos c]
        exact List.mem_append_right _ (by simpa using b)
      · have h2 : r ∈ ixsN l k := ih.2 ⟨j, by omega, b, c⟩
        split
        · exact List.mem_append_left _ h2
        · exact h2
theorem ixs_mem (l : List Bool) (r : Int) : r ∈ ixs l ↔ 0 ≤ r ∧ l.getD r.toNat false = true := by
  rw [ixs, ixsN_mem]
  constructor
  · rintro ⟨j, a, rfl, c⟩
    exact ⟨by omega, by simpa using c⟩
  · rintro ⟨a, b⟩
    refine ⟨r.toNat, ?_, by omega, b⟩
    rcases Nat.lt_or_ge r.toNat l.length with h | h
    · exact h
    · have : l.getD r.toNat false = false := by simp [h]
      rw [this] at b; cases b
theorem UnOk.len {F : Fn} {ins : List (List Bool)} (h : UnOk F ins) (k : Nat) : (ins.getD k []).length ≤ F.rs.toNat := by
  rcases Nat.lt_or_ge k F.bl.length with hk | hk
  · cases hr : (rchL F).getD k false with
    | true => rw [h.r k hk hr]; exact Nat.le_refl _
    | false => rw [h.z k hk hr]; exact Nat.zero_le _
  · have : ins.getD k [] = [] := by
      have : ins.length ≤ k := by rw [h.n]; exact hk
      simp [this]
    rw [this]; exact Nat.zero_le _
/-- What a row of Unset tells. -/
theorem unL_row {F : Fn} (hF : FnOk F) (hu : UnOk F (unL F)) {k : Nat} {r : Int} (h : r ∈ ixs ((unL F).getD k [])) : 0 ≤ r ∧ r < F.rs ∧ (r < F.ps → anL F = [] → mvB F r = true) := by
  obtain ⟨h1, h2⟩ := (ixs_mem _ _).1 h
  have hl := hu.len k
  have h0 := hF.p0
  have h3 := hF.pr
  have h4 : r.toNat < ((unL F).getD k []).length := by
    rcases Nat.lt_or_ge r.toNat ((unL F).getD k []).length with h | h
    · exact h
    · have : ((unL F).getD k []).getD r.toNat false = false := by rw [List.getD_eq_getElem?_getD, List.getElem?_eq_none h]; rfl
      rw [this] at h2; cases h2
  refine ⟨h1, by omega, fun hp hn => ?_⟩
  have := unL_moved hF hn k r.toNat (by omega) h2
  rwa [show ((r.toNat : Nat) : Int) = r by omega] at this
theorem ixs_le (l : List Bool) : (ixs l).length ≤ l.length := ixsN_len l _
theorem anN_at {F : Fn} : ∀ k, (∀ x ∈ anN F k, x.b < k ∧ setF F x.b = true ∧ x.kp = keptF F x.b ∧ x.ri = riskF F x.b) ∧ (anN F k).Pairwise (fun x y => x.b < y.b)
  | 0 => ⟨fun x h => by simp [anN] at h, by simp [anN]⟩
  | k + 1 => by
    obtain ⟨h1, h2⟩ := anN_at (F := F) k
    rw [anN]
    split
    · rename_i hs
      refine ⟨fun x h => ?_, List.pairwise_append.2 ⟨h2, by simp, fun x hx y hy => ?_⟩⟩
      · rcases List.mem_append.1 h with h | h
        · have := h1 x h; exact ⟨by omega, this.2⟩
        · have : x = ⟨k, keptF F k, riskF F k⟩ := by simpa using h
          subst this
          exact ⟨Nat.lt_succ_self k, hs, rfl, rfl⟩
      · have : y = ⟨k, keptF F k, riskF F k⟩ := by simpa using hy
        subst this
        exact (h1 x hx).1
    · exact ⟨fun x h => by have := h1 x h; exact ⟨by omega, this.2⟩, h2⟩
theorem anN_step {F : Fn} (k : Nat) : (anN F (k + 1)).length = (anN F k).length + (if setF F k then 1 else 0) := by
  rw [anN]
  split
  · simp
  · simp
theorem anL_ok (F : Fn) : (∀ i (h : i < (anL F).length), ((anL F)[i]).b < F.bl.length ∧ setF F ((anL F)[i]).b = true ∧ ((anL F)[i]).kp = keptF F ((anL F)[i]).b ∧ ((anL F)[i]).ri = riskF F ((anL F)[i]).b) ∧ ∀ i (h : i + 1 < (anL F).length), ((anL F)[i]'(by omega)).b < ((anL F)[i + 1]).b := by
  obtain ⟨h1, h2⟩ := anN_at (F := F) F.bl.length
  have h2' : (anL F).Pairwise (fun x y => x.b < y.b) := h2
  exact ⟨fun i h => h1 _ (List.getElem_mem h), fun i h => (List.pairwise_iff_getElem.1 h2') i (i + 1) (by omega) h (by omega)⟩
theorem setF_k {F : Fn} {b : Nat} (h : setF F b = true) : (rchL F).getD b false = true ∧ (blk F b).x.k = 4 := by
  unfold setF at h
  have := Bool.and_eq_true _ _ ▸ h
  exact ⟨this.1, eq_of_beq this.2⟩
theorem kept_live {F : Fn} {b : Nat} {r : Int} (h : r ∈ keptF F b) : ((liveIn F).getD (blk F b).x.e.toNat []).contains r = true ∧ r ≠ (blk F b).x.d := by
  have := kept_mem h
  exact ⟨by simpa using this.1, this.2⟩
theorem risk_same {F : Fn} {b : Nat} {r : Int} (h : r ∈ keptF F b) (h0 : 0 ≤ r) : (riskF F b).contains r = (ixs (btL F b)).contains r := by
  have e : r ∈ riskF F b ↔ r ∈ ixs (btL F b) := by
    rw [ixs_mem, riskF, List.mem_filter]
    exact ⟨fun q => ⟨h0, q.2⟩, fun q => ⟨h, q.2⟩⟩
  rw [Bool.eq_iff_iff, List.contains_iff_mem, List.contains_iff_mem]
  exact e
theorem risk_kept {F : Fn} {b : Nat} {r : Int} (h : r ∈ riskF F b) : (keptF F b).contains r = true := by
  have := (List.mem_filter.1 h).1
  simpa using this
theorem btF_len (F : Fn) : ∀ f s, (btF F f s).ou.length = s.ou.length
  | 0, s => rfl
  | f + 1, s => by
    rw [btF]
    split
    · rfl
    · rw [btF_len F f]
      unfold btStep
      split
      · rfl
      · rw [btX_len, btO_len]
theorem btL_len (F : Fn) (b : Nat) : (btL F b).length = F.rs.toNat := by
  rw [btL, btF_len, bt0, List.length_replicate]
theorem ixs_btL {F : Fn} (hF : FnOk F) (b : Nat) : (ixs (btL F b)).length ≤ 4096 := by
  have h1 := ixs_le (btL F b)
  rw [btL_len] at h1
  have h2 := hF.r1
  omega
end Go.Proofs.YtlmoblmkhicoeaaGreatDoor

/- Walks: found. Conditions: the table of keywords; small parts. -/
import Derived.Test.YtlmoblmkhicoeaaGreatDoorLate
set_option linter.unusedVariables false
set_option linter.unusedSimpArgs false
namespace Go.Proofs.YtlmoblmkhicoeaaGreatDoor
open Go.RowKit
theorem FdS.below {w wb W W' : World} {F : Fn} {sv bv : Value} {gl gg m : Nat} {inv : Value} {gs : List Nat} {k : Nat} (h : FdS w wb F sv bv gl gg m inv gs k W) (hb : Below W.heap.size W W') : FdS w wb F sv bv gl gg m inv gs k W' :=
  ⟨h.s.below hb, h.bx.below hb h.bx.lt, fun g hg => Nat.lt_of_lt_of_le (h.lt g hg) hb.size, h.bw, h.be.trans (below_of_le hb h.be.size)⟩
set_option maxRecDepth 100000 in
set_option maxHeartbeats 4000000 in
theorem found_any (F : Fn) (sv bv : Value) (w : World) (h : FnIn w F sv bv) :
    Calls Tryz.prog 29 #[fnv F sv bv] w fun e w' => (fnB F = false ∧ e = .returned (.tuple #[.pointer none, errV F]) ∨ fnB F = true ∧ ∃ wb gl gg tov gr inv gs, e = .returned (.tuple #[.pointer (some ⟨gl, 0, none⟩), .int .i64 0]) ∧ LvB wb gg F sv bv tov gr ∧ LvS wb gl gg F.bl.length F.rs.toNat inv gs (liveL F) w') ∧ Below w.heap.size w w' := by
  obtain ⟨A, c, rfl, h1, h2⟩ := h.bl.form
  obtain ⟨As, cs, rfl, -, -⟩ := RowOf.form h.sl
  unfold maxLen at h2
  have hb1 := below1 w (.cells #[.string F.nm, .int .i64 F.ps, .int .i64 F.rs, .slice As F.sl.length cs, .slice A F.bl.length c] 25)
  have HD := Lib.hid (drawn_any F (.slice As F.sl.length cs) (.slice A F.bl.length c) _ (h.below hb1))
  have HE := Lib.hid (show fnB F = false → errV F = .int .i64 180 from fun hb => by rw [errV, hb]; rfl)
  have HBX := Lib.hid (And.intro (Blk.new w 25 (fnA F (.slice As F.sl.length cs) (.slice A F.bl.length c))) hb1)
  have HI := Lib.hid h
  clear h hb1
  unfold fnv at HD
  unfold fnA at HBX
  unfold fnv
  go_enter Tryz.func29, Tryz.ntmps29
  go_wp2_with fail
  refine HD.out.mono ?_
  rintro e w1 ⟨⟨hb, rfl⟩ | ⟨hb, gg, rfl, hgr⟩, hb1⟩
  · have hb2 := Lib.hid (HBX.out.2.trans (below_of_le hb1 HBX.out.2.size))
    have HB := Lib.hid hb
    rw [HE.out hb]
    clear hb hb1
    go_wp2_with fail
    refine bodyPost_ret (v := .tuple #[.pointer none, .int .i64 180]) (by simp [results, Tryz.results29, go_sem]) rfl ⟨Or.inl ⟨HB.out, by rw [HE.out HB.out]⟩, hb2.out⟩
  · obtain ⟨hge, tov, gr, hg, how, hbr, hggr⟩ := hgr
    have hb2 := HBX.out.2.trans (below_of_le hb1 HBX.out.2.size)
    have hbx := HBX.out.1.below hb1 HBX.out.1.lt
    have HB := Lib.hid hb
    have HBXW := Lib.hid (And.intro hbx hb2)
    have HLB := Lib.hid (show LvB w1 gg F (.slice As F.sl.length cs) (.slice A F.bl.length c) tov gr from ⟨hg, how.to, hbr, HI.out.below hb2, fnB_ok hb⟩)
    have hn1 := HLB.out.ok.b1
    have hn2 := HLB.out.ok.b2
    obtain ⟨hrs, hrs2⟩ := HLB.out.ok.rsN
    obtain ⟨m, hm⟩ : ∃ m, F.rs.toNat = m := ⟨_, rfl⟩
    rw [hm] at hrs hrs2
    have HM := Lib.hid (And.intro hm hrs)
    obtain ⟨gl, hgl⟩ : ∃ gl, w1.heap.size = gl := ⟨_, rfl⟩
    have hal := below1 w1 (.cells #[.pointer (some ⟨gg, 0, none⟩), .slice none 0 0] 88)
    have HST := Lib.hid (show FdS w w1 F (.slice As F.sl.length cs) (.slice A F.bl.length c) gl gg m (.slice none 0 0) [] 0 (w1.alloc (.cells #[.pointer (some ⟨gg, 0, none⟩), .slice none 0 0] 88)) from
      ⟨⟨by rw [← hgl]; exact Blk.new _ _ _, by omega, ⟨by simp, Or.inl ⟨rfl, rfl⟩⟩, rfl, rfl, fun i hi => by simp at hi, List.nodup_nil, fun g hg => by simp at hg, hal⟩, hbx.below hal hbx.lt, fun g hg => by simp at hg, hbx.lt, hb2.trans (below_of_le hal hb2.size)⟩)
    have f4 : (w1.alloc (.cells #[.pointer (some ⟨gg, 0, none⟩), .slice none 0 0] 88)).cell? ⟨w.heap.size, 4, none⟩ = some (.slice A F.bl.length c) := ((hbx.alloc _).cell 4).trans rfl
    clear hb hb1 hge hg how hbr hggr hb2 hbx hal hrs hm
    go_wp2_with fail
    go_loopw [24] (fun i wr => ∃ k : Nat, k ≤ F.bl.length ∧ i = .int .i64 k ∧ Hid (∃ inv gs, FdS w w1 F (.slice As F.sl.length cs) (.slice A F.bl.length c) gl gg m inv gs k wr)) (fun i _ => F.bl.length - (intOf i).toNat)
    case atStart => exact ⟨0, Nat.zero_le _, rfl, _, _, HST.out⟩
    case round =>
      clear HST f4 hgl
      obtain ⟨k, hk, rfl, HW⟩ := hrel
      obtain ⟨inv, gs, hw⟩ := HW.out
      by_cases hlt : k < F.bl.length
      · obtain ⟨Ai, ci, rfl, i1, i2⟩ := RowOf.form (RowOf.own hw.s.ow)
        obtain ⟨v', w5, hap, hlb, ⟨Av, cv, rfl, q1, q2⟩, hF⟩ := (hw.below (drewB (Below.refl _ _))).grow (by omega) 86
        have hap' : (Builtin.append_ #[86, 86] 86 #[.slice Ai k ci, .slice (some ⟨wr.heap.size + 1, 0, none⟩) 1 1]).run Tryz.prog (((wr.alloc (.cells (Tryz.zeroCells110.setIfInBounds 64 (.int .i64 (m : Int))) 110)).alloc (.cells #[.pointer (some ⟨wr.heap.size, 0, none⟩)] 91)).drew) = .ok (.slice Av (k + 1) cv) w5 := hap
        have c1 : wr.cell? ⟨gl, 1, none⟩ = some (.slice Ai k ci) := (hw.s.lb.cell 1).trans rfl
        have c2 : wr.cell? ⟨w.heap.size, 2, none⟩ = some (.int .i64 (m : Int)) := (hw.bx.cell 2).trans (by rw [← HM.out.2]; rfl)
        have p1 : w5.cell? ⟨gl, 1, none⟩ = some (.slice Ai k ci) := (hlb.cell 1).trans rfl
        have p2 := hlb.frozen 1
        have p3 : w5.cell? ⟨w.heap.size, 2, none⟩ = some (.int .i64 (m : Int)) := (World.cell?_of_block (a := ⟨w.heap.size, 2, none⟩) (Below.heap_setCell w5 ⟨gl, 1, none⟩ _ w.heap.size (by show w.heap.size ≠ gl; have := hF.bw; have := hF.s.glb; omega))).symm.trans ((hF.bx.cell 2).trans (by rw [← HM.out.2]; rfl))
        have HF := Lib.hid hF
        clear hw HW hF hlb
        go_wp2_with fail
        refine wp_region_late (S := fun W' => W'.cell? ⟨gl, 1, none⟩ = some (.slice Ai k ci) ∧ W'.cell? ⟨w.heap.size, 2, none⟩ = some (.int .i64 (m : Int))) 13 (by kernel_rfl) ⟨c1, c2⟩ (fun hS0 => ?_)
        clear c1 c2
        refine wpAnyE_take (i := 0) (v := ?_) rfl (by kernel_rfl) (by kernel_rfl) (by kernel_rfl) 0 (by kernel_rfl) (fun _ _ _ h => h) (by assumption) (Or.inl ⟨by rfl, ?_⟩) ?_
        rotate_left 1
        · intro w' hSw
          obtain ⟨s0, s1⟩ := hSw
          go_simp
          try (with_reducible rfl)
        simp only [Act.put, List.setIfInBounds_toArray, List.set_cons_zero, List.set_cons_succ]
        refine wpAnyE_take (i := 1) (v := ?_) rfl (by kernel_rfl) (by kernel_rfl) (by kernel_rfl) 1 (by kernel_rfl) (fun _ _ _ h => h) (by assumption) (Or.inl ⟨by rfl, ?_⟩) ?_
        rotate_left 1
        · intro w' hSw
          obtain ⟨s0, s1⟩ := hSw
          go_simp
          try (with_reducible rfl)
        simp only [Act.put, List.setIfInBounds_toArray, List.set_cons_zero, List.set_cons_succ]
        refine wpAnyE_take (i := 2) (v := ?_) rfl (by kernel_rfl) (by kernel_rfl) (by kernel_rfl) 2 (by kernel_rfl) (fun _ _ _ h => h) (by assumption) (Or.inl ⟨by rfl, ?_⟩) ?_
        rotate_left 1
        · intro w' hSw
          obtain ⟨s0, s1⟩ := hSw
          go_simp
          try (with_reducible rfl)
        simp only [Act.put, List.setIfInBounds_toArray, List.set_cons_zero, List.set_cons_succ]
        refine wpAnyE_take (i := 3) (v := ?_) rfl (by kernel_rfl) (by kernel_rfl) (by kernel_rfl) 3 (by kernel_rfl) (fun _ _ _ h => h) (by assumption) (Or.inl ⟨by rfl, ?_⟩) ?_
        rotate_left 1
        · intro w' hSw
          obtain ⟨s0, s1⟩ := hSw
          go_simp
          try (with_reducible rfl)
        simp only [Act.put, List.setIfInBounds_toArray, List.set_cons_zero, List.set_cons_succ]
        refine wpAnyE_take (i := 4) (v := ?_) rfl (by kernel_rfl) (by kernel_rfl) (by kernel_rfl) 4 (by kernel_rfl) (fun _ _ _ h => h) (by assumption) (Or.inl ⟨by rfl, ?_⟩) ?_
        rotate_left 1
        · intro w' hSw
          obtain ⟨s0, s1⟩ := hSw
          go_simp
          try (with_reducible rfl)
        simp only [Act.put, List.setIfInBounds_toArray, List.set_cons_zero, List.set_cons_succ]
        refine wpAnyE_take (i := 5) (v := ?_) rfl (by kernel_rfl) (by kernel_rfl) (by kernel_rfl) 5 (by kernel_rfl) (fun _ _ _ h => h) (by assumption) (Or.inl ⟨by rfl, ?_⟩) ?_
        rotate_left 1
        · intro w' hSw
          obtain ⟨s0, s1⟩ := hSw
          go_simp
          try (with_reducible rfl)
        simp only [Act.put, List.setIfInBounds_toArray, List.set_cons_zero, List.set_cons_succ]
        refine wpAnyE_take (i := 6) (v := ?_) rfl (by kernel_rfl) (by kernel_rfl) (by kernel_rfl) 6 (by kernel_rfl) (fun _ _ _ h => h) (by assumption) (Or.inl ⟨by rfl, ?_⟩) ?_
        rotate_left 1
        · intro w' hSw
          obtain ⟨s0, s1⟩ := hSw
          go_simp
          try (with_reducible rfl)
        simp only [Act.put, List.setIfInBounds_toArray, List.set_cons_zero, List.set_cons_succ]
        refine wpAnyE_take (i := 7) (v := ?_) rfl (by kernel_rfl) (by kernel_rfl) (by kernel_rfl) 7 (by kernel_rfl) (fun _ _ _ h => h) (by assumption) (Or.inl ⟨by rfl, ?_⟩) ?_
        rotate_left 1
        · intro w' hSw
          obtain ⟨s0, s1⟩ := hSw
          go_simp
          try (with_reducible rfl)
        simp only [Act.put, List.setIfInBounds_toArray, List.set_cons_zero, List.set_cons_succ]
        refine wpAnyE_ready (rs := [8]) (by kernel_rfl) (by simp) ?_
        refine AllReadyE.cons rfl (fun K hK => ?_) AllReadyE.nil
        go_simp
        refine hK.out _ _ (fun _ => ?_) (fun hSq => ?_)
        · exact ⟨cell_al hS0.1 _, cell_al hS0.2 _⟩
        have hS1 := hSq (by decide)
        clear hSq hK K
        try simp only [Act.put, List.setIfInBounds_toArray, List.set_cons_zero, List.set_cons_succ]
        refine wpAnyE_ready (rs := [9]) (by kernel_rfl) (by simp) ?_
        refine AllReadyE.cons rfl (fun K hK => ?_) AllReadyE.nil
        go_simp
        refine hK.out _ _ (fun _ => ?_) (fun hSq => ?_)
        · exact ⟨cell_al hS1.1 _, cell_al hS1.2 _⟩
        have hS2 := hSq (by decide)
        clear hSq hK K
        try simp only [Act.put, List.setIfInBounds_toArray, List.set_cons_zero, List.set_cons_succ]
        refine wpAnyE_ready (rs := [10]) (by kernel_rfl) (by simp) ?_
        refine AllReadyE.cons rfl (fun K hK => ?_) AllReadyE.nil
        first | refine step_append_eq (by rfl) (.tmp 30) (.tmp 35) 86 (by rfl) (by rfl) (by rfl) hap' ?_ | refine step_append_eq (by rfl) (.tmp 30) (.tmp 35) 86 (by rfl) (by rfl) (by rfl) hap ?_
        refine hK.out _ _ (fun _ => ⟨p1, p3⟩) (fun hSq => ?_)
        have hS5 := hSq (by decide)
        clear hSq hK K hS0 hS1 hS2
        try simp only [Act.put, List.setIfInBounds_toArray, List.set_cons_zero, List.set_cons_succ]
        refine wpAnyE_ready (rs := [11]) (by kernel_rfl) (by simp) ?_
        refine AllReadyE.cons rfl (fun K hK => ?_) AllReadyE.nil
        go_simp
        refine hK.out _ _ (fun _ => hS5) (fun _ => ?_)
        clear hK K
        try simp only [Act.put, List.setIfInBounds_toArray, List.set_cons_zero, List.set_cons_succ]
        refine wpAnyE_ready (rs := [12]) (by kernel_rfl) (by simp) ?_
        refine AllReadyE.cons rfl (fun K hK => ?_) AllReadyE.nil
        go_simp
        refine hK.out _ _ (fun _ => hS5) (fun _ => ?_)
        clear hK K
        try simp only [Act.put, List.setIfInBounds_toArray, List.set_cons_zero, List.set_cons_succ]
        refine wpAnyE_ready (rs := [13]) (by kernel_rfl) (by simp) ?_
        refine AllReadyE.cons rfl (fun K hK => ?_) AllReadyE.nil
        go_simp
        refine hK.out _ _ (fun h => absurd rfl h) (fun _ => ?_)
        clear hK K
        try simp only [Act.put, List.setIfInBounds_toArray, List.set_cons_zero, List.set_cons_succ]
        refine wpAnyE_done (by kernel_rfl) ?_ _
        clear p1 p2 p3 hS5
        go_wp2_with fail
        go_roundw
        case rel => exact ⟨k + 1, by omega, by go_num, _, _, HF.out⟩
        case measure => simp [intOf]; omega
      · have hke : k = F.bl.length := by omega
        subst hke
        obtain ⟨gi, ci, rfl⟩ := own_some hw.s.ow (by omega)
        have hcm := (own_parts hw.s.ow).2.2.2.1
        have hcn := (own_parts hw.s.ow).2.2.1
        unfold maxLen at hcm
        have HS := Lib.hid hw.s
        clear hw HW hk hlt
        go_wp2_with fail
        go_loopg [7] (totAll (ins0 F.bl.length) + 1) (fun f gv wr => ∃ (ins : List (List Nat)) (b : Bool), gv = .bool b ∧ Hid (LvS w1 gl gg F.bl.length m (.slice (some ⟨gi, 0, none⟩) F.bl.length ci) gs ins wr) ∧ Hid (if b = true then totAll ins < f ∧ liveF F f ins = liveL F else ins = liveL F))
        case atStart => exact ⟨ins0 F.bl.length, true, rfl, HS.out, by rw [if_pos rfl]; exact ⟨Nat.lt_succ_self _, rfl⟩⟩
        case round =>
          clear HS
          obtain ⟨ins, b, rfl, HL, HV⟩ := hrel
          cases b with
          | false =>
            have hv := HV.out
            rw [if_neg (by decide)] at hv
            subst hv
            clear HV
            go_wp2_with fail
            refine bodyPost_ret (v := .tuple #[.pointer (some ⟨gl, 0, none⟩), .int .i64 0]) (by simp [results, Tryz.results29, go_sem]) rfl ⟨Or.inr ⟨HB.out, w1, gl, gg, tov, gr, _, gs, rfl, HLB.out, by rw [HM.out.1]; exact HL.out⟩, HBXW.out.2.trans (below_of_le HL.out.be HBXW.out.2.size)⟩
          | true =>
            have hv := HV.out
            rw [if_pos rfl] at hv
            obtain ⟨f, rfl⟩ : ∃ f, gk = f + 1 := ⟨gk - 1, by omega⟩
            have HV2 := Lib.hid hv
            clear hv HV
            have HSC := Lib.hid (second_any gl gg F _ _ tov gr _ gs ins wr ((show LvS w1 gl gg F.bl.length F.rs.toNat _ gs ins wr from by rw [HM.out.1]; exact HL.out).at_ HLB.out))
            go_wp2_with fail
            refine HSC.out.mono ?_
            rintro e w3 ⟨⟨gc, rfl, hgc, hsc⟩, hb3⟩
            rw [HM.out.1] at hsc
            obtain ⟨sec, hsec⟩ : ∃ sec, secP F ins F.bl.length = sec := ⟨_, rfl⟩
            rw [hsec] at hsc
            have HNE := Lib.hid (show ∀ j g, gs[j]? = some g → ¬ gc = g from fun j g hg e => by
              subst e
              have hjl : j < gs.length := by
                rcases Nat.lt_or_ge j gs.length with h1 | h1
                · exact h1
                · rw [List.getElem?_eq_none h1] at hg; cases hg
              rw [List.getElem?_eq_getElem hjl] at hg
              have := (HL.out.st j hjl (by rw [HL.out.il, ← HL.out.gn]; exact hjl)).lt
              rw [Option.some.inj hg] at this
              omega)
            have HL3 := Lib.hid (And.intro (HL.out.below hb3) hsc)
            have hrd : passP F sec F.bl.length (ins, false) = round F ins := by rw [← hsec]; rfl
            have HRD := Lib.hid hrd
            have f4 : w3.cell? ⟨w.heap.size, 4, none⟩ = some (.slice A F.bl.length c) := ((HBXW.out.1.below HL3.out.1.be HBXW.out.1.lt).cell 4).trans rfl
            have hw1 : wrap64 ((F.bl.length : Int) - 1) = (F.bl.length : Int) - 1 := by
              unfold wrap64; omega
            clear hgc hsc hb3 hsec hrd HSC HL
            go_wp2_with fail
            try rw [hw1]
            clear hw1 f4
            go_loopw [7, 9] (fun gv i wr => ∃ (j : Nat) (b2 : Bool) (ins2 : List (List Nat)), j ≤ F.bl.length ∧ i = .int .i64 ((j : Int) - 1) ∧ gv = .bool b2 ∧ Hid (LvS w1 gl gg F.bl.length m (.slice (some ⟨gi, 0, none⟩) F.bl.length ci) gs ins2 wr ∧ SetAt wr gc sec m) ∧ Hid (passP F sec j (ins2, b2) = round F ins ∧ totAll ins2 + (if b2 = true then 1 else 0) ≤ totAll ins)) (fun _ i _ => (intOf i + 1).toNat)
            case atStart => exact ⟨F.bl.length, false, ins, Nat.le_refl _, rfl, rfl, HL3.out, HRD.out, by simp⟩
            case round =>
              clear HL3 HRD
              obtain ⟨j, b2, ins2, hj, rfl, rfl, HW, HP⟩ := hrel
              cases j with
              | zero =>
                have HZ := Lib.hid (show (if b2 = true then totAll ins2 < f ∧ liveF F f ins2 = liveL F else ins2 = liveL F) from by
                  have e : round F ins = (ins2, b2) := HP.out.1.symm
                  have hl := HV2.out.2
                  have ht := HP.out.2
                  have hf := HV2.out.1
                  rw [liveF, e] at hl
                  cases b2 with
                  | true =>
                    rw [if_pos rfl] at ht
                    exact ⟨by omega, hl⟩
                  | false => exact hl)
                go_wp2_with fail
                go_roundg f
                case rel => exact ⟨ins2, b2, rfl, HW.out.1, HZ.out⟩
                case measure => omega
              | succ j =>
                have hej : (((j + 1 : Nat) : Int) - 1) = (j : Int) := by omega
                rw [hej]
                have hjl : j < F.bl.length := by omega
                have hjg : j < gs.length := by rw [HW.out.1.gn]; exact hjl
                have hji : j < ins2.length := by rw [HW.out.1.il]; exact hjl
                obtain ⟨g, hg⟩ : ∃ g, gs[j] = g := ⟨_, rfl⟩
                have hgq : gs[j]? = some g := by rw [List.getElem?_eq_getElem hjg, hg]
                have HGS := Lib.hid hgq
                have hst := HW.out.1.st j hjg hji
                rw [hg] at hst
                have eI : ins2[j] = ins2.getD j zeroW := by simp [hji]
                rw [eI] at hst
                have HAT := Lib.hid ((show LvS w1 gl gg F.bl.length F.rs.toNat _ gs ins2 wr from by rw [HM.out.1]; exact HW.out.1).at_ HLB.out)
                have y0 : wr.cell? ⟨gl, 0, none⟩ = some (.pointer (some ⟨gg, 0, none⟩)) := (HW.out.1.lb.cell 0).trans rfl
                have y1 : wr.cell? ⟨gl, 1, none⟩ = some (.slice (some ⟨gi, 0, none⟩) F.bl.length ci) := (HW.out.1.lb.cell 1).trans rfl
                have y6 : wr.cell? ⟨gg, 6, none⟩ = some (.slice (some ⟨gr, 0, none⟩) F.bl.length F.bl.length) := (HAT.out.gb.cell 6).trans rfl
                obtain ⟨rb, hrb, yr⟩ := HAT.out.rc.val j (by rw [HLB.out.ok.rch.1]; exact hjl)
                have yg : wr.cell? ⟨gi, j, none⟩ = some (.pointer (some ⟨g, 0, none⟩)) := (own_parts HW.out.1.ow).2.2.2.2.1 j _ (by rw [List.getElem?_map, hgq]; rfl)
                have hge' : (0 : Int) ≤ (j : Int) := by omega
                have hw2 : wrap64 ((j : Int) - 1) = (j : Int) - 1 := by
                  unfold wrap64; omega
                have hltI : (j : Int) < (F.bl.length : Int) := by omega
                cases rb with
                | false =>
                  have HPP := Lib.hid (show passP F sec j (ins2, b2) = round F ins from by
                    rw [← HP.out.1, passP, passS, hrb]; rfl)
                  have HP2 := Lib.hid HP.out.2
                  have HWN := Lib.hid (fun m => And.intro (HW.out.1.below (below_dN (Below.refl _ _) m)) (HW.out.2.below (below_dN (Below.refl _ _) m)))
                  clear hrb hgq hst hg eI HP hjg hji HW HAT HGS
                  go_wp2_with fail
                  have HCL : Hid (∀ W, Below wr.heap.size wr W → W.cell? ⟨gl, 0, none⟩ = some (.pointer (some ⟨gg, 0, none⟩)) ∧ W.cell? ⟨gl, 1, none⟩ = some (.slice (some ⟨gi, 0, none⟩) F.bl.length ci) ∧ W.cell? ⟨gg, 6, none⟩ = some (.slice (some ⟨gr, 0, none⟩) F.bl.length F.bl.length) ∧ W.cell? ⟨gr, j, none⟩ = some (.bool false) ∧ W.cell? ⟨gi, j, none⟩ = some (.pointer (some ⟨g, 0, none⟩))) := Lib.hid (fun W hW => ⟨(hW.cell (p := ⟨gl, 0, none⟩) (cell_lt y0)).trans y0, (hW.cell (p := ⟨gl, 1, none⟩) (cell_lt y1)).trans y1, (hW.cell (p := ⟨gg, 6, none⟩) (cell_lt y6)).trans y6, (hW.cell (p := ⟨gr, j, none⟩) (cell_lt yr)).trans yr, (hW.cell (p := ⟨gi, j, none⟩) (cell_lt yg)).trans yg⟩)
                  clear y0 y1 y6 yr yg
                  refine wp_region_held_drew (S := (fun W => W.cell? ⟨gl, 0, none⟩ = some (.pointer (some ⟨gg, 0, none⟩)) ∧ W.cell? ⟨gl, 1, none⟩ = some (.slice (some ⟨gi, 0, none⟩) F.bl.length ci) ∧ W.cell? ⟨gg, 6, none⟩ = some (.slice (some ⟨gr, 0, none⟩) F.bl.length F.bl.length) ∧ W.cell? ⟨gr, j, none⟩ = some (.bool false) ∧ W.cell? ⟨gi, j, none⟩ = some (.pointer (some ⟨g, 0, none⟩)))) (by kernel_rfl) ?_ (fun hHeld => ?_)
                  · exact HCL.out _ (drewB (Below.refl _ _))
                  first
                  | (refine wpAnyH_take (i := 0) (v := ?_) rfl (by kernel_rfl) (by kernel_rfl) (by kernel_rfl) (fun _ _ _ h => h) (Or.inl ⟨by rfl, ?_⟩) (by assumption) ?_
                     rotate_left 1
                     focus (intro w hSw; (try dsimp only at hSw); first | (go_simp; done) | (go_simp; with_reducible rfl))
                     try simp only [Act.put, List.setIfInBounds_toArray, List.set_cons_zero, List.set_cons_succ, List.getElem_toArray, List.getElem_cons_succ, List.getElem_cons_zero])
                  | (refine wpAnyH_take (i := 0) (v := undef) rfl (by kernel_rfl) (by kernel_rfl) (by kernel_rfl) (fun _ _ _ h => h) (Or.inr ⟨by rfl, rfl⟩) (by assumption) ?_
                     try simp only [Act.put, List.setIfInBounds_toArray, List.set_cons_zero, List.set_cons_succ, List.getElem_toArray, List.getElem_cons_succ, List.getElem_cons_zero])
                  first
                  | (refine wpAnyH_take (i := 1) (v := ?_) rfl (by kernel_rfl) (by kernel_rfl) (by kernel_rfl) (fun _ _ _ h => h) (Or.inl ⟨by rfl, ?_⟩) (by assumption) ?_
                     rotate_left 1
                     focus (intro w hSw; (try dsimp only at hSw); first | (go_simp; done) | (go_simp; with_reducible rfl))
                     try simp only [Act.put, List.setIfInBounds_toArray, List.set_cons_zero, List.set_cons_succ, List.getElem_toArray, List.getElem_cons_succ, List.getElem_cons_zero])
                  | (refine wpAnyH_take (i := 1) (v := undef) rfl (by kernel_rfl) (by kernel_rfl) (by kernel_rfl) (fun _ _ _ h => h) (Or.inr ⟨by rfl, rfl⟩) (by assumption) ?_
                     try simp only [Act.put, List.setIfInBounds_toArray, List.set_cons_zero, List.set_cons_succ, List.getElem_toArray, List.getElem_cons_succ, List.getElem_cons_zero])
                  first
                  | (refine wpAnyH_take (i := 2) (v := ?_) rfl (by kernel_rfl) (by kernel_rfl) (by kernel_rfl) (fun _ _ _ h => h) (Or.inl ⟨by rfl, ?_⟩) (by assumption) ?_
                     rotate_left 1
                     focus (intro w hSw; (try dsimp only at hSw); first | (go_simp; done) | (go_simp; with_reducible rfl))
                     try simp only [Act.put, List.setIfInBounds_toArray, List.set_cons_zero, List.set_cons_succ, List.getElem_toArray, List.getElem_cons_succ, List.getElem_cons_zero])
                  | (refine wpAnyH_take (i := 2) (v := undef) rfl (by kernel_rfl) (by kernel_rfl) (by kernel_rfl) (fun _ _ _ h => h) (Or.inr ⟨by rfl, rfl⟩) (by assumption) ?_
                     try simp only [Act.put, List.setIfInBounds_toArray, List.set_cons_zero, List.set_cons_succ, List.getElem_toArray, List.getElem_cons_succ, List.getElem_cons_zero])
                  first
                  | (refine wpAnyH_take (i := 3) (v := ?_) rfl (by kernel_rfl) (by kernel_rfl) (by kernel_rfl) (fun _ _ _ h => h) (Or.inl ⟨by rfl, ?_⟩) (by assumption) ?_
                     rotate_left 1
                     focus (intro w hSw; (try dsimp only at hSw); first | (go_simp; done) | (go_simp; with_reducible rfl))
                     try simp only [Act.put, List.setIfInBounds_toArray, List.set_cons_zero, List.set_cons_succ, List.getElem_toArray, List.getElem_cons_succ, List.getElem_cons_zero])
                  | (refine wpAnyH_take (i := 3) (v := undef) rfl (by kernel_rfl) (by kernel_rfl) (by kernel_rfl) (fun _ _ _ h => h) (Or.inr ⟨by rfl, rfl⟩) (by assumption) ?_
                     try simp only [Act.put, List.setIfInBounds_toArray, List.set_cons_zero, List.set_cons_succ, List.getElem_toArray, List.getElem_cons_succ, List.getElem_cons_zero])
                  first
                  | (refine wpAnyH_take (i := 4) (v := ?_) rfl (by kernel_rfl) (by kernel_rfl) (by kernel_rfl) (fun _ _ _ h => h) (Or.inl ⟨by rfl, ?_⟩) (by assumption) ?_
                     rotate_left 1
                     focus (intro w hSw; (try dsimp only at hSw); first | (go_simp; done) | (go_simp; with_reducible rfl))
                     try simp only [Act.put, List.setIfInBounds_toArray, List.set_cons_zero, List.set_cons_succ, List.getElem_toArray, List.getElem_cons_succ, List.getElem_cons_zero])
                  | (refine wpAnyH_take (i := 4) (v := undef) rfl (by kernel_rfl) (by kernel_rfl) (by kernel_rfl) (fun _ _ _ h => h) (Or.inr ⟨by rfl, rfl⟩) (by assumption) ?_
                     try simp only [Act.put, List.setIfInBounds_toArray, List.set_cons_zero, List.set_cons_succ, List.getElem_toArray, List.getElem_cons_succ, List.getElem_cons_zero])
                  first
                  | (refine wpAnyH_take (i := 5) (v := ?_) rfl (by kernel_rfl) (by kernel_rfl) (by kernel_rfl) (fun _ _ _ h => h) (Or.inl ⟨by rfl, ?_⟩) (by assumption) ?_
                     rotate_left 1
                     focus (intro w hSw; (try dsimp only at hSw); first | (go_simp; done) | (go_simp; with_reducible rfl))
                     try simp only [Act.put, List.setIfInBounds_toArray, List.set_cons_zero, List.set_cons_succ, List.getElem_toArray, List.getElem_cons_succ, List.getElem_cons_zero])
                  | (refine wpAnyH_take (i := 5) (v := undef) rfl (by kernel_rfl) (by kernel_rfl) (by kernel_rfl) (fun _ _ _ h => h) (Or.inr ⟨by rfl, rfl⟩) (by assumption) ?_
                     try simp only [Act.put, List.setIfInBounds_toArray, List.set_cons_zero, List.set_cons_succ, List.getElem_toArray, List.getElem_cons_succ, List.getElem_cons_zero])
                  first
                  | (refine wpAnyH_take (i := 6) (v := ?_) rfl (by kernel_rfl) (by kernel_rfl) (by kernel_rfl) (fun _ _ _ h => h) (Or.inl ⟨by rfl, ?_⟩) (by assumption) ?_
                     rotate_left 1
                     focus (intro w hSw; (try dsimp only at hSw); first | (go_simp; done) | (go_simp; with_reducible rfl))
                     try simp only [Act.put, List.setIfInBounds_toArray, List.set_cons_zero, List.set_cons_succ, List.getElem_toArray, List.getElem_cons_succ, List.getElem_cons_zero])
                  | (refine wpAnyH_take (i := 6) (v := undef) rfl (by kernel_rfl) (by kernel_rfl) (by kernel_rfl) (fun _ _ _ h => h) (Or.inr ⟨by rfl, rfl⟩) (by assumption) ?_
                     try simp only [Act.put, List.setIfInBounds_toArray, List.set_cons_zero, List.set_cons_succ, List.getElem_toArray, List.getElem_cons_succ, List.getElem_cons_zero])
                  first
                  | (refine wpAnyH_take (i := 7) (v := ?_) rfl (by kernel_rfl) (by kernel_rfl) (by kernel_rfl) (fun _ _ _ h => h) (Or.inl ⟨by rfl, ?_⟩) (by assumption) ?_
                     rotate_left 1
                     focus (intro w hSw; (try dsimp only at hSw); first | (go_simp; done) | (go_simp; with_reducible rfl))
                     try simp only [Act.put, List.setIfInBounds_toArray, List.set_cons_zero, List.set_cons_succ, List.getElem_toArray, List.getElem_cons_succ, List.getElem_cons_zero])
                  | (refine wpAnyH_take (i := 7) (v := undef) rfl (by kernel_rfl) (by kernel_rfl) (by kernel_rfl) (fun _ _ _ h => h) (Or.inr ⟨by rfl, rfl⟩) (by assumption) ?_
                     try simp only [Act.put, List.setIfInBounds_toArray, List.set_cons_zero, List.set_cons_succ, List.getElem_toArray, List.getElem_cons_succ, List.getElem_cons_zero])
                  first
                  | (refine wpAnyH_take (i := 8) (v := ?_) rfl (by kernel_rfl) (by kernel_rfl) (by kernel_rfl) (fun _ _ _ h => h) (Or.inl ⟨by rfl, ?_⟩) (by assumption) ?_
                     rotate_left 1
                     focus (intro w hSw; (try dsimp only at hSw); first | (go_simp; done) | (go_simp; with_reducible rfl))
                     try simp only [Act.put, List.setIfInBounds_toArray, List.set_cons_zero, List.set_cons_succ, List.getElem_toArray, List.getElem_cons_succ, List.getElem_cons_zero])
                  | (refine wpAnyH_take (i := 8) (v := undef) rfl (by kernel_rfl) (by kernel_rfl) (by kernel_rfl) (fun _ _ _ h => h) (Or.inr ⟨by rfl, rfl⟩) (by assumption) ?_
                     try simp only [Act.put, List.setIfInBounds_toArray, List.set_cons_zero, List.set_cons_succ, List.getElem_toArray, List.getElem_cons_succ, List.getElem_cons_zero])
                  first
                  | (refine wpAnyH_take (i := 9) (v := ?_) rfl (by kernel_rfl) (by kernel_rfl) (by kernel_rfl) (fun _ _ _ h => h) (Or.inl ⟨by rfl, ?_⟩) (by assumption) ?_
                     rotate_left 1
                     focus (intro w hSw; (try dsimp only at hSw); first | (go_simp; done) | (go_simp; with_reducible rfl))
                     try simp only [Act.put, List.setIfInBounds_toArray, List.set_cons_zero, List.set_cons_succ, List.getElem_toArray, List.getElem_cons_succ, List.getElem_cons_zero])
                  | (refine wpAnyH_take (i := 9) (v := undef) rfl (by kernel_rfl) (by kernel_rfl) (by kernel_rfl) (fun _ _ _ h => h) (Or.inr ⟨by rfl, rfl⟩) (by assumption) ?_
                     try simp only [Act.put, List.setIfInBounds_toArray, List.set_cons_zero, List.set_cons_succ, List.getElem_toArray, List.getElem_cons_succ, List.getElem_cons_zero])
                  first
                  | (refine wpAnyH_take (i := 10) (v := ?_) rfl (by kernel_rfl) (by kernel_rfl) (by kernel_rfl) (fun _ _ _ h => h) (Or.inl ⟨by rfl, ?_⟩) (by assumption) ?_
                     rotate_left 1
                     focus (intro w hSw; (try dsimp only at hSw); first | (go_simp; done) | (go_simp; with_reducible rfl))
                     try simp only [Act.put, List.setIfInBounds_toArray, List.set_cons_zero, List.set_cons_succ, List.getElem_toArray, List.getElem_cons_succ, List.getElem_cons_zero])
                  | (refine wpAnyH_take (i := 10) (v := undef) rfl (by kernel_rfl) (by kernel_rfl) (by kernel_rfl) (fun _ _ _ h => h) (Or.inr ⟨by rfl, rfl⟩) (by assumption) ?_
                     try simp only [Act.put, List.setIfInBounds_toArray, List.set_cons_zero, List.set_cons_succ, List.getElem_toArray, List.getElem_cons_succ, List.getElem_cons_zero])
                  first
                  | (refine wpAnyH_take (i := 11) (v := ?_) rfl (by kernel_rfl) (by kernel_rfl) (by kernel_rfl) (fun _ _ _ h => h) (Or.inl ⟨by rfl, ?_⟩) (by assumption) ?_
                     rotate_left 1
                     focus (intro w hSw; (try dsimp only at hSw); first | (go_simp; done) | (go_simp; with_reducible rfl))
                     try simp only [Act.put, List.setIfInBounds_toArray, List.set_cons_zero, List.set_cons_succ, List.getElem_toArray, List.getElem_cons_succ, List.getElem_cons_zero])
                  | (refine wpAnyH_take (i := 11) (v := undef) rfl (by kernel_rfl) (by kernel_rfl) (by kernel_rfl) (fun _ _ _ h => h) (Or.inr ⟨by rfl, rfl⟩) (by assumption) ?_
                     try simp only [Act.put, List.setIfInBounds_toArray, List.set_cons_zero, List.set_cons_succ, List.getElem_toArray, List.getElem_cons_succ, List.getElem_cons_zero])
                  first
                  | (refine wpAnyH_take (i := 12) (v := ?_) rfl (by kernel_rfl) (by kernel_rfl) (by kernel_rfl) (fun _ _ _ h => h) (Or.inl ⟨by rfl, ?_⟩) (by assumption) ?_
                     rotate_left 1
                     focus (intro w hSw; (try dsimp only at hSw); first | (go_simp; done) | (go_simp; with_reducible rfl))
                     try simp only [Act.put, List.setIfInBounds_toArray, List.set_cons_zero, List.set_cons_succ, List.getElem_toArray, List.getElem_cons_succ, List.getElem_cons_zero])
                  | (refine wpAnyH_take (i := 12) (v := undef) rfl (by kernel_rfl) (by kernel_rfl) (by kernel_rfl) (fun _ _ _ h => h) (Or.inr ⟨by rfl, rfl⟩) (by assumption) ?_
                     try simp only [Act.put, List.setIfInBounds_toArray, List.set_cons_zero, List.set_cons_succ, List.getElem_toArray, List.getElem_cons_succ, List.getElem_cons_zero])
                  first
                  | (refine wpAnyH_take (i := 13) (v := ?_) rfl (by kernel_rfl) (by kernel_rfl) (by kernel_rfl) (fun _ _ _ h => h) (Or.inl ⟨by rfl, ?_⟩) (by assumption) ?_
                     rotate_left 1
                     focus (intro w hSw; (try dsimp only at hSw); first | (go_simp; done) | (go_simp; with_reducible rfl))
                     try simp only [Act.put, List.setIfInBounds_toArray, List.set_cons_zero, List.set_cons_succ, List.getElem_toArray, List.getElem_cons_succ, List.getElem_cons_zero])
                  | (refine wpAnyH_take (i := 13) (v := undef) rfl (by kernel_rfl) (by kernel_rfl) (by kernel_rfl) (fun _ _ _ h => h) (Or.inr ⟨by rfl, rfl⟩) (by assumption) ?_
                     try simp only [Act.put, List.setIfInBounds_toArray, List.set_cons_zero, List.set_cons_succ, List.getElem_toArray, List.getElem_cons_succ, List.getElem_cons_zero])
                  first
                  | (refine wpAnyH_take (i := 14) (v := ?_) rfl (by kernel_rfl) (by kernel_rfl) (by kernel_rfl) (fun _ _ _ h => h) (Or.inl ⟨by rfl, ?_⟩) (by assumption) ?_
                     rotate_left 1
                     focus (intro w hSw; (try dsimp only at hSw); first | (go_simp; done) | (go_simp; with_reducible rfl))
                     try simp only [Act.put, List.setIfInBounds_toArray, List.set_cons_zero, List.set_cons_succ, List.getElem_toArray, List.getElem_cons_succ, List.getElem_cons_zero])
                  | (refine wpAnyH_take (i := 14) (v := undef) rfl (by kernel_rfl) (by kernel_rfl) (by kernel_rfl) (fun _ _ _ h => h) (Or.inr ⟨by rfl, rfl⟩) (by assumption) ?_
                     try simp only [Act.put, List.setIfInBounds_toArray, List.set_cons_zero, List.set_cons_succ, List.getElem_toArray, List.getElem_cons_succ, List.getElem_cons_zero])
                  first
                  | (refine wpAnyH_take (i := 15) (v := ?_) rfl (by kernel_rfl) (by kernel_rfl) (by kernel_rfl) (fun _ _ _ h => h) (Or.inl ⟨by rfl, ?_⟩) (by assumption) ?_
                     rotate_left 1
                     focus (intro w hSw; (try dsimp only at hSw); first | (go_simp; done) | (go_simp; with_reducible rfl))
                     try simp only [Act.put, List.setIfInBounds_toArray, List.set_cons_zero, List.set_cons_succ, List.getElem_toArray, List.getElem_cons_succ, List.getElem_cons_zero])
                  | (refine wpAnyH_take (i := 15) (v := undef) rfl (by kernel_rfl) (by kernel_rfl) (by kernel_rfl) (fun _ _ _ h => h) (Or.inr ⟨by rfl, rfl⟩) (by assumption) ?_
                     try simp only [Act.put, List.setIfInBounds_toArray, List.set_cons_zero, List.set_cons_succ, List.getElem_toArray, List.getElem_cons_succ, List.getElem_cons_zero])
                  first
                  | (refine wpAnyH_take (i := 16) (v := ?_) rfl (by kernel_rfl) (by kernel_rfl) (by kernel_rfl) (fun _ _ _ h => h) (Or.inl ⟨by rfl, ?_⟩) (by assumption) ?_
                     rotate_left 1
                     focus (intro w hSw; (try dsimp only at hSw); first | (go_simp; done) | (go_simp; with_reducible rfl))
                     try simp only [Act.put, List.setIfInBounds_toArray, List.set_cons_zero, List.set_cons_succ, List.getElem_toArray, List.getElem_cons_succ, List.getElem_cons_zero])
                  | (refine wpAnyH_take (i := 16) (v := undef) rfl (by kernel_rfl) (by kernel_rfl) (by kernel_rfl) (fun _ _ _ h => h) (Or.inr ⟨by rfl, rfl⟩) (by assumption) ?_
                     try simp only [Act.put, List.setIfInBounds_toArray, List.set_cons_zero, List.set_cons_succ, List.getElem_toArray, List.getElem_cons_succ, List.getElem_cons_zero])
                  first
                  | (refine wpAnyH_take (i := 17) (v := ?_) rfl (by kernel_rfl) (by kernel_rfl) (by kernel_rfl) (fun _ _ _ h => h) (Or.inl ⟨by rfl, ?_⟩) (by assumption) ?_
                     rotate_left 1
                     focus (intro w hSw; (try dsimp only at hSw); first | (go_simp; done) | (go_simp; with_reducible rfl))
                     try simp only [Act.put, List.setIfInBounds_toArray, List.set_cons_zero, List.set_cons_succ, List.getElem_toArray, List.getElem_cons_succ, List.getElem_cons_zero])
                  | (refine wpAnyH_take (i := 17) (v := undef) rfl (by kernel_rfl) (by kernel_rfl) (by kernel_rfl) (fun _ _ _ h => h) (Or.inr ⟨by rfl, rfl⟩) (by assumption) ?_
                     try simp only [Act.put, List.setIfInBounds_toArray, List.set_cons_zero, List.set_cons_succ, List.getElem_toArray, List.getElem_cons_succ, List.getElem_cons_zero])
                  first
                  | (refine wpAnyH_take (i := 18) (v := ?_) rfl (by kernel_rfl) (by kernel_rfl) (by kernel_rfl) (fun _ _ _ h => h) (Or.inl ⟨by rfl, ?_⟩) (by assumption) ?_
                     rotate_left 1
                     focus (intro w hSw; (try dsimp only at hSw); first | (go_simp; done) | (go_simp; with_reducible rfl))
                     try simp only [Act.put, List.setIfInBounds_toArray, List.set_cons_zero, List.set_cons_succ, List.getElem_toArray, List.getElem_cons_succ, List.getElem_cons_zero])
                  | (refine wpAnyH_take (i := 18) (v := undef) rfl (by kernel_rfl) (by kernel_rfl) (by kernel_rfl) (fun _ _ _ h => h) (Or.inr ⟨by rfl, rfl⟩) (by assumption) ?_
                     try simp only [Act.put, List.setIfInBounds_toArray, List.set_cons_zero, List.set_cons_succ, List.getElem_toArray, List.getElem_cons_succ, List.getElem_cons_zero])
                  first
                  | (refine wpAnyH_take (i := 19) (v := ?_) rfl (by kernel_rfl) (by kernel_rfl) (by kernel_rfl) (fun _ _ _ h => h) (Or.inl ⟨by rfl, ?_⟩) (by assumption) ?_
                     rotate_left 1
                     focus (intro w hSw; (try dsimp only at hSw); first | (go_simp; done) | (go_simp; with_reducible rfl))
                     try simp only [Act.put, List.setIfInBounds_toArray, List.set_cons_zero, List.set_cons_succ, List.getElem_toArray, List.getElem_cons_succ, List.getElem_cons_zero])
                  | (refine wpAnyH_take (i := 19) (v := undef) rfl (by kernel_rfl) (by kernel_rfl) (by kernel_rfl) (fun _ _ _ h => h) (Or.inr ⟨by rfl, rfl⟩) (by assumption) ?_
                     try simp only [Act.put, List.setIfInBounds_toArray, List.set_cons_zero, List.set_cons_succ, List.getElem_toArray, List.getElem_cons_succ, List.getElem_cons_zero])
                  first
                  | (refine wpAnyH_take (i := 20) (v := ?_) rfl (by kernel_rfl) (by kernel_rfl) (by kernel_rfl) (fun _ _ _ h => h) (Or.inl ⟨by rfl, ?_⟩) (by assumption) ?_
                     rotate_left 1
                     focus (intro w hSw; (try dsimp only at hSw); first | (go_simp; done) | (go_simp; with_reducible rfl))
                     try simp only [Act.put, List.setIfInBounds_toArray, List.set_cons_zero, List.set_cons_succ, List.getElem_toArray, List.getElem_cons_succ, List.getElem_cons_zero])
                  | (refine wpAnyH_take (i := 20) (v := undef) rfl (by kernel_rfl) (by kernel_rfl) (by kernel_rfl) (fun _ _ _ h => h) (Or.inr ⟨by rfl, rfl⟩) (by assumption) ?_
                     try simp only [Act.put, List.setIfInBounds_toArray, List.set_cons_zero, List.set_cons_succ, List.getElem_toArray, List.getElem_cons_succ, List.getElem_cons_zero])
                  first
                  | (refine wpAnyH_take (i := 21) (v := ?_) rfl (by kernel_rfl) (by kernel_rfl) (by kernel_rfl) (fun _ _ _ h => h) (Or.inl ⟨by rfl, ?_⟩) (by assumption) ?_
                     rotate_left 1
                     focus (intro w hSw; (try dsimp only at hSw); first | (go_simp; done) | (go_simp; with_reducible rfl))
                     try simp only [Act.put, List.setIfInBounds_toArray, List.set_cons_zero, List.set_cons_succ, List.getElem_toArray, List.getElem_cons_succ, List.getElem_cons_zero])
                  | (refine wpAnyH_take (i := 21) (v := undef) rfl (by kernel_rfl) (by kernel_rfl) (by kernel_rfl) (fun _ _ _ h => h) (Or.inr ⟨by rfl, rfl⟩) (by assumption) ?_
                     try simp only [Act.put, List.setIfInBounds_toArray, List.set_cons_zero, List.set_cons_succ, List.getElem_toArray, List.getElem_cons_succ, List.getElem_cons_zero])
                  first
                  | (refine wpAnyH_take (i := 22) (v := ?_) rfl (by kernel_rfl) (by kernel_rfl) (by kernel_rfl) (fun _ _ _ h => h) (Or.inl ⟨by rfl, ?_⟩) (by assumption) ?_
                     rotate_left 1
                     focus (intro w hSw; (try dsimp only at hSw); first | (go_simp; done) | (go_simp; with_reducible rfl))
                     try simp only [Act.put, List.setIfInBounds_toArray, List.set_cons_zero, List.set_cons_succ, List.getElem_toArray, List.getElem_cons_succ, List.getElem_cons_zero])
                  | (refine wpAnyH_take (i := 22) (v := undef) rfl (by kernel_rfl) (by kernel_rfl) (by kernel_rfl) (fun _ _ _ h => h) (Or.inr ⟨by rfl, rfl⟩) (by assumption) ?_
                     try simp only [Act.put, List.setIfInBounds_toArray, List.set_cons_zero, List.set_cons_succ, List.getElem_toArray, List.getElem_cons_succ, List.getElem_cons_zero])
                  first
                  | (refine wpAnyH_take (i := 23) (v := ?_) rfl (by kernel_rfl) (by kernel_rfl) (by kernel_rfl) (fun _ _ _ h => h) (Or.inl ⟨by rfl, ?_⟩) (by assumption) ?_
                     rotate_left 1
                     focus (intro w hSw; (try dsimp only at hSw); first | (go_simp; done) | (go_simp; with_reducible rfl))
                     try simp only [Act.put, List.setIfInBounds_toArray, List.set_cons_zero, List.set_cons_succ, List.getElem_toArray, List.getElem_cons_succ, List.getElem_cons_zero])
                  | (refine wpAnyH_take (i := 23) (v := undef) rfl (by kernel_rfl) (by kernel_rfl) (by kernel_rfl) (fun _ _ _ h => h) (Or.inr ⟨by rfl, rfl⟩) (by assumption) ?_
                     try simp only [Act.put, List.setIfInBounds_toArray, List.set_cons_zero, List.set_cons_succ, List.getElem_toArray, List.getElem_cons_succ, List.getElem_cons_zero])
                  refine wpAnyH_done (by kernel_rfl) ?_ _
                  all_goals
                    go_wp2_with fail
                    try rw [hw2]
                    go_roundw
                    case rel => exact ⟨j, b2, ins2, by omega, rfl, rfl, HWN.out _, HPP.out, HP2.out⟩
                    case measure => simp [intOf]
                | true =>
                  obtain ⟨P, hP⟩ : ∃ P, pointP F ins2 sec j = P := ⟨_, rfl⟩
                  obtain ⟨Wj, hWj⟩ : ∃ Wj, ins2.getD j zeroW = Wj := ⟨_, rfl⟩
                  have hnW : nW F = (m + 63) / 64 := by unfold nW; rw [HM.out.1]
                  have HPP := Lib.hid (show passP F sec j (ins2.set j (joinN Wj P ((m + 63) / 64)), b2 || grewN Wj P ((m + 63) / 64)) = round F ins from by
                    rw [← HP.out.1, passP, passS, hrb, ← hP, ← hWj, ← hnW]; rfl)
                  have HTO := Lib.hid (show totAll (ins2.set j (joinN Wj P ((m + 63) / 64))) + (if grewN Wj P ((m + 63) / 64) = true then 1 else 0) ≤ totAll ins2 from by
                    rw [← hWj, ← hP, ← hnW]
                    exact totAll_join ins2 j hji _ _ (by rw [hnW]; omega) hst.ln hst.hi)
                  rw [hWj] at hst
                  have HST := Lib.hid hst
                  have HNG := Lib.hid (show ¬ gl = g ∧ ¬ gg = g ∧ ¬ gr = g ∧ ¬ gi = g from by
                    obtain ⟨cb, hbb, -⟩ := HAT.out.rc.b
                    obtain ⟨cu, hcu⟩ := owns_kind HW.out.1.ow (g := gi) rfl
                    exact ⟨fun e => absurd (hst.kind (e ▸ HW.out.1.lb)) (by decide), fun e => absurd (hst.kind (e ▸ HAT.out.gb)) (by decide), fun e => absurd (hst.kind (e ▸ hbb)) (by decide), fun e => absurd (hst.kind (e ▸ hcu)) (by decide)⟩)
                  have HPO := Lib.hid (show ∀ W, Below wr.heap.size wr W → Calls Tryz.prog 46 #[.pointer (some ⟨gl, 0, none⟩), .int .i64 j, .int .i64 0, .pointer (some ⟨gc, 0, none⟩)] W fun e w' => (∃ g, e = .returned (.pointer (some ⟨g, 0, none⟩)) ∧ W.heap.size ≤ g ∧ SetAt w' g P m) ∧ Below W.heap.size W w' from fun W hW => by
                    have := point_any gl gg F _ _ tov gr _ gs ins2 sec gc j hjl W (HAT.out.below hW) (by rw [HM.out.1]; exact HW.out.2.below hW)
                    rw [hP, HM.out.1] at this
                    exact this)
                  have HJO := Lib.hid (fun (W : World) (g' : Nat) (h1 : SetAt W g Wj m) (h2 : SetAt W g' P m) (hne : g' ≠ g) => join_any g g' Wj P m m W h1 h2 hne (by omega))
                  have HP2 := Lib.hid HP.out.2
                  obtain ⟨gw, hgw⟩ : ∃ gw, grewN Wj P ((m + 63) / 64) = gw := ⟨_, rfl⟩
                  rw [hgw] at HPP HTO HJO
                  obtain ⟨Nj, hNj⟩ : ∃ Nj, joinN Wj P ((m + 63) / 64) = Nj := ⟨_, rfl⟩
                  rw [hNj] at HPP HTO HJO
                  clear hrb hgq hst hg eI HP hjg hji hgw hNj hP hWj hnW HAT
                  go_wp2_with fail
                  have HCL : Hid (∀ W, Below wr.heap.size wr W → W.cell? ⟨gl, 0, none⟩ = some (.pointer (some ⟨gg, 0, none⟩)) ∧ W.cell? ⟨gl, 1, none⟩ = some (.slice (some ⟨gi, 0, none⟩) F.bl.length ci) ∧ W.cell? ⟨gg, 6, none⟩ = some (.slice (some ⟨gr, 0, none⟩) F.bl.length F.bl.length) ∧ W.cell? ⟨gr, j, none⟩ = some (.bool true) ∧ W.cell? ⟨gi, j, none⟩ = some (.pointer (some ⟨g, 0, none⟩))) := Lib.hid (fun W hW => ⟨(hW.cell (p := ⟨gl, 0, none⟩) (cell_lt y0)).trans y0, (hW.cell (p := ⟨gl, 1, none⟩) (cell_lt y1)).trans y1, (hW.cell (p := ⟨gg, 6, none⟩) (cell_lt y6)).trans y6, (hW.cell (p := ⟨gr, j, none⟩) (cell_lt yr)).trans yr, (hW.cell (p := ⟨gi, j, none⟩) (cell_lt yg)).trans yg⟩)
                  have HCJ : Hid (∀ W W', Keeps (fun q => q = g) W W' → (W.cell? ⟨gl, 0, none⟩ = some (.pointer (some ⟨gg, 0, none⟩)) ∧ W.cell? ⟨gl, 1, none⟩ = some (.slice (some ⟨gi, 0, none⟩) F.bl.length ci) ∧ W.cell? ⟨gg, 6, none⟩ = some (.slice (some ⟨gr, 0, none⟩) F.bl.length F.bl.length) ∧ W.cell? ⟨gr, j, none⟩ = some (.bool true) ∧ W.cell? ⟨gi, j, none⟩ = some (.pointer (some ⟨g, 0, none⟩))) → (W'.cell? ⟨gl, 0, none⟩ = some (.pointer (some ⟨gg, 0, none⟩)) ∧ W'.cell? ⟨gl, 1, none⟩ = some (.slice (some ⟨gi, 0, none⟩) F.bl.length ci) ∧ W'.cell? ⟨gg, 6, none⟩ = some (.slice (some ⟨gr, 0, none⟩) F.bl.length F.bl.length) ∧ W'.cell? ⟨gr, j, none⟩ = some (.bool true) ∧ W'.cell? ⟨gi, j, none⟩ = some (.pointer (some ⟨g, 0, none⟩)))) := Lib.hid (fun W W' hk ⟨z0, z1, z2, z3, z4⟩ => ⟨(hk.cell (p := ⟨gl, 0, none⟩) (cell_lt z0) HNG.out.1).trans z0, (hk.cell (p := ⟨gl, 1, none⟩) (cell_lt z1) HNG.out.1).trans z1, (hk.cell (p := ⟨gg, 6, none⟩) (cell_lt z2) HNG.out.2.1).trans z2, (hk.cell (p := ⟨gr, j, none⟩) (cell_lt z3) HNG.out.2.2.1).trans z3, (hk.cell (p := ⟨gi, j, none⟩) (cell_lt z4) HNG.out.2.2.2).trans z4⟩)
                  clear y0 y1 y6 yr yg
                  refine wp_region_held_drew (S := (fun W => W.cell? ⟨gl, 0, none⟩ = some (.pointer (some ⟨gg, 0, none⟩)) ∧ W.cell? ⟨gl, 1, none⟩ = some (.slice (some ⟨gi, 0, none⟩) F.bl.length ci) ∧ W.cell? ⟨gg, 6, none⟩ = some (.slice (some ⟨gr, 0, none⟩) F.bl.length F.bl.length) ∧ W.cell? ⟨gr, j, none⟩ = some (.bool true) ∧ W.cell? ⟨gi, j, none⟩ = some (.pointer (some ⟨g, 0, none⟩)))) (by kernel_rfl) ?_ (fun hHeld => ?_)
                  · exact HCL.out _ (drewB (Below.refl _ _))
                  first
                  | (refine wpAnyH_take (i := 0) (v := ?_) rfl (by kernel_rfl) (by kernel_rfl) (by kernel_rfl) (fun _ _ _ h => h) (Or.inl ⟨by rfl, ?_⟩) (by assumption) ?_
                     rotate_left 1
                     focus (intro w hSw; (try dsimp only at hSw); first | (go_simp; done) | (go_simp; with_reducible rfl))
                     try simp only [Act.put, List.setIfInBounds_toArray, List.set_cons_zero, List.set_cons_succ, List.getElem_toArray, List.getElem_cons_succ, List.getElem_cons_zero])
                  | (refine wpAnyH_take (i := 0) (v := undef) rfl (by kernel_rfl) (by kernel_rfl) (by kernel_rfl) (fun _ _ _ h => h) (Or.inr ⟨by rfl, rfl⟩) (by assumption) ?_
                     try simp only [Act.put, List.setIfInBounds_toArray, List.set_cons_zero, List.set_cons_succ, List.getElem_toArray, List.getElem_cons_succ, List.getElem_cons_zero])
                  first
                  | (refine wpAnyH_take (i := 1) (v := ?_) rfl (by kernel_rfl) (by kernel_rfl) (by kernel_rfl) (fun _ _ _ h => h) (Or.inl ⟨by rfl, ?_⟩) (by assumption) ?_
                     rotate_left 1
                     focus (intro w hSw; (try dsimp only at hSw); first | (go_simp; done) | (go_simp; with_reducible rfl))
                     try simp only [Act.put, List.setIfInBounds_toArray, List.set_cons_zero, List.set_cons_succ, List.getElem_toArray, List.getElem_cons_succ, List.getElem_cons_zero])
                  | (refine wpAnyH_take (i := 1) (v := undef) rfl (by kernel_rfl) (by kernel_rfl) (by kernel_rfl) (fun _ _ _ h => h) (Or.inr ⟨by rfl, rfl⟩) (by assumption) ?_
                     try simp only [Act.put, List.setIfInBounds_toArray, List.set_cons_zero, List.set_cons_succ, List.getElem_toArray, List.getElem_cons_succ, List.getElem_cons_zero])
                  first
                  | (refine wpAnyH_take (i := 2) (v := ?_) rfl (by kernel_rfl) (by kernel_rfl) (by kernel_rfl) (fun _ _ _ h => h) (Or.inl ⟨by rfl, ?_⟩) (by assumption) ?_
                     rotate_left 1
                     focus (intro w hSw; (try dsimp only at hSw); first | (go_simp; done) | (go_simp; with_reducible rfl))
                     try simp only [Act.put, List.setIfInBounds_toArray, List.set_cons_zero, List.set_cons_succ, List.getElem_toArray, List.getElem_cons_succ, List.getElem_cons_zero])
                  | (refine wpAnyH_take (i := 2) (v := undef) rfl (by kernel_rfl) (by kernel_rfl) (by kernel_rfl) (fun _ _ _ h => h) (Or.inr ⟨by rfl, rfl⟩) (by assumption) ?_
                     try simp only [Act.put, List.setIfInBounds_toArray, List.set_cons_zero, List.set_cons_succ, List.getElem_toArray, List.getElem_cons_succ, List.getElem_cons_zero])
                  first
                  | (refine wpAnyH_take (i := 3) (v := ?_) rfl (by kernel_rfl) (by kernel_rfl) (by kernel_rfl) (fun _ _ _ h => h) (Or.inl ⟨by rfl, ?_⟩) (by assumption) ?_
                     rotate_left 1
                     focus (intro w hSw; (try dsimp only at hSw); first | (go_simp; done) | (go_simp; with_reducible rfl))
                     try simp only [Act.put, List.setIfInBounds_toArray, List.set_cons_zero, List.set_cons_succ, List.getElem_toArray, List.getElem_cons_succ, List.getElem_cons_zero])
                  | (refine wpAnyH_take (i := 3) (v := undef) rfl (by kernel_rfl) (by kernel_rfl) (by kernel_rfl) (fun _ _ _ h => h) (Or.inr ⟨by rfl, rfl⟩) (by assumption) ?_
                     try simp only [Act.put, List.setIfInBounds_toArray, List.set_cons_zero, List.set_cons_succ, List.getElem_toArray, List.getElem_cons_succ, List.getElem_cons_zero])
                  first
                  | (refine wpAnyH_take (i := 4) (v := ?_) rfl (by kernel_rfl) (by kernel_rfl) (by kernel_rfl) (fun _ _ _ h => h) (Or.inl ⟨by rfl, ?_⟩) (by assumption) ?_
                     rotate_left 1
                     focus (intro w hSw; (try dsimp only at hSw); first | (go_simp; done) | (go_simp; with_reducible rfl))
                     try simp only [Act.put, List.setIfInBounds_toArray, List.set_cons_zero, List.set_cons_succ, List.getElem_toArray, List.getElem_cons_succ, List.getElem_cons_zero])
                  | (refine wpAnyH_take (i := 4) (v := undef) rfl (by kernel_rfl) (by kernel_rfl) (by kernel_rfl) (fun _ _ _ h => h) (Or.inr ⟨by rfl, rfl⟩) (by assumption) ?_
                     try simp only [Act.put, List.setIfInBounds_toArray, List.set_cons_zero, List.set_cons_succ, List.getElem_toArray, List.getElem_cons_succ, List.getElem_cons_zero])
                  first
                  | (refine wpAnyH_take (i := 5) (v := ?_) rfl (by kernel_rfl) (by kernel_rfl) (by kernel_rfl) (fun _ _ _ h => h) (Or.inl ⟨by rfl, ?_⟩) (by assumption) ?_
                     rotate_left 1
                     focus (intro w hSw; (try dsimp only at hSw); first | (go_simp; done) | (go_simp; with_reducible rfl))
                     try simp only [Act.put, List.setIfInBounds_toArray, List.set_cons_zero, List.set_cons_succ, List.getElem_toArray, List.getElem_cons_succ, List.getElem_cons_zero])
                  | (refine wpAnyH_take (i := 5) (v := undef) rfl (by kernel_rfl) (by kernel_rfl) (by kernel_rfl) (fun _ _ _ h => h) (Or.inr ⟨by rfl, rfl⟩) (by assumption) ?_
                     try simp only [Act.put, List.setIfInBounds_toArray, List.set_cons_zero, List.set_cons_succ, List.getElem_toArray, List.getElem_cons_succ, List.getElem_cons_zero])
                  first
                  | (refine wpAnyH_take (i := 6) (v := ?_) rfl (by kernel_rfl) (by kernel_rfl) (by kernel_rfl) (fun _ _ _ h => h) (Or.inl ⟨by rfl, ?_⟩) (by assumption) ?_
                     rotate_left 1
                     focus (intro w hSw; (try dsimp only at hSw); first | (go_simp; done) | (go_simp; with_reducible rfl))
                     try simp only [Act.put, List.setIfInBounds_toArray, List.set_cons_zero, List.set_cons_succ, List.getElem_toArray, List.getElem_cons_succ, List.getElem_cons_zero])
                  | (refine wpAnyH_take (i := 6) (v := undef) rfl (by kernel_rfl) (by kernel_rfl) (by kernel_rfl) (fun _ _ _ h => h) (Or.inr ⟨by rfl, rfl⟩) (by assumption) ?_
                     try simp only [Act.put, List.setIfInBounds_toArray, List.set_cons_zero, List.set_cons_succ, List.getElem_toArray, List.getElem_cons_succ, List.getElem_cons_zero])
                  first
                  | (refine wpAnyH_take (i := 7) (v := ?_) rfl (by kernel_rfl) (by kernel_rfl) (by kernel_rfl) (fun _ _ _ h => h) (Or.inl ⟨by rfl, ?_⟩) (by assumption) ?_
                     rotate_left 1
                     focus (intro w hSw; (try dsimp only at hSw); first | (go_simp; done) | (go_simp; with_reducible rfl))
                     try simp only [Act.put, List.setIfInBounds_toArray, List.set_cons_zero, List.set_cons_succ, List.getElem_toArray, List.getElem_cons_succ, List.getElem_cons_zero])
                  | (refine wpAnyH_take (i := 7) (v := undef) rfl (by kernel_rfl) (by kernel_rfl) (by kernel_rfl) (fun _ _ _ h => h) (Or.inr ⟨by rfl, rfl⟩) (by assumption) ?_
                     try simp only [Act.put, List.setIfInBounds_toArray, List.set_cons_zero, List.set_cons_succ, List.getElem_toArray, List.getElem_cons_succ, List.getElem_cons_zero])
                  first
                  | (refine wpAnyH_take (i := 8) (v := ?_) rfl (by kernel_rfl) (by kernel_rfl) (by kernel_rfl) (fun _ _ _ h => h) (Or.inl ⟨by rfl, ?_⟩) (by assumption) ?_
                     rotate_left 1
                     focus (intro w hSw; (try dsimp only at hSw); first | (go_simp; done) | (go_simp; with_reducible rfl))
                     try simp only [Act.put, List.setIfInBounds_toArray, List.set_cons_zero, List.set_cons_succ, List.getElem_toArray, List.getElem_cons_succ, List.getElem_cons_zero])
                  | (refine wpAnyH_take (i := 8) (v := undef) rfl (by kernel_rfl) (by kernel_rfl) (by kernel_rfl) (fun _ _ _ h => h) (Or.inr ⟨by rfl, rfl⟩) (by assumption) ?_
                     try simp only [Act.put, List.setIfInBounds_toArray, List.set_cons_zero, List.set_cons_succ, List.getElem_toArray, List.getElem_cons_succ, List.getElem_cons_zero])
                  first
                  | (refine wpAnyH_take (i := 9) (v := ?_) rfl (by kernel_rfl) (by kernel_rfl) (by kernel_rfl) (fun _ _ _ h => h) (Or.inl ⟨by rfl, ?_⟩) (by assumption) ?_
                     rotate_left 1
                     focus (intro w hSw; (try dsimp only at hSw); first | (go_simp; done) | (go_simp; with_reducible rfl))
                     try simp only [Act.put, List.setIfInBounds_toArray, List.set_cons_zero, List.set_cons_succ, List.getElem_toArray, List.getElem_cons_succ, List.getElem_cons_zero])
                  | (refine wpAnyH_take (i := 9) (v := undef) rfl (by kernel_rfl) (by kernel_rfl) (by kernel_rfl) (fun _ _ _ h => h) (Or.inr ⟨by rfl, rfl⟩) (by assumption) ?_
                     try simp only [Act.put, List.setIfInBounds_toArray, List.set_cons_zero, List.set_cons_succ, List.getElem_toArray, List.getElem_cons_succ, List.getElem_cons_zero])
                  first
                  | (refine wpAnyH_take (i := 10) (v := ?_) rfl (by kernel_rfl) (by kernel_rfl) (by kernel_rfl) (fun _ _ _ h => h) (Or.inl ⟨by rfl, ?_⟩) (by assumption) ?_
                     rotate_left 1
                     focus (intro w hSw; (try dsimp only at hSw); first | (go_simp; done) | (go_simp; with_reducible rfl))
                     try simp only [Act.put, List.setIfInBounds_toArray, List.set_cons_zero, List.set_cons_succ, List.getElem_toArray, List.getElem_cons_succ, List.getElem_cons_zero])
                  | (refine wpAnyH_take (i := 10) (v := undef) rfl (by kernel_rfl) (by kernel_rfl) (by kernel_rfl) (fun _ _ _ h => h) (Or.inr ⟨by rfl, rfl⟩) (by assumption) ?_
                     try simp only [Act.put, List.setIfInBounds_toArray, List.set_cons_zero, List.set_cons_succ, List.getElem_toArray, List.getElem_cons_succ, List.getElem_cons_zero])
                  first
                  | (refine wpAnyH_take (i := 11) (v := ?_) rfl (by kernel_rfl) (by kernel_rfl) (by kernel_rfl) (fun _ _ _ h => h) (Or.inl ⟨by rfl, ?_⟩) (by assumption) ?_
                     rotate_left 1
                     focus (intro w hSw; (try dsimp only at hSw); first | (go_simp; done) | (go_simp; with_reducible rfl))
                     try simp only [Act.put, List.setIfInBounds_toArray, List.set_cons_zero, List.set_cons_succ, List.getElem_toArray, List.getElem_cons_succ, List.getElem_cons_zero])
                  | (refine wpAnyH_take (i := 11) (v := undef) rfl (by kernel_rfl) (by kernel_rfl) (by kernel_rfl) (fun _ _ _ h => h) (Or.inr ⟨by rfl, rfl⟩) (by assumption) ?_
                     try simp only [Act.put, List.setIfInBounds_toArray, List.set_cons_zero, List.set_cons_succ, List.getElem_toArray, List.getElem_cons_succ, List.getElem_cons_zero])
                  first
                  | (refine wpAnyH_take (i := 12) (v := ?_) rfl (by kernel_rfl) (by kernel_rfl) (by kernel_rfl) (fun _ _ _ h => h) (Or.inl ⟨by rfl, ?_⟩) (by assumption) ?_
                     rotate_left 1
                     focus (intro w hSw; (try dsimp only at hSw); first | (go_simp; done) | (go_simp; with_reducible rfl))
                     try simp only [Act.put, List.setIfInBounds_toArray, List.set_cons_zero, List.set_cons_succ, List.getElem_toArray, List.getElem_cons_succ, List.getElem_cons_zero])
                  | (refine wpAnyH_take (i := 12) (v := undef) rfl (by kernel_rfl) (by kernel_rfl) (by kernel_rfl) (fun _ _ _ h => h) (Or.inr ⟨by rfl, rfl⟩) (by assumption) ?_
                     try simp only [Act.put, List.setIfInBounds_toArray, List.set_cons_zero, List.set_cons_succ, List.getElem_toArray, List.getElem_cons_succ, List.getElem_cons_zero])
                  first
                  | (refine wpAnyH_take (i := 13) (v := ?_) rfl (by kernel_rfl) (by kernel_rfl) (by kernel_rfl) (fun _ _ _ h => h) (Or.inl ⟨by rfl, ?_⟩) (by assumption) ?_
                     rotate_left 1
                     focus (intro w hSw; (try dsimp only at hSw); first | (go_simp; done) | (go_simp; with_reducible rfl))
                     try simp only [Act.put, List.setIfInBounds_toArray, List.set_cons_zero, List.set_cons_succ, List.getElem_toArray, List.getElem_cons_succ, List.getElem_cons_zero])
                  | (refine wpAnyH_take (i := 13) (v := undef) rfl (by kernel_rfl) (by kernel_rfl) (by kernel_rfl) (fun _ _ _ h => h) (Or.inr ⟨by rfl, rfl⟩) (by assumption) ?_
                     try simp only [Act.put, List.setIfInBounds_toArray, List.set_cons_zero, List.set_cons_succ, List.getElem_toArray, List.getElem_cons_succ, List.getElem_cons_zero])
                  first
                  | (refine wpAnyH_take (i := 14) (v := ?_) rfl (by kernel_rfl) (by kernel_rfl) (by kernel_rfl) (fun _ _ _ h => h) (Or.inl ⟨by rfl, ?_⟩) (by assumption) ?_
                     rotate_left 1
                     focus (intro w hSw; (try dsimp only at hSw); first | (go_simp; done) | (go_simp; with_reducible rfl))
                     try simp only [Act.put, List.setIfInBounds_toArray, List.set_cons_zero, List.set_cons_succ, List.getElem_toArray, List.getElem_cons_succ, List.getElem_cons_zero])
                  | (refine wpAnyH_take (i := 14) (v := undef) rfl (by kernel_rfl) (by kernel_rfl) (by kernel_rfl) (fun _ _ _ h => h) (Or.inr ⟨by rfl, rfl⟩) (by assumption) ?_
                     try simp only [Act.put, List.setIfInBounds_toArray, List.set_cons_zero, List.set_cons_succ, List.getElem_toArray, List.getElem_cons_succ, List.getElem_cons_zero])
                  first
                  | (refine wpAnyH_take (i := 15) (v := ?_) rfl (by kernel_rfl) (by kernel_rfl) (by kernel_rfl) (fun _ _ _ h => h) (Or.inl ⟨by rfl, ?_⟩) (by assumption) ?_
                     rotate_left 1
                     focus (intro w hSw; (try dsimp only at hSw); first | (go_simp; done) | (go_simp; with_reducible rfl))
                     try simp only [Act.put, List.setIfInBounds_toArray, List.set_cons_zero, List.set_cons_succ, List.getElem_toArray, List.getElem_cons_succ, List.getElem_cons_zero])
                  | (refine wpAnyH_take (i := 15) (v := undef) rfl (by kernel_rfl) (by kernel_rfl) (by kernel_rfl) (fun _ _ _ h => h) (Or.inr ⟨by rfl, rfl⟩) (by assumption) ?_
                     try simp only [Act.put, List.setIfInBounds_toArray, List.set_cons_zero, List.set_cons_succ, List.getElem_toArray, List.getElem_cons_succ, List.getElem_cons_zero])
                  first
                  | (refine wpAnyH_take (i := 16) (v := ?_) rfl (by kernel_rfl) (by kernel_rfl) (by kernel_rfl) (fun _ _ _ h => h) (Or.inl ⟨by rfl, ?_⟩) (by assumption) ?_
                     rotate_left 1
                     focus (intro w hSw; (try dsimp only at hSw); first | (go_simp; done) | (go_simp; with_reducible rfl))
                     try simp only [Act.put, List.setIfInBounds_toArray, List.set_cons_zero, List.set_cons_succ, List.getElem_toArray, List.getElem_cons_succ, List.getElem_cons_zero])
                  | (refine wpAnyH_take (i := 16) (v := undef) rfl (by kernel_rfl) (by kernel_rfl) (by kernel_rfl) (fun _ _ _ h => h) (Or.inr ⟨by rfl, rfl⟩) (by assumption) ?_
                     try simp only [Act.put, List.setIfInBounds_toArray, List.set_cons_zero, List.set_cons_succ, List.getElem_toArray, List.getElem_cons_succ, List.getElem_cons_zero])
                  first
                  | (refine wpAnyH_take (i := 17) (v := ?_) rfl (by kernel_rfl) (by kernel_rfl) (by kernel_rfl) (fun _ _ _ h => h) (Or.inl ⟨by rfl, ?_⟩) (by assumption) ?_
                     rotate_left 1
                     focus (intro w hSw; (try dsimp only at hSw); first | (go_simp; done) | (go_simp; with_reducible rfl))
                     try simp only [Act.put, List.setIfInBounds_toArray, List.set_cons_zero, List.set_cons_succ, List.getElem_toArray, List.getElem_cons_succ, List.getElem_cons_zero])
                  | (refine wpAnyH_take (i := 17) (v := undef) rfl (by kernel_rfl) (by kernel_rfl) (by kernel_rfl) (fun _ _ _ h => h) (Or.inr ⟨by rfl, rfl⟩) (by assumption) ?_
                     try simp only [Act.put, List.setIfInBounds_toArray, List.set_cons_zero, List.set_cons_succ, List.getElem_toArray, List.getElem_cons_succ, List.getElem_cons_zero])
                  first
                  | (refine wpAnyH_take (i := 18) (v := ?_) rfl (by kernel_rfl) (by kernel_rfl) (by kernel_rfl) (fun _ _ _ h => h) (Or.inl ⟨by rfl, ?_⟩) (by assumption) ?_
                     rotate_left 1
                     focus (intro w hSw; (try dsimp only at hSw); first | (go_simp; done) | (go_simp; with_reducible rfl))
                     try simp only [Act.put, List.setIfInBounds_toArray, List.set_cons_zero, List.set_cons_succ, List.getElem_toArray, List.getElem_cons_succ, List.getElem_cons_zero])
                  | (refine wpAnyH_take (i := 18) (v := undef) rfl (by kernel_rfl) (by kernel_rfl) (by kernel_rfl) (fun _ _ _ h => h) (Or.inr ⟨by rfl, rfl⟩) (by assumption) ?_
                     try simp only [Act.put, List.setIfInBounds_toArray, List.set_cons_zero, List.set_cons_succ, List.getElem_toArray, List.getElem_cons_succ, List.getElem_cons_zero])
                  first
                  | (refine wpAnyH_take (i := 19) (v := ?_) rfl (by kernel_rfl) (by kernel_rfl) (by kernel_rfl) (fun _ _ _ h => h) (Or.inl ⟨by rfl, ?_⟩) (by assumption) ?_
                     rotate_left 1
                     focus (intro w hSw; (try dsimp only at hSw); first | (go_simp; done) | (go_simp; with_reducible rfl))
                     try simp only [Act.put, List.setIfInBounds_toArray, List.set_cons_zero, List.set_cons_succ, List.getElem_toArray, List.getElem_cons_succ, List.getElem_cons_zero])
                  | (refine wpAnyH_take (i := 19) (v := undef) rfl (by kernel_rfl) (by kernel_rfl) (by kernel_rfl) (fun _ _ _ h => h) (Or.inr ⟨by rfl, rfl⟩) (by assumption) ?_
                     try simp only [Act.put, List.setIfInBounds_toArray, List.set_cons_zero, List.set_cons_succ, List.getElem_toArray, List.getElem_cons_succ, List.getElem_cons_zero])
                  first
                  | (refine wpAnyH_take (i := 20) (v := ?_) rfl (by kernel_rfl) (by kernel_rfl) (by kernel_rfl) (fun _ _ _ h => h) (Or.inl ⟨by rfl, ?_⟩) (by assumption) ?_
                     rotate_left 1
                     focus (intro w hSw; (try dsimp only at hSw); first | (go_simp; done) | (go_simp; with_reducible rfl))
                     try simp only [Act.put, List.setIfInBounds_toArray, List.set_cons_zero, List.set_cons_succ, List.getElem_toArray, List.getElem_cons_succ, List.getElem_cons_zero])
                  | (refine wpAnyH_take (i := 20) (v := undef) rfl (by kernel_rfl) (by kernel_rfl) (by kernel_rfl) (fun _ _ _ h => h) (Or.inr ⟨by rfl, rfl⟩) (by assumption) ?_
                     try simp only [Act.put, List.setIfInBounds_toArray, List.set_cons_zero, List.set_cons_succ, List.getElem_toArray, List.getElem_cons_succ, List.getElem_cons_zero])
                  refine wpAnyH_ready (rs := [21]) (by kernel_rfl) (by simp) ?_
                  refine AllReadyH.cons rfl (fun K hK => ?_) AllReadyH.nil
                  rw [if_pos (by rfl)]
                  go_simp
                  go_at_call 46; refine (HPO.out _ (drewB (Below.refl _ _))).mono ?_; rintro e w4 ⟨⟨g', rfl, hge, hs4⟩, hb4⟩; have hB4 : Below wr.heap.size wr w4 := (drewB (Below.refl _ _)).trans (below_of_le hb4 (Nat.le_refl _)); have t1 := HCL.out _ hB4
                  try go_wp2_with fail
                  refine hK.out _ _ t1 (fun hHeld => ?_)
                  clear hK K
                  try simp only [Act.put, List.setIfInBounds_toArray, List.set_cons_zero, List.set_cons_succ, List.getElem_toArray, List.getElem_cons_succ, List.getElem_cons_zero]
                  refine wpAnyH_ready (rs := [22]) (by kernel_rfl) (by simp) ?_
                  refine AllReadyH.cons rfl (fun K hK => ?_) AllReadyH.nil
                  rw [if_pos (by rfl)]
                  go_simp
                  go_at_call 45; refine (HJO.out w4 g' (HST.out.below hB4) hs4 (by have := HST.out.lt; simp only [World.size_drew] at hge; omega)).mono ?_; rintro e w5 ⟨rfl, hs5, hk5⟩; have t2 := HCJ.out _ _ hk5 t1
                  try go_wp2_with fail
                  refine hK.out _ _ t2 (fun hHeld => ?_)
                  clear hK K
                  try simp only [Act.put, List.setIfInBounds_toArray, List.set_cons_zero, List.set_cons_succ, List.getElem_toArray, List.getElem_cons_succ, List.getElem_cons_zero]
                  first
                  | (refine wpAnyH_take (i := 23) (v := ?_) rfl (by kernel_rfl) (by kernel_rfl) (by kernel_rfl) (fun _ _ _ h => h) (Or.inl ⟨by rfl, ?_⟩) (by assumption) ?_
                     rotate_left 1
                     focus (intro w hSw; (try dsimp only at hSw); first | (go_simp; done) | (go_simp; with_reducible rfl))
                     try simp only [Act.put, List.setIfInBounds_toArray, List.set_cons_zero, List.set_cons_succ, List.getElem_toArray, List.getElem_cons_succ, List.getElem_cons_zero])
                  | (refine wpAnyH_take (i := 23) (v := undef) rfl (by kernel_rfl) (by kernel_rfl) (by kernel_rfl) (fun _ _ _ h => h) (Or.inr ⟨by rfl, rfl⟩) (by assumption) ?_
                     try simp only [Act.put, List.setIfInBounds_toArray, List.set_cons_zero, List.set_cons_succ, List.getElem_toArray, List.getElem_cons_succ, List.getElem_cons_zero])
                  refine wpAnyH_done (by kernel_rfl) ?_ _
                  have HN := Lib.hid (show LvS w1 gl gg F.bl.length m (.slice (some ⟨gi, 0, none⟩) F.bl.length ci) gs (ins2.set j Nj) w5 ∧ SetAt w5 gc sec m from
                    ⟨LvS.join (HW.out.1.below hB4) HGS.out hk5 hs5, (HW.out.2.below hB4).keeps hk5 (HNE.out j g HGS.out)⟩)
                  clear hb4 hge hs4 hs5 hk5 hB4 HW HPO HJO HCL HCJ HST HGS
                  cases gw with
                  | true =>
                    have HT2 := Lib.hid (show totAll (ins2.set j Nj) + (if true = true then 1 else 0) ≤ totAll ins from by
                      have h1 := HTO.out
                      have h2 := HP2.out
                      rw [if_pos rfl] at h1 ⊢
                      omega)
                    have HPQ := Lib.hid (show passP F sec j (ins2.set j Nj, true) = round F ins from by
                      have := HPP.out
                      rwa [Bool.or_true] at this)
                    clear HTO HP2 HPP
                    go_wp2_with fail
                    try rw [hw2]
                    go_roundw
                    case rel => exact ⟨j, true, ins2.set j Nj, by omega, rfl, rfl, HN.out, HPQ.out, HT2.out⟩
                    case measure => simp [intOf]
                  | false =>
                    have HT2 := Lib.hid (show totAll (ins2.set j Nj) + (if b2 = true then 1 else 0) ≤ totAll ins from by
                      have h1 := HTO.out
                      have h2 := HP2.out
                      rw [if_neg (by decide)] at h1
                      omega)
                    have HPQ := Lib.hid (show passP F sec j (ins2.set j Nj, b2) = round F ins from by
                      have := HPP.out
                      rwa [Bool.or_false] at this)
                    clear HTO HP2 HPP
                    go_wp2_with fail
                    try rw [hw2]
                    go_roundw
                    case rel => exact ⟨j, b2, ins2.set j Nj, by omega, rfl, rfl, HN.out, HPQ.out, HT2.out⟩
                    case measure => simp [intOf]
end Go.Proofs.YtlmoblmkhicoeaaGreatDoor

/- Walks: twice.kept. Conditions: a pass, a set. -/
import Derived.Test.YtlmoblmkhicoeaaGreatDoorW6
set_option linter.unusedVariables false
set_option linter.unusedSimpArgs false
namespace Go.Proofs.YtlmoblmkhicoeaaGreatDoor
open Go.RowKit
/-- What a set keeps. -/
def keptF (F : Fn) (b : Nat) : List Int := ((liveIn F).getD (blk F b).x.e.toNat []).filter (fun r => !(r == (blk F b).x.d))
theorem kept1_any (gx : Nat) (x : Ex) (r : Int) (w : World) (h : Blk w gx 43 (exA x)) :
    Calls Tryz.prog 43 #[.int .i64 r, .pointer (some ⟨gx, 0, none⟩)] w fun e w' => e = .returned (.bool (r == x.d)) ∧ Below w.heap.size w w' := by
  have c2 : w.cell? ⟨gx, 2, none⟩ = some (.int .i64 x.d) := (h.cell 2).trans rfl
  clear h
  go_enter Tryz.func43, Tryz.ntmps43
  go_wp2_with fail
  go_ret
  exact ⟨rfl, Below.refl _ _⟩
theorem enters43 : ∀ (a : Array Value) (w : World), (callFunc 43 a).run Tryz.prog w = .ok (.enter 43 a) w := fun _ _ => by kernel_rfl
theorem set_ok {F : Fn} (h : FnOk F) {b : Nat} (hb : b < F.bl.length) (hk : (blk F b).x.k = 4) : (1 ≤ (blk F b).x.e ∧ (blk F b).x.e < (F.bl.length : Int)) ∧ (1 ≤ (blk F b).x.t ∧ (blk F b).x.t < (F.bl.length : Int)) ∧ (0 ≤ (blk F b).x.d ∧ (blk F b).x.d < F.rs) := by
  have hset := exB_set (h.ex _ (List.getElem_mem hb)) (by rw [← blk_at_ hb]; exact hk)
  rw [← blk_at_ hb] at hset
  exact ⟨hset.1, hset.2.1, hset.2.2.1⟩
theorem bitsL_len64 (x : Nat) (h : x < 2 ^ 64) : (bitsL x).length ≤ 64 := bitsL_len 64 x h
set_option maxRecDepth 100000 in
set_option maxHeartbeats 4000000 in
theorem kept_any (gp : Nat) (F : Fn) (sv bv rv tov inv ouv : Value) (b : Nat) (hb : b < F.bl.length) (hk : (blk F b).x.k = 4) (w : World) (h : PassAt w gp F sv bv rv tov inv ouv) (hll : ∀ l ∈ liveIn F, l.length ≤ 4096) :
    Calls Tryz.prog 27 #[.pointer (some ⟨gp, 0, none⟩), .int .i64 b] w fun e w' => (∃ v, e = .returned v ∧ OwnI w' w.heap.size v (keptF F b)) ∧ Below w.heap.size w w' := by
  have hn2 := h.ok.b2
  obtain ⟨⟨e1, e2⟩, -, -⟩ := set_ok h.ok hb hk
  obtain ⟨en, hen⟩ : ∃ en : Nat, (blk F b).x.e = (en : Int) := ⟨(blk F b).x.e.toNat, by omega⟩
  have henl : en < F.bl.length := by omega
  obtain ⟨g2, o2, c2, Ao, co, rfl, r1, r2, r3, r4⟩ := h.bl_ hb
  obtain ⟨g3, o3, c3, Al, cl, rfl, t1, t2, t3, t4, t5, t6⟩ := row_ h.li (liveIn_len F) henl
  have p4 : w.cell? ⟨gp, 4, none⟩ = some (.slice (some ⟨g2, o2, none⟩) F.bl.length c2) := (h.pb.cell 4).trans rfl
  have p7 : w.cell? ⟨gp, 7, none⟩ = some (.slice (some ⟨g3, o3, none⟩) F.bl.length c3) := (h.pb.cell 7).trans rfl
  have HK := Lib.hid (show keptF F b = ((liveIn F).getD en []).filter (fun r => !(r == (blk F b).x.d)) from by rw [keptF, hen]; rfl)
  have hl0 : ((liveIn F).getD en []).length ≤ 4096 := by
    have : en < (liveIn F).length := by rw [liveIn_len]; exact henl
    have e : (liveIn F).getD en [] = (liveIn F)[en] := by simp [this]
    rw [e]; exact hll _ (List.getElem_mem this)
  obtain ⟨l, hl⟩ : ∃ l, (liveIn F).getD en [] = l := ⟨_, rfl⟩
  rw [hl] at HK t3 t4 t5 hl0
  obtain ⟨bb, hbb⟩ : ∃ bb, blk F b = bb := ⟨_, rfl⟩
  rw [hbb] at r4 HK hen
  obtain ⟨s0, s1, s2, s3, s4, s5, s6⟩ := r4
  rw [hen] at s5
  obtain ⟨gx, hgx⟩ : ∃ gx, w.heap.size = gx := ⟨_, rfl⟩
  have hal := below1 w (.cells #[.int .i64 bb.x.k, .int .i64 bb.x.a, .int .i64 bb.x.d, .int .i64 bb.x.t, .int .i64 (en : Int)] 43)
  have hX : Blk (w.alloc (.cells #[.int .i64 bb.x.k, .int .i64 bb.x.a, .int .i64 bb.x.d, .int .i64 bb.x.t, .int .i64 (en : Int)] 43)) w.heap.size 43 (exA bb.x) := by
    unfold exA; rw [hen]; exact Blk.new _ _ _
  have HX := Lib.hid (And.intro hX hal)
  have HL := Lib.hid (show Ints (w.alloc (.cells #[.int .i64 bb.x.k, .int .i64 bb.x.a, .int .i64 bb.x.d, .int .i64 bb.x.t, .int .i64 (en : Int)] 43)) (.slice Al l.length cl) l from t4.below hal)
  have HCL := Lib.hid (fun W (hW : Below (w.alloc (.cells #[.int .i64 bb.x.k, .int .i64 bb.x.a, .int .i64 bb.x.d, .int .i64 bb.x.t, .int .i64 (en : Int)] 43)).heap.size (w.alloc (.cells #[.int .i64 bb.x.k, .int .i64 bb.x.a, .int .i64 bb.x.d, .int .i64 bb.x.t, .int .i64 (en : Int)] 43)) W) => show W.cell? ⟨gp, 7, none⟩ = some (.slice (some ⟨g3, o3, none⟩) F.bl.length c3) ∧ W.cell? ⟨w.heap.size, 4, none⟩ = some (.int .i64 (en : Int)) ∧ W.cell? ⟨g3, o3 + en, none⟩ = some (.slice Al l.length cl) from
    ⟨(hW.cell (p := ⟨gp, 7, none⟩) (cell_lt (cell_al p7 _))).trans (cell_al p7 _), (hW.cell (p := ⟨w.heap.size, 4, none⟩) hX.lt).trans ((hX.cell 4).trans (by unfold exA; rw [hen]; rfl)), (hW.cell (p := ⟨g3, o3 + en, none⟩) (cell_lt (cell_al t3 _))).trans (cell_al t3 _)⟩)
  have hlt : (b : Int) < (F.bl.length : Int) := by omega
  have hlt2 : (en : Int) < (F.bl.length : Int) := by omega
  obtain ⟨W0, hW0⟩ : ∃ W0, w.alloc (.cells #[.int .i64 bb.x.k, .int .i64 bb.x.a, .int .i64 bb.x.d, .int .i64 bb.x.t, .int .i64 (en : Int)] 43) = W0 := ⟨_, rfl⟩
  have HW0 := Lib.hid hW0
  rw [hW0] at HX HL HCL
  have HCI := Lib.hid (fun W (hW : Below W0.heap.size W0 W) => cloneI_any l (.slice Al l.length cl) W (HL.out.below hW) (by omega))
  have HDI := Lib.hid (fun (W : World) (v : Value) (hW : Below W0.heap.size W0 W) (ho : OwnI W W0.heap.size v l) => deleteI_any l v W0.heap.size 43 #[.pointer (some ⟨w.heap.size, 0, none⟩)] (fun r => r == bb.x.d) W enters43 ho (by omega) (fun W2 hk x => kept1_any w.heap.size bb.x x W2 ((HX.out.1.below hW HX.out.1.lt).keeps hk (RRow.ne (HX.out.1.below hW HX.out.1.lt) (by decide) ho w.heap.size |> fun hh e => hh e rfl))))
  clear h hbb s6 hal hX t4 hl hgx hW0 hk e1 e2
  go_enter Tryz.func27, Tryz.ntmps27
  go_upto_region 2 with fail
  rw [HW0.out]
  refine wp_region_held_drew (S := (fun W => W.cell? ⟨gp, 7, none⟩ = some (.slice (some ⟨g3, o3, none⟩) F.bl.length c3) ∧ W.cell? ⟨w.heap.size, 4, none⟩ = some (.int .i64 (en : Int)) ∧ W.cell? ⟨g3, o3 + en, none⟩ = some (.slice Al l.length cl))) (by kernel_rfl) ?_ (fun hHeld => ?_)
  · exact HCL.out _ (drewB (Below.refl _ _))
  first
  | (refine wpAnyH_take (i := 0) (v := ?_) rfl (by kernel_rfl) (by kernel_rfl) (by kernel_rfl) (fun _ _ _ h => h) (Or.inl ⟨by rfl, ?_⟩) (by assumption) ?_
     rotate_left 1
     focus (intro w hSw; (try dsimp only at hSw); first | (go_simp; done) | (go_simp; with_reducible rfl))
     try simp only [Act.put, List.setIfInBounds_toArray, List.set_cons_zero, List.set_cons_succ, List.getElem_toArray, List.getElem_cons_succ, List.getElem_cons_zero])
  | (refine wpAnyH_take (i := 0) (v := undef) rfl (by kernel_rfl) (by kernel_rfl) (by kernel_rfl) (fun _ _ _ h => h) (Or.inr ⟨by rfl, rfl⟩) (by assumption) ?_
     try simp only [Act.put, List.setIfInBounds_toArray, List.set_cons_zero, List.set_cons_succ, List.getElem_toArray, List.getElem_cons_succ, List.getElem_cons_zero])
  first
  | (refine wpAnyH_take (i := 1) (v := ?_) rfl (by kernel_rfl) (by kernel_rfl) (by kernel_rfl) (fun _ _ _ h => h) (Or.inl ⟨by rfl, ?_⟩) (by assumption) ?_
     rotate_left 1
     focus (intro w hSw; (try dsimp only at hSw); first | (go_simp; done) | (go_simp; with_reducible rfl))
     try simp only [Act.put, List.setIfInBounds_toArray, List.set_cons_zero, List.set_cons_succ, List.getElem_toArray, List.getElem_cons_succ, List.getElem_cons_zero])
  | (refine wpAnyH_take (i := 1) (v := undef) rfl (by kernel_rfl) (by kernel_rfl) (by kernel_rfl) (fun _ _ _ h => h) (Or.inr ⟨by rfl, rfl⟩) (by assumption) ?_
     try simp only [Act.put, List.setIfInBounds_toArray, List.set_cons_zero, List.set_cons_succ, List.getElem_toArray, List.getElem_cons_succ, List.getElem_cons_zero])
  first
  | (refine wpAnyH_take (i := 2) (v := ?_) rfl (by kernel_rfl) (by kernel_rfl) (by kernel_rfl) (fun _ _ _ h => h) (Or.inl ⟨by rfl, ?_⟩) (by assumption) ?_
     rotate_left 1
     focus (intro w hSw; (try dsimp only at hSw); first | (go_simp; done) | (go_simp; with_reducible rfl))
     try simp only [Act.put, List.setIfInBounds_toArray, List.set_cons_zero, List.set_cons_succ, List.getElem_toArray, List.getElem_cons_succ, List.getElem_cons_zero])
  | (refine wpAnyH_take (i := 2) (v := undef) rfl (by kernel_rfl) (by kernel_rfl) (by kernel_rfl) (fun _ _ _ h => h) (Or.inr ⟨by rfl, rfl⟩) (by assumption) ?_
     try simp only [Act.put, List.setIfInBounds_toArray, List.set_cons_zero, List.set_cons_succ, List.getElem_toArray, List.getElem_cons_succ, List.getElem_cons_zero])
  first
  | (refine wpAnyH_take (i := 3) (v := ?_) rfl (by kernel_rfl) (by kernel_rfl) (by kernel_rfl) (fun _ _ _ h => h) (Or.inl ⟨by rfl, ?_⟩) (by assumption) ?_
     rotate_left 1
     focus (intro w hSw; (try dsimp only at hSw); first | (go_simp; done) | (go_simp; with_reducible rfl))
     try simp only [Act.put, List.setIfInBounds_toArray, List.set_cons_zero, List.set_cons_succ, List.getElem_toArray, List.getElem_cons_succ, List.getElem_cons_zero])
  | (refine wpAnyH_take (i := 3) (v := undef) rfl (by kernel_rfl) (by kernel_rfl) (by kernel_rfl) (fun _ _ _ h => h) (Or.inr ⟨by rfl, rfl⟩) (by assumption) ?_
     try simp only [Act.put, List.setIfInBounds_toArray, List.set_cons_zero, List.set_cons_succ, List.getElem_toArray, List.getElem_cons_succ, List.getElem_cons_zero])
  first
  | (refine wpAnyH_take (i := 4) (v := ?_) rfl (by kernel_rfl) (by kernel_rfl) (by kernel_rfl) (fun _ _ _ h => h) (Or.inl ⟨by rfl, ?_⟩) (by assumption) ?_
     rotate_left 1
     focus (intro w hSw; (try dsimp only at hSw); first | (go_simp; done) | (go_simp; with_reducible rfl))
     try simp only [Act.put, List.setIfInBounds_toArray, List.set_cons_zero, List.set_cons_succ, List.getElem_toArray, List.getElem_cons_succ, List.getElem_cons_zero])
  | (refine wpAnyH_take (i := 4) (v := undef) rfl (by kernel_rfl) (by kernel_rfl) (by kernel_rfl) (fun _ _ _ h => h) (Or.inr ⟨by rfl, rfl⟩) (by assumption) ?_
     try simp only [Act.put, List.setIfInBounds_toArray, List.set_cons_zero, List.set_cons_succ, List.getElem_toArray, List.getElem_cons_succ, List.getElem_cons_zero])
  first
  | (refine wpAnyH_take (i := 5) (v := ?_) rfl (by kernel_rfl) (by kernel_rfl) (by kernel_rfl) (fun _ _ _ h => h) (Or.inl ⟨by rfl, ?_⟩) (by assumption) ?_
     rotate_left 1
     focus (intro w hSw; (try dsimp only at hSw); first | (go_simp; done) | (go_simp; with_reducible rfl))
     try simp only [Act.put, List.setIfInBounds_toArray, List.set_cons_zero, List.set_cons_succ, List.getElem_toArray, List.getElem_cons_succ, List.getElem_cons_zero])
  | (refine wpAnyH_take (i := 5) (v := undef) rfl (by kernel_rfl) (by kernel_rfl) (by kernel_rfl) (fun _ _ _ h => h) (Or.inr ⟨by rfl, rfl⟩) (by assumption) ?_
     try simp only [Act.put, List.setIfInBounds_toArray, List.set_cons_zero, List.set_cons_succ, List.getElem_toArray, List.getElem_cons_succ, List.getElem_cons_zero])
  first
  | (refine wpAnyH_take (i := 6) (v := ?_) rfl (by kernel_rfl) (by kernel_rfl) (by kernel_rfl) (fun _ _ _ h => h) (Or.inl ⟨by rfl, ?_⟩) (by assumption) ?_
     rotate_left 1
     focus (intro w hSw; (try dsimp only at hSw); first | (go_simp; done) | (go_simp; with_reducible rfl))
     try simp only [Act.put, List.setIfInBounds_toArray, List.set_cons_zero, List.set_cons_succ, List.getElem_toArray, List.getElem_cons_succ, List.getElem_cons_zero])
  | (refine wpAnyH_take (i := 6) (v := undef) rfl (by kernel_rfl) (by kernel_rfl) (by kernel_rfl) (fun _ _ _ h => h) (Or.inr ⟨by rfl, rfl⟩) (by assumption) ?_
     try simp only [Act.put, List.setIfInBounds_toArray, List.set_cons_zero, List.set_cons_succ, List.getElem_toArray, List.getElem_cons_succ, List.getElem_cons_zero])
  first
  | (refine wpAnyH_take (i := 7) (v := ?_) rfl (by kernel_rfl) (by kernel_rfl) (by kernel_rfl) (fun _ _ _ h => h) (Or.inl ⟨by rfl, ?_⟩) (by assumption) ?_
     rotate_left 1
     focus (intro w hSw; (try dsimp only at hSw); first | (go_simp; done) | (go_simp; with_reducible rfl))
     try simp only [Act.put, List.setIfInBounds_toArray, List.set_cons_zero, List.set_cons_succ, List.getElem_toArray, List.getElem_cons_succ, List.getElem_cons_zero])
  | (refine wpAnyH_take (i := 7) (v := undef) rfl (by kernel_rfl) (by kernel_rfl) (by kernel_rfl) (fun _ _ _ h => h) (Or.inr ⟨by rfl, rfl⟩) (by assumption) ?_
     try simp only [Act.put, List.setIfInBounds_toArray, List.set_cons_zero, List.set_cons_succ, List.getElem_toArray, List.getElem_cons_succ, List.getElem_cons_zero])
  first
  | (refine wpAnyH_take (i := 8) (v := ?_) rfl (by kernel_rfl) (by kernel_rfl) (by kernel_rfl) (fun _ _ _ h => h) (Or.inl ⟨by rfl, ?_⟩) (by assumption) ?_
     rotate_left 1
     focus (intro w hSw; (try dsimp only at hSw); first | (go_simp; done) | (go_simp; with_reducible rfl))
     try simp only [Act.put, List.setIfInBounds_toArray, List.set_cons_zero, List.set_cons_succ, List.getElem_toArray, List.getElem_cons_succ, List.getElem_cons_zero])
  | (refine wpAnyH_take (i := 8) (v := undef) rfl (by kernel_rfl) (by kernel_rfl) (by kernel_rfl) (fun _ _ _ h => h) (Or.inr ⟨by rfl, rfl⟩) (by assumption) ?_
     try simp only [Act.put, List.setIfInBounds_toArray, List.set_cons_zero, List.set_cons_succ, List.getElem_toArray, List.getElem_cons_succ, List.getElem_cons_zero])
  first
  | (refine wpAnyH_take (i := 10) (v := ?_) rfl (by kernel_rfl) (by kernel_rfl) (by kernel_rfl) (fun _ _ _ h => h) (Or.inl ⟨by rfl, ?_⟩) (by assumption) ?_
     rotate_left 1
     focus (intro w hSw; (try dsimp only at hSw); first | (go_simp; done) | (go_simp; with_reducible rfl))
     try simp only [Act.put, List.setIfInBounds_toArray, List.set_cons_zero, List.set_cons_succ, List.getElem_toArray, List.getElem_cons_succ, List.getElem_cons_zero])
  | (refine wpAnyH_take (i := 10) (v := undef) rfl (by kernel_rfl) (by kernel_rfl) (by kernel_rfl) (fun _ _ _ h => h) (Or.inr ⟨by rfl, rfl⟩) (by assumption) ?_
     try simp only [Act.put, List.setIfInBounds_toArray, List.set_cons_zero, List.set_cons_succ, List.getElem_toArray, List.getElem_cons_succ, List.getElem_cons_zero])
  refine wpAnyH_ready (rs := [9]) (by kernel_rfl) (by simp) ?_
  refine AllReadyH.cons rfl (fun K hK => ?_) AllReadyH.nil
  rw [if_pos (by rfl)]
  go_simp
  go_at_call 21; refine (HCI.out _ (drewB (Below.refl _ _))).mono ?_; rintro e w4 ⟨⟨v1, rfl, ho1⟩, hb4⟩; obtain ⟨A1, c1, rfl, -, -⟩ := ho1.form; have hB4 : Below W0.heap.size W0 w4 := (drewB (Below.refl _ _)).trans (below_of_le hb4 (Nat.le_refl _)); have t1 := HCL.out _ hB4
  try go_wp2_with fail
  refine hK.out _ _ t1 (fun hHeld => ?_)
  clear hK K
  try simp only [Act.put, List.setIfInBounds_toArray, List.set_cons_zero, List.set_cons_succ, List.getElem_toArray, List.getElem_cons_succ, List.getElem_cons_zero]
  refine wpAnyH_ready (rs := [11]) (by kernel_rfl) (by simp) ?_
  refine AllReadyH.cons rfl (fun K hK => ?_) AllReadyH.nil
  rw [if_pos (by rfl)]
  go_simp
  go_at_call 42; refine (HDI.out w4 _ hB4 ho1).mono ?_; rintro e w5 ⟨⟨v2, rfl, ho2⟩, hk5⟩; obtain ⟨A2, c2', rfl, -, -⟩ := ho2.form; have hB5 : Below W0.heap.size W0 w5 := hB4.trans (hk5.toBelow hB4.size (fun q hq e => by have h5 := ho1.ge q e; simp only [World.size_drew] at h5; omega)); have t2 := HCL.out _ hB5
  try go_wp2_with fail
  refine hK.out _ _ t2 (fun hHeld => ?_)
  clear hK K
  try simp only [Act.put, List.setIfInBounds_toArray, List.set_cons_zero, List.set_cons_succ, List.getElem_toArray, List.getElem_cons_succ, List.getElem_cons_zero]
  first
  | (refine wpAnyH_take (i := 12) (v := ?_) rfl (by kernel_rfl) (by kernel_rfl) (by kernel_rfl) (fun _ _ _ h => h) (Or.inl ⟨by rfl, ?_⟩) (by assumption) ?_
     rotate_left 1
     focus (intro w hSw; (try dsimp only at hSw); first | (go_simp; done) | (go_simp; with_reducible rfl))
     try simp only [Act.put, List.setIfInBounds_toArray, List.set_cons_zero, List.set_cons_succ, List.getElem_toArray, List.getElem_cons_succ, List.getElem_cons_zero])
  | (refine wpAnyH_take (i := 12) (v := undef) rfl (by kernel_rfl) (by kernel_rfl) (by kernel_rfl) (fun _ _ _ h => h) (Or.inr ⟨by rfl, rfl⟩) (by assumption) ?_
     try simp only [Act.put, List.setIfInBounds_toArray, List.set_cons_zero, List.set_cons_succ, List.getElem_toArray, List.getElem_cons_succ, List.getElem_cons_zero])
  refine wpAnyH_done (by kernel_rfl) ?_ _
  have HN := Lib.hid (And.intro ho2 hB5)
  have hwB := HX.out.2.size
  clear ho1 ho2 hb4 hB4 hk5 hB5 HDI HCI HCL
  go_wp2_with fail
  go_ret
  exact ⟨⟨_, rfl, by rw [HK.out]; exact HN.out.1.lower hwB⟩, HX.out.2.trans (below_of_le HN.out.2 hwB)⟩
end Go.Proofs.YtlmoblmkhicoeaaGreatDoor

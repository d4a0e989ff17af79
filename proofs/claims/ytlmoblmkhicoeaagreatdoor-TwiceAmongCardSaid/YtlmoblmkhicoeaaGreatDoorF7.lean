/- Plain: the registers of a right operation. No conditions. Walks: back. Conditions: what lies where. -/
import Derived.Test.YtlmoblmkhicoeaaGreatDoorF3
import Derived.Test.YtlmoblmkhicoeaaGreatDoorF5
set_option linter.unusedVariables false
set_option linter.unusedSimpArgs false
namespace Go.Proofs.YtlmoblmkhicoeaaGreatDoor
theorem regB_lt {regs r : Int} {u m : Bool} (h : regB regs r u m = true) (h0 : 0 ≤ r) : r < regs := by
  unfold regB at h
  split at h
  · omega
  · simp at h; omega
theorem regB_ge {regs r : Int} {u m : Bool} (h : regB regs r u m = true) : -1 ≤ r := by
  unfold regB at h
  split at h
  · omega
  · simp at h; omega
theorem opB_parts {regs sl st : Int} {o : Op} (h : opB regs sl st o = true) : (∀ r ∈ o.a :: o.b :: o.ar, 0 ≤ r → r < regs) ∧ (0 ≤ o.d → o.d < regs) ∧ -1 ≤ o.d := by
  unfold opB at h
  split at h
  · cases h
  · rename_i r hr
    simp only [Bool.and_eq_true, List.all_eq_true] at h
    obtain ⟨h1, h2, h3, -, -, -, h7, -⟩ := h
    refine ⟨fun x hx h0 => ?_, fun h0 => regB_lt h1 h0, regB_ge h1⟩
    rcases List.mem_cons.1 hx with rfl | hx
    · exact regB_lt h2 h0
    · rcases List.mem_cons.1 hx with rfl | hx
      · exact regB_lt h3 h0
      · exact regB_lt (h7 x hx) h0
theorem reads_mem {o : Op} {r : Int} (h : r ∈ reads o) : r ∈ o.a :: o.b :: o.ar ∧ 0 ≤ r := by
  unfold reads at h
  split at h
  · have := List.mem_filter.1 h
    exact ⟨this.1, by simpa using this.2⟩
  · cases h
theorem reads_lt {o : Op} {r : Int} (h : r ∈ reads o) : 0 ≤ r ∧ r < 4096 := by
  have h0 := (reads_mem h).2
  have hm := (reads_mem h).1
  unfold reads at h
  split at h
  · rename_i ho
    exact ⟨h0, (opB_parts ho).1 r hm h0⟩
  · cases h
theorem reads_len (o : Op) : (reads o).length ≤ o.ar.length + 2 := by
  unfold reads
  split
  · exact Nat.le_trans (List.length_filter_le _ _) (by simp)
  · simp
end Go.Proofs.YtlmoblmkhicoeaaGreatDoor
namespace Go.Proofs.YtlmoblmkhicoeaaGreatDoor
open Go.RowKit
theorem ints_keeps0 {W W' : World} {F : Nat → Prop} {v : Value} {l : List Int} (h : Ints W v l) (hk : Keeps F W W') (hF : 0 < l.length → ∀ g, v.ownBlock = some g → ¬ F g) : Ints W' v l := by
  obtain ⟨A, cap, h1, h2, h3, h4⟩ := h
  refine ⟨A, cap, h1, h2, h3, fun hn => ?_⟩
  obtain ⟨g, off, e, hg, hc⟩ := h4 hn
  refine ⟨g, off, e, Nat.lt_of_lt_of_le hg hk.size, fun j u hj => (hk.cell (p := ⟨g, off + j, none⟩) hg (hF hn g ?_)).trans (hc j u hj)⟩
  rw [h1, e]; rfl
theorem ints_blk_lt {W : World} {v : Value} {l : List Int} (h : Ints W v l) (hn : 0 < l.length) : ∀ g, v.ownBlock = some g → g < W.heap.size := by
  intro g hg
  obtain ⟨gg, off, cap, rfl, h2, h3, h4, h5⟩ := h.open_ hn
  cases hg
  exact h4
set_option maxRecDepth 100000 in
set_option maxHeartbeats 4000000 in
theorem back_any (F : Fn) (g gc : Nat) (ws sec : List Nat) (m : Nat) (o : Op) (av : Value) (w : World) (hm : F.rs.toNat = m) (hm2 : m ≤ 4096) (hs : SetAt w g ws m) (hc : SetAt w gc sec m) (hne : gc ≠ g) (ha : Ints w av o.ar) (hk : KeysAt w) (ht : o.tx.size ≤ maxLen) (hl : o.ar.length ≤ 17592186044414) (hd : o.d < 4096) (hg0 : g ≠ 1) (hav : 0 < o.ar.length → ∀ q, av.ownBlock = some q → q ≠ g) :
    Calls Tryz.prog 70 #[.pointer (some ⟨g, 0, none⟩), opv o av, .pointer (some ⟨gc, 0, none⟩)] w fun e w' => e = .returned (.tuple #[]) ∧ SetAt w' g (backP F sec ws o) m ∧ Keeps (fun k => k = g) w w' := by
  obtain ⟨A, c, rfl, h1, h2⟩ := ha.form
  have hal := below1 w (.cells (opA o (.slice A o.ar.length c)) 75)
  have HDR := Lib.hid (drop_any g ws m o.d _ (hs.below hal) hd)
  have HBX := Lib.hid (Blk.new w 75 (opA o (.slice A o.ar.length c)))
  have hglt := hs.lt
  have HC := Lib.hid hc
  have HA := Lib.hid (And.intro ha hk)
  have HAV := Lib.hid hav
  have HRD := Lib.hid (fun W av' a b => reads_any o av' W a b ht hl)
  have HJU := Lib.hid (fun W av' h => jumps_any o av' W h)
  have HRL := Lib.hid (fun (r : Int) (h : r ∈ reads o) => reads_lt h)
  have HRN := Lib.hid (reads_len o)
  have HBP := Lib.hid (show backP F sec ws o = if jumpsB o then joinN ((reads o).foldl putI (dropW ws o.d)) sec ((m + 63) / 64) else (reads o).foldl putI (dropW ws o.d) by rw [backP, nW, hm])
  have HK0 := Lib.hid ((Keeps.refl (fun k => k = g) w).alloc (.cells (opA o (.slice A o.ar.length c)) 75))
  clear ha hk hs hc hal ht hm hav
  unfold opA at HDR HBX HK0
  unfold opv at HRD HJU
  unfold opv
  go_enter Tryz.func70, Tryz.ntmps70
  go_wp2_with fail
  refine HDR.out.mono ?_
  rintro e w1 ⟨rfl, hs1, hk1⟩
  have hbx1 := HBX.out.keeps hk1 (by show ¬ w.heap.size = g; omega)
  have hK1 := HK0.out.trans hk1 (fun _ _ h => h)
  have f0 : w1.cell? ⟨w.heap.size, 0, none⟩ = some (.int .i64 o.k) := (hbx1.cell 0).trans rfl
  have f1 : w1.cell? ⟨w.heap.size, 1, none⟩ = some (.int .i64 o.d) := (hbx1.cell 1).trans rfl
  have f2 : w1.cell? ⟨w.heap.size, 2, none⟩ = some (.int .i64 o.a) := (hbx1.cell 2).trans rfl
  have f3 : w1.cell? ⟨w.heap.size, 3, none⟩ = some (.int .i64 o.b) := (hbx1.cell 3).trans rfl
  have f4 : w1.cell? ⟨w.heap.size, 4, none⟩ = some (.int .i64 o.im) := (hbx1.cell 4).trans rfl
  have f5 : w1.cell? ⟨w.heap.size, 5, none⟩ = some (.string o.tx) := (hbx1.cell 5).trans rfl
  have f6 : w1.cell? ⟨w.heap.size, 6, none⟩ = some (.slice A o.ar.length c) := (hbx1.cell 6).trans rfl
  have HR1 := Lib.hid (HRD.out w1 (.slice A o.ar.length c) (ints_keeps0 HA.out.1 hK1 HAV.out) (HA.out.2.keeps hK1 (fun e => hg0 e.symm)))
  have HS1 := Lib.hid (And.intro hs1 (And.intro hbx1 hK1))
  clear hs1 hk1 hbx1 hK1 HDR HBX HRD HK0
  go_wp2_with fail
  refine HR1.out.mono ?_
  rintro e w2 ⟨⟨rv, rfl, hrv, hfr⟩, hb2⟩
  obtain ⟨Ar, cr, rfl, q1, q2⟩ := hrv.form
  unfold maxLen at q2
  have HS2 := Lib.hid (show SetAt w2 g (dropW ws o.d) m ∧ Keeps (fun k => k = g) w w2 ∧ Blk w2 w.heap.size 75 (opA o (.slice A o.ar.length c)) from ⟨HS1.out.1.below hb2, HS1.out.2.2.trans (keeps_of_below _ hb2) (fun _ _ h => h), HS1.out.2.1.below hb2 HS1.out.2.1.lt⟩)
  have HRV := Lib.hid hrv
  have HFR := Lib.hid (show ∀ q, (Value.slice Ar (reads o).length cr).ownBlock = some q → ¬ q = g from fun q hq => by
    have h5 := hfr q hq
    have h6 := HS1.out.2.1.lt
    omega)
  obtain ⟨rs, hrs⟩ : ∃ rs, reads o = rs := ⟨_, rfl⟩
  rw [hrs] at HRV HFR HBP HRL HRN q1
  rw [hrs]
  clear hrv hfr hb2 f0 f1 f2 f3 f4 f5 f6 HS1 HR1 hrs
  go_wp2_with fail
  go_loopw [15] (fun i wr => ∃ j : Nat, j ≤ rs.length ∧ i = .int .i64 j ∧ Hid (SetAt wr g ((rs.take j).foldl putI (dropW ws o.d)) m ∧ Keeps (fun k => k = g) w wr ∧ Blk wr w.heap.size 75 (opA o (.slice A o.ar.length c)) ∧ Ints wr (.slice Ar rs.length cr) rs)) (fun i _ => rs.length - (intOf i).toNat)
  case atStart => exact ⟨0, Nat.zero_le _, rfl, HS2.out.1, HS2.out.2.1, HS2.out.2.2, HRV.out⟩
  case round =>
    clear HS2 HRV
    obtain ⟨j, hj, rfl, HW⟩ := hrel
    by_cases hjt : j < rs.length
    · obtain ⟨gt, ot, ct, ea, t1, t2, tg, tc⟩ := HW.out.2.2.2.open_ (Nat.lt_of_le_of_lt (Nat.zero_le _) hjt)
      cases ea
      have c0 := tc j hjt
      have htt := HRL.out rs[j] (List.getElem_mem hjt)
      have hst := foldS_step putI rs (dropW ws o.d) hjt
      obtain ⟨t, ht⟩ : ∃ t : Nat, rs[j] = (t : Int) := ⟨rs[j].toNat, by omega⟩
      rw [ht] at c0 htt hst
      have HPU := Lib.hid (put_any g _ m t wr HW.out.1 (by omega))
      have HST := Lib.hid (show (rs.take (j + 1)).foldl putI (dropW ws o.d) = putW ((rs.take j).foldl putI (dropW ws o.d)) t by rw [hst, putI, show ((t : Int)).toNat = t by omega])
      clear tc htt hst ht
      go_wp2_with fail
      refine HPU.out.mono ?_
      rintro e w4 ⟨rfl, hs4, hk4⟩
      have HN := Lib.hid (show SetAt w4 g ((rs.take (j + 1)).foldl putI (dropW ws o.d)) m ∧ Keeps (fun k => k = g) w w4 ∧ Blk w4 w.heap.size 75 (opA o (.slice A o.ar.length c)) ∧ Ints w4 (.slice (some ⟨gt, ot, none⟩) rs.length cr) rs from
        ⟨by rw [HST.out]; exact hs4, HW.out.2.1.trans hk4 (fun _ _ h => h), HW.out.2.2.1.keeps hk4 (by show ¬ w.heap.size = g; omega), HW.out.2.2.2.keeps hk4 HFR.out⟩)
      clear hs4 hk4 HW HPU
      go_wp2_with fail
      go_roundw
      case rel => exact ⟨j + 1, by omega, by go_num, HN.out⟩
      case measure => simp [intOf]; omega
    · have hje : j = rs.length := by omega
      subst hje
      have HS := Lib.hid HW.out
      rw [List.take_length] at HS
      clear HW
      have f0 : wr.cell? ⟨w.heap.size, 0, none⟩ = some (.int .i64 o.k) := (HS.out.2.2.1.cell 0).trans rfl
      have f1 : wr.cell? ⟨w.heap.size, 1, none⟩ = some (.int .i64 o.d) := (HS.out.2.2.1.cell 1).trans rfl
      have f2 : wr.cell? ⟨w.heap.size, 2, none⟩ = some (.int .i64 o.a) := (HS.out.2.2.1.cell 2).trans rfl
      have f3 : wr.cell? ⟨w.heap.size, 3, none⟩ = some (.int .i64 o.b) := (HS.out.2.2.1.cell 3).trans rfl
      have f4 : wr.cell? ⟨w.heap.size, 4, none⟩ = some (.int .i64 o.im) := (HS.out.2.2.1.cell 4).trans rfl
      have f5 : wr.cell? ⟨w.heap.size, 5, none⟩ = some (.string o.tx) := (HS.out.2.2.1.cell 5).trans rfl
      have f6 : wr.cell? ⟨w.heap.size, 6, none⟩ = some (.slice A o.ar.length c) := (HS.out.2.2.1.cell 6).trans rfl
      have HQ := Lib.hid (HJU.out wr (.slice A o.ar.length c) ⟨A, c, rfl⟩)
      obtain ⟨jb, hjb⟩ : ∃ b, jumpsB o = b := ⟨_, rfl⟩
      rw [hjb] at HQ HBP
      clear hjb
      go_wp2_with fail
      refine HQ.out.mono ?_
      rintro e w4 ⟨rfl, hb4⟩
      have HS4 := Lib.hid (And.intro (HS.out.1.below hb4) (HS.out.2.1.trans (keeps_of_below (fun k => k = g) hb4) (fun _ _ h => h)))
      clear hb4
      cases jb with
      | false =>
        go_wp2_with fail
        go_end0
        exact ⟨rfl, by rw [HBP.out]; exact HS4.out.1, HS4.out.2⟩
      | true =>
        have HJ := Lib.hid (join_any g gc _ _ m m w4 HS4.out.1 (HC.out.keeps HS4.out.2 hne) hne hm2)
        go_wp2_with fail
        refine HJ.out.mono ?_
        rintro e w5 ⟨rfl, hs5, hk5⟩
        have HN := Lib.hid (And.intro hs5 (HS4.out.2.trans hk5 (fun _ _ h => h)))
        clear hs5 hk5
        go_wp2_with fail
        go_end0
        exact ⟨rfl, by rw [HBP.out]; exact HN.out.1, HN.out.2⟩
end Go.Proofs.YtlmoblmkhicoeaaGreatDoor

/- Two runs agree just where the document says: 'DriveAgrees' answers true for every input. Conditions: none. -/
import Derived.Test.YtflfahigdldbaaaLift
import Derived.Test.YtflfahigdldbaaaWalk
import Derived.Lib.SmallJoins
import Derived.Laws.BytesArg
namespace Go.Proofs.Ytflfahigdldbaaa
open Go.ChangeShapes Go.WideShapes Go.ChangeAt Go.RowKit Go.Joins
theorem own : ownKnob Try.prog.godebug = none := by kernel_rfl
theorem laidOut : laidOutB Try.prog = true := by kernel_rfl
theorem cells24 : Try.prog.cellsOf 24 = 3 := by kernel_rfl
theorem cells5 : Try.prog.cellsOf 5 = 1 := by kernel_rfl
theorem readable3 : ∀ t ∈ Try.f3.params.toList, Try.prog.readableRec t = true ∧ t < Try.prog.types.size := by
  rw [Try.params3]
  intro t ht
  rcases List.mem_cons.1 ht with rfl | ht
  · exact ⟨by kernel_rfl, of_decide_eq_true (by kernel_rfl)⟩
  rcases List.mem_cons.1 ht with rfl | ht
  · exact ⟨by kernel_rfl, of_decide_eq_true (by kernel_rfl)⟩
  rcases List.mem_cons.1 ht with rfl | ht
  · exact ⟨by kernel_rfl, of_decide_eq_true (by kernel_rfl)⟩
  cases ht
theorem cell_lt {w : World} {a : Addr} {v : Value} (h : w.cell? a = some v) : a.block < w.heap.size := by
  rcases Nat.lt_or_ge a.block w.heap.size with hlt | hge
  · exact hlt
  · simp [World.cell?, Array.getElem?_eq_none hge] at h
theorem conv_of_trod {H : Type} {enc : TypeId × Value → H} {W : World} {n : Nat} {v : Value} {y : DataW H × List MemPlace}
    (h : DataW.trod enc Try.prog W 0 (fun _ => true) true n 22 [v] = some y) :
    ∃ s : ByteArray, s.size ≤ maxLen ∧ Conv W v s := by
  rcases open_ints Try.underlying22 Try.underlying5 cells5 h with ⟨hcs, hx⟩ | ⟨a, len, cap, zs, hcs, _, hl, hm, hz, hx, hcell, hwz⟩
  · obtain rfl : v = .slice none 0 0 := by simpa using hcs
    exact ⟨.empty, by simp, fun w' _ => run_convert_bytes_nil w' 22 5 Try.underlying22 Try.underlying5 0 0 9 Try.underlying9⟩
  · obtain rfl : v = .slice (some a) len cap := by simpa using hcs
    simp only [if_true] at hz
    refine ⟨strOfNums (zs.take len), by rw [strOfNums_size, List.length_take]; omega, fun w' hb => ?_⟩
    have hl2 : (loadCells a len).run Try.prog w' = .ok ((zs.take len).map (Value.int .u8)).toArray w' := by
      have := run_loadCells_list (P := Try.prog) w' a ((zs.take len).map (Value.int .u8)) (fun j u hj => by
        have hjl : j < len := by
          rcases Nat.lt_or_ge j len with hj' | hj'
          · exact hj'
          · rw [List.getElem?_eq_none (by simp; omega)] at hj; cases hj
        have hc := hcell j (by omega)
        have hlt : (a.add j).block < W.heap.size := cell_lt hc
        rw [hb.cell hlt, hc]
        simp [hjl] at hj
        obtain ⟨q, hq, rfl⟩ := hj
        simp [List.getD, hq])
      have hlen : ((zs.take len).map (Value.int .u8)).length = len := by simp; omega
      rw [hlen] at this
      exact this
    rw [run_convert_bytes_string w' 22 9 5 _ len cap Try.underlying22 Try.underlying5 Try.underlying9, run_bytesToString w' _ len cap _ hl2, foldl_push_bytes]
    simp [strOfNums, ByteArray.empty, ByteArray.emptyWithCapacity]
    rfl
set_option maxRecDepth 100000 in
theorem lifted (os : Os) (started : os.Started) (H : Type) (enc : TypeId × Value → H) :
    ReturnsInHanded {} Try.checked os 3 .any (Rows.driveAgreesSpec.pre6 enc Try.prog Try.f3 Rows.driveAgreesRow.domain false) (Rows.driveAgreesSpec.post enc Try.prog Try.f3 false true false false) := by
  refine returnsInHanded_of_change (C := Try.checked) own started (by kernel_rfl) Try.func3
    (ChangeSpec.witness6 (enc := enc) (C := Try.checked) false ⟨#[], #[.agg #[.int .i64 0, .int .i64 0, .slice none 0 0], .agg #[.int .i64 0, .int .i64 0, .slice none 0 0], .bool false], []⟩ 8 (by kernel_rfl) (by kernel_rfl) (by kernel_rfl) (by kernel_rfl)) ?_
  intro W base args ds gs before hval0 hW hcnd _
  have hval : ∀ (j : Nat) t v, Try.f3.params[j]? = some t → args[j]? = some v → Value.okWide Try.prog W .any base t v := hval0
  have hW' : DataW.Whole enc Try.prog Try.f3.params.toList Rows.driveAgreesSpec.vars false W args.toList ds gs before := hW
  obtain ⟨p, q, hA0, hV, rfl, hfz, hnd⟩ := hW
  have hA : DataW.TrodAll enc Try.prog W 0 (fun _ => true) true Try.f3.params.toList args.toList ds p := hA0
  rw [Try.params3] at hA hval
  obtain ⟨v0, v1, v2, d0, d1, d2, p0, p1, p2, hargs, rfl, rfl, h0, h1, h2⟩ := trodAll_three hA
  obtain rfl : args = #[v0, v1, v2] := by cases args; simp_all
  obtain ⟨c0, c1, c2, y0, y1, y2, m, rfl, rfl, rfl, hy0, hy1, hy2⟩ := open_agg3 Try.underlying24 (by kernel_rfl) cells24 (hval 0 24 v0 rfl rfl) h0
  obtain ⟨e0, e1, e2, z0, z1, z2, m', rfl, rfl, rfl, hz0, hz1, hz2⟩ := open_agg3 Try.underlying24 (by kernel_rfl) cells24 (hval 1 24 v1 rfl rfl) h1
  obtain ⟨wt, rfl, rfl, rfl⟩ := open_bool Try.underlying4 (hval 2 4 v2 rfl rfl) h2
  obtain ⟨ae, q0, _, _⟩ := DataW.trod_int Try.underlying3 hy0
  obtain ⟨ac, q1, _, _⟩ := DataW.trod_int Try.underlying3 hy1
  obtain ⟨be, q2, _, _⟩ := DataW.trod_int Try.underlying3 hz0
  obtain ⟨bc, q3, _, _⟩ := DataW.trod_int Try.underlying3 hz1
  obtain rfl : c0 = .int .i64 ae := by simpa using q0
  obtain rfl : c1 = .int .i64 ac := by simpa using q1
  obtain rfl : e0 = .int .i64 be := by simpa using q2
  obtain rfl : e1 = .int .i64 bc := by simpa using q3
  obtain ⟨sa, hsa, hca⟩ := conv_of_trod hy2
  obtain ⟨sb, hsb, hcb⟩ := conv_of_trod hz2
  refine (law_any ae ac be bc c2 e2 sa sb wt W hca hcb hsa hsb).mono fun e W' ⟨he, hb⟩ => ?_
  subst he
  exact ⟨_, rfl, post_law laidOut readable3 (tb := 4) (by kernel_rfl) Try.underlying4 rfl (fun es hes => by
    rw [Try.params3] at hes
    match es, hes with
    | [_, _, _], _ => rfl) hW' hb⟩
theorem drive_agrees : Rows.DriveAgreesSaid :=
  OpenClaim.holds_of_wide 3 Try.f3 rfl rfl rfl rfl rfl rfl rfl ⟨rfl, rfl, rfl, rfl, rfl⟩ rfl rfl rfl rfl rfl (by kernel_rfl) Try.func3 (by kernel_rfl)
    (of_decide_eq_true (by kernel_rfl)) (by unfold Func.isWrapper; first | (rw [if_pos (by decide +kernel)]; kernel_rfl) | (rw [if_neg (by decide +kernel)]; exact ⟨rfl, rfl⟩))
    (fun os started H enc _ => lifted os started H enc)
#print axioms drive_agrees
end Go.Proofs.Ytflfahigdldbaaa
